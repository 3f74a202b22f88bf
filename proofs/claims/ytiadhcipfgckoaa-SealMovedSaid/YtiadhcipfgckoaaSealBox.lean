/- A box in memory; nonces and marks: walked. -/
import Derived.Test.YtiadhcipfgckoaaSealNew
namespace Go.Proofs.Ytiadhcipfgckoaa
open Go.RowKit

/-- A box's cells. -/
def boxF (m : List UInt8) (g : Nat) (i : Nat) : Value := if i < 16 then .int .u8 (B8 (ckB m g i)) else if i < 48 then bv (tkey m g (i - 16)) else .int .u64 (g : Int)
def BoxAt (w : World) (B : Nat) (m : List UInt8) (g : Nat) : Prop := Blk w B (vA 49 (boxF m g)) 50
section
variable {w w' : World} {B : Nat} {m : List UInt8} {g : Nat}
theorem BoxAt.old (h : BoxAt w B m g) (hb : Below w.heap.size w w') : BoxAt w' B m g := Blk.old h hb
theorem BoxAt.keep (h : BoxAt w B m g) {H : Nat} (hB : B < H) (hb : Below H w w') : BoxAt w' B m g := Blk.below h hb hB
theorem BoxAt.game (h : BoxAt w B m g) : w.cell? ⟨B, 48, none⟩ = some (.int .u64 (g : Int)) := Blk.atV h (by omega) (by simp [boxF])
theorem BoxAt.tag (h : BoxAt w B m g) : BytesAt w (some ⟨B, 16, none⟩) (tkL m g) := by
  refine RowAt.mk fun i hi => ?_
  rw [List.length_map, tkL_length] at hi
  rw [Blk.atV h (show 16 + i < 49 by omega) rfl, boxF, if_neg (by omega), if_pos (by omega)]
  simp [tkL]
theorem BoxAt.cipher (h : BoxAt w B m g) : ∀ j (hj : j < (fL 16 (ckB m g)).length), w.cell? ⟨B, 0 + j, none⟩ = some (fL 16 (ckB m g))[j] := by
  intro j hj
  have hj' : j < 16 := by simpa [fL] using hj
  rw [Nat.zero_add, Blk.atV h (show j < 49 by omega) rfl, boxF, if_pos hj']
  simp [fL, fv]
end
def NonP (w : World) (g n : Nat) (e : Ending) (w' : World) : Prop := e = .returned (.agg (fA 12 (nonB g n))) ∧ Below w.heap.size w w'
theorem len12b : Try.prog.arrayLen 54 = 12 := by kernel_rfl
theorem elem12b : Try.prog.elem 54 = 5 := by kernel_rfl
theorem arr12b : Try.prog.underlying 54 = some (.array (Try.prog.arrayLen 54) (Try.prog.elem 54)) := by rw [len12b, elem12b]; exact Try.underlying54
theorem all12b (b : Nat) (W : World) : (Instr.sliceAt 54 (.pointer (some ⟨b, 0, none⟩)) none none none).run Try.prog W = .ok (.slice (some ⟨b, 0, none⟩) 12 12) W := by
  rw [run_sliceAt_array_all W _ _ arr12b, elem12b, sized_run u8Info, len12b]
  simp [slicedAt]; rfl
theorem zero12b : (Try.prog.info? 54).bind (·.zero) = some (.agg (vA 12 fun _ => .int .u8 0)) := by kernel_rfl
theorem nonA (g n : Nat) : (vA 12 fun i => bv ((nonL g n).getD i 0)) = fA 12 (nonB g n) := by
  unfold vA vL fA fL
  congr 1
set_option maxHeartbeats 2000000 in
set_option maxRecDepth 100000 in
theorem nonce_any (B : Nat) (m : List UInt8) (g n : Nat) (w : World) (hB : BoxAt w B m g) (hg : g < 18446744073709551616) (hn : n < 18446744073709551616) :
    Calls Try.prog 25 #[.pointer (some ⟨B, 0, none⟩), .int .u64 (n : Int)] w (NonP w g n) := by
  obtain ⟨H, hH⟩ : ∃ H, H = w.heap.size := ⟨_, rfl⟩
  have HH := Lib.hid hH
  have hlt := hB.lt
  rw [← hH] at hlt
  have hR0 := Blk.new w (vA 12 fun _ => .int .u8 0) 54
  have hw0 := (Below.refl w.heap.size w).alloc (Nat.le_refl _) (.cells (vA 12 fun _ => .int .u8 0) 54)
  rw [← hH] at hR0 hw0
  have hB0 := hB.old ((Below.refl w.heap.size w).alloc (Nat.le_refl _) (.cells (vA 12 fun _ => .int .u8 0) 54))
  have hz := zero_run zero12b
  clear hH hB
  go_enter Try.func25, Try.ntmps25
  go_upto_region 1 with fail
  clear hz
  rw [← HH.out]
  refine wp_forget (fun W0 => Blk W0 H (vA 12 fun _ => .int .u8 0) 54 ∧ BoxAt W0 B m g ∧ Below H w W0) ⟨hR0, hB0, hw0⟩ ?_
  clear hR0 hB0 hw0
  rintro w1 ⟨hR, hB, hw⟩
  have q1 := all12b H
  have C0 : Hid (∀ W, Kept H w1.drew W → W.cell? ⟨B, 48, none⟩ = some (.int .u64 (g : Int))) := Lib.hid fun W hW => (BoxAt.keep (w := w1.drew) hB hlt hW).game
  have hszH := hR.lt
  refine wp_region_kept H (0 :: 1 :: 2 :: 3 :: 4 :: 7 :: 5 :: 6 :: 8 :: 9 :: []) (by kernel_rfl) (by kernel_rfl) (fun c a d v w h => by cases d <;> exact h) ?_
  repeat (first | (refine kept_quiet (v := ?_) rfl rfl (by rfl) ?_ ?_; rotate_left; (intro W hW; go_simp); (try with_reducible rfl); simp only [Act.put, List.setIfInBounds_toArray, List.set]) | (refine kept_skip rfl (by rfl) ?_; simp only [Act.put, List.setIfInBounds_toArray, List.set]))
  refine kept_quiet (v := .int .u64 (g : Int)) rfl rfl (by rfl) (fun W hW => by have := C0.out W hW; go_simp) ?_
  simp only [Act.put, List.setIfInBounds_toArray, List.set]
  repeat (first | (refine kept_quiet (v := ?_) rfl rfl (by rfl) ?_ ?_; rotate_left; (intro W hW; go_simp); (try with_reducible rfl); simp only [Act.put, List.setIfInBounds_toArray, List.set]) | (refine kept_skip rfl (by rfl) ?_; simp only [Act.put, List.setIfInBounds_toArray, List.set]))
  refine kept_loud rfl rfl (by rfl) (fun K hK => ?_)
  go_wp2_with fail
  refine (seight_any (H + 1) 0 g [] none 0 _ hg (Mid.nil' _ _ _) (by exact hszH) (by omega)).mono ?_
  rintro e w2 ⟨a2, c2, rfl, hm2, hgr2, hr2⟩
  go_wp2_with fail
  have hk2 : Kept H w1.drew w2 := (Below.refl H w1.drew).grown hgr2 (Nat.le_of_lt hszH) (by simp [rowB])
  refine hK _ _ hk2 ?_
  clear hK K
  have hR2 := hR.drew.grown hgr2 (by simp [rowB])
  have hc8 := hm2.le
  have hm4 := hm2.cut 4 (by omega)
  have hlen4 : (be64 g).length = 8 := be64_length g
  refine kept_quiet (v := .slice (cutA a2 c2 4) 4 (c2 - 4)) rfl rfl (by rfl) (fun W hW => by
    have := run_cut_from (P := Try.prog) Try.underlying22 u8Info a2 8 c2 4 (by omega) W
    unfold execOp
    simp only [Act.eval, Option.map]
    first
      | exact (by simpa using congrArg (fun r => r.andThen fun v w => Result.ok (Next.value v) w) this)
      | (unfold cutA; go_simp)) ?_
  simp only [Act.put, List.setIfInBounds_toArray, List.set]
  have hsz2 : H + 1 ≤ w2.heap.size := by have := hgr2.size; have e : w1.drew.heap.size = w1.heap.size := rfl; omega
  have hl4 : ((be64 g).map bv).drop 4 = ((be64 g).drop 4).map bv := List.map_drop.symm
  have hm4' : Mid w2 (H + 1) 5 (cutA a2 c2 4) 4 (c2 - 4) (((be64 g).drop 4).map bv) := by
    rw [← hl4]; simpa using hm4
  have hrow4 := rowB_cut a2 c2 4
  have hrr : ∀ r, rowB (cutA a2 c2 4) (c2 - 4) = some r → H + 1 ≤ r := fun r hr => (hm4'.lt hr).1
  clear hm4 hm2 hl4 hlen4
  refine kept_loud rfl rfl (by rfl) (fun K hK => ?_)
  go_wp2_with fail
  refine (seight_any (H + 1) 4 n ((be64 g).drop 4) _ _ _ hn hm4' hsz2 (by omega)).mono ?_
  rintro e w3 ⟨a3, c3, rfl, hm3, hgr3, -⟩
  go_wp2_with fail
  have hk3 : Kept H w2 w3 := (Below.refl H w2).grown hgr3 (by omega) (fun r hr => by have := hrr r hr; omega)
  refine hK _ _ hk3 ?_
  clear hK K
  have hR3 := hR2.grown hgr3 (fun e => by have := hrr H e; omega)
  have hw3 : Below H w w3 := (hw.drew.trans hk2).trans hk3
  have hl12 : ((be64 g).drop 4 ++ be64 n).length = 12 := nonL_length g n
  have hrd : BytesAt w3 a3 (nonL g n) := hm3.read
  obtain ⟨r3, o3, rfl, _⟩ := hrd.at (by rw [nonL_length]; omega)
  have hsp : splice (vA 12 fun _ => Value.int .u8 0) 0 ((nonL g n).map bv).toArray = vA 12 fun i => bv ((nonL g n).getD i 0) := by
    rw [list_vA, nonL_length]
    exact splice_whole _ _ (by rw [vA_size, vA_size])
  have HSP := Lib.hid hsp
  clear hm3 hgr3 hm4' hrow4 hrr hk2 hk3 hR2 hgr2 hr2 hsp hl12 hsz2 hR hB
  refine kept_loud rfl rfl (by rfl) (fun K hK => ?_)
  refine wp_copy_row _ _ 22 22 rfl Try.underlying22 u8Info rfl rfl hR3 (cs := (nonL g n).map bv) (by rw [List.length_map, nonL_length]; rfl) (RowAt.all hrd) (by rw [List.length_map, nonL_length, vA_size]; omega) (bv_one _) ?_
  rw [HSP.out]
  refine hK _ _ (below_setRow (Below.refl _ _) (Nat.le_refl _) _) ?_
  clear hK K
  refine kept_nil ?_
  have hR4 := hR3.setRow (vA 12 fun i => bv ((nonL g n).getD i 0))
  have hw4 := below_setRow hw3 (Nat.le_refl H) (vA 12 fun i => bv ((nonL g n).getD i 0))
  rw [nonA] at hR4 hw4 ⊢
  refine g_forget (fun W0 => Blk W0 H (fA 12 (nonB g n)) 54 ∧ Below H w W0) ⟨hR4, hw4⟩ ?_
  clear hR3 hw3 hR4 hw4 hrd HSP hw
  rintro w5 ⟨hR, hw⟩
  go_wp2_with (first | refine wpList_load_blk rfl 54 agg12 _ rfl rfl hR (fA_size _ _) ?_ | refine wpList_store_blk rfl 54 agg12 (.tmp 4) _ (cells := fA 12 (nonB g n)) rfl rfl rfl hR (fA_size _ _) (fA_size _ _) (fA_one _ _) ?_)
  exact post_blk rfl agg12 rfl (hR.setRow _) (fA_size _ _) rfl ⟨rfl, HH.out ▸ below_setRow hw (Nat.le_refl _) _⟩
end Go.Proofs.Ytiadhcipfgckoaa
