/- The tag of what is sealed: walked. -/
import Derived.Test.YtiadhcipfgckoaaSealBox
namespace Go.Proofs.Ytiadhcipfgckoaa
open Go.RowKit

theorem all32o (b o : Nat) (W : World) : (Instr.sliceAt 38 (.pointer (some ⟨b, o, none⟩)) none none none).run Try.prog W = .ok (.slice (some ⟨b, o, none⟩) 32 32) W := by
  rw [run_sliceAt_array_all W _ _ arr32b, elem32b, sized_run u8Info, len32b]
  simp [slicedAt]; rfl
def MarP (w : World) (m : List UInt8) (g n : Nat) (c : List UInt8) (e : Ending) (w' : World) : Prop := e = .returned (.agg (dgA (markL m g n c))) ∧ Below w.heap.size w w'
set_option maxHeartbeats 2000000 in
set_option maxRecDepth 100000 in
theorem mark_any (B : Nat) (m : List UInt8) (g n : Nat) (ca : Option Addr) (cn cc : Nat) (c : List UInt8) (w : World) (hB : BoxAt w B m g) (hc : BytesAt w ca c) (hcl : c.length = cn) (hcm : cn ≤ 100000) (hg : g < 18446744073709551616) (hn : n < 18446744073709551616) :
    Calls Try.prog 26 #[.pointer (some ⟨B, 0, none⟩), .int .u64 (n : Int), .slice ca cn cc] w (MarP w m g n c) := by
  have HC := Lib.hid hcl
  obtain ⟨H, hH⟩ : ∃ H, H = w.heap.size := ⟨_, rfl⟩
  have HH := Lib.hid hH
  have hlt := hB.lt
  rw [← hH] at hlt
  have hbb := (Below.refl w.heap.size w).alloc (Nat.le_refl _) (.cells (vA 32 fun _ => .int .u8 0) 38)
  have hR0 := Blk.new w (vA 32 fun _ => .int .u8 0) 38
  have hB0 := hB.old hbb
  have hw0 := hbb
  rw [← hH] at hR0 hw0
  have hc0 := Lib.hid hc
  clear hcl hH hB hc hbb
  go_enter Try.func26, Try.ntmps26
  go_upto_region 1 with fail
  rw [← HH.out]
  refine wp_forget (fun W0 => Blk W0 H (vA 32 fun _ => .int .u8 0) 38 ∧ BoxAt W0 B m g ∧ Below H w W0) ⟨hR0, hB0, hw0⟩ ?_
  clear hR0 hB0 hw0
  rintro w1 ⟨hR, hB, hw⟩
  have q1 := all32o B 16
  have C0 : Hid (∀ W, Kept H w1.drew W → W.cell? ⟨B, 48, none⟩ = some (.int .u64 (g : Int))) := Lib.hid fun W hW => (BoxAt.keep (w := w1.drew) hB hlt hW).game
  have hszH := hR.lt
  refine wp_region_kept H (0 :: 1 :: 2 :: 3 :: 4 :: 5 :: 6 :: 7 :: 8 :: 10 :: 12 :: 9 :: 11 :: 13 :: 14 :: 15 :: []) (by kernel_rfl) (by kernel_rfl) (fun c a d v w h => by cases d <;> exact h) ?_
  repeat (first | (refine kept_quiet (v := ?_) rfl rfl (by rfl) ?_ ?_; rotate_left; (intro W hW; go_simp); (try with_reducible rfl); simp only [Act.put, List.setIfInBounds_toArray, List.set]) | (refine kept_skip rfl (by rfl) ?_; simp only [Act.put, List.setIfInBounds_toArray, List.set]))
  refine kept_quiet (v := .int .u64 (g : Int)) rfl rfl (by rfl) (fun W hW => by have := C0.out W hW; go_simp) ?_
  simp only [Act.put, List.setIfInBounds_toArray, List.set]
  repeat (first | (refine kept_quiet (v := ?_) rfl rfl (by rfl) ?_ ?_; rotate_left; (intro W hW; go_simp); (try with_reducible rfl); simp only [Act.put, List.setIfInBounds_toArray, List.set]) | (refine kept_skip rfl (by rfl) ?_; simp only [Act.put, List.setIfInBounds_toArray, List.set]))
  refine kept_loud rfl rfl (by rfl) (fun K hK => ?_)
  go_wp2_with fail
  refine (seight_any (H + 1) 0 g [] none 0 _ hg (Mid.nil' _ _ _) (by exact hszH) (by omega)).mono ?_
  rintro e w2 ⟨a2, c2, rfl, hm2, hgr2, -⟩
  go_wp2_with fail
  have hk2 : Kept H w1.drew w2 := (Below.refl H w1.drew).grown hgr2 (Nat.le_of_lt hszH) (by simp [rowB])
  refine hK _ _ hk2 ?_
  clear hK K
  have hR2 := hR.drew.grown hgr2 (by simp [rowB])
  have hsz2 : H + 1 ≤ w2.heap.size := by have := hgr2.size; have e : w1.drew.heap.size = w1.heap.size := rfl; omega
  have hrr : ∀ r, rowB a2 c2 = some r → H + 1 ≤ r := fun r hr => (hm2.lt hr).1
  clear hgr2
  refine kept_loud rfl rfl (by rfl) (fun K hK => ?_)
  go_wp2_with fail
  refine (seight_any (H + 1) 8 n (be64 g) _ _ _ hn (by simpa using hm2) hsz2 (by omega)).mono ?_
  rintro e w3 ⟨a3, c3, rfl, hm3, hgr3, -⟩
  go_wp2_with fail
  have hk3 : Kept H w2 w3 := (Below.refl H w2).grown hgr3 (by omega) (fun r hr => by have := hrr r hr; omega)
  refine hK _ _ hk3 ?_
  clear hK K
  have hR3 := hR2.grown hgr3 (fun e => by have := hrr H e; omega)
  have hk13 : Kept H w1.drew w3 := Below.trans hk2 hk3
  have hsz3 : H + 1 ≤ w3.heap.size := by have := hgr3.size; omega
  have hrr3 : ∀ r, rowB a3 c3 = some r → H + 1 ≤ r := fun r hr => (hm3.lt hr).1
  clear hgr3 hrr hm2 hR2 hk2 hk3 hsz2 hR
  have hcw3 := hc0.out.below (HH.out ▸ hw.drew.trans hk13)
  refine kept_loud rfl rfl (by rfl) (fun K hK => ?_)
  refine wp_append_mid _ _ 22 rfl bytesT3 rfl hm3 rfl hcw3 (by rw [List.length_map, HC.out]) (bv_one _) (by unfold maxLen; omega) (by omega) hsz3 ?_
  intro a4 c4 w4 hm4 hgr4 _
  have hk4 : Kept H w3 w4 := (Below.refl H w3).grown hgr4 (by omega) (fun r hr => by have := hrr3 r hr; omega)
  refine hK _ _ hk4 ?_
  clear hK K
  have hR4 := hR3.grown hgr4 (fun e => by have := hrr3 H e; omega)
  have hk14 : Kept H w1.drew w4 := Below.trans hk13 hk4
  have hB4 := BoxAt.keep (w := w1.drew) hB hlt hk14
  have hrd : BytesAt w4 a4 (be64 g ++ be64 n ++ c) := by
    have := hm4.read
    unfold BytesAt
    rw [List.map_append]; exact this
  have hlen : (be64 g ++ be64 n ++ c).length = 8 + 8 + cn := by rw [List.length_append, List.length_append, be64_length, be64_length, HC.out]
  obtain ⟨bb, hbb⟩ : ∃ bb, bb = be64 g ++ be64 n ++ c := ⟨_, rfl⟩
  rw [← hbb] at hlen hrd
  have hmk : dgA (markL m g n c) = mcA (tkL m g) bb := by rw [hbb]; rfl
  have HMK := Lib.hid hmk
  have HLN := Lib.hid hlen
  clear hbb hmk hgr4 hrr3 hm3 hm4 hR3 hk13 hk4 hsz3 hcw3 hlen
  simp only [Act.put, List.setIfInBounds_toArray, List.set]
  refine kept_loud rfl rfl (by rfl) (fun K hK => ?_)
  go_wp2_with fail
  refine (mac_any (tkL m g) bb _ 32 32 _ (8 + 8 + cn) _ _ hB4.tag (tkL_length _ _) (by omega) hrd HLN.out (by omega)).mono ?_
  rintro e w5 ⟨rfl, hb5⟩
  go_wp2_with fail
  have hlt4 := hR4.lt
  refine hK _ _ (hb5.mono (Nat.le_of_lt hlt4)) ?_
  clear hK K
  have hR5 := hR4.old hb5
  have hw5 : Below H w w5 := (hw.drew.trans hk14).trans (hb5.mono (Nat.le_of_lt hlt4))
  clear hR4 hk14 hB4 hrd hb5 hlt4
  refine kept_loud rfl rfl (by rfl) (fun K hK => ?_)
  refine wp_store_at 38 agg32 (.tmp 6) (.tmp 21) rfl rfl rfl hR5 (vA_size _ _) (by rw [vA_size]; omega) (vA_one fun _ _ => rfl) ?_
  rw [splice_whole _ _ (by rw [vA_size]; exact (vA_size _ _).symm)]
  refine hK _ _ (below_setRow (Below.refl _ _) (Nat.le_refl _) _) ?_
  clear hK K
  refine kept_nil ?_
  have hR6 := hR5.setRow (mcA (tkL m g) bb)
  have hw6 := below_setRow hw5 (Nat.le_refl H) (mcA (tkL m g) bb)
  go_wp2_with fail
  exact post_blk rfl agg32 rfl hR6 (vA_size _ _) rfl ⟨by rw [HMK.out], HH.out ▸ hw6⟩
end Go.Proofs.Ytiadhcipfgckoaa
