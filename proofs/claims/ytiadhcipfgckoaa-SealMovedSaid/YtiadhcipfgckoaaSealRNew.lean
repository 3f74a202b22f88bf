/- The document's boxes: made. -/
import Derived.Test.YtiadhcipfgckoaaSealRef
namespace Go.Proofs.Ytiadhcipfgckoaa
open Go.RowKit

def rboxF (m : List UInt8) (g k : Nat) (tv : Value) (i : Nat) : Value := if i = 0 then .int .u64 (g : Int) else if i < 17 then (if i - 1 < k then bv (ckey m g (i - 1)) else .int .u8 0) else tv
/-- A box of the document's in memory. -/
structure RBox (w : World) (B : Nat) (m : List UInt8) (g : Nat) (ta : Option Addr) (tc : Nat) : Prop where
  blk : Blk w B (vA 18 (rboxF m g 16 (.slice ta 32 tc))) 52
  tag : BytesAt w ta (tkL m g)
section
variable {w w' : World} {B : Nat} {m : List UInt8} {g : Nat} {ta : Option Addr} {tc : Nat}
theorem RBox.old (h : RBox w B m g ta tc) (hb : Below w.heap.size w w') : RBox w' B m g ta tc := ⟨h.blk.old hb, h.tag.below hb⟩
theorem RBox.drew (h : RBox w B m g ta tc) : RBox w.drew B m g ta tc := ⟨h.blk, h.tag⟩
theorem RBox.game (h : RBox w B m g ta tc) : w.cell? ⟨B, 0, none⟩ = some (.int .u64 (g : Int)) := h.blk.atV (by omega) (by simp [rboxF])
theorem RBox.tagv (h : RBox w B m g ta tc) : w.cell? ⟨B, 17, none⟩ = some (.slice ta 32 tc) := h.blk.atV (by omega) (by simp [rboxF])
theorem RBox.key (h : RBox w B m g ta tc) : ∀ j (hj : j < (fL 16 (ckB m g)).length), w.cell? ⟨B, 1 + j, none⟩ = some (fL 16 (ckB m g))[j] := by
  intro j hj
  have hj' : j < 16 := by simpa [fL] using hj
  rw [h.blk.atV (show 1 + j < 18 by omega) rfl, rboxF, if_neg (by omega), if_pos (by omega), if_pos (by omega)]
  simp [fL, fv, bv, ckB]
  rfl
end
theorem rb_lit (m : List UInt8) (g : Nat) : (#[.int .u64 (g : Int), .int .u8 0, .int .u8 0, .int .u8 0, .int .u8 0, .int .u8 0, .int .u8 0, .int .u8 0, .int .u8 0, .int .u8 0, .int .u8 0, .int .u8 0, .int .u8 0, .int .u8 0, .int .u8 0, .int .u8 0, .int .u8 0, .slice none 0 0] : Array Value) = vA 18 (rboxF m g 0 (.slice none 0 0)) := rfl
theorem built_rbox (g : Int) : Try.prog.built 52 [(0, .int .u64 g)] = some (vA 18 fun i => if i = 0 then .int .u64 g else if i < 17 then .int .u8 0 else .slice none 0 0) := by kernel_rfl
structure RbI (w : World) (m : List UInt8) (g C T X k : Nat) (wr : World) : Prop where
  c : Blk wr C (vA 32 fun i => bv (ckey m g i)) 38
  t : Blk wr T (dgA (hout m (keyb nTag 3 g))) 38
  x : Blk wr X (vA 18 (rboxF m g k (.slice none 0 0))) 52
  xb : w.heap.size ≤ X
  below : Below w.heap.size w wr
theorem RbI.step {w : World} {m : List UInt8} {g C T X k : Nat} {wr : World} (h : RbI w m g C T X k wr) (hk : k < 16) : RbI w m g C T X (k + 1) (wr.drew.setCell ⟨X, 1 + k, none⟩ (.int .u8 (U8 (ckey m g k)))) :=
  ⟨h.c.drew.other _ _ (Blk.ne h.c h.x (by decide)), h.t.drew.other _ _ (Blk.ne h.t h.x (by decide)), (h.x.drew.setV (show 1 + k < 18 by omega) _).ofV fun i hi => by
    by_cases e : i = 1 + k
    · subst e
      rw [if_pos rfl, rboxF, if_neg (by omega), if_pos (by omega), if_pos (by omega), show 1 + k - 1 = k by omega]
      rfl
    · rw [if_neg e]
      unfold rboxF
      by_cases e0 : i = 0
      · rw [if_pos e0, if_pos e0]
      · rw [if_neg e0, if_neg e0]
        by_cases e1 : i < 17
        · rw [if_pos e1, if_pos e1]
          by_cases e2 : i - 1 < k
          · rw [if_pos e2, if_pos (by omega)]
          · rw [if_neg e2, if_neg (by omega)]
        · rw [if_neg e1, if_neg e1], h.xb, h.below.drew.setCell h.xb _⟩
def Rb1 (w : World) (m : List UInt8) (g C T X : Nat) (f : Nat) (i : Value) (wr : World) : Prop := ∃ k : Nat, f + k = 16 ∧ i = .int .i64 (k : Int) ∧ RbI w m g C T X k wr
def RnwP (w : World) (m : List UInt8) (g : Nat) (e : Ending) (w' : World) : Prop := ∃ (B : Nat) (ta : Option Addr) (tc : Nat), e = .returned (.pointer (some ⟨B, 0, none⟩)) ∧ w.heap.size ≤ B ∧ RBox w' B m g ta tc ∧ Below w.heap.size w w'
set_option maxHeartbeats 2000000 in
set_option maxRecDepth 100000 in
theorem rnew_any (ma : Option Addr) (mn mc : Nat) (m : List UInt8) (g : Nat) (w : World) (hm : BytesAt w ma m) (hml : m.length = mn) (hmm : mn < 140737488352000) (hg : g < 18446744073709551616) :
    Calls Try.prog 10 #[.slice ma mn mc, .int .u64 (g : Int)] w (RnwP w m g) := by
  have HL := Lib.hid hml
  clear hml
  go_enter Try.func10, Try.ntmps10
  go_wp2_with fail
  refine (rkey_any m ma mn mc (strOf nCipher) g _ hm HL.out hmm (by decide) hg).mono ?_
  unfold McOut
  rintro e w2 ⟨rfl, hb2⟩
  have hm2 := hm.below hb2
  obtain ⟨X, hX⟩ : ∃ X, X = mcA m (keyb (strL (strOf nCipher)) (strOf nCipher).size g) := ⟨_, rfl⟩
  have hXs : X.size = 32 := by rw [hX]; exact vA_size _ _
  have hX1 : X.toList.all (·.oneCell') = true := by rw [hX]; exact vA_one fun _ _ => rfl
  rw [← hX]
  have HX := Lib.hid hX
  clear hX
  go_upto_region 2 with (refine wpList_store_blk rfl 38 agg32 (.tmp 5) _ (cells := X) rfl rfl rfl (Blk.new _ _ _) hXs rfl hX1 ?_)
  obtain ⟨C, hC⟩ : ∃ C, C = w2.heap.size := ⟨_, rfl⟩
  have hC0 := Blk.new w2 (vA 32 fun _ => .int .u8 0) 38
  have hbb := below_setRow ((Below.refl w2.heap.size w2).alloc (Nat.le_refl _) (.cells (vA 32 fun _ => .int .u8 0) 38)) (Nat.le_of_eq hC.symm) X
  rw [← hC] at hC0 ⊢
  refine wp_forget (fun W0 => Blk W0 C X 38 ∧ BytesAt W0 ma m ∧ Below w.heap.size w W0) ⟨hC0.setRow _, hm2.below hbb, below_step hb2 hbb⟩ ?_
  clear hm hm2 hC0 hbb hC hb2
  rintro w3 ⟨hC, hm, hw⟩
  go_wp2_with fail
  refine (rkey_any m ma mn mc (strOf nTag) g _ hm HL.out hmm (by decide) hg).mono ?_
  unfold McOut
  rintro e w4 ⟨rfl, hb4⟩
  have hC4 := hC.old hb4
  have hw4 := below_step hw hb4
  obtain ⟨Y, hY⟩ : ∃ Y, Y = mcA m (keyb (strL (strOf nTag)) (strOf nTag).size g) := ⟨_, rfl⟩
  have hYs : Y.size = 32 := by rw [hY]; exact vA_size _ _
  have hY1 : Y.toList.all (·.oneCell') = true := by rw [hY]; exact vA_one fun _ _ => rfl
  rw [← hY]
  have HY := Lib.hid hY
  clear hY hC hm hw hb4
  go_upto_region 3 with (refine wpList_store_blk rfl 38 agg32 (.tmp 6) _ (cells := Y) rfl rfl rfl (Blk.new _ _ _) hYs rfl hY1 ?_)
  obtain ⟨T, hT⟩ : ∃ T, T = w4.heap.size := ⟨_, rfl⟩
  have hT0 := Blk.new w4 (vA 32 fun _ => .int .u8 0) 38
  have hbb := below_setRow ((Below.refl w4.heap.size w4).alloc (Nat.le_refl _) (.cells (vA 32 fun _ => .int .u8 0) 38)) (Nat.le_of_eq hT.symm) Y
  rw [← hT] at hT0 ⊢
  refine wp_forget (fun W0 => Blk W0 C X 38 ∧ Blk W0 T Y 38 ∧ Below w.heap.size w W0) ⟨hC4.old hbb, hT0.setRow _, below_step hw4 hbb⟩ ?_
  clear hC4 hT0 hbb hT hw4
  rintro w5 ⟨hC, hT, hw⟩
  go_wp2_with fail
  obtain ⟨B, hB⟩ : ∃ B, B = w5.heap.size := ⟨_, rfl⟩
  have hB0 := Blk.new w5 (vA 18 (rboxF m g 0 (.slice none 0 0))) 52
  have hbb := (Below.refl w5.heap.size w5).alloc (Nat.le_refl _) (.cells (vA 18 (rboxF m g 0 (.slice none 0 0))) 52)
  rw [← hB] at hB0 ⊢
  refine wp_forget (fun W0 => RbI w m g C T B 0 W0) ?_ ?_
  · rw [rb_lit m g]
    exact ⟨by
      have := hC.old hbb
      rw [HX.out] at this
      exact this, by
      have := hT.old hbb
      rw [HY.out] at this
      exact this, hB0, hB ▸ hw.size, below_step hw hbb⟩
  clear hC hT hw hB hB0 hbb hX1 hXs hY1 hYs
  intro w6 hst
  go_loopg [8] 16 (Rb1 w m g C T B)
  case atStart => exact ⟨0, by omega, rfl, hst⟩
  case round =>
    clear hst
    obtain ⟨k, hf, rfl, hI⟩ := hrel
    have HF := Lib.hid hf
    clear hf
    by_cases hk : k < 16
    · have hkI : (k : Int) < 16 := by omega
      have hkJ : (k : Int) < 32 := by omega
      have tt : decide ((k : Int) < 16) = true := decide_eq_true hkI
      have c1 := hI.c.drew.atV (show k < 32 by omega) rfl
      have f1 := hI.x.drew.free
      have C1 : Hid (∀ W, Old wr.drew W → W.cell? ⟨C, k, none⟩ = some (.int .u8 (U8 (ckey m g k)))) := Lib.hid fun W hW => (Blk.old (w := wr.drew) hI.c hW).atV (show k < 32 by omega) rfl
      have c2 := hI.x.drew.atV (show 1 + k < 18 by omega) rfl
      go_upto_region 7 with fail
      refine wp_region_treeR true Old Old.refl Old.trans (.step 0 (.step 1 (.step 2 (.step 3 (.step 4 (.step 5 (.step 6 (.step 7 (.step 8 .done))))))))) (by kernel_rfl) (by kernel_rfl) (fun c a d v w h => by cases d <;> exact h) ?_
      repeat (first | (refine tree_skip rfl (by rfl) ?_; simp only [Act.put, List.setIfInBounds_toArray, List.set]) | (refine tree_quiet (v := ?_) rfl rfl (by rfl) ?_ ?_; rotate_left; (intro W hW; go_simp); (try with_reducible rfl); simp only [Act.put, List.setIfInBounds_toArray, List.set]))
      refine tree_quiet (v := .int .u8 (U8 (ckey m g k))) rfl rfl (by rfl) (fun W hW => by have := C1.out W hW; go_simp) ?_
      simp only [Act.put, List.setIfInBounds_toArray, List.set]
      repeat (first | (refine tree_skip rfl (by rfl) ?_; simp only [Act.put, List.setIfInBounds_toArray, List.set]) | (refine tree_quiet (v := ?_) rfl rfl (by rfl) ?_ ?_; rotate_left; (intro W hW; go_simp); (try with_reducible rfl); simp only [Act.put, List.setIfInBounds_toArray, List.set]))
      refine tree_store rfl rfl (by rfl) (fun K hK => ?_); go_wp2_with fail; refine tree_done ?_
      clear c1 f1 C1 c2
      go_wp2_with fail
      go_roundg (gk - 1)
      case rel => exact ⟨k + 1, by have := HF.out; omega, by go_num, hI.step hk⟩
      case measure => have := HF.out; omega
    · obtain rfl : k = 16 := by have := HF.out; omega
      have tt : decide (((16 : Nat) : Int) < 16) = false := by simp
      have hT := hI.t
      have hX := hI.x
      have hw := hI.below
      have hxb := hI.xb
      clear hI
      have q2 := all32b T
      have f1 := hX.drew.free
      have hc17 : wr.drew.cell? ⟨B, 17, none⟩ = some (.slice none 0 0) := hX.drew.atV (by omega) (by simp [rboxF])
      have C17 : Hid (∀ W, Old wr.drew W → W.cell? ⟨B, 17, none⟩ = some (.slice none 0 0)) := Lib.hid fun W hW => (Blk.old (w := wr.drew) hX hW).atV (by omega) (by simp [rboxF])
      go_upto_region 8 with fail
      refine wp_region_treeR true Old Old.refl Old.trans (.step 0 (.step 1 (.step 2 (.step 3 (.step 4 (.step 5 (.step 6 (.step 7 (.step 8 (.step 9 .done)))))))))) (by kernel_rfl) (by kernel_rfl) (fun c a d v w h => by cases d <;> exact h) ?_
      repeat (first | (refine tree_skip rfl (by rfl) ?_; simp only [Act.put, List.setIfInBounds_toArray, List.set]) | (refine tree_quiet (v := ?_) rfl rfl (by rfl) ?_ ?_; rotate_left; (intro W hW; go_simp); (try with_reducible rfl); simp only [Act.put, List.setIfInBounds_toArray, List.set]))
      refine tree_quiet (v := .slice none 0 0) rfl rfl (by rfl) (fun W hW => by have := C17.out W hW; go_simp) ?_
      simp only [Act.put, List.setIfInBounds_toArray, List.set]
      repeat (first | (refine tree_skip rfl (by rfl) ?_; simp only [Act.put, List.setIfInBounds_toArray, List.set]) | (refine tree_quiet (v := ?_) rfl rfl (by rfl) ?_ ?_; rotate_left; (intro W hW; go_simp); (try with_reducible rfl); simp only [Act.put, List.setIfInBounds_toArray, List.set]))
      refine tree_loud rfl rfl (by rfl) (fun K hK => ?_)
      refine wp_append_row (.tmp 34) (.tmp 35) 22 rfl bytesT3 rfl (Own.nil wr.drew wr.drew.heap.size 5 1) rfl (dgl_at hT.drew) (by rw [List.length_map, dgl_length]) (bv_one _) (by unfold maxLen; omega) (by omega) (Nat.le_refl _) ?_
      intro a4 c4 w4 own4 hg4
      have hb4 : Below wr.drew.heap.size wr.drew w4 := (Own.nil wr.drew wr.drew.heap.size 5 1).grown (Below.refl _ _) (Nat.le_refl _) hg4 (Nat.le_refl _)
      refine hK _ _ hb4 ?_
      clear hK K
      have hX4 := Blk.old (w := wr.drew) hX hb4
      have f4 := hX4.free
      have hc4 : w4.cell? ⟨B, 17, none⟩ = some (.slice none 0 0) := hX4.atV (by omega) (by simp [rboxF])
      repeat (first | (refine tree_skip rfl (by rfl) ?_; simp only [Act.put, List.setIfInBounds_toArray, List.set]) | (refine tree_quiet (v := ?_) rfl rfl (by rfl) ?_ ?_; rotate_left; (intro W hW; go_simp); (try with_reducible rfl); simp only [Act.put, List.setIfInBounds_toArray, List.set]))
      refine tree_store rfl rfl (by rfl) (fun K hK => ?_); go_wp2_with fail; refine tree_done ?_
      clear f4 hc4 f1 hc17
      go_wp2_with fail
      go_ret
      have hw4 : Below w.heap.size w w4 := below_step hw.drew hb4
      refine ⟨B, a4, c4, rfl, hxb, ⟨(hX4.setV (show 17 < 18 by omega) _).ofV fun i hi => ?_, ?_⟩, hw4.setCell hxb _⟩
      · by_cases e : i = 17
        · subst e
          rw [if_pos rfl, rboxF, if_neg (by omega), if_neg (by omega)]
        · rw [if_neg e]
          unfold rboxF
          by_cases e0 : i = 0
          · rw [if_pos e0, if_pos e0]
          · rw [if_neg e0, if_neg e0, if_pos (show i < 17 by omega), if_pos (show i < 17 by omega)]
      · have h := (own4.setCell_apart hX4 (by decide) 17 (.slice a4 32 c4)).row
        simp only [List.nil_append] at h
        exact h
end Go.Proofs.Ytiadhcipfgckoaa
