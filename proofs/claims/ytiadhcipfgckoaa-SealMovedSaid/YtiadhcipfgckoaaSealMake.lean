/- seal.New walked. -/
import Derived.Test.YtiadhcipfgckoaaSealMark
namespace Go.Proofs.Ytiadhcipfgckoaa
open Go.RowKit

theorem exec_build2 {P : Program} {w : World} {o : Oper} {f : Operand → Value} (t : TypeId) (x y : Operand) (ho : o.op = .build t #[(0, x), (1, y)]) {u v : Value} (hu : f x = u) (hv : f y = v) {cells : Array Value} (h : P.built t [(0, u), (1, v)] = some cells) :
    (execOp f o).run P w = .ok (.value (.agg cells)) w := by
  subst hu hv
  unfold execOp
  simp only [ho, Sem.run_bind, run_build w t #[(0, f x), (1, f y)] cells h, Result.andThen_ok, Sem.run_pure, List.map_toArray, List.map_cons, List.map_nil]
theorem built_keys (c : Nat → BitVec 8) (f : Nat → Value) : Try.prog.built 48 [(0, .agg (fA 16 c)), (1, .agg (vA 32 f))] = some (vA 48 fun i => if i < 16 then fv (c i) else f (i - 16)) := by kernel_rfl
theorem built_box (h : Nat → Value) (g : Int) : Try.prog.built 50 [(0, .agg (vA 48 h)), (1, .int .u64 g)] = some (vA 49 fun i => if i < 48 then h i else .int .u64 g) := by kernel_rfl
def SnP (w : World) (m : List UInt8) (g : Nat) (e : Ending) (w' : World) : Prop := ∃ B, e = .returned (.pointer (some ⟨B, 0, none⟩)) ∧ w.heap.size ≤ B ∧ BoxAt w' B m g ∧ Below w.heap.size w w'
set_option maxHeartbeats 2000000 in
set_option maxRecDepth 100000 in
theorem snew_any (ma : Option Addr) (mn mc : Nat) (m : List UInt8) (g : Nat) (w : World) (hm : BytesAt w ma m) (hml : m.length = mn) (hmm : mn < 140737488352000) (hg : g < 18446744073709551616) :
    Calls Try.prog 9 #[.slice ma mn mc, .int .u64 (g : Int)] w (SnP w m g) := by
  have HL := Lib.hid hml
  obtain ⟨H, hH⟩ : ∃ H, H = w.heap.size := ⟨_, rfl⟩
  have HH := Lib.hid hH
  have hM0 := (Blk.new w #[.slice ma mn mc] 22).alloc (.cells #[.int .u64 (g : Int)] 23)
  have hG0 := Blk.new (w.alloc (.cells #[.slice ma mn mc] 22)) #[.int .u64 (g : Int)] 23
  have hw0 := ((Below.refl w.heap.size w).alloc (Nat.le_refl _) (.cells #[.slice ma mn mc] 22)).alloc (by simp) (.cells #[.int .u64 (g : Int)] 23)
  have hm0 := (hm.alloc (.cells #[.slice ma mn mc] 22)).alloc (.cells #[.int .u64 (g : Int)] 23)
  simp only [World.size_alloc] at hG0
  rw [← hH] at hM0 hG0 hw0
  have hnk := fun (s : ByteArray) (W : World) hs hM hG hm => newkey_any s H (H + 1) ma mn mc m g W hs hM hG hm HL.out hmm hg
  have HNK := Lib.hid hnk
  clear hml hH hm hnk
  go_enter Try.func9, Try.ntmps9
  go_upto_region 1 with fail
  rw [← HH.out]
  refine wp_forget (fun W0 => Blk W0 H #[.slice ma mn mc] 22 ∧ Blk W0 (H + 1) #[.int .u64 (g : Int)] 23 ∧ BytesAt W0 ma m ∧ Below H w W0) ⟨hM0, hG0, hm0, hw0⟩ ?_
  clear hM0 hG0 hm0 hw0
  rintro w1 ⟨hM, hG, hm, hw⟩
  have hlt := hG.lt
  go_wp2_with fail
  refine (HNK.out (strOf nCipher) _ (by decide) hM hG hm).mono ?_
  unfold McOut
  rintro e w2 ⟨rfl, hb2⟩
  have hM2 := hM.old hb2
  have hG2 := hG.old hb2
  have hm2 := hm.below hb2
  have hw2 := hw.trans (hb2.mono (by omega))
  have hs2 := hb2.size
  clear hM hG hm hw hb2
  obtain ⟨X, hX⟩ : ∃ X, X = mcA m (keyb (strL (strOf nCipher)) (strOf nCipher).size g) := ⟨_, rfl⟩
  have hXs : X.size = 32 := by rw [hX]; exact vA_size _ _
  have hX1 : X.toList.all (·.oneCell') = true := by rw [hX]; exact vA_one fun _ _ => rfl
  have hXc : ∀ j (hj : j < (fL 16 (ckB m g)).length), X[j]? = some (fL 16 (ckB m g))[j] := by
    intro j hj
    have hj' : j < 16 := by simpa [fL] using hj
    rw [hX]
    have : mcA m (keyb (strL (strOf nCipher)) (strOf nCipher).size g) = vA 32 fun i => bv (ckey m g i) := rfl
    rw [this, vA_at _ (by omega)]
    simp [fL, fv]
    rfl
  rw [← hX]
  clear hX
  go_upto_region 3 with (refine wpList_store_blk rfl 38 agg32 (.tmp 6) _ (cells := X) rfl rfl rfl (Blk.new _ _ _) hXs rfl hX1 ?_)
  obtain ⟨C, hC⟩ : ∃ C, C = w2.heap.size := ⟨_, rfl⟩
  have hC0 := Blk.new w2 (vA 32 fun _ => .int .u8 0) 38
  have hbb := below_setRow ((Below.refl w2.heap.size w2).alloc (Nat.le_refl _) (.cells (vA 32 fun _ => .int .u8 0) 38)) (Nat.le_of_eq hC.symm) X
  rw [← hC] at hC0 ⊢
  refine wp_forget (fun W0 => Blk W0 H #[.slice ma mn mc] 22 ∧ Blk W0 (H + 1) #[.int .u64 (g : Int)] 23 ∧ Blk W0 C X 38 ∧ BytesAt W0 ma m ∧ Below H w W0) ⟨hM2.old hbb, hG2.old hbb, hC0.setRow _, hm2.below hbb, hw2.trans (hbb.mono (by omega))⟩ ?_
  clear hM2 hG2 hm2 hw2 hs2 hC0 hbb hC hlt
  rintro w3 ⟨hM, hG, hC, hm, hw⟩
  have hlt := hG.lt
  have ar : ∀ p c W, (Instr.arrayAt 46 (.slice (some p) 16 c)).run Try.prog W = .ok (.pointer (some p)) W := fun p c W => by
    simp [Instr.arrayAt, run_underlying Try.underlying46]
  have C1 : Hid (∀ W, Old w3.drew W → W.cell? ⟨H + 1, 0, none⟩ = some (.int .u64 (g : Int))) := Lib.hid fun W hW => (Blk.old (w := w3.drew) hG hW).cell rfl
  refine wp_region_old (0 :: 1 :: 2 :: 3 :: 6 :: 4 :: 5 :: 7 :: 8 :: 9 :: []) (by kernel_rfl) (by kernel_rfl) (fun c a d v w h => by cases d <;> exact h) ?_
  repeat (first | (refine lex_skip rfl (by rfl) ?_; simp only [Act.put, List.setIfInBounds_toArray, List.set]) | (refine lex_quiet (v := ?_) rfl rfl (by rfl) ?_ ?_; rotate_left; (intro W hW; go_simp); (try with_reducible rfl); simp only [Act.put, List.setIfInBounds_toArray, List.set]))
  refine lex_quiet (v := .agg (fA 16 (ckB m g))) rfl rfl (by rfl) (fun W hW => exec_load_as 46 agg16 _ rfl rfl rfl (fun j hj => by rw [Nat.zero_add, (Blk.old (w := w3.drew) hC hW).rule]; exact hXc j hj) (fL_length _ _)) ?_
  simp only [Act.put, List.setIfInBounds_toArray, List.set]
  repeat (first | (refine lex_skip rfl (by rfl) ?_; simp only [Act.put, List.setIfInBounds_toArray, List.set]) | (refine lex_quiet (v := ?_) rfl rfl (by rfl) ?_ ?_; rotate_left; (intro W hW; go_simp); (try with_reducible rfl); simp only [Act.put, List.setIfInBounds_toArray, List.set]))
  refine lex_quiet (v := .int .u64 (g : Int)) rfl rfl (by rfl) (fun W hW => by have := C1.out W hW; go_simp) ?_
  simp only [Act.put, List.setIfInBounds_toArray, List.set]
  refine lex_loud rfl rfl (by rfl) (fun K hK => ?_); go_wp2_with fail
  refine (HNK.out (strOf nTag) _ (by decide) hM.drew hG.drew hm.drew).mono ?_
  unfold McOut
  rintro e w4 ⟨rfl, hb4⟩
  go_wp2_with fail
  refine hK _ _ hb4 ?_
  clear hK K
  rw [show mcA m (keyb (strL (strOf nTag)) (strOf nTag).size g) = vA 32 fun i => bv (tkey m g i) from rfl]
  refine lex_quiet (v := .agg (vA 48 fun i => if i < 16 then fv (ckB m g i) else bv (tkey m g (i - 16)))) rfl rfl (by rfl) (fun W hW => exec_build2 48 (.tmp 12) (.tmp 14) rfl rfl rfl (built_keys (ckB m g) (fun i => bv (tkey m g i)))) ?_
  simp only [Act.put, List.setIfInBounds_toArray, List.set]
  refine lex_quiet (v := .agg (vA 49 fun i => if i < 48 then (if i < 16 then fv (ckB m g i) else bv (tkey m g (i - 16))) else .int .u64 (g : Int))) rfl rfl (by rfl) (fun W hW => exec_build2 50 (.tmp 15) (.tmp 16) rfl rfl rfl (built_box (fun i => if i < 16 then fv (ckB m g i) else bv (tkey m g (i - 16))) (g : Int))) ?_
  simp only [Act.put, List.setIfInBounds_toArray, List.set]
  have hbF : (vA 49 fun i => if i < 48 then (if i < 16 then fv (ckB m g i) else bv (tkey m g (i - 16))) else .int .u64 (g : Int)) = vA 49 (boxF m g) := by
    refine vA_eq fun i hi => ?_
    unfold boxF
    by_cases e1 : i < 16
    · rw [if_pos (by omega), if_pos e1, if_pos e1]; rfl
    · by_cases e2 : i < 48
      · rw [if_pos e2, if_neg e1, if_neg e1, if_pos e2]
      · rw [if_neg e2, if_neg e1, if_neg e2]
  rw [hbF]
  clear hbF
  obtain ⟨Z, hZ⟩ : ∃ Z, Z = vA 49 (boxF m g) := ⟨_, rfl⟩
  rw [← hZ]
  have HZ := Lib.hid hZ
  clear hZ
  refine lex_loud rfl rfl (by rfl) (fun K hK => ?_); go_wp2_with fail
  have hb34 : Below w3.heap.size w3 w4 := ⟨hb4.os, hb4.tape, hb4.output, hb4.size, hb4.block⟩
  refine hK _ _ ((Below.refl _ _).alloc (Nat.le_refl _) _) ?_
  clear hK K
  repeat (first | (refine lex_skip rfl (by rfl) ?_; simp only [Act.put, List.setIfInBounds_toArray, List.set]) | (refine lex_quiet (v := ?_) rfl rfl (by rfl) ?_ ?_; rotate_left; (intro W hW; go_simp); (try with_reducible rfl); simp only [Act.put, List.setIfInBounds_toArray, List.set]))
  refine lex_nil ?_
  have hw4 := hw.trans (hb34.mono (by omega))
  have hs4 := hb34.size
  have hN := Blk.new w4 Z 50
  have hw5 := hw4.alloc (show H ≤ w4.heap.size by omega) (.cells Z 50)
  go_wp2_with fail
  go_ret
  refine ⟨w4.heap.size, rfl, by rw [← HH.out]; omega, ?_, HH.out ▸ hw5⟩
  unfold BoxAt
  rw [← HZ.out]
  exact hN
end Go.Proofs.Ytiadhcipfgckoaa
