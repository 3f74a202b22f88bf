/- Whether two views are the same, as the program tells it. -/
import Derived.Test.YtiglljegpdlnmaaBytesPlain
namespace Go.Proofs.Ytiglljegpdlnmaa
open Go.RowKit

theorem str_of (w0 : World) (a : Option Addr) (n c : Nat) (l : List UInt8) (h : BytesAt w0 a l) (hn : l.length = n) : ∀ W, Old w0 W → (convert 43 9 (.slice a n c)).run Try.prog W = .ok (.string (strOf l)) W :=
  fun W hW => run_string_of (P := Try.prog) W (c := c) Try.underlying43 Try.underlying5 Try.underlying9 (h.below hW) hn
theorem strOf_beq (l m : List UInt8) : ((strOf l).toList == (strOf m).toList) = (l == m) := by rw [strOf_toList, strOf_toList]
set_option maxRecDepth 100000 in
set_option maxHeartbeats 2000000 in
theorem viewSame_any (p q : ViewP) (h g : ViewH) (w : World) (ha : ViewAt w p h) (hb : ViewAt w q g) (hp : (viewB p).length ≤ 1000000000000) (hq : (viewB q).length ≤ 1000000000000) :
    Calls Try.prog 22 #[viewVal p h, viewVal q g] w fun e w' => e = .returned (.bool (decide (p = q))) ∧ Below w.heap.size w w' := by
  have hEQ := viewB_eq ha hb
  have HEQ := Lib.hid hEQ
  clear hEQ
  unfold viewVal
  go_enter Try.func22, Try.ntmps22
  go_wp2_with fail
  refine wp_forget (fun W0 => Blk W0 w.heap.size (viewCells p h).toArray 41 ∧ Blk W0 (w.heap.size + 1) (viewCells q g).toArray 41 ∧ Below w.heap.size w W0) ⟨Blk.new2 _ _ _ _, Blk.new2' _ _ _ _, by (try unfold Kept); repeat (first | assumption | exact Below.refl _ _ | exact below_undrew (Below.refl _ _) | exact Below.mono (by assumption) (by first | (simp; done) | (simp; omega) | omega) | refine below_setRow ?_ (by first | (simp; done) | (simp; omega) | omega) _ | refine Below.setCell ?_ (by first | (simp; done) | (simp; omega) | omega) _ | refine Below.alloc ?_ (by first | (simp; done) | (simp; omega) | omega) _ | refine below_drewN ?_ _ | refine Below.drew ?_ | refine below_undrew ?_ | refine below_step ?_ (by assumption))⟩ ?_
  rintro W0 ⟨hA, hB, hbW⟩
  refine wp_region_old (0 :: 3 :: 1 :: 2 :: 4 :: 5 :: 6 :: 7 :: []) (by kernel_rfl) (by kernel_rfl) (fun c a d v w h => by cases d <;> exact h) ?_
  refine lex_quiet (v := viewVal p h) rfl rfl (by rfl) (fun W hW => exec_load_as 41 viewT (.tmp 2) rfl rfl rfl (Blk.cells (hA.drew.old hW)) rfl) ?_
  simp only [Act.put, List.setIfInBounds_toArray, List.set]
  refine lex_quiet (v := viewVal q g) rfl rfl (by rfl) (fun W hW => exec_load_as 41 viewT (.tmp 3) rfl rfl rfl (Blk.cells (hB.drew.old hW)) rfl) ?_
  simp only [Act.put, List.setIfInBounds_toArray, List.set]
  refine lex_loud rfl rfl (by rfl) (fun K hK => ?_); go_wp2_with fail
  refine (bytes_any p h _ ((ha.old hbW).old (Below.refl _ _).drew) hp).mono ?_
  rintro e w1 ⟨a1, c1, rfl, ho1, hb1⟩
  have k1 := str_of w1 a1 _ c1 _ ho1.row rfl
  have hbw1 : Below w.heap.size w w1 := below_step hbW.drew hb1
  go_wp2_with fail
  refine hK _ _ hb1 ?_
  clear hK K
  repeat (first | (refine lex_skip rfl (by rfl) ?_; simp only [Act.put, List.setIfInBounds_toArray, List.set]) | (refine lex_quiet (v := ?_) rfl rfl (by rfl) ?_ ?_; rotate_left; (intro W hW; go_simp); (try with_reducible rfl); simp only [Act.put, List.setIfInBounds_toArray, List.set]))
  refine lex_loud rfl rfl (by rfl) (fun K hK => ?_); go_wp2_with fail
  refine (bytes_any q g _ (hb.old hbw1) hq).mono ?_
  rintro e w2 ⟨a2, c2, rfl, ho2, hb2⟩
  have k2 := str_of w2 a2 _ c2 _ ho2.row rfl
  have hcmp := (strOf_beq (viewB p) (viewB q)).trans HEQ.out
  go_wp2_with fail
  refine hK _ _ hb2 ?_
  clear hK K
  repeat (first | (refine lex_skip rfl (by rfl) ?_; simp only [Act.put, List.setIfInBounds_toArray, List.set]) | (refine lex_quiet (v := ?_) rfl rfl (by rfl) ?_ ?_; rotate_left; (intro W hW; go_simp); (try with_reducible rfl); simp only [Act.put, List.setIfInBounds_toArray, List.set]))
  refine lex_nil ?_
  go_wp2_with fail
  go_ret
  exact ⟨rfl, below_step hbw1 hb2⟩
end Go.Proofs.Ytiglljegpdlnmaa
