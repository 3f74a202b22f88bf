/- Any block encrypted, and back, as the document says: the walk of the law. -/
import Derived.Test.YtjkdgaehnachdaaAesRefBack
import Derived.Test.YtjkdgaehnachdaaAesWalk
namespace Go.Proofs.Ytjkdgaehnachdaa
open Go.RowKit
attribute [local go_sem] bits_xor_B8 bits_and_B8 bits_or_B8 ofInt_B8

set_option maxHeartbeats 1000000 in
set_option maxRecDepth 100000 in
theorem rblock_any (key s : Nat → BitVec 8) (w : World) :
    Calls Try.prog 14 #[.agg (fA 16 key), .agg (fA 16 s)] w fun e w' => e = .returned (.agg (fA 16 (enc key s))) ∧ Below w.heap.size w w' := by
  go_enter Try.func14, Try.ntmps14
  go_wp2_with fail
  refine wp_forget (fun W0 => Blk W0 w.heap.size (fA 16 key) 27 ∧ Blk W0 (w.heap.size + 1) (fA 16 s) 27 ∧ Blk W0 (w.heap.size + 2) (fA 16 fun _ => 0#8) 27 ∧ Below w.heap.size w W0) ⟨Blk.new3 _ _ _ _ _, Blk.new3' _ _ _ _ _, Blk.new3'' w (fA 16 fun _ => 0#8) _ _ _, by (try unfold Kept); repeat (first | assumption | exact Below.refl _ _ | exact below_undrew (Below.refl _ _) | exact Below.mono (by assumption) (by first | (simp; done) | (simp; omega) | omega) | refine below_setRow ?_ (by first | (simp; done) | (simp; omega) | omega) _ | refine Below.setCell ?_ (by first | (simp; done) | (simp; omega) | omega) _ | refine Below.alloc ?_ (by first | (simp; done) | (simp; omega) | omega) _ | refine below_drewN ?_ _ | refine Below.drew ?_ | refine below_undrew ?_ | refine below_step ?_ (by assumption))⟩ ?_
  rintro w0 ⟨bK, bS, bO, hb⟩
  obtain ⟨H, hH⟩ : ∃ H, H = w.heap.size := ⟨_, rfl⟩
  rw [← hH] at bK bS bO hb ⊢
  have HH := Lib.hid hH
  clear hH
  refine wp_region_treeR true Old Old.refl Old.trans (.step 0 (.step 1 (.step 2 (.step 3 (.step 4 .done))))) (by kernel_rfl) (by kernel_rfl) (fun c a d v w h => by cases d <;> exact h) ?_
  refine tree_quiet (v := .agg (fA 16 key)) rfl rfl (by rfl) (fun W hW => exec_load_as 27 agg16 _ rfl rfl rfl (bK.drew.old hW).cells (fL_length _ _)) ?_
  simp only [Act.put, List.setIfInBounds_toArray, List.set]
  refine tree_quiet (v := .agg (fA 16 s)) rfl rfl (by rfl) (fun W hW => exec_load_as 27 agg16 _ rfl rfl rfl (bS.drew.old hW).cells (fL_length _ _)) ?_
  simp only [Act.put, List.setIfInBounds_toArray, List.set]
  refine tree_loud rfl rfl (by rfl) (fun K hK => ?_); go_wp2_with fail
  refine (rboxes_any _).mono ?_
  rintro e w1 ⟨rfl, hb1⟩
  go_wp2_with fail
  refine hK _ _ hb1 ?_
  clear hK K
  refine tree_loud rfl rfl (by rfl) (fun K hK => ?_); go_wp2_with fail
  refine (renc_any key s _).mono ?_
  rintro e w2 ⟨rfl, hb2⟩
  have bO2 := (bO.drew.old hb1).old hb2
  go_wp2_with fail
  refine hK _ _ hb2 ?_
  clear hK K
  refine tree_store rfl rfl (by rfl) (fun K hK => ?_)
  refine wp_store_at 27 agg16 _ _ rfl rfl rfl bO2 (fA_size _ _) (by rw [fA_size]; omega) (fA_one _ _) ?_
  refine hK _ _ ?_
  clear hK K
  refine tree_done ?_
  rw [splice_all _ _ (by rw [fA_size, fA_size])]
  go_wp2_with fail
  refine post_blk rfl agg16 rfl (bO2.setRow _) (fA_size _ _) rfl ⟨rfl, ?_⟩
  rw [HH.out] at hb ⊢
  exact below_setRow ((below_step (below_step hb (Below.refl _ _).drew) (below_step hb1 hb2))) (by omega) _

set_option maxHeartbeats 1000000 in
set_option maxRecDepth 100000 in
theorem aesBlock_any (key s : Nat → BitVec 8) (w : World) :
    Calls Try.prog 5 #[.agg (fA 16 key), .agg (fA 16 s)] w fun e w' => e = .returned (.bool true) ∧ Below w.heap.size w w' := by
  go_enter Try.func5, Try.ntmps5
  go_wp2_with fail
  refine wp_forget (fun W0 => Blk W0 w.heap.size (fA 16 key) 27 ∧ Blk W0 (w.heap.size + 1) (fA 16 s) 27 ∧ Below w.heap.size w W0) ⟨Blk.new2 _ _ _ _, Blk.new2' _ _ _ _, by (try unfold Kept); repeat (first | assumption | exact Below.refl _ _ | exact below_undrew (Below.refl _ _) | exact Below.mono (by assumption) (by first | (simp; done) | (simp; omega) | omega) | refine below_setRow ?_ (by first | (simp; done) | (simp; omega) | omega) _ | refine Below.setCell ?_ (by first | (simp; done) | (simp; omega) | omega) _ | refine Below.alloc ?_ (by first | (simp; done) | (simp; omega) | omega) _ | refine below_drewN ?_ _ | refine Below.drew ?_ | refine below_undrew ?_ | refine below_step ?_ (by assumption))⟩ ?_
  rintro w0 ⟨bK, bS, hb⟩
  obtain ⟨H, hH⟩ : ∃ H, H = w.heap.size := ⟨_, rfl⟩
  rw [← hH] at bK bS hb ⊢
  have HH := Lib.hid hH
  clear hH
  have ld : ∀ {W : World} (_ : Old w0.drew W) (o : Oper) (f : Operand → Value) (x : Operand), o.op = .load 27 x → (f x = .pointer (some ⟨H, 0, none⟩) → (execOp f o).run Try.prog W = .ok (.value (.agg (fA 16 key))) W) ∧ (f x = .pointer (some ⟨H + 1, 0, none⟩) → (execOp f o).run Try.prog W = .ok (.value (.agg (fA 16 s))) W) := fun hW o f x ho =>
    ⟨fun hx => exec_load_as 27 agg16 x ho hx rfl (bK.drew.old hW).cells (fL_length _ _), fun hx => exec_load_as 27 agg16 x ho hx rfl (bS.drew.old hW).cells (fL_length _ _)⟩
  refine wp_region_old (0 :: 1 :: 3 :: 4 :: 2 :: 5 :: 6 :: 7 :: 8 :: 9 :: 11 :: 12 :: 10 :: 13 :: 14 :: 15 :: 16 :: 17 :: 18 :: 19 :: []) (by kernel_rfl) (by kernel_rfl) (fun c a d v w h => by cases d <;> exact h) ?_
  refine lex_quiet (v := .agg (fA 16 key)) rfl rfl (by rfl) (fun W hW => (ld hW _ _ _ rfl).1 rfl) ?_
  simp only [Act.put, List.setIfInBounds_toArray, List.set]
  refine lex_quiet (v := .agg (fA 16 s)) rfl rfl (by rfl) (fun W hW => (ld hW _ _ _ rfl).2 rfl) ?_
  simp only [Act.put, List.setIfInBounds_toArray, List.set]
  refine lex_quiet (v := .agg (fA 16 key)) rfl rfl (by rfl) (fun W hW => (ld hW _ _ _ rfl).1 rfl) ?_
  simp only [Act.put, List.setIfInBounds_toArray, List.set]
  refine lex_quiet (v := .agg (fA 16 s)) rfl rfl (by rfl) (fun W hW => (ld hW _ _ _ rfl).2 rfl) ?_
  simp only [Act.put, List.setIfInBounds_toArray, List.set]
  refine lex_loud rfl rfl (by rfl) (fun K hK => ?_); go_wp2_with fail
  refine (aes_block key s _).mono ?_
  rintro e w1 ⟨rfl, hb1⟩
  go_wp2_with fail
  refine hK _ _ hb1 ?_
  clear hK K
  refine lex_loud rfl rfl (by rfl) (fun K hK => ?_); go_wp2_with fail
  refine (rblock_any key s _).mono ?_
  rintro e w2 ⟨rfl, hb2⟩
  go_wp2_with fail
  refine hK _ _ hb2 ?_
  clear hK K
  have hb02 := below_step hb1 hb2
  clear hb1 hb2
  refine lex_quiet (v := .bool true) rfl rfl (by rfl) (fun W hW => exec_cmp .eql 27 (.tmp 7) (.tmp 10) rfl rfl rfl (by kernel_rfl) (eq_fA _ W)) ?_
  simp only [Act.put, List.setIfInBounds_toArray, List.set]
  repeat (first | (refine lex_skip rfl (by rfl) ?_; simp only [Act.put, List.setIfInBounds_toArray, List.set]) | (refine lex_quiet (v := ?_) rfl rfl (by rfl) ?_ ?_; rotate_left; (intro W hW; go_simp); (try with_reducible rfl); simp only [Act.put, List.setIfInBounds_toArray, List.set]))
  refine lex_quiet (v := .agg (fA 16 key)) rfl rfl (by rfl) (fun W hW => (ld (below_step hb02 hW) _ _ _ rfl).1 rfl) ?_
  simp only [Act.put, List.setIfInBounds_toArray, List.set]
  refine lex_quiet (v := .agg (fA 16 s)) rfl rfl (by rfl) (fun W hW => (ld (below_step hb02 hW) _ _ _ rfl).2 rfl) ?_
  simp only [Act.put, List.setIfInBounds_toArray, List.set]
  refine lex_quiet (v := .agg (fA 16 key)) rfl rfl (by rfl) (fun W hW => (ld (below_step hb02 hW) _ _ _ rfl).1 rfl) ?_
  simp only [Act.put, List.setIfInBounds_toArray, List.set]
  refine lex_quiet (v := .agg (fA 16 s)) rfl rfl (by rfl) (fun W hW => (ld (below_step hb02 hW) _ _ _ rfl).2 rfl) ?_
  simp only [Act.put, List.setIfInBounds_toArray, List.set]
  refine lex_loud rfl rfl (by rfl) (fun K hK => ?_); go_wp2_with fail
  refine (aes_back key s _).mono ?_
  rintro e w3 ⟨rfl, hb3⟩
  go_wp2_with fail
  refine hK _ _ hb3 ?_
  clear hK K
  refine lex_loud rfl rfl (by rfl) (fun K hK => ?_); go_wp2_with fail
  refine (rback_any key s _).mono ?_
  rintro e w4 ⟨rfl, hb4⟩
  go_wp2_with fail
  refine hK _ _ hb4 ?_
  clear hK K
  refine lex_quiet (v := .bool true) rfl rfl (by rfl) (fun W hW => exec_cmp .eql 27 (.tmp 15) (.tmp 18) rfl rfl rfl (by kernel_rfl) (eq_fA _ W)) ?_
  simp only [Act.put, List.setIfInBounds_toArray, List.set]
  repeat (first | (refine lex_skip rfl (by rfl) ?_; simp only [Act.put, List.setIfInBounds_toArray, List.set]) | (refine lex_quiet (v := ?_) rfl rfl (by rfl) ?_ ?_; rotate_left; (intro W hW; go_simp); (try with_reducible rfl); simp only [Act.put, List.setIfInBounds_toArray, List.set]))
  refine lex_loud rfl rfl (by rfl) (fun K hK => ?_); go_wp2_with fail
  refine (aes_wakes _).mono ?_
  rintro e w5 ⟨rfl, hb5⟩
  go_wp2_with fail
  refine hK _ _ hb5 ?_
  clear hK K
  repeat (first | (refine lex_skip rfl (by rfl) ?_; simp only [Act.put, List.setIfInBounds_toArray, List.set]) | (refine lex_quiet (v := ?_) rfl rfl (by rfl) ?_ ?_; rotate_left; (intro W hW; go_simp); (try with_reducible rfl); simp only [Act.put, List.setIfInBounds_toArray, List.set]))
  refine lex_nil ?_
  go_wp2_with fail
  go_ret
  refine ⟨rfl, ?_⟩
  rw [HH.out] at hb
  exact below_step (below_step hb (Below.refl _ _).drew) (below_step hb02 (below_step hb3 (below_step hb4 hb5)))
end Go.Proofs.Ytjkdgaehnachdaa
