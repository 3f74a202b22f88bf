/- What is encrypted comes back: the walk of the law. -/
import Derived.Test.YtjkdgaehnachdaaAesStream
import Derived.Test.YtjkdgaehnachdaaAesWalk
namespace Go.Proofs.Ytjkdgaehnachdaa
open Go.RowKit
attribute [local go_sem] bits_xor_B8 bits_and_B8 bits_or_B8 ofInt_B8

theorem back_enc (key s : Nat → BitVec 8) (w : World) :
    Calls Try.prog 15 #[.agg (fA 16 key), .agg (fA 16 (enc key s))] w fun e w' => e = .returned (.agg (fA 16 s)) ∧ Below w.heap.size w w' :=
  (aes_back key (enc key s) w).mono fun e w' h => ⟨by rw [h.1, dec_enc, fA_tb], h.2⟩
theorem enc_back (key s : Nat → BitVec 8) (w : World) :
    Calls Try.prog 13 #[.agg (fA 16 key), .agg (fA 16 (dec key s))] w fun e w' => e = .returned (.agg (fA 16 s)) ∧ Below w.heap.size w w' :=
  (aes_block key (dec key s) w).mono fun e w' h => ⟨by rw [h.1, enc_dec, fA_tb], h.2⟩
theorem string_of (w0 : World) (a : Option Addr) (n c : Nat) (l : List UInt8) (h : BytesAt w0 a l) (hn : l.length = n) : ∀ W, Old w0 W → (convert 31 9 (.slice a n c)).run Try.prog W = .ok (.string (strOf l)) W :=
  fun W hW => run_string_of (P := Try.prog) W (c := c) Try.underlying31 Try.underlying5 Try.underlying9 (h.below hW) hn

set_option maxHeartbeats 1000000 in
set_option maxRecDepth 100000 in
theorem aesBack_any (key s nonce : Nat → BitVec 8) (a : Option Addr) (len cap : Nat) (l : List UInt8) (w : World) (hl : BytesAt w a l) (hlen : l.length = len) (hm : len ≤ maxLen) :
    Calls Try.prog 7 #[.agg (fA 16 key), .agg (fA 16 s), .agg (fA 12 nonce), .slice a len cap] w fun e w' => e = .returned (.bool true) ∧ Below w.heap.size w w' := by
  unfold maxLen at hm
  have HL := Lib.hid hlen
  clear hlen
  by_cases h : 1000 < len
  · have t1 : decide ((1000 : Int) < (len : Int)) = true := by simp; omega
    go_enter Try.func7, Try.ntmps7
    go_wp2_with fail
    refine (aes_wakes _).mono ?_
    rintro e w1 ⟨rfl, hb1⟩
    go_wp2_with fail
    go_ret
    exact ⟨rfl, below_step (by (try unfold Kept); repeat (first | assumption | exact Below.refl _ _ | exact below_undrew (Below.refl _ _) | exact Below.mono (by assumption) (by first | (simp; done) | (simp; omega) | omega) | refine below_setRow ?_ (by first | (simp; done) | (simp; omega) | omega) _ | refine Below.setCell ?_ (by first | (simp; done) | (simp; omega) | omega) _ | refine Below.alloc ?_ (by first | (simp; done) | (simp; omega) | omega) _ | refine below_drewN ?_ _ | refine Below.drew ?_ | refine below_undrew ?_ | refine below_step ?_ (by assumption))) hb1⟩
  · have t1 : decide ((1000 : Int) < (len : Int)) = false := by simp; omega
    go_enter Try.func7, Try.ntmps7
    go_upto_region 3 with (fail)
    refine wp_forget (fun W0 => Blk W0 w.heap.size (fA 16 key) 27 ∧ Blk W0 (w.heap.size + 1) (fA 16 s) 27 ∧ Blk W0 (w.heap.size + 2) (fA 12 nonce) 30 ∧ Below w.heap.size w W0) ⟨Blk.new3 _ _ _ _ _, Blk.new3' _ _ _ _ _, Blk.new3'' _ _ _ _ _, by (try unfold Kept); repeat (first | assumption | exact Below.refl _ _ | exact below_undrew (Below.refl _ _) | exact Below.mono (by assumption) (by first | (simp; done) | (simp; omega) | omega) | refine below_setRow ?_ (by first | (simp; done) | (simp; omega) | omega) _ | refine Below.setCell ?_ (by first | (simp; done) | (simp; omega) | omega) _ | refine Below.alloc ?_ (by first | (simp; done) | (simp; omega) | omega) _ | refine below_drewN ?_ _ | refine Below.drew ?_ | refine below_undrew ?_ | refine below_step ?_ (by assumption))⟩ ?_
    rintro w0 ⟨hK, hS, hN, hb⟩
    obtain ⟨H, hH⟩ : ∃ H, H = w.heap.size := ⟨_, rfl⟩
    rw [← hH] at hK hS hN hb ⊢
    have HH := Lib.hid hH
    clear hH
    go_wp2_with (first | refine wpList_load_blk rfl 27 agg16 _ rfl rfl hK (fA_size _ _) ?_ | refine wpList_load_blk rfl 30 agg12 _ rfl rfl hN (fA_size _ _) ?_)
    refine (stream_any key nonce a len cap l _ (hl.below (HH.out ▸ hb)) HL.out (by omega)).mono ?_
    rintro e w1 ⟨a1, c1, rfl, hx, hb1⟩
    have hb01 : Below H w w1 := by rw [HH.out] at hb ⊢; exact below_step hb hb1
    replace hK := hK.old hb1
    replace hS := hS.old hb1
    replace hN := hN.old hb1
    clear hb hb1
    go_wp2_with (first | refine wpList_load_blk rfl 27 agg16 _ rfl rfl hK (fA_size _ _) ?_ | refine wpList_load_blk rfl 30 agg12 _ rfl rfl hN (fA_size _ _) ?_)
    refine (stream_any key nonce a1 len c1 (stm key nonce l) _ hx.row (by rw [stm_length]; exact HL.out) (by omega)).mono ?_
    rintro e w2 ⟨a2, c2, rfl, hy, hb2⟩
    rw [stm_stm] at hy
    have hb02 : Below H w w2 := by rw [HH.out] at hb01 ⊢; exact below_step hb01 hb2
    replace hK := hK.old hb2
    replace hS := hS.old hb2
    have bK := hK
    have bS := hS
    have s1 := string_of w2.drew a2 len c2 l (BytesAt.drew hy.row) HL.out
    have s2 := string_of w2.drew a len cap l (hl.below (HH.out ▸ hb02)).drew HL.out
    clear hb01 hb2 hN hx hy hK hS
    go_wp2_with fail
    have ld : ∀ {W : World} (_ : Old w2.drew W) (o : Oper) (f : Operand → Value) (x : Operand), o.op = .load 27 x → (f x = .pointer (some ⟨H, 0, none⟩) → (execOp f o).run Try.prog W = .ok (.value (.agg (fA 16 key))) W) ∧ (f x = .pointer (some ⟨H + 1, 0, none⟩) → (execOp f o).run Try.prog W = .ok (.value (.agg (fA 16 s))) W) := fun hW o f x ho =>
      ⟨fun hx => exec_load_as 27 agg16 x ho hx rfl (bK.drew.old hW).cells (fL_length _ _), fun hx => exec_load_as 27 agg16 x ho hx rfl (bS.drew.old hW).cells (fL_length _ _)⟩
    refine wp_region_old (0 :: 1 :: 2 :: 5 :: 3 :: 4 :: 6 :: 7 :: 8 :: 9 :: 10 :: 13 :: 11 :: 12 :: 14 :: 15 :: 16 :: 17 :: 18 :: 19 :: 20 :: 21 :: 22 :: 23 :: 24 :: 25 :: 26 :: 27 :: 28 :: 29 :: 30 :: 31 :: 32 :: 33 :: 34 :: 35 :: 36 :: 37 :: 38 :: 39 :: 40 :: 41 :: []) (by kernel_rfl) (by kernel_rfl) (fun c a d v w h => by cases d <;> exact h) ?_
    refine lex_quiet (v := .agg (fA 16 key)) rfl rfl (by rfl) (fun W hW => (ld hW _ _ _ rfl).1 rfl) ?_
    simp only [Act.put, List.setIfInBounds_toArray, List.set]
    refine lex_quiet (v := .agg (fA 16 key)) rfl rfl (by rfl) (fun W hW => (ld hW _ _ _ rfl).1 rfl) ?_
    simp only [Act.put, List.setIfInBounds_toArray, List.set]
    refine lex_quiet (v := .agg (fA 16 s)) rfl rfl (by rfl) (fun W hW => (ld hW _ _ _ rfl).2 rfl) ?_
    simp only [Act.put, List.setIfInBounds_toArray, List.set]
    refine lex_quiet (v := .agg (fA 16 s)) rfl rfl (by rfl) (fun W hW => (ld hW _ _ _ rfl).2 rfl) ?_
    simp only [Act.put, List.setIfInBounds_toArray, List.set]
    refine lex_loud rfl rfl (by rfl) (fun K hK => ?_); go_wp2_with fail
    refine (aes_block key s _).mono ?_
    rintro e w3 ⟨rfl, hb3⟩
    go_wp2_with fail
    refine hK _ _ hb3 ?_
    clear hK K
    refine lex_loud rfl rfl (by rfl) (fun K hK => ?_); go_wp2_with fail
    refine (back_enc key s _).mono ?_
    rintro e w4 ⟨rfl, hb4⟩
    go_wp2_with fail
    refine hK _ _ hb4 ?_
    clear hK K
    have hb24 := below_step hb3 hb4
    clear hb3 hb4
    refine lex_quiet (v := .bool true) rfl rfl (by rfl) (fun W hW => exec_cmp .eql 27 (.tmp 35) (.tmp 36) rfl rfl rfl (by kernel_rfl) (eq_fA _ W)) ?_
    simp only [Act.put, List.setIfInBounds_toArray, List.set]
    repeat (first | (refine lex_skip rfl (by rfl) ?_; simp only [Act.put, List.setIfInBounds_toArray, List.set]) | (refine lex_quiet (v := ?_) rfl rfl (by rfl) ?_ ?_; rotate_left; (intro W hW; go_simp); (try with_reducible rfl); simp only [Act.put, List.setIfInBounds_toArray, List.set]))
    refine lex_quiet (v := .agg (fA 16 key)) rfl rfl (by rfl) (fun W hW => (ld (below_step hb24 hW) _ _ _ rfl).1 rfl) ?_
    simp only [Act.put, List.setIfInBounds_toArray, List.set]
    refine lex_quiet (v := .agg (fA 16 key)) rfl rfl (by rfl) (fun W hW => (ld (below_step hb24 hW) _ _ _ rfl).1 rfl) ?_
    simp only [Act.put, List.setIfInBounds_toArray, List.set]
    refine lex_quiet (v := .agg (fA 16 s)) rfl rfl (by rfl) (fun W hW => (ld (below_step hb24 hW) _ _ _ rfl).2 rfl) ?_
    simp only [Act.put, List.setIfInBounds_toArray, List.set]
    refine lex_quiet (v := .agg (fA 16 s)) rfl rfl (by rfl) (fun W hW => (ld (below_step hb24 hW) _ _ _ rfl).2 rfl) ?_
    simp only [Act.put, List.setIfInBounds_toArray, List.set]
    refine lex_loud rfl rfl (by rfl) (fun K hK => ?_); go_wp2_with fail
    refine (aes_back key s _).mono ?_
    rintro e w5 ⟨rfl, hb5⟩
    go_wp2_with fail
    refine hK _ _ hb5 ?_
    clear hK K
    refine lex_loud rfl rfl (by rfl) (fun K hK => ?_); go_wp2_with fail
    refine (enc_back key s _).mono ?_
    rintro e w6 ⟨rfl, hb6⟩
    go_wp2_with fail
    refine hK _ _ hb6 ?_
    clear hK K
    have hb26 := below_step hb24 (below_step hb5 hb6)
    replace s1 : ∀ W, Old w6 W → (convert 31 9 (.slice a2 len c2)).run Try.prog W = .ok (.string (strOf l)) W := fun W hW => s1 W (below_step hb26 hW)
    replace s2 : ∀ W, Old w6 W → (convert 31 9 (.slice a len cap)).run Try.prog W = .ok (.string (strOf l)) W := fun W hW => s2 W (below_step hb26 hW)
    clear ld hb24 hb5 hb6
    refine lex_quiet (v := .bool true) rfl rfl (by rfl) (fun W hW => exec_cmp .eql 27 (.tmp 43) (.tmp 44) rfl rfl rfl (by kernel_rfl) (eq_fA _ W)) ?_
    simp only [Act.put, List.setIfInBounds_toArray, List.set]
    repeat (first | (refine lex_skip rfl (by rfl) ?_; simp only [Act.put, List.setIfInBounds_toArray, List.set]) | (refine lex_quiet (v := ?_) rfl rfl (by rfl) ?_ ?_; rotate_left; (intro W hW; go_simp); (try with_reducible rfl); simp only [Act.put, List.setIfInBounds_toArray, List.set]))
    refine lex_loud rfl rfl (by rfl) (fun K hK => ?_); go_wp2_with fail
    refine (aes_wakes _).mono ?_
    rintro e w7 ⟨rfl, hb7⟩
    go_wp2_with fail
    refine hK _ _ hb7 ?_
    clear hK K
    repeat (first | (refine lex_skip rfl (by rfl) ?_; simp only [Act.put, List.setIfInBounds_toArray, List.set]) | (refine lex_quiet (v := ?_) rfl rfl (by rfl) ?_ ?_; rotate_left; (intro W hW; go_simp); (try with_reducible rfl); simp only [Act.put, List.setIfInBounds_toArray, List.set]))
    refine lex_nil ?_
    go_wp2_with fail
    go_ret
    refine ⟨rfl, ?_⟩
    rw [HH.out] at hb02
    exact below_step (below_step hb02 (Below.refl _ _).drew) (below_step hb26 hb7)
end Go.Proofs.Ytjkdgaehnachdaa
