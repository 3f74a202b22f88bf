/- Which tokens may be, and their bytes: the walk of the law. -/
import Derived.Test.YtlhemmlmhgjodaaTokCame
namespace Go.Proofs.Ytlhemmlmhgjodaa
open Go.RowKit

set_option maxHeartbeats 4000000 in
set_option maxRecDepth 100000 in
theorem tokenMakes_any (ka : Option Addr) (kn kc : Nat) (k : List UInt8) (T : Tok) (w : World) (hk : BytesAt w ka k) (hkl : k.length = kn) (hT : TokWf T) :
    Calls Try.prog 3 #[.slice ka kn kc, tokV T] w (BoolP w true) := by
  have HK := Lib.hid hkl
  have hk0 := Lib.hid hk
  have HW := Lib.hid hT
  obtain ⟨H, hH⟩ : ∃ H, H = w.heap.size := ⟨_, rfl⟩
  have HH := Lib.hid hH
  have hB0 := Blk.new w (tokC (strOf T.name) T.role T.til) 25
  have hw0 := (Below.refl w.heap.size w).alloc (Nat.le_refl _) (.cells (tokC (strOf T.name) T.role T.til) 25)
  rw [← hH] at hB0 hw0
  have hm1 := fun W hh => make_any k ka kn kc T W hh HK.out hT
  have hm2 := fun W hh => rmake_any k ka kn kc T W hh HK.out hT
  have hy1 := fun W => may_any T hT W
  have hy2 := fun W => rmay_any T hT W
  have etv : tokV T = .agg (tokC (strOf T.name) T.role T.til) := rfl
  rw [etv] at hm1 hm2 hy1 hy2 ⊢
  have HM1 := Lib.hid hm1
  have HM2 := Lib.hid hm2
  have HY1 := Lib.hid hy1
  have HY2 := Lib.hid hy2
  obtain ⟨s, hs⟩ : ∃ s, s = strOf T.name := ⟨_, rfl⟩
  obtain ⟨r, hr⟩ : ∃ r, r = T.role := ⟨_, rfl⟩
  obtain ⟨u, hu⟩ : ∃ u, u = T.til := ⟨_, rfl⟩
  rw [← hs, ← hr, ← hu] at HM1 HM2 HY1 HY2 hB0 hw0 ⊢
  have hsz : s.size ≤ 140737488351232 := by rw [hs, strOf_size]; exact hT.size
  clear hkl hk hH hm1 hm2 hy1 hy2 etv hs hr hu hT
  have c0 : (w.alloc (.cells (tokC s r u) 25)).cell? ⟨H, 0, none⟩ = some (.string s) := hB0.cell rfl
  have c0' := Lib.hid c0
  go_enter Try.func3, Try.ntmps3
  go_upto_region 1 with fail
  rw [← HH.out]
  refine wp_forget (fun W0 => Blk W0 H (tokC s r u) 25 ∧ Below H w W0) ⟨hB0, hw0⟩ ?_
  clear hB0 hw0 c0 c0'
  rintro w1 ⟨hB, hw⟩
  have c0 : w1.cell? ⟨H, 0, none⟩ = some (.string s) := hB.cell rfl
  go_cut [22] (fun v wx => v = .bool (decide ((300 < kn ∧ kn ≤ 65536) ∨ 1000 < s.size)) ∧ w1 = wx)
  case first =>
    by_cases a1 : 300 < kn
    · have t1 : decide ((300 : Int) < (kn : Int)) = true := decide_eq_true (by omega)
      have t2 : decide (300 < kn) = true := decide_eq_true a1
      by_cases a2 : kn ≤ 65536
      · have t3 : decide ((kn : Int) ≤ 65536) = true := decide_eq_true (by omega)
        have t4 : decide (kn ≤ 65536) = true := decide_eq_true a2
        go_wp2_with fail
        go_meet
        exact ⟨congrArg Value.bool (decide_eq_true (by omega)).symm, rfl⟩
      · have t3 : decide ((kn : Int) ≤ 65536) = false := decide_eq_false (by omega)
        have t4 : decide (kn ≤ 65536) = false := decide_eq_false a2
        go_wp2_with fail
        go_meet
        exact ⟨congrArg Value.bool (by rw [decide_eq_decide]; omega), rfl⟩
    · have t1 : decide ((300 : Int) < (kn : Int)) = false := decide_eq_false (by omega)
      have t2 : decide (300 < kn) = false := decide_eq_false a1
      go_wp2_with fail
      go_meet
      exact ⟨congrArg Value.bool (by rw [decide_eq_decide]; omega), rfl⟩
  case rest =>
    obtain ⟨rfl, rfl⟩ := hcut
    clear c0
    by_cases hg : (300 < kn ∧ kn ≤ 65536) ∨ 1000 < s.size
    · rw [decide_eq_true hg]
      clear hg
      go_wp2_with fail
      refine (tok_wakes _).mono ?_
      rintro e w2 ⟨rfl, hb2⟩
      go_wp2_with fail
      go_ret
      exact ⟨rfl, HH.out ▸ hw.trans (hb2.mono (by have := hw.size; have := hB.lt; omega))⟩
    · rw [decide_eq_false hg]
      clear hg
      have hlt := hB.lt
      have hle : w.heap.size ≤ w1.heap.size := hw.size
      go_wp2_with (refine wpList_load_blk rfl 25 aggTok _ rfl rfl hB rfl ?_)
      refine (HM1.out _ (hk0.out.below (HH.out ▸ hw))).mono ?_
      unfold MakP
      rintro e w2 ⟨a1, n1, c1, l, er, rfl, hl, hll, hbl, hb2, -⟩
      have HL := Lib.hid hl
      have HLL := Lib.hid hll
      have hB2 := hB.old hb2
      have hw2 := hw.trans (hb2.mono (Nat.le_of_lt hlt))
      clear hB hw hb2 hl hll hlt
      have hlt := hB2.lt
      go_wp2_with (refine wpList_load_blk rfl 25 aggTok _ rfl rfl hB2 rfl ?_)
      refine (HM2.out _ (hk0.out.below (HH.out ▸ hw2))).mono ?_
      unfold MakP
      rintro e w3 ⟨a2, n2, c2, l', er', rfl, hl', hll', hbl', hb3, -⟩
      rw [HL.out] at hl'
      obtain ⟨rfl, rfl⟩ := Prod.mk.inj hl'
      have hB3 := hB2.old hb3
      have hw3 := hw2.trans (hb3.mono (Nat.le_of_lt hlt))
      have hbl3 := hbl.below hb3
      have HLL2 := Lib.hid hll'
      clear hB2 hw2 hb3 hl' hll' hbl hlt
      obtain ⟨M, hM⟩ : ∃ M, M = tokMay T := ⟨_, rfl⟩
      rw [← hM] at HY1 HY2
      clear hM
      go_upto_region 5 with fail
      have s1 : ∀ W, Old w3 W → (convert 22 9 (.slice a1 n1 c1)).run Try.prog W = .ok (.string (strOf l)) W := fun W hW => run_string_of W Try.underlying22 Try.underlying5 Try.underlying9 (hbl3.below hW) HLL.out
      have s2 : ∀ W, Old w3 W → (convert 22 9 (.slice a2 n2 c2)).run Try.prog W = .ok (.string (strOf l)) W := fun W hW => run_string_of W Try.underlying22 Try.underlying5 Try.underlying9 (hbl'.below hW) HLL2.out
      have S1 := Lib.hid s1
      have S2 := Lib.hid s2
      clear s1 s2 hbl3 hbl'
      refine wp_region_old (0 :: 2 :: 1 :: 3 :: 4 :: 5 :: 6 :: 7 :: 8 :: 9 :: 10 :: 11 :: 12 :: 13 :: 14 :: 15 :: 16 :: 17 :: 18 :: 19 :: 20 :: []) (by kernel_rfl) (by kernel_rfl) (fun c a d v w h => by cases d <;> exact h) ?_
      refine lex_quiet (v := .agg (tokC s r u)) rfl rfl (by rfl) (fun W hW => exec_load_as 25 aggTok _ rfl rfl rfl (hB3.drew.old hW).cells rfl) ?_
      simp only [Act.put, List.setIfInBounds_toArray, List.set]
      refine lex_quiet (v := .agg (tokC s r u)) rfl rfl (by rfl) (fun W hW => exec_load_as 25 aggTok _ rfl rfl rfl (hB3.drew.old hW).cells rfl) ?_
      simp only [Act.put, List.setIfInBounds_toArray, List.set]
      refine lex_loud rfl rfl (by rfl) (fun K hK => ?_); go_wp2_with fail
      refine (HY1.out _).mono ?_
      unfold BoolP
      rintro e w4 ⟨rfl, hb4⟩
      go_wp2_with fail
      refine hK _ _ hb4 ?_
      clear hK K
      have hb34 : Below w3.heap.size w3 w4 := ⟨hb4.os, hb4.tape, hb4.output, hb4.size, hb4.block⟩
      refine lex_loud rfl rfl (by rfl) (fun K hK => ?_); go_wp2_with fail
      refine (HY2.out _).mono ?_
      unfold BoolP
      rintro e w5 ⟨rfl, hb5⟩
      go_wp2_with fail
      refine hK _ _ hb5 ?_
      clear hK K
      have hb35 := below_step hb34 hb5
      clear hb34 hb4 hb5
      repeat (first | (refine lex_skip rfl (by rfl) ?_; simp only [Act.put, List.setIfInBounds_toArray, List.set]) | (refine lex_quiet (v := ?_) rfl rfl (by rfl) ?_ ?_; rotate_left; (intro W hW; go_simp); (try with_reducible rfl); simp only [Act.put, List.setIfInBounds_toArray, List.set]))
      refine lex_quiet (v := .string (strOf l)) rfl rfl (by rfl) (fun W hW => by have := S1.out W (below_step hb35 hW); go_simp) ?_
      simp only [Act.put, List.setIfInBounds_toArray, List.set]
      repeat (first | (refine lex_skip rfl (by rfl) ?_; simp only [Act.put, List.setIfInBounds_toArray, List.set]) | (refine lex_quiet (v := ?_) rfl rfl (by rfl) ?_ ?_; rotate_left; (intro W hW; go_simp); (try with_reducible rfl); simp only [Act.put, List.setIfInBounds_toArray, List.set]))
      refine lex_quiet (v := .string (strOf l)) rfl rfl (by rfl) (fun W hW => by have := S2.out W (below_step hb35 hW); go_simp) ?_
      simp only [Act.put, List.setIfInBounds_toArray, List.set]
      repeat (first | (refine lex_skip rfl (by rfl) ?_; simp only [Act.put, List.setIfInBounds_toArray, List.set]) | (refine lex_quiet (v := ?_) rfl rfl (by rfl) ?_ ?_; rotate_left; (intro W hW; go_simp); (try with_reducible rfl); simp only [Act.put, List.setIfInBounds_toArray, List.set]))
      refine lex_loud rfl rfl (by rfl) (fun K hK => ?_); go_wp2_with fail
      refine (tok_wakes _).mono ?_
      rintro e w6 ⟨rfl, hb6⟩
      go_wp2_with fail
      refine hK _ _ hb6 ?_
      clear hK K
      repeat (first | (refine lex_skip rfl (by rfl) ?_; simp only [Act.put, List.setIfInBounds_toArray, List.set]) | (refine lex_quiet (v := ?_) rfl rfl (by rfl) ?_ ?_; rotate_left; (intro W hW; go_simp); (try with_reducible rfl); simp only [Act.put, List.setIfInBounds_toArray, List.set]))
      refine lex_nil ?_
      have hb36 := below_step hb35 hb6
      have hlt := hB3.lt
      go_wp2_with fail
      go_ret
      exact ⟨rfl, HH.out ▸ hw3.trans (hb36.mono (Nat.le_of_lt hlt))⟩
end Go.Proofs.Ytlhemmlmhgjodaa
