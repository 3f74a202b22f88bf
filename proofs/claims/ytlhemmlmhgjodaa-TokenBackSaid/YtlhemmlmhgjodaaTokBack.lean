/- A token's bytes tell it: the walk of the law. -/
import Derived.Test.YtlhemmlmhgjodaaTokCame
import Derived.Test.YtlhemmlmhgjodaaGex
namespace Go.Proofs.Ytlhemmlmhgjodaa
open Go.RowKit

theorem tok_equalIn2 (s s' : ByteArray) (r r' u u' : Int) (W : World) : (Op.equalIn 10000 25 (.agg (tokC s r u)) (.agg (tokC s' r' u'))).run Try.prog W = .ok ((s.toList == s'.toList) && ((r == r') && (u == u'))) W := by
  unfold tokC
  cases h1 : (s.toList == s'.toList) <;> cases h2 : (r == r') <;> cases h3 : (u == u') <;> go_simp
theorem tok_eqB (t u : Tok) : (((strOf t.name).toList == (strOf u.name).toList) && ((t.role == u.role) && (t.til == u.til))) = decide (t = u) := by
  rw [strOf_toList, strOf_toList, Bool.eq_iff_iff]
  obtain ⟨a, b, c⟩ := t
  obtain ⟨a', b', c'⟩ := u
  simp
theorem below_ofdrew {w w' : World} (h : Below w.drew.heap.size w.drew w') : Below w.heap.size w w' := ⟨h.os, h.tape, h.output, h.size, h.block⟩
set_option maxHeartbeats 4000000 in
set_option maxRecDepth 100000 in
theorem tokenBack_any (ka : Option Addr) (kn kc : Nat) (k : List UInt8) (T U : Tok) (now : Int) (w : World) (hk : BytesAt w ka k) (hkl : k.length = kn) (hT : TokWf T) (hU : TokWf U) :
    Calls Try.prog 5 #[.slice ka kn kc, tokV T, tokV U, .int .i64 now] w (BoolP w true) := by
  have HK := Lib.hid hkl
  have hk0 := Lib.hid hk
  obtain ⟨H, hH⟩ : ∃ H, H = w.heap.size := ⟨_, rfl⟩
  have HH := Lib.hid hH
  have hB0 := (Blk.new w (tokC (strOf T.name) T.role T.til) 25).alloc (.cells (tokC (strOf U.name) U.role U.til) 25)
  have hC0 := Blk.new (w.alloc (.cells (tokC (strOf T.name) T.role T.til) 25)) (tokC (strOf U.name) U.role U.til) 25
  have hw0 := ((Below.refl w.heap.size w).alloc (Nat.le_refl _) (.cells (tokC (strOf T.name) T.role T.til) 25)).alloc (by simp) (.cells (tokC (strOf U.name) U.role U.til) 25)
  simp only [World.size_alloc] at hC0
  rw [← hH] at hB0 hw0 hC0
  have hm1 := fun W hh => make_any k ka kn kc T W hh HK.out hT
  have hm2 := fun W hh => make_any k ka kn kc U W hh HK.out hU
  have hy1 := fun W => may_any T hT W
  have etv : tokV T = .agg (tokC (strOf T.name) T.role T.til) := rfl
  have euv : tokV U = .agg (tokC (strOf U.name) U.role U.til) := rfl
  have heq := tok_eqB T U
  have htl := hT.t1
  have htl2 := hT.t2
  rw [etv] at hm1 hy1 ⊢
  rw [euv] at hm2 ⊢
  have HM1 := Lib.hid hm1
  have HM2 := Lib.hid hm2
  have HY1 := Lib.hid hy1
  have HEQ := Lib.hid heq
  have HTV := Lib.hid etv
  obtain ⟨s, hs⟩ : ∃ s, s = strOf T.name := ⟨_, rfl⟩
  obtain ⟨r, hr⟩ : ∃ r, r = T.role := ⟨_, rfl⟩
  obtain ⟨u, hu⟩ : ∃ u, u = T.til := ⟨_, rfl⟩
  obtain ⟨s', hs'⟩ : ∃ s, s = strOf U.name := ⟨_, rfl⟩
  obtain ⟨r', hr'⟩ : ∃ r, r = U.role := ⟨_, rfl⟩
  obtain ⟨u', hu'⟩ : ∃ u, u = U.til := ⟨_, rfl⟩
  rw [← hs, ← hr, ← hu] at HM1 HY1 hB0 HEQ HTV
  rw [← hs', ← hr', ← hu'] at HM2 HEQ
  rw [← hs', ← hr', ← hu'] at hB0
  rw [← hs, ← hr, ← hu, ← hs', ← hr', ← hu'] at hw0 hC0 ⊢
  rw [← hu] at htl htl2
  have hsz : s.size ≤ 140737488351232 := by rw [hs, strOf_size]; exact hT.size
  have hsz' : s'.size ≤ 140737488351232 := by rw [hs', strOf_size]; exact hU.size
  have HTU := Lib.hid hu
  clear hkl hk hH hm1 hm2 hy1 etv euv hs hr hu hs' hr' hu' hT hU heq
  obtain ⟨M, hM⟩ : ∃ M, M = tokMay T := ⟨_, rfl⟩
  rw [← hM] at HY1
  have HM := Lib.hid hM
  clear hM
  go_enter Try.func5, Try.ntmps5
  go_upto_region 1 with fail
  rw [← HH.out]
  refine wp_forget (fun W0 => Blk W0 H (tokC s r u) 25 ∧ Blk W0 (H + 1) (tokC s' r' u') 25 ∧ Below H w W0) ⟨hB0, hC0, hw0⟩ ?_
  clear hB0 hw0 hC0
  rintro w1 ⟨hB, hC, hw⟩
  have c0 : w1.cell? ⟨H, 0, none⟩ = some (.string s) := hB.cell rfl
  have c1 : w1.cell? ⟨H, 1, none⟩ = some (.int .i8 r) := hB.cell rfl
  have c2 : w1.cell? ⟨H, 2, none⟩ = some (.int .i64 u) := hB.cell rfl
  have d0 : w1.cell? ⟨H + 1, 0, none⟩ = some (.string s') := hC.cell rfl
  have hlt := hB.lt
  have hlw := hw.size
  go_cut [34] (fun v wx => v = .bool (decide (¬ (kn ≤ 300 ∧ M = true))) ∧ Blk wx H (tokC s r u) 25 ∧ Blk wx (H + 1) (tokC s' r' u') 25 ∧ Below H w wx ∨ v = .bool true ∧ Below H w wx)
  case first =>
    by_cases a1 : 300 < kn
    · have t1 : decide ((300 : Int) < (kn : Int)) = true := decide_eq_true (by omega)
      have t2 : decide (300 < kn) = true := decide_eq_true a1
      go_wp2_with fail
      go_meet
      exact .inr ⟨rfl, hw⟩
    · have t1 : decide ((300 : Int) < (kn : Int)) = false := decide_eq_false (by omega)
      have t2 : decide (300 < kn) = false := decide_eq_false a1
      by_cases a2 : 1000 < s.size
      · have t3 : decide ((1000 : Int) < (s.size : Int)) = true := decide_eq_true (by omega)
        have t4 : decide (1000 < s.size) = true := decide_eq_true a2
        go_wp2_with fail
        go_meet
        exact .inr ⟨rfl, hw⟩
      · have t3 : decide ((1000 : Int) < (s.size : Int)) = false := decide_eq_false (by omega)
        have t4 : decide (1000 < s.size) = false := decide_eq_false a2
        by_cases a3 : 1000 < s'.size
        · have t5 : decide ((1000 : Int) < (s'.size : Int)) = true := decide_eq_true (by omega)
          have t6 : decide (1000 < s'.size) = true := decide_eq_true a3
          go_wp2_with fail
          go_meet
          exact .inr ⟨rfl, hw⟩
        · have t5 : decide ((1000 : Int) < (s'.size : Int)) = false := decide_eq_false (by omega)
          have t6 : decide (1000 < s'.size) = false := decide_eq_false a3
          go_wp2_with fail
          refine (HY1.out _).mono ?_
          unfold BoolP
          rintro e w2 ⟨rfl, hb2⟩
          have hB2 := hB.old hb2
          have hC2 := hC.old hb2
          have hw2 := hw.trans (hb2.mono (Nat.le_of_lt hlt))
          go_wp2_with fail
          go_meet
          refine .inl ⟨congrArg Value.bool ?_, hB2, hC2, hw2⟩
          cases M with
          | false => simp
          | true => simp; omega
  case rest =>
    clear c0 c1 c2 d0 hB hC hw hlt hlw
    rcases hcut with ⟨rfl, hB, hC, hw⟩ | ⟨rfl, hw⟩
    · by_cases hg : kn ≤ 300 ∧ M = true
      · rw [decide_eq_false (by simpa using hg)]
        obtain ⟨hkn, rfl⟩ := hg
        have hmk := tokMake_may k T (by rw [HK.out]; omega) HM.out.symm
        have hck := tokCheck_make k T now (by rw [HK.out]; omega) HM.out.symm
        have HMK := Lib.hid hmk
        have HCK := Lib.hid hck
        clear hmk hck
        have hlt := hB.lt
        have hlw := hw.size
        go_wp2_with (refine wpList_load_blk rfl 25 aggTok _ rfl rfl hB rfl ?_)
        refine (HM1.out _ (hk0.out.below (HH.out ▸ hw))).mono ?_
        unfold MakP
        rintro e w2 ⟨a1, n1, cc1, l, er, rfl, hl, hll, hbl, hb2, hnc⟩
        rw [HMK.out] at hl
        obtain ⟨hl1, rfl⟩ := Prod.mk.inj hl
        have HL := Lib.hid hl1
        have HLL := Lib.hid hll
        have hB2 := hB.old hb2
        have hC2 := hC.old hb2
        have hw2 := hw.trans (hb2.mono (Nat.le_of_lt hlt))
        clear hl hl1 hll hB hC hw hb2 hlt hlw
        have hlt := hB2.lt
        go_wp2_with fail
        refine (check_any k l ka kn kc a1 n1 cc1 now _ (hk0.out.below (HH.out ▸ hw2)) HK.out hbl HLL.out hnc).mono ?_
        unfold ChkP
        rw [← HL.out, HCK.out]
        rw [← HTU.out]
        obtain ⟨cs, hcs⟩ : ∃ cs, cs = (if u < now then tokC ze 0 0 else tokC s r u) := ⟨_, rfl⟩
        obtain ⟨fe, hfe⟩ : ∃ fe : Int, fe = (if u < now then 91 else 0) := ⟨_, rfl⟩
        have hret : ∀ C : Tok × Int, C = (if u < now then (tok0, 91) else (T, 0)) → tokV C.1 = .agg cs ∧ C.2 = fe := by
          intro C hC
          subst hC
          by_cases hn : u < now
          · rw [if_pos hn, hcs, hfe, if_pos hn, if_pos hn]; exact ⟨rfl, rfl⟩
          · rw [if_neg hn, hcs, hfe, if_neg hn, if_neg hn]; exact ⟨HTV.out, rfl⟩
        obtain ⟨hr1, hr2⟩ := hret _ rfl
        rw [hr1, hr2]
        have hcs3 : cs.size = 3 := by rw [hcs]; split <;> rfl
        have hcs1 : cs.toList.all (·.oneCell') = true := by rw [hcs]; split <;> rfl
        clear hr1 hr2 hret
        have HCS := Lib.hid hcs
        have HFE := Lib.hid hfe
        clear hcs hfe
        rintro e w3 ⟨rfl, hb3⟩
        have hB3 := hB2.old hb3
        have hC3 := hC2.old hb3
        have hw3 := hw2.trans (hb3.mono (Nat.le_of_lt hlt))
        have hbl3 := hbl.below hb3
        clear hB2 hC2 hw2 hbl hb3 hlt
        have hlt := hB3.lt
        go_upto_region 5 with (refine wpList_store_blk rfl 25 aggTok (.tmp 11) _ (cells := cs) rfl rfl rfl (Blk.new _ _ _) hcs3 rfl hcs1 ?_)
        obtain ⟨G, hG⟩ : ∃ G, G = w3.heap.size := ⟨_, rfl⟩
        have hG0 := Blk.new w3 (tokC ze 0 0) 25
        have hbb := below_setRow ((Below.refl w3.heap.size w3).alloc (Nat.le_refl _) (.cells (tokC ze 0 0) 25)) (Nat.le_of_eq hG.symm) cs
        rw [← hG] at hG0 ⊢
        refine wp_forget (fun W0 => Blk W0 G cs 25 ∧ Blk W0 H (tokC s r u) 25 ∧ Blk W0 (H + 1) (tokC s' r' u') 25 ∧ Below H w W0 ∧ BytesAt W0 a1 l) ⟨hG0.setRow _, hB3.old hbb, hC3.old hbb, hw3.trans (hbb.mono (Nat.le_of_lt hlt)), hbl3.below hbb⟩ ?_
        clear hG0 hbb hG hB3 hC3 hw3 hbl3 hlt
        rintro w4 ⟨hG, hB, hC, hw, hbl⟩
        have hlt := hB.lt
        go_cut [80] (fun v wx => v = .bool false ∧ w4 = wx)
        case first =>
          have c0 : w4.cell? ⟨H, 0, none⟩ = some (.string s) := hB.cell rfl
          have c1 : w4.cell? ⟨H, 1, none⟩ = some (.int .i8 r) := hB.cell rfl
          have c2 : w4.cell? ⟨H, 2, none⟩ = some (.int .i64 u) := hB.cell rfl
          have hze : ze.toList = [] := strOf_toList []
          by_cases hn : u < now
          · have t1 : decide (u < now) = true := decide_eq_true hn
            have t2 : decide (now ≤ u) = false := decide_eq_false (by omega)
            have g0 : w4.cell? ⟨G, 0, none⟩ = some (.string ze) := hG.cell (by rw [HCS.out, if_pos hn]; rfl)
            have g1 : w4.cell? ⟨G, 1, none⟩ = some (.int .i8 0) := hG.cell (by rw [HCS.out, if_pos hn]; rfl)
            have g2 : w4.cell? ⟨G, 2, none⟩ = some (.int .i64 0) := hG.cell (by rw [HCS.out, if_pos hn]; rfl)
            obtain rfl : fe = 91 := by rw [HFE.out, if_pos hn]
            go_wp2_with fail
            go_meet
            exact ⟨rfl, rfl⟩
          · have t1 : decide (u < now) = false := decide_eq_false hn
            have t2 : decide (now ≤ u) = true := decide_eq_true (by omega)
            have g0 : w4.cell? ⟨G, 0, none⟩ = some (.string s) := hG.cell (by rw [HCS.out, if_neg hn]; rfl)
            have g1 : w4.cell? ⟨G, 1, none⟩ = some (.int .i8 r) := hG.cell (by rw [HCS.out, if_neg hn]; rfl)
            have g2 : w4.cell? ⟨G, 2, none⟩ = some (.int .i64 u) := hG.cell (by rw [HCS.out, if_neg hn]; rfl)
            obtain rfl : fe = 0 := by rw [HFE.out, if_neg hn]
            go_wp2_with fail
            go_meet
            exact ⟨rfl, rfl⟩
        case rest =>
          obtain ⟨rfl, rfl⟩ := hcut
          go_wp2_with (refine wpList_load_blk rfl 25 aggTok _ rfl rfl hC rfl ?_)
          refine (HM2.out _ (hk0.out.below (HH.out ▸ hw))).mono ?_
          unfold MakP
          rintro e w5 ⟨a2, n2, cc2, l2, er2, rfl, hl2, hll2, hbl2, hb5, hnc2⟩
          have hB5 := hB.old hb5
          have hC5 := hC.old hb5
          have hw5 := hw.trans (hb5.mono (Nat.le_of_lt hlt))
          have hbl5 := hbl.below hb5
          have HL2 := Lib.hid hl2
          have HLL2 := Lib.hid hll2
          clear hG hB hC hw hbl hb5 hlt hl2 hll2
          have hlt := hB5.lt
          go_upto_region 8 with fail
          by_cases hmu : tokMay U = true
          · have hmm := HL2.out
            rw [tokMake_may k U (by rw [HK.out]; omega) hmu] at hmm
            obtain ⟨hLu, rfl⟩ := Prod.mk.inj hmm
            have hD := tokB_inj k T U HM.out.symm hmu
            rw [HL.out, hLu] at hD
            have hsb : ((strOf l).toList == (strOf l2).toList) = decide (T = U) := by
              rw [strOf_toList, strOf_toList, Bool.eq_iff_iff]; simpa using hD
            obtain ⟨D, hDD⟩ : ∃ D, D = decide (T = U) := ⟨_, rfl⟩
            rw [← hDD] at hsb
            have HDD := Lib.hid hDD
            have S1 : Hid (∀ W, Old w5 W → (convert 22 9 (.slice a1 n1 cc1)).run Try.prog W = .ok (.string (strOf l)) W) := Lib.hid fun W hW => run_string_of W Try.underlying22 Try.underlying5 Try.underlying9 (hbl5.below hW) HLL.out
            have S2 : Hid (∀ W, Old w5 W → (convert 22 9 (.slice a2 n2 cc2)).run Try.prog W = .ok (.string (strOf l2)) W) := Lib.hid fun W hW => run_string_of W Try.underlying22 Try.underlying5 Try.underlying9 (hbl2.below hW) HLL2.out
            clear hmm hLu hD hDD hbl5 hbl2 hmu
            refine wp_region_old (0 :: 1 :: 2 :: 3 :: 4 :: 5 :: 6 :: 7 :: 8 :: 9 :: 10 :: 11 :: 12 :: 13 :: 14 :: 15 :: 16 :: []) (by kernel_rfl) (by kernel_rfl) (fun c a d v w h => by cases d <;> exact h) ?_
            repeat (first | (refine lex_skip rfl (by rfl) ?_; simp only [Act.put, List.setIfInBounds_toArray, List.set]) | (refine lex_quiet (v := ?_) rfl rfl (by rfl) ?_ ?_; rotate_left; (intro W hW; go_simp); (try with_reducible rfl); simp only [Act.put, List.setIfInBounds_toArray, List.set]))
            refine lex_quiet (v := .string (strOf l)) rfl rfl (by rfl) (fun W hW => by have := S1.out W (below_ofdrew hW); go_simp) ?_
            simp only [Act.put, List.setIfInBounds_toArray, List.set]
            repeat (first | (refine lex_skip rfl (by rfl) ?_; simp only [Act.put, List.setIfInBounds_toArray, List.set]) | (refine lex_quiet (v := ?_) rfl rfl (by rfl) ?_ ?_; rotate_left; (intro W hW; go_simp); (try with_reducible rfl); simp only [Act.put, List.setIfInBounds_toArray, List.set]))
            refine lex_quiet (v := .string (strOf l2)) rfl rfl (by rfl) (fun W hW => by have := S2.out W (below_ofdrew hW); go_simp) ?_
            simp only [Act.put, List.setIfInBounds_toArray, List.set]
            repeat (first | (refine lex_skip rfl (by rfl) ?_; simp only [Act.put, List.setIfInBounds_toArray, List.set]) | (refine lex_quiet (v := ?_) rfl rfl (by rfl) ?_ ?_; rotate_left; (intro W hW; go_simp); (try with_reducible rfl); simp only [Act.put, List.setIfInBounds_toArray, List.set]))
            refine lex_quiet (v := .agg (tokC s r u)) rfl rfl (by rfl) (fun W hW => exec_load_as 25 aggTok _ rfl rfl rfl (hB5.drew.old hW).cells rfl) ?_
            simp only [Act.put, List.setIfInBounds_toArray, List.set]
            refine lex_quiet (v := .agg (tokC s' r' u')) rfl rfl (by rfl) (fun W hW => exec_load_as 25 aggTok _ rfl rfl rfl (hC5.drew.old hW).cells rfl) ?_
            simp only [Act.put, List.setIfInBounds_toArray, List.set]
            refine lex_quiet (v := .bool D) rfl rfl (by rfl) (fun W hW => exec_cmp .eql 25 _ _ rfl rfl rfl (by kernel_rfl) (by rw [run_eql_struct, tok_equalIn2, HEQ.out, ← HDD.out]; rfl)) ?_
            simp only [Act.put, List.setIfInBounds_toArray, List.set]
            repeat (first | (refine lex_skip rfl (by rfl) ?_; simp only [Act.put, List.setIfInBounds_toArray, List.set]) | (refine lex_quiet (v := ?_) rfl rfl (by rfl) ?_ ?_; rotate_left; (intro W hW; go_simp); (try with_reducible rfl); simp only [Act.put, List.setIfInBounds_toArray, List.set]))
            refine lex_loud rfl rfl (by rfl) (fun K hK => ?_); go_wp2_with fail
            refine (tok_wakes _).mono ?_
            rintro e w6 ⟨rfl, hb6⟩
            go_wp2_with fail
            refine hK _ _ hb6 ?_
            clear hK K
            repeat (first | (refine lex_skip rfl (by rfl) ?_; simp only [Act.put, List.setIfInBounds_toArray, List.set]) | (refine lex_quiet (v := ?_) rfl rfl (by rfl) ?_ ?_; rotate_left; (intro W hW; go_simp); (try with_reducible rfl); simp only [Act.put, List.setIfInBounds_toArray, List.set]))
            refine lex_nil ?_
            go_wp2_with fail
            go_ret
            exact ⟨rfl, HH.out ▸ hw5.trans ((below_ofdrew hb6).mono (Nat.le_of_lt hlt))⟩
          · have hmm := HL2.out
            have her : er2 ≠ 0 := fun e => by
              rw [tokMake, if_neg (by rw [HK.out]; omega), if_neg hmu] at hmm
              have := (Prod.mk.inj hmm).2
              omega
            have hb1 : (er2 == 0) = false := by simpa using her
            have hb2 : (er2 != 0) = true := by simpa using her
            clear hmm hmu her
            refine wp_region_g (0 :: 1 :: 2 :: 3 :: 4 :: 5 :: 6 :: 7 :: 8 :: 9 :: 10 :: 11 :: 12 :: 13 :: 14 :: 15 :: 16 :: []) (by kernel_rfl) (by kernel_rfl) (fun c a d v w h => by cases d <;> exact h) ?_
            repeat (first | (refine gex_skip rfl (by rfl) ?_; simp only [Act.put, List.setIfInBounds_toArray, List.set]) | (refine gex_quiet (v := ?_) rfl rfl (by rfl) ?_ ?_; rotate_left; (intro W hW; go_simp); (try with_reducible rfl); simp only [Act.put, List.setIfInBounds_toArray, List.set]))
            refine gex_loud rfl rfl (by rfl) (fun K hK => ?_); go_wp2_with fail
            refine (tok_wakes _).mono ?_
            rintro e w6 ⟨rfl, hb6⟩
            go_wp2_with fail
            refine hK _ _ hb6 ?_
            clear hK K
            repeat (first | (refine gex_skip rfl (by rfl) ?_; simp only [Act.put, List.setIfInBounds_toArray, List.set]) | (refine gex_quiet (v := ?_) rfl rfl (by rfl) ?_ ?_; rotate_left; (intro W hW; go_simp); (try with_reducible rfl); simp only [Act.put, List.setIfInBounds_toArray, List.set]))
            refine gex_nil ?_
            go_wp2_with fail
            go_ret
            exact ⟨rfl, HH.out ▸ hw5.trans ((below_ofdrew hb6).mono (Nat.le_of_lt hlt))⟩
      · rw [decide_eq_true hg]
        go_wp2_with fail
        refine (tok_wakes _).mono ?_
        rintro e w2 ⟨rfl, hb2⟩
        go_wp2_with fail
        go_ret
        exact ⟨rfl, HH.out ▸ hw.trans (hb2.mono (Nat.le_of_lt hB.lt))⟩
    · go_wp2_with fail
      refine (tok_wakes _).mono ?_
      rintro e w2 ⟨rfl, hb2⟩
      go_wp2_with fail
      go_ret
      exact ⟨rfl, HH.out ▸ hw.trans (hb2.mono (by rw [HH.out]; exact hw.size))⟩
end Go.Proofs.Ytlhemmlmhgjodaa
