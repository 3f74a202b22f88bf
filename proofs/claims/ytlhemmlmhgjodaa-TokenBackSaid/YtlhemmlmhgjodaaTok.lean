/- Tokens: which may be, walked. -/
import Derived.Test.YtlhemmlmhgjodaaTokPlain
import Derived.Laws.StructEq
namespace Go.Proofs.Ytlhemmlmhgjodaa
open Go.RowKit

/-- A token whose numbers are of their kinds. -/
structure TokWf (t : Tok) : Prop where
  size : t.name.length ≤ 140737488351232
  r1 : -128 ≤ t.role
  r2 : t.role ≤ 127
  t1 : -9223372036854775808 ≤ t.til
  t2 : t.til ≤ 9223372036854775807
def BoolP (w : World) (b : Bool) (e : Ending) (w' : World) : Prop := e = .returned (.bool b) ∧ Below w.heap.size w w'
theorem tokMay_false (t : Tok) (h : ¬ (1 ≤ t.name.length ∧ t.name.length ≤ 40 ∧ 0 ≤ t.role ∧ t.role ≤ 2 ∧ 0 ≤ t.til ∧ t.til ≤ 9007199254740992)) : tokMay t = false := decide_eq_false h
theorem tokMay_true (t : Tok) (h : 1 ≤ t.name.length ∧ t.name.length ≤ 40 ∧ 0 ≤ t.role ∧ t.role ≤ 2 ∧ 0 ≤ t.til ∧ t.til ≤ 9007199254740992) : tokMay t = true := decide_eq_true h
set_option maxHeartbeats 4000000 in
set_option maxRecDepth 40000 in
theorem may_any (t : Tok) (hw : TokWf t) (w : World) : Calls Try.prog 9 #[tokV t] w (BoolP w (tokMay t)) := by
  obtain ⟨h0, h1, h2, h3, h4⟩ := hw
  obtain ⟨M, hM⟩ : ∃ M, M = tokMay t := ⟨_, rfl⟩
  rw [← hM]
  have HM := Lib.hid hM
  clear hM
  obtain ⟨name, role, til⟩ := t
  obtain ⟨s, hs⟩ : ∃ s, s = strOf name := ⟨_, rfl⟩
  have hsz : s.size = name.length := by rw [hs, strOf_size]
  have htl : s.toList = name := by rw [hs, strOf_toList]
  unfold tokV
  simp only at h0 h1 h2 h3 h4 ⊢
  rw [← hs]
  have HB := Lib.hid ((Below.refl w.heap.size w).alloc (Nat.le_refl _) (.cells #[.string s, .int .i8 role, .int .i64 til] 25))
  have hem : s.size = 0 ↔ s.toList = [] := by rw [htl, hsz]; exact List.length_eq_zero_iff
  have HT := Lib.hid hem
  clear hs htl hem
  rw [← hsz] at h0
  have HMay := fun h => HM.out.trans (tokMay_true ⟨name, role, til⟩ h)
  have HNot := fun h => HM.out.trans (tokMay_false ⟨name, role, til⟩ h)
  simp only at HMay HNot
  rw [← hsz] at HMay HNot
  have HMAY := Lib.hid HMay
  have HNOT := Lib.hid HNot
  clear hsz HMay HNot
  by_cases c1 : s.size = 0
  · have e1 : s.toList = [] := HT.out.1 c1
    have e2 : (s.toList == []) = true := by rw [e1]; rfl
    have e3 : s.toList.isEmpty = true := by rw [e1]; rfl
    have e4 : decide ((1 : Int) ≤ (s.size : Int)) = false := decide_eq_false (by omega)
    have e5 : decide (1 ≤ s.size) = false := decide_eq_false (by omega)
    have hm := HNOT.out (by omega)
    have HM3 := Lib.hid hm
    clear hm
    go_enter Try.func9, Try.ntmps9
    go_wp2_with fail
    go_ret
    exact ⟨by rw [HM3.out]; rfl, HB.out⟩
  · have e1 : s.toList ≠ [] := fun e => c1 (HT.out.2 e)
    have e2 : (s.toList == []) = false := by simpa using e1
    have e3 : s.toList.isEmpty = false := by simpa using e1
    have e4 : decide ((1 : Int) ≤ (s.size : Int)) = true := decide_eq_true (by omega)
    have e5 : decide (1 ≤ s.size) = true := decide_eq_true (by omega)
    by_cases c2 : 40 < s.size
    · have f1 : decide ((40 : Int) < (s.size : Int)) = true := decide_eq_true (by omega)
      have f2 : decide (40 < s.size) = true := decide_eq_true (by omega)
      have f3 : decide ((s.size : Int) ≤ 40) = false := decide_eq_false (by omega)
      have f4 : decide (s.size ≤ 40) = false := decide_eq_false (by omega)
      have hm := HNOT.out (by omega)
      have HM3 := Lib.hid hm
      clear hm
      go_enter Try.func9, Try.ntmps9
      go_wp2_with fail
      go_ret
      exact ⟨by rw [HM3.out]; rfl, HB.out⟩
    · have f1 : decide ((40 : Int) < (s.size : Int)) = false := decide_eq_false (by omega)
      have f2 : decide (40 < s.size) = false := decide_eq_false (by omega)
      have f3 : decide ((s.size : Int) ≤ 40) = true := decide_eq_true (by omega)
      have f4 : decide (s.size ≤ 40) = true := decide_eq_true (by omega)
      by_cases c3 : role < 0
      · have g1 : decide (role < 0) = true := decide_eq_true (by omega)
        have g2 : decide (0 ≤ role) = false := decide_eq_false (by omega)
        have hm := HNOT.out (by omega)
        have HM3 := Lib.hid hm
        clear hm
        go_enter Try.func9, Try.ntmps9
        go_wp2_with fail
        go_ret
        exact ⟨by rw [HM3.out]; rfl, HB.out⟩
      · have g1 : decide (role < 0) = false := decide_eq_false (by omega)
        have g2 : decide (0 ≤ role) = true := decide_eq_true (by omega)
        by_cases c4 : 2 < role
        · have k1 : decide (2 < role) = true := decide_eq_true (by omega)
          have k2 : decide (role ≤ 2) = false := decide_eq_false (by omega)
          have hm := HNOT.out (by omega)
          have HM3 := Lib.hid hm
          clear hm
          go_enter Try.func9, Try.ntmps9
          go_wp2_with fail
          go_ret
          exact ⟨by rw [HM3.out]; rfl, HB.out⟩
        · have k1 : decide (2 < role) = false := decide_eq_false (by omega)
          have k2 : decide (role ≤ 2) = true := decide_eq_true (by omega)
          by_cases c5 : til < 0
          · have l1 : decide (0 ≤ til) = false := decide_eq_false (by omega)
            have hm := HNOT.out (by omega)
            have HM3 := Lib.hid hm
            clear hm
            go_enter Try.func9, Try.ntmps9
            go_wp2_with fail
            go_ret
            exact ⟨by rw [HM3.out]; rfl, HB.out⟩
          · have l1 : decide (0 ≤ til) = true := decide_eq_true (by omega)
            by_cases c6 : 9007199254740992 < til
            · have m1 : decide (til ≤ 9007199254740992) = false := decide_eq_false (by omega)
              have hm := HNOT.out (by omega)
              have HM3 := Lib.hid hm
              clear hm
              go_enter Try.func9, Try.ntmps9
              go_wp2_with fail
              go_ret
              exact ⟨by rw [HM3.out]; rfl, HB.out⟩
            · have m1 : decide (til ≤ 9007199254740992) = true := decide_eq_true (by omega)
              have hm := HMAY.out (by omega)
              have HM3 := Lib.hid hm
              clear hm
              go_enter Try.func9, Try.ntmps9
              go_wp2_with fail
              go_ret
              exact ⟨by rw [HM3.out]; rfl, HB.out⟩
set_option maxHeartbeats 4000000 in
set_option maxRecDepth 40000 in
theorem rmay_any (t : Tok) (hw : TokWf t) (w : World) : Calls Try.prog 10 #[tokV t] w (BoolP w (tokMay t)) := by
  obtain ⟨h0, h1, h2, h3, h4⟩ := hw
  obtain ⟨M, hM⟩ : ∃ M, M = tokMay t := ⟨_, rfl⟩
  rw [← hM]
  have HM := Lib.hid hM
  clear hM
  obtain ⟨name, role, til⟩ := t
  obtain ⟨s, hs⟩ : ∃ s, s = strOf name := ⟨_, rfl⟩
  have hsz : s.size = name.length := by rw [hs, strOf_size]
  have htl : s.toList = name := by rw [hs, strOf_toList]
  unfold tokV
  simp only at h0 h1 h2 h3 h4 ⊢
  rw [← hs]
  have HB := Lib.hid ((Below.refl w.heap.size w).alloc (Nat.le_refl _) (.cells #[.string s, .int .i8 role, .int .i64 til] 25))
  have hem : s.size = 0 ↔ s.toList = [] := by rw [htl, hsz]; exact List.length_eq_zero_iff
  have HT := Lib.hid hem
  clear hs htl hem
  rw [← hsz] at h0
  have HMay := fun h => HM.out.trans (tokMay_true ⟨name, role, til⟩ h)
  have HNot := fun h => HM.out.trans (tokMay_false ⟨name, role, til⟩ h)
  simp only at HMay HNot
  rw [← hsz] at HMay HNot
  have HMAY := Lib.hid HMay
  have HNOT := Lib.hid HNot
  clear hsz HMay HNot
  by_cases c1 : s.size = 0
  · have e1 : s.toList = [] := HT.out.1 c1
    have e2 : (s.toList == []) = true := by rw [e1]; rfl
    have e3 : s.toList.isEmpty = true := by rw [e1]; rfl
    have e4 : decide ((1 : Int) ≤ (s.size : Int)) = false := decide_eq_false (by omega)
    have e5 : decide (1 ≤ s.size) = false := decide_eq_false (by omega)
    have hm := HNOT.out (by omega)
    have HM3 := Lib.hid hm
    clear hm
    go_enter Try.func10, Try.ntmps10
    go_wp2_with fail
    go_ret
    exact ⟨by rw [HM3.out]; rfl, HB.out⟩
  · have e1 : s.toList ≠ [] := fun e => c1 (HT.out.2 e)
    have e2 : (s.toList == []) = false := by simpa using e1
    have e3 : s.toList.isEmpty = false := by simpa using e1
    have e4 : decide ((1 : Int) ≤ (s.size : Int)) = true := decide_eq_true (by omega)
    have e5 : decide (1 ≤ s.size) = true := decide_eq_true (by omega)
    by_cases c2 : 40 < s.size
    · have f1 : decide ((40 : Int) < (s.size : Int)) = true := decide_eq_true (by omega)
      have f2 : decide (40 < s.size) = true := decide_eq_true (by omega)
      have f3 : decide ((s.size : Int) ≤ 40) = false := decide_eq_false (by omega)
      have f4 : decide (s.size ≤ 40) = false := decide_eq_false (by omega)
      have hm := HNOT.out (by omega)
      have HM3 := Lib.hid hm
      clear hm
      go_enter Try.func10, Try.ntmps10
      go_wp2_with fail
      go_ret
      exact ⟨by rw [HM3.out]; rfl, HB.out⟩
    · have f1 : decide ((40 : Int) < (s.size : Int)) = false := decide_eq_false (by omega)
      have f2 : decide (40 < s.size) = false := decide_eq_false (by omega)
      have f3 : decide ((s.size : Int) ≤ 40) = true := decide_eq_true (by omega)
      have f4 : decide (s.size ≤ 40) = true := decide_eq_true (by omega)
      by_cases c3 : role < 0
      · have g1 : decide (role < 0) = true := decide_eq_true (by omega)
        have g2 : decide (0 ≤ role) = false := decide_eq_false (by omega)
        have hm := HNOT.out (by omega)
        have HM3 := Lib.hid hm
        clear hm
        go_enter Try.func10, Try.ntmps10
        go_wp2_with fail
        go_ret
        exact ⟨by rw [HM3.out]; rfl, HB.out⟩
      · have g1 : decide (role < 0) = false := decide_eq_false (by omega)
        have g2 : decide (0 ≤ role) = true := decide_eq_true (by omega)
        by_cases c4 : 2 < role
        · have k1 : decide (2 < role) = true := decide_eq_true (by omega)
          have k2 : decide (role ≤ 2) = false := decide_eq_false (by omega)
          have hm := HNOT.out (by omega)
          have HM3 := Lib.hid hm
          clear hm
          go_enter Try.func10, Try.ntmps10
          go_wp2_with fail
          go_ret
          exact ⟨by rw [HM3.out]; rfl, HB.out⟩
        · have k1 : decide (2 < role) = false := decide_eq_false (by omega)
          have k2 : decide (role ≤ 2) = true := decide_eq_true (by omega)
          by_cases c5 : til < 0
          · have l1 : decide (0 ≤ til) = false := decide_eq_false (by omega)
            have hm := HNOT.out (by omega)
            have HM3 := Lib.hid hm
            clear hm
            go_enter Try.func10, Try.ntmps10
            go_wp2_with fail
            go_ret
            exact ⟨by rw [HM3.out]; rfl, HB.out⟩
          · have l1 : decide (0 ≤ til) = true := decide_eq_true (by omega)
            by_cases c6 : 9007199254740992 < til
            · have m1 : decide (til ≤ 9007199254740992) = false := decide_eq_false (by omega)
              have hm := HNOT.out (by omega)
              have HM3 := Lib.hid hm
              clear hm
              go_enter Try.func10, Try.ntmps10
              go_wp2_with fail
              go_ret
              exact ⟨by rw [HM3.out]; rfl, HB.out⟩
            · have m1 : decide (til ≤ 9007199254740992) = true := decide_eq_true (by omega)
              have hm := HMAY.out (by omega)
              have HM3 := Lib.hid hm
              clear hm
              go_enter Try.func10, Try.ntmps10
              go_wp2_with fail
              go_ret
              exact ⟨by rw [HM3.out]; rfl, HB.out⟩
end Go.Proofs.Ytlhemmlmhgjodaa
