/- The walks through package view and the document's answer: events. -/
import Derived.Test.YtdokkhjgmhcpkaaState
import Derived.Test.YtdokkhjgmhcpkaaPieces
import Derived.Test.YtdokkhjgmhcpkaaLex
import Derived.WalkMore
namespace Go.Proofs.Ytdokkhjgmhcpkaa
open Go.RowKit

theorem intsT : RowType Try.prog 23 3 1 8 := RowType.mk (z := .int .i64 0) Try.underlying23 (by kernel_rfl) rfl (by omega)
theorem ints_one (l : List Int) : ∀ u ∈ l.map (Value.int .i64), u.oneCell' = true := ints_oneCell .i64 l

theorem wf_len {w : World} {s : Sl} {l : List Int} (h : Ints w s l) : wf64 (l.length : Int) := by
  have h1 := h.2.1
  have h2 := h.2.2.2.2.1
  have h3 : (l.length : Int) ≤ 17592186044000 := by omega
  simp only [wf64, Lit.wf, IntKind.min, IntKind.max, IntKind.signed, IntKind.bits]
  simp
  omega
theorem IntRow.cell {w : World} {a : Option Addr} {n c : Nat} {l : List Int} (h : IntRow w a n c l) (k : Nat) (hk : k < l.length) : ∃ b o, a = some ⟨b, o, none⟩ ∧ w.cell? ⟨b, o + k, none⟩ = some (.int .i64 l[k]) := by
  obtain ⟨b, o, e, hc⟩ := h.1 k (by simpa using hk)
  exact ⟨b, o, e, by simpa using hc⟩

def SameRowRel (w : World) (l m : List Int) (n : Nat) (f : Nat) (i : Value) (w' : World) : Prop :=
  ∃ k : Nat, k + f = n ∧ i = .int .i64 (k : Int) ∧ l.take k = m.take k ∧ Below w.heap.size w w'
set_option maxHeartbeats 1000000 in
theorem same_row_any (a b : Option Addr) (n c n' c' : Nat) (l m : List Int) (w : World) (hl : IntRow w a n c l) (hm : IntRow w b n' c' m) :
    Calls Try.prog 23 #[.slice a n c, .slice b n' c'] w fun e w' => e = .returned (.bool (decide (l = m))) ∧ Below w.heap.size w w' := by
  have HL := Lib.hid hl.2.1
  have HM := Lib.hid hm.2.1
  have hsm := hl.2.2.2.2.1
  by_cases hnn : n = n'
  · subst hnn
    go_enter Try.func23, Try.ntmps23
    go_wp2_with fail
    go_loopg [5] n (SameRowRel w l m n)
    case atStart => exact ⟨0, Nat.zero_add _, rfl, rfl, Below.refl _ _⟩
    case round =>
      obtain ⟨k, hk, rfl, heq, hbw⟩ := hrel
      have HQ := Lib.hid heq
      clear heq
      by_cases hlt : k < n
      · have t0 : decide ((k : Int) < (n : Int)) = true := by simp; omega
        have hkl : k < l.length := by rw [HL.out]; exact hlt
        have hkm : k < m.length := by rw [HM.out]; exact hlt
        obtain ⟨b1, o1, rfl, hc1⟩ := hl.cell k hkl
        obtain ⟨b2, o2, rfl, hc2⟩ := hm.cell k hkm
        have L1 : ∀ W, Old wr.drew W → W.cell? ⟨b1, o1 + k, none⟩ = some (.int .i64 l[k]) := fun W h => by
          rw [(below_step (below_step hbw (Below.refl _ _).drew) h).cell (World.block_lt_of_cell? w _ hc1)]; exact hc1
        have L2 : ∀ W, Old wr.drew W → W.cell? ⟨b2, o2 + k, none⟩ = some (.int .i64 m[k]) := fun W h => by
          rw [(below_step (below_step hbw (Below.refl _ _).drew) h).cell (World.block_lt_of_cell? w _ hc2)]; exact hc2
        clear hc1 hc2
        have h1 := List.take_succ_eq_append_getElem hkl
        have h2 := List.take_succ_eq_append_getElem hkm
        have H1 := Lib.hid h1
        have H2 := Lib.hid h2
        have hdiff : l[k] ≠ m[k] → l ≠ m := fun h e => h (by subst e; rfl)
        have HD := Lib.hid hdiff
        clear h1 h2 hdiff
        generalize l[k] = x at *
        generalize m[k] = y at *
        by_cases hxy : x = y
        · subst hxy
          go_wp2_with fail
          refine wp_region_old (0 :: 1 :: 2 :: 3 :: 4 :: 5 :: 6 :: 7 :: 8 :: []) (by kernel_rfl) (by kernel_rfl) (fun c a d v w h => by cases d <;> exact h) ?_
          repeat (first | (refine lex_skip rfl (by rfl) ?_; simp only [Act.put, List.setIfInBounds_toArray, List.set]) | (refine lex_quiet (v := ?_) rfl rfl (by rfl) ?_ ?_; rotate_left; (intro W hW; go_simp); (try with_reducible rfl); simp only [Act.put, List.setIfInBounds_toArray, List.set]))
          refine lex_nil ?_
          go_wp2_with fail
          go_roundg (gk - 1)
          case measure => omega
          case rel => exact ⟨k + 1, by omega, by go_num, by rw [H1.out, H2.out, HQ.out], below_step hbw (Below.refl _ _).drew⟩
        · have t1 : (x != y) = true := by simpa using hxy
          have hne := HD.out hxy
          have HN := Lib.hid hne
          have HX := Lib.hid hxy
          clear hne hxy
          go_wp2_with fail
          refine wp_region_old (0 :: 1 :: 2 :: 3 :: 4 :: 5 :: 6 :: 7 :: 8 :: []) (by kernel_rfl) (by kernel_rfl) (fun c a d v w h => by cases d <;> exact h) ?_
          repeat (first | (refine lex_skip rfl (by rfl) ?_; simp only [Act.put, List.setIfInBounds_toArray, List.set]) | (refine lex_quiet (v := ?_) rfl rfl (by rfl) ?_ ?_; rotate_left; (intro W hW; go_simp); (try with_reducible rfl); simp only [Act.put, List.setIfInBounds_toArray, List.set]))
          refine lex_nil ?_
          go_wp2_with fail
          go_ret
          exact ⟨by rw [decide_eq_false HN.out]; rfl, below_step hbw (Below.refl _ _).drew⟩
      · have t0 : decide ((k : Int) < (n : Int)) = false := by simp; omega
        go_wp2_with fail
        go_ret
        have e1 : l.take k = l := List.take_of_length_le (by rw [HL.out]; omega)
        have e2 : m.take k = m := List.take_of_length_le (by rw [HM.out]; omega)
        have := HQ.out
        rw [e1, e2] at this
        exact ⟨by rw [decide_eq_true this]; rfl, hbw⟩
  · have hne : l ≠ m := fun e => hnn (by rw [← HL.out, ← HM.out, e])
    have t0 : ((n : Int) != (n' : Int)) = true := by simp; omega
    go_enter Try.func23, Try.ntmps23
    go_wp2_with fail
    go_ret
    exact ⟨by rw [decide_eq_false hne]; rfl, Below.refl _ _⟩

end Go.Proofs.Ytdokkhjgmhcpkaa
