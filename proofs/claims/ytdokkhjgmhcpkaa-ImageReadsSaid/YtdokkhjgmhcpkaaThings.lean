/- Lists of things: copies, and whether they are the same. -/
import Derived.Test.YtdokkhjgmhcpkaaView
namespace Go.Proofs.Ytdokkhjgmhcpkaa
open Go.RowKit

theorem thingT : AggT Try.prog 91 4 := ⟨⟨_, Try.underlying91, rfl⟩, by kernel_rfl⟩
theorem thingsT : RowType Try.prog 24 91 4 32 := RowType.mk (z := .agg #[.int .i64 0, .int .i64 0, .int .i64 0, .bool false]) Try.underlying24 (by kernel_rfl) rfl (by omega)
def thingVal (x : ThingL) : Value := .agg #[.int .i64 x.id, .int .i64 x.card, .int .i64 x.harm, .bool x.tired]
theorem things_length (l : List ThingL) : (l.flatMap ThingL.cells).length = l.length * 4 := by
  induction l with
  | nil => rfl
  | cons x l ih => rw [List.flatMap_cons, List.length_append, ih, List.length_cons]; show 4 + _ = _; omega
theorem things_one (l : List ThingL) : ∀ u ∈ l.flatMap ThingL.cells, u.oneCell' = true := by
  intro u hu
  obtain ⟨x, _, hx⟩ := List.mem_flatMap.1 hu
  simp only [ThingL.cells, List.mem_cons, List.mem_nil_iff, or_false] at hx
  rcases hx with rfl | rfl | rfl | rfl <;> rfl
theorem ThingRow.elem {w : World} {a : Option Addr} {n c : Nat} {l : List ThingL} (h : ThingRow w a n c l) (k : Nat) (hk : k < l.length) :
    ∃ b o, a = some ⟨b, o, none⟩ ∧ b < w.heap.size ∧ ∀ j (hj : j < l[k].cells.length), w.cell? ⟨b, o + k * 4 + j, none⟩ = some l[k].cells[j] :=
  RowAt.elem (g := ThingL.cells) (sz := 4) (fun _ => rfl) h.1 (by omega) k hk

theorem neq_thing (x y : ThingL) (w : World) : (binOp .neq 91 (thingVal x) (thingVal y)).run Try.prog w = .ok (.bool (!decide (x = y))) w := by
  obtain ⟨i, c, h, t⟩ := x
  obtain ⟨i', c', h', t'⟩ := y
  have e : (decide ((⟨i, c, h, t⟩ : ThingL) = ⟨i', c', h', t'⟩)) = ((i == i') && (c == c') && (h == h') && (t == t')) := by
    rw [Bool.eq_iff_iff]; simp [and_assoc]
  rw [e]
  have m1 : Try.prog.eqGuardType Try.prog.depth 91 = false := by kernel_rfl
  have m2 : Try.prog.stoodInHeld 91 = false := by kernel_rfl
  unfold thingVal
  dsimp only
  rcases chain4 (i == i') (c == c') (h == h') (t == t') with t0 | ⟨t0, t1⟩ | ⟨t0, t1, t2⟩ | ⟨t0, t1, t2, t3⟩ | ⟨t0, t1, t2, t3⟩
  all_goals
    go_simp
def SameThRel (w : World) (l m : List ThingL) (n : Nat) (f : Nat) (i : Value) (w' : World) : Prop :=
  ∃ k : Nat, k + f = n ∧ i = .int .i64 (k : Int) ∧ l.take k = m.take k ∧ Below w.heap.size w w'
set_option maxHeartbeats 1000000 in
theorem sameThings_any (a b : Option Addr) (n c n' c' : Nat) (l m : List ThingL) (w : World) (hl : ThingRow w a n c l) (hm : ThingRow w b n' c' m) :
    Calls Try.prog 24 #[.slice a n c, .slice b n' c'] w fun e w' => e = .returned (.bool (decide (l = m))) ∧ Below w.heap.size w w' := by
  have HL := Lib.hid hl.2.1
  have HM := Lib.hid hm.2.1
  have hsm := hl.2.2.2.2.1
  by_cases hnn : n = n'
  · subst hnn
    go_enter Try.func24, Try.ntmps24
    go_wp2_with fail
    go_loopg [5] n (SameThRel w l m n)
    case atStart => exact ⟨0, Nat.zero_add _, rfl, rfl, Below.refl _ _⟩
    case round =>
      obtain ⟨k, hk, rfl, heq, hbw⟩ := hrel
      have hwz := hbw.size
      have HQ := Lib.hid heq
      clear heq
      by_cases hlt : k < n
      · have t0 : decide ((k : Int) < (n : Int)) = true := by simp; omega
        have hkl : k < l.length := by rw [HL.out]; exact hlt
        have hkm : k < m.length := by rw [HM.out]; exact hlt
        obtain ⟨b1, o1, rfl, hbl1, hc1⟩ := hl.elem k hkl
        obtain ⟨b2, o2, rfl, hbl2, hc2⟩ := hm.elem k hkm
        have L1 : ∀ W, Old wr.drew W → ∀ j (hj : j < l[k].cells.length), W.cell? ⟨b1, o1 + k * 4 + j, none⟩ = some l[k].cells[j] := fun W h j hj => by
          rw [(below_step (below_step hbw (Below.refl _ _).drew) h).cell (show b1 < w.heap.size from hbl1)]; exact hc1 j hj
        have L2 : ∀ W, Old wr.drew W → ∀ j (hj : j < m[k].cells.length), W.cell? ⟨b2, o2 + k * 4 + j, none⟩ = some m[k].cells[j] := fun W h j hj => by
          rw [(below_step (below_step hbw (Below.refl _ _).drew) h).cell (show b2 < w.heap.size from hbl2)]; exact hc2 j hj
        clear hc1 hc2
        have H1 := Lib.hid (List.take_succ_eq_append_getElem hkl)
        have H2 := Lib.hid (List.take_succ_eq_append_getElem hkm)
        have HD := Lib.hid (show l[k] ≠ m[k] → l ≠ m from fun h e => h (by subst e; rfl))
        generalize l[k] = x at *
        generalize m[k] = y at *
        have hq := fun W => neq_thing x y W
        have HL1 := Lib.hid L1
        have HL2 := Lib.hid L2
        clear L1 L2
        by_cases hxy : x = y
        · rw [decide_eq_true hxy] at hq
          have HX := Lib.hid hxy
          clear hxy
          go_wp2_with fail
          refine wp_region_old (0 :: 1 :: 2 :: 3 :: 4 :: 5 :: 6 :: 7 :: 8 :: []) (by kernel_rfl) (by kernel_rfl) (fun c a d v w h => by cases d <;> exact h) ?_
          repeat (first | (refine lex_skip rfl (by rfl) ?_; simp only [Act.put, List.setIfInBounds_toArray, List.set]) | (refine lex_quiet (v := ?_) rfl rfl (by rfl) ?_ ?_; rotate_left; (intro W hW; go_simp); (try with_reducible rfl); simp only [Act.put, List.setIfInBounds_toArray, List.set]))
          refine lex_quiet (v := thingVal x) rfl rfl (by rfl) (fun W hW => exec_load_as 91 thingT (.tmp 19) rfl rfl rfl (HL1.out W hW) rfl) ?_
          simp only [Act.put, List.setIfInBounds_toArray, List.set]
          repeat (first | (refine lex_skip rfl (by rfl) ?_; simp only [Act.put, List.setIfInBounds_toArray, List.set]) | (refine lex_quiet (v := ?_) rfl rfl (by rfl) ?_ ?_; rotate_left; (intro W hW; go_simp); (try with_reducible rfl); simp only [Act.put, List.setIfInBounds_toArray, List.set]))
          refine lex_quiet (v := thingVal y) rfl rfl (by rfl) (fun W hW => exec_load_as 91 thingT (.tmp 23) rfl rfl rfl (HL2.out W hW) rfl) ?_
          simp only [Act.put, List.setIfInBounds_toArray, List.set]
          refine lex_quiet (v := .bool (!true)) rfl rfl (by rfl) (fun W hW => exec_cmp .neq 91 (.tmp 20) (.tmp 24) rfl rfl rfl (by kernel_rfl) (hq W)) ?_
          simp only [Act.put, List.setIfInBounds_toArray, List.set]
          refine lex_nil ?_
          go_wp2_with fail
          go_roundg (gk - 1)
          case measure => omega
          case rel => exact ⟨k + 1, by omega, by go_num, by rw [H1.out, H2.out, HQ.out, HX.out], below_step hbw (Below.refl _ _).drew⟩
        · rw [decide_eq_false hxy] at hq
          have hne := HD.out hxy
          have HN := Lib.hid hne
          clear hne hxy
          go_wp2_with fail
          refine wp_region_old (0 :: 1 :: 2 :: 3 :: 4 :: 5 :: 6 :: 7 :: 8 :: []) (by kernel_rfl) (by kernel_rfl) (fun c a d v w h => by cases d <;> exact h) ?_
          repeat (first | (refine lex_skip rfl (by rfl) ?_; simp only [Act.put, List.setIfInBounds_toArray, List.set]) | (refine lex_quiet (v := ?_) rfl rfl (by rfl) ?_ ?_; rotate_left; (intro W hW; go_simp); (try with_reducible rfl); simp only [Act.put, List.setIfInBounds_toArray, List.set]))
          refine lex_quiet (v := thingVal x) rfl rfl (by rfl) (fun W hW => exec_load_as 91 thingT (.tmp 19) rfl rfl rfl (HL1.out W hW) rfl) ?_
          simp only [Act.put, List.setIfInBounds_toArray, List.set]
          repeat (first | (refine lex_skip rfl (by rfl) ?_; simp only [Act.put, List.setIfInBounds_toArray, List.set]) | (refine lex_quiet (v := ?_) rfl rfl (by rfl) ?_ ?_; rotate_left; (intro W hW; go_simp); (try with_reducible rfl); simp only [Act.put, List.setIfInBounds_toArray, List.set]))
          refine lex_quiet (v := thingVal y) rfl rfl (by rfl) (fun W hW => exec_load_as 91 thingT (.tmp 23) rfl rfl rfl (HL2.out W hW) rfl) ?_
          simp only [Act.put, List.setIfInBounds_toArray, List.set]
          refine lex_quiet (v := .bool (!false)) rfl rfl (by rfl) (fun W hW => exec_cmp .neq 91 (.tmp 20) (.tmp 24) rfl rfl rfl (by kernel_rfl) (hq W)) ?_
          simp only [Act.put, List.setIfInBounds_toArray, List.set]
          refine lex_nil ?_
          go_wp2_with fail
          go_ret
          exact ⟨by rw [decide_eq_false HN.out]; rfl, below_step hbw (Below.refl _ _).drew⟩
      · have t0 : decide ((k : Int) < (n : Int)) = false := by simp; omega
        go_wp2_with fail
        go_ret
        have e1 : l.take k = l := List.take_of_length_le (by rw [HL.out]; omega)
        have e2 : m.take k = m := List.take_of_length_le (by rw [HM.out]; omega)
        have := HQ.out
        rw [e1, e2] at this
        exact ⟨by rw [decide_eq_true this]; rfl, hbw⟩
  · have hne : l ≠ m := fun e => hnn (by rw [← HL.out, ← HM.out, e])
    have t0 : ((n : Int) != (n' : Int)) = true := by simp; omega
    go_enter Try.func24, Try.ntmps24
    go_wp2_with fail
    go_ret
    exact ⟨by rw [decide_eq_false hne]; rfl, Below.refl _ _⟩
end Go.Proofs.Ytdokkhjgmhcpkaa
