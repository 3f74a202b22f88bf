/- Lists of things: copies, and whether they are the same. -/
import Derived.Test.YtiglljegpdlnmaaView
namespace Go.Proofs.Ytiglljegpdlnmaa
open Go.RowKit

theorem thingT : AggT Try.prog 69 4 := ⟨⟨_, Try.underlying69, rfl⟩, by kernel_rfl⟩
theorem thingsT : RowType Try.prog 36 69 4 32 := RowType.mk (z := .agg #[.int .i64 0, .int .i64 0, .int .i64 0, .bool false]) Try.underlying36 (by kernel_rfl) rfl (by omega)
def thingVal (x : ThingL) : Value := .agg #[.int .i64 x.id, .int .i64 x.card, .int .i64 x.harm, .bool x.tired]
theorem things_length (l : List ThingL) : (l.flatMap ThingL.cells).length = l.length * 4 := by
  induction l with
  | nil => rfl
  | cons x l ih => rw [List.flatMap_cons, List.length_append, ih, List.length_cons]; show 4 + _ = _; omega
theorem things_one (l : List ThingL) : ∀ u ∈ l.flatMap ThingL.cells, u.oneCell' = true := by
  intro u hu
  obtain ⟨x, _, hx⟩ := List.mem_flatMap.1 hu
  simp only [ThingL.cells, List.mem_cons, List.mem_nil_iff, or_false] at hx
  rcases hx with rfl | rfl | rfl | rfl <;> rfl
theorem ThingRow.elem {w : World} {a : Option Addr} {n c : Nat} {l : List ThingL} (h : ThingRow w a n c l) (k : Nat) (hk : k < l.length) :
    ∃ b o, a = some ⟨b, o, none⟩ ∧ b < w.heap.size ∧ ∀ j (hj : j < l[k].cells.length), w.cell? ⟨b, o + k * 4 + j, none⟩ = some l[k].cells[j] :=
  RowAt.elem (g := ThingL.cells) (sz := 4) (fun _ => rfl) h.1 (by omega) k hk

/-- slices.Clone at []api.Thing. -/
theorem clone_things (a : Option Addr) (n c : Nat) (l : List ThingL) (w : World) (hl : ThingRow w a n c l) :
    Calls Try.prog 43 #[.slice a n c] w fun e w' => ∃ a' c', e = .returned (.slice a' n c') ∧ Own w' w.heap.size 69 4 a' n c' (l.flatMap ThingL.cells) ∧ Below w.heap.size w w' := by
  obtain ⟨hr, hlen, hc, hcm, hsm, hwf⟩ := hl
  have HL := Lib.hid hlen
  have hll := things_length l
  have HLL := Lib.hid hll
  clear hlen hll
  have q : ∀ (w : World) (a : Option Addr) (n c n' c' : Nat), (binOp .eql 36 (.slice a n c) (.slice none n' c')).run Try.prog w = .ok (.bool a.isNone) w := fun w a n c n' c' => Lib.run_eql_slice_nil w _ _ a n c n' c' Try.underlying36
  cases a with
  | none =>
    have hl0 : l = [] := by
      refine List.eq_nil_of_length_eq_zero (Nat.eq_zero_of_not_pos fun h => ?_)
      obtain ⟨_, _, e, _⟩ := hr 0 (by rw [HLL.out]; omega)
      cases e
    subst hl0
    have h0 : n = 0 := HL.out.symm
    go_enter Try.func43, Try.ntmps43
    go_wp2_with fail
    go_ret
    exact ⟨none, 0, by rw [h0]; rfl, by rw [h0]; exact Own.nil _ _ _ _, Below.refl _ _⟩
  | some x =>
    go_enter Try.func43, Try.ntmps43
    have hown : Own (w.alloc (.cells #[] 69)) w.heap.size 69 4 (some ⟨w.heap.size, 0, none⟩) 0 0 [] := ⟨rfl, .inr ⟨w.heap.size, 0, #[], rfl, Nat.le_refl _, Blk.new _ _ _, Nat.le_refl _, by unfold maxLen; omega, rfl, rfl⟩⟩
    go_wp2_with (at_builtin; refine wpList_append_row rfl _ _ 36 rfl thingsT rfl hown rfl (hr.alloc _) (by rw [HLL.out, HL.out]) (things_one _) (by unfold maxLen; omega) (by omega) (by simp) ?_)
    intro a1 c1 w1 hown1 hg1
    go_wp2_with fail
    go_ret
    refine ⟨a1, c1, ?_, ?_, hown.grown ((Below.refl _ _).alloc (Nat.le_refl _) _) (Nat.le_refl _) hg1 (by simp)⟩
    · first | rfl | simp
    · simpa using hown1
def ThingsRel (w : World) (l : List ThingL) (f : Nat) (out i : Value) (w' : World) : Prop :=
  ∃ (k : Nat) (a : Option Addr) (c : Nat), k + f = l.length ∧ i = .int .i64 (k : Int) ∧ out = .slice a k c ∧ Own w' w.heap.size 69 4 a k c ((l.take k).flatMap ThingL.cells) ∧ Below w.heap.size w w'
set_option maxHeartbeats 1000000 in
theorem things_any (a : Option Addr) (n c : Nat) (l : List ThingL) (w : World) (hl : ThingRow w a n c l) :
    Calls Try.prog 40 #[.slice a n c] w fun e w' => ∃ a' c', e = .returned (.slice a' n c') ∧ Own w' w.heap.size 69 4 a' n c' (l.flatMap ThingL.cells) ∧ Below w.heap.size w w' := by
  have hsm := hl.2.2.2.2.1
  have HL := Lib.hid hl.2.1
  go_enter Try.func40, Try.ntmps40
  go_wp2_with fail
  go_loopg [3, 4] n (ThingsRel w l)
  case atStart => exact ⟨0, none, 0, by rw [HL.out, Nat.zero_add], rfl, rfl, Own.nil _ _ _ _, Below.refl _ _⟩
  case round =>
    obtain ⟨k, a1, c1, hk, rfl, rfl, hown, hb⟩ := hrel
    have hwz := hb.size
    rw [HL.out] at hk
    by_cases hlt : k < n
    · have t0 : decide ((k : Int) < (n : Int)) = true := by simp; omega
      have hkl : k < l.length := by rw [HL.out]; exact hlt
      obtain ⟨b, o, rfl, hbl, hc⟩ := hl.elem k hkl
      have HT := Lib.hid (List.take_succ_eq_append_getElem hkl)
      generalize l[k] = x at *
      have hcw : ∀ j (hj : j < x.cells.length), wr.cell? ⟨b, o + k * 4 + j, none⟩ = some x.cells[j] := fun j hj => by rw [hb.cell (show b < w.heap.size from hbl)]; exact hc j hj
      have HC := Lib.hid hcw
      clear hc hcw
      obtain ⟨id, card, harm, tired⟩ := x
      have hA := hown.old (w' := wr.alloc (.cells #[.int .i64 id, .int .i64 card, .int .i64 harm, .bool tired] 69)) (by (try unfold Kept); repeat (first | assumption | exact Below.refl _ _ | exact below_undrew (Below.refl _ _) | exact Below.mono (by assumption) (by first | (simp; done) | (simp; omega) | omega) | refine below_setRow ?_ (by first | (simp; done) | (simp; omega) | omega) _ | refine Below.setCell ?_ (by first | (simp; done) | (simp; omega) | omega) _ | refine Below.alloc ?_ (by first | (simp; done) | (simp; omega) | omega) _ | refine below_drewN ?_ _ | refine Below.drew ?_ | refine below_undrew ?_ | refine below_step ?_ (by assumption)))
      go_wp2_with (first | refine wpList_load_as rfl 69 thingT (.tmp 14) rfl rfl (v := .agg #[.int .i64 id, .int .i64 card, .int .i64 harm, .bool tired]) rfl HC.out rfl ?_ | (at_builtin; refine wpList_append_row rfl _ _ 36 rfl thingsT rfl hA rfl (RowAt.new' _ _ _ _ (by simp)) (by rfl) (by exact all_one _ rfl) (by unfold maxLen; omega) (by omega) (by simp; omega) ?_))
      intro a2 c2 w2 hown2 hg
      have hb2 : Below w.heap.size w w2 := hA.grown (by (try unfold Kept); repeat (first | assumption | exact Below.refl _ _ | exact below_undrew (Below.refl _ _) | exact Below.mono (by assumption) (by first | (simp; done) | (simp; omega) | omega) | refine below_setRow ?_ (by first | (simp; done) | (simp; omega) | omega) _ | refine Below.setCell ?_ (by first | (simp; done) | (simp; omega) | omega) _ | refine Below.alloc ?_ (by first | (simp; done) | (simp; omega) | omega) _ | refine below_drewN ?_ _ | refine Below.drew ?_ | refine below_undrew ?_ | refine below_step ?_ (by assumption))) (Nat.le_refl _) hg (by simp; omega)
      go_wp2_with fail
      go_roundg (gk - 1)
      case measure => omega
      case rel => exact ⟨k + 1, a2, c2, by rw [HL.out]; omega, by go_num, rfl, by rw [HT.out, List.flatMap_append]; exact hown2, hb2⟩
    · have t0 : decide ((k : Int) < (n : Int)) = false := by simp; omega
      have hkn : k = n := by omega
      go_wp2_with fail
      go_ret
      have e : l.take k = l := List.take_of_length_le (by rw [HL.out]; omega)
      rw [e] at hown
      exact ⟨a1, c1, by rw [← hkn]; rfl, by rw [← hkn]; exact hown, hb⟩
theorem neq_thing (x y : ThingL) (w : World) : (binOp .neq 69 (thingVal x) (thingVal y)).run Try.prog w = .ok (.bool (!decide (x = y))) w := by
  obtain ⟨i, c, h, t⟩ := x
  obtain ⟨i', c', h', t'⟩ := y
  have e : (decide ((⟨i, c, h, t⟩ : ThingL) = ⟨i', c', h', t'⟩)) = ((i == i') && (c == c') && (h == h') && (t == t')) := by
    rw [Bool.eq_iff_iff]; simp [and_assoc]
  rw [e]
  have m1 : Try.prog.eqGuardType Try.prog.depth 69 = false := by kernel_rfl
  have m2 : Try.prog.stoodInHeld 69 = false := by kernel_rfl
  unfold thingVal
  dsimp only
  rcases chain4 (i == i') (c == c') (h == h') (t == t') with t0 | ⟨t0, t1⟩ | ⟨t0, t1, t2⟩ | ⟨t0, t1, t2, t3⟩ | ⟨t0, t1, t2, t3⟩
  all_goals
    go_simp
def SameThRel (w : World) (l m : List ThingL) (n : Nat) (f : Nat) (i : Value) (w' : World) : Prop :=
  ∃ k : Nat, k + f = n ∧ i = .int .i64 (k : Int) ∧ l.take k = m.take k ∧ Below w.heap.size w w'
set_option maxHeartbeats 1000000 in
theorem sameThings_any (a b : Option Addr) (n c n' c' : Nat) (l m : List ThingL) (w : World) (hl : ThingRow w a n c l) (hm : ThingRow w b n' c' m) :
    Calls Try.prog 42 #[.slice a n c, .slice b n' c'] w fun e w' => e = .returned (.bool (decide (l = m))) ∧ Below w.heap.size w w' := by
  have HL := Lib.hid hl.2.1
  have HM := Lib.hid hm.2.1
  have hsm := hl.2.2.2.2.1
  by_cases hnn : n = n'
  · subst hnn
    go_enter Try.func42, Try.ntmps42
    go_wp2_with fail
    go_loopg [5] n (SameThRel w l m n)
    case atStart => exact ⟨0, Nat.zero_add _, rfl, rfl, Below.refl _ _⟩
    case round =>
      obtain ⟨k, hk, rfl, heq, hbw⟩ := hrel
      have hwz := hbw.size
      have HQ := Lib.hid heq
      clear heq
      by_cases hlt : k < n
      · have t0 : decide ((k : Int) < (n : Int)) = true := by simp; omega
        have hkl : k < l.length := by rw [HL.out]; exact hlt
        have hkm : k < m.length := by rw [HM.out]; exact hlt
        obtain ⟨b1, o1, rfl, hbl1, hc1⟩ := hl.elem k hkl
        obtain ⟨b2, o2, rfl, hbl2, hc2⟩ := hm.elem k hkm
        have L1 : ∀ W, Old wr.drew W → ∀ j (hj : j < l[k].cells.length), W.cell? ⟨b1, o1 + k * 4 + j, none⟩ = some l[k].cells[j] := fun W h j hj => by
          rw [(below_step (below_step hbw (Below.refl _ _).drew) h).cell (show b1 < w.heap.size from hbl1)]; exact hc1 j hj
        have L2 : ∀ W, Old wr.drew W → ∀ j (hj : j < m[k].cells.length), W.cell? ⟨b2, o2 + k * 4 + j, none⟩ = some m[k].cells[j] := fun W h j hj => by
          rw [(below_step (below_step hbw (Below.refl _ _).drew) h).cell (show b2 < w.heap.size from hbl2)]; exact hc2 j hj
        clear hc1 hc2
        have H1 := Lib.hid (List.take_succ_eq_append_getElem hkl)
        have H2 := Lib.hid (List.take_succ_eq_append_getElem hkm)
        have HD := Lib.hid (show l[k] ≠ m[k] → l ≠ m from fun h e => h (by subst e; rfl))
        generalize l[k] = x at *
        generalize m[k] = y at *
        have hq := fun W => neq_thing x y W
        have HL1 := Lib.hid L1
        have HL2 := Lib.hid L2
        clear L1 L2
        by_cases hxy : x = y
        · rw [decide_eq_true hxy] at hq
          have HX := Lib.hid hxy
          clear hxy
          go_wp2_with fail
          refine wp_region_old (0 :: 1 :: 2 :: 3 :: 4 :: 5 :: 6 :: 7 :: 8 :: []) (by kernel_rfl) (by kernel_rfl) (fun c a d v w h => by cases d <;> exact h) ?_
          repeat (first | (refine lex_skip rfl (by rfl) ?_; simp only [Act.put, List.setIfInBounds_toArray, List.set]) | (refine lex_quiet (v := ?_) rfl rfl (by rfl) ?_ ?_; rotate_left; (intro W hW; go_simp); (try with_reducible rfl); simp only [Act.put, List.setIfInBounds_toArray, List.set]))
          refine lex_quiet (v := thingVal x) rfl rfl (by rfl) (fun W hW => exec_load_as 69 thingT (.tmp 19) rfl rfl rfl (HL1.out W hW) rfl) ?_
          simp only [Act.put, List.setIfInBounds_toArray, List.set]
          repeat (first | (refine lex_skip rfl (by rfl) ?_; simp only [Act.put, List.setIfInBounds_toArray, List.set]) | (refine lex_quiet (v := ?_) rfl rfl (by rfl) ?_ ?_; rotate_left; (intro W hW; go_simp); (try with_reducible rfl); simp only [Act.put, List.setIfInBounds_toArray, List.set]))
          refine lex_quiet (v := thingVal y) rfl rfl (by rfl) (fun W hW => exec_load_as 69 thingT (.tmp 23) rfl rfl rfl (HL2.out W hW) rfl) ?_
          simp only [Act.put, List.setIfInBounds_toArray, List.set]
          refine lex_quiet (v := .bool (!true)) rfl rfl (by rfl) (fun W hW => exec_cmp .neq 69 (.tmp 20) (.tmp 24) rfl rfl rfl (by kernel_rfl) (hq W)) ?_
          simp only [Act.put, List.setIfInBounds_toArray, List.set]
          refine lex_nil ?_
          go_wp2_with fail
          go_roundg (gk - 1)
          case measure => omega
          case rel => exact ⟨k + 1, by omega, by go_num, by rw [H1.out, H2.out, HQ.out, HX.out], below_step hbw (Below.refl _ _).drew⟩
        · rw [decide_eq_false hxy] at hq
          have hne := HD.out hxy
          have HN := Lib.hid hne
          clear hne hxy
          go_wp2_with fail
          refine wp_region_old (0 :: 1 :: 2 :: 3 :: 4 :: 5 :: 6 :: 7 :: 8 :: []) (by kernel_rfl) (by kernel_rfl) (fun c a d v w h => by cases d <;> exact h) ?_
          repeat (first | (refine lex_skip rfl (by rfl) ?_; simp only [Act.put, List.setIfInBounds_toArray, List.set]) | (refine lex_quiet (v := ?_) rfl rfl (by rfl) ?_ ?_; rotate_left; (intro W hW; go_simp); (try with_reducible rfl); simp only [Act.put, List.setIfInBounds_toArray, List.set]))
          refine lex_quiet (v := thingVal x) rfl rfl (by rfl) (fun W hW => exec_load_as 69 thingT (.tmp 19) rfl rfl rfl (HL1.out W hW) rfl) ?_
          simp only [Act.put, List.setIfInBounds_toArray, List.set]
          repeat (first | (refine lex_skip rfl (by rfl) ?_; simp only [Act.put, List.setIfInBounds_toArray, List.set]) | (refine lex_quiet (v := ?_) rfl rfl (by rfl) ?_ ?_; rotate_left; (intro W hW; go_simp); (try with_reducible rfl); simp only [Act.put, List.setIfInBounds_toArray, List.set]))
          refine lex_quiet (v := thingVal y) rfl rfl (by rfl) (fun W hW => exec_load_as 69 thingT (.tmp 23) rfl rfl rfl (HL2.out W hW) rfl) ?_
          simp only [Act.put, List.setIfInBounds_toArray, List.set]
          refine lex_quiet (v := .bool (!false)) rfl rfl (by rfl) (fun W hW => exec_cmp .neq 69 (.tmp 20) (.tmp 24) rfl rfl rfl (by kernel_rfl) (hq W)) ?_
          simp only [Act.put, List.setIfInBounds_toArray, List.set]
          refine lex_nil ?_
          go_wp2_with fail
          go_ret
          exact ⟨by rw [decide_eq_false HN.out]; rfl, below_step hbw (Below.refl _ _).drew⟩
      · have t0 : decide ((k : Int) < (n : Int)) = false := by simp; omega
        go_wp2_with fail
        go_ret
        have e1 : l.take k = l := List.take_of_length_le (by rw [HL.out]; omega)
        have e2 : m.take k = m := List.take_of_length_le (by rw [HM.out]; omega)
        have := HQ.out
        rw [e1, e2] at this
        exact ⟨by rw [decide_eq_true this]; rfl, hbw⟩
  · have hne : l ≠ m := fun e => hnn (by rw [← HL.out, ← HM.out, e])
    have t0 : ((n : Int) != (n' : Int)) = true := by simp; omega
    go_enter Try.func42, Try.ntmps42
    go_wp2_with fail
    go_ret
    exact ⟨by rw [decide_eq_false hne]; rfl, Below.refl _ _⟩
end Go.Proofs.Ytiglljegpdlnmaa
