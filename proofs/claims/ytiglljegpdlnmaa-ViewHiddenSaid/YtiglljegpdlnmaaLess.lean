/- States that a judge sees alike a player does, too, and those that a player sees alike a spectator. -/
import Derived.Test.YtiglljegpdlnmaaSameV
import Derived.Test.YtiglljegpdlnmaaSameS
import Derived.Test.YtiglljegpdlnmaaViewWakes
namespace Go.Proofs.Ytiglljegpdlnmaa
open Go.RowKit

theorem wpList_load_blkw {P : Program} {ops : Array Oper} {rest : List Oper} {o : Oper} {a : Act} {w : World} {Q : Exit → Act → World → Prop} (hw : Region.wanted o (yielded ops a.tmps) = true) (ty : TypeId) {n : Nat} (hT : AggT P ty n) (x : Operand) (ho : o.op = .load ty x)
    {g : Nat} (hx : a.eval x = .pointer (some ⟨g, 0, none⟩)) {t : TypeId} {cs : Array Value} (hB : Blk w g cs t) (hn : cs.size = n)
    (h : wpList P ops Q rest (a.put o.dst (.agg cs)) w) : wpList P ops Q (o :: rest) a w := by
  obtain ⟨⟨d, hu, hd⟩, hi⟩ := hT
  unfold wpList
  rw [if_pos hw]
  exact .inl (wp_load_row ty x ho g hx t cs (0, 0) d hB hu (by cases d <;> simp_all [aggD]) (by rw [hi, hn]) h)

theorem ints_len (l : List Int) : (encL l).length = 8 + 8 * l.length := by
  have : ∀ m : List Int, (m.flatMap be8).length = 8 * m.length := fun m => by
    induction m with
    | nil => rfl
    | cons y m ih => rw [List.flatMap_cons, List.length_append, ih, be8_length, List.length_cons]; omega
  rw [encL, List.length_append, be8_length, this]
theorem things_len (l : List ThingL) : (encU l).length = 8 + 25 * l.length := by
  have : ∀ m : List ThingL, (m.flatMap thingB).length = 25 * m.length := fun m => by
    induction m with
    | nil => rfl
    | cons y m ih => rw [List.flatMap_cons, List.length_append, ih, thingB_length, List.length_cons]; omega
  rw [encU, List.length_append, be8_length, this]
theorem seenSide_len (x : SideP) (a b : Bool) : (sideB (seenSide x a b)).length ≤ 80 + 25 * sideCount x := by
  cases a <;> cases b <;> simp [sideB, seenSide, sideCount, ints_len, things_len, be8_length] <;> omega
theorem seen_len (p : StateP) (who : Int) (h : stateCount p ≤ 2000) : (viewB (seen p who)).length ≤ 1000000000000 := by
  have h1 := seenSide_len p.x (decide (who = 0 ∨ who = 3)) (decide (who = 3))
  have h2 := seenSide_len p.y (decide (who = 1 ∨ who = 3)) (decide (who = 3))
  have h3 : (headB (seen p who)).length = 49 + 8 * p.attack.length := by simp [headB, seen, ints_len, be8_length, tr1]; omega
  unfold stateCount at h
  rw [viewB, List.length_append, List.length_append, h3]
  have e1 : (seen p who).x = seenSide p.x (decide (who = 0 ∨ who = 3)) (decide (who = 3)) := rfl
  have e2 : (seen p who).y = seenSide p.y (decide (who = 1 ∨ who = 3)) (decide (who = 3)) := rfl
  rw [e1, e2]
  omega
theorem seen_all {p q : StateP} (h : seen p 3 = seen q 3) : p = q := by
  obtain ⟨turn, mover, phase, struck, result, attack, next, ⟨xl, xm, xt, xd, xh, xg, xu, xo⟩, ⟨yl, ym, yt, yd, yh, yg, yu, yo⟩⟩ := p
  obtain ⟨turn', mover', phase', struck', result', attack', next', ⟨zl, zm, zt, zd, zh, zg, zu, zo⟩, ⟨vl, vm, vt, vd, vh, vg, vu, vo⟩⟩ := q
  simp [seen, seenSide] at h
  obtain ⟨rfl, rfl, rfl, rfl, rfl, rfl, rfl, ⟨rfl, rfl, rfl, _, _, rfl, rfl, rfl, rfl, rfl⟩, ⟨rfl, rfl, rfl, _, _, rfl, rfl, rfl, rfl, rfl⟩⟩ := h
  rfl
theorem seen_less {p q : StateP} {who : Int} (hw : who = 0 ∨ who = 1) (h : seen p who = seen q who) : seen p 2 = seen q 2 := by
  obtain ⟨turn, mover, phase, struck, result, attack, next, ⟨xl, xm, xt, xd, xh, xg, xu, xo⟩, ⟨yl, ym, yt, yd, yh, yg, yu, yo⟩⟩ := p
  obtain ⟨turn', mover', phase', struck', result', attack', next', ⟨zl, zm, zt, zd, zh, zg, zu, zo⟩, ⟨vl, vm, vt, vd, vh, vg, vu, vo⟩⟩ := q
  rcases hw with rfl | rfl
  · simp [seen, seenSide] at h
    obtain ⟨rfl, rfl, rfl, rfl, rfl, rfl, rfl, ⟨rfl, rfl, rfl, h1, h2, rfl, rfl, rfl, rfl⟩, ⟨rfl, rfl, rfl, h3, h4, rfl, rfl⟩⟩ := h
    simp [seen, seenSide, h1, h3, h4]
  · simp [seen, seenSide] at h
    obtain ⟨rfl, rfl, rfl, rfl, rfl, rfl, rfl, ⟨rfl, rfl, rfl, h1, h2, rfl, rfl⟩, ⟨rfl, rfl, rfl, h3, h4, rfl, rfl, rfl, rfl⟩⟩ := h
    simp [seen, seenSide, h1, h2, h3]
def alike (p q : StateP) (k : Nat) : Bool := decide (seen p (k : Int) = seen q (k : Int))
def alikes (p q : StateP) (k : Nat) : Array Value := ((List.range 4).map fun i => Value.bool (if i < k then alike p q i else false)).toArray
theorem alikes_set (p q : StateP) (k : Nat) (h : k < 4) : (alikes p q k).setIfInBounds k (.bool (alike p q k)) = alikes p q (k + 1) := by
  rcases (show k = 0 ∨ k = 1 ∨ k = 2 ∨ k = 3 by omega) with rfl | rfl | rfl | rfl <;> rfl
theorem alikes_at (p q : StateP) (k : Nat) (h : k < 4) : (alikes p q k)[k]? = some (.bool false) := by
  rcases (show k = 0 ∨ k = 1 ∨ k = 2 ∨ k = 3 by omega) with rfl | rfl | rfl | rfl <;> rfl
theorem alike_3 (p q : StateP) : alike p q 3 = decide (p = q) := by
  unfold alike
  rw [decide_eq_decide]
  exact ⟨fun h => seen_all h, fun h => by rw [h]⟩
def LessRel (w : World) (p q : StateP) (cs ds : Array Value) (g : Nat) (f : Nat) (i : Value) (w' : World) : Prop :=
  ∃ k : Nat, k + f = 4 ∧ i = .int .i64 (k : Int) ∧ Blk w' g (alikes p q k) 58 ∧ Blk w' w.heap.size cs 50 ∧ Blk w' (w.heap.size + 1) ds 50 ∧ Below w.heap.size w w'
end Go.Proofs.Ytiglljegpdlnmaa
