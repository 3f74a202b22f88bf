/- Slices of slices of bytes that a call made itself. No program is named. -/
import Derived.Test.YtnojeiklgjhkgaaBase
namespace Go.Proofs.Ytnojeiklgjhkgaa
open Go.RowKit

section
variable {w w' : World} {B : Nat} {T t : TypeId} {a a' : Option Addr} {n c n' c' : Nat}

/-- Rows of two types of cells stand in two blocks: what grows the one leaves the other. -/
theorem Own.other {B' : Nat} {vs us : List Value} {A : Option Addr} {m C : Nat} (h : Own w B t 1 A m C us) (ho : Own w B' T 1 a n c vs) (hne : T ≠ t) (hg : w.grownBy w' (Value.slice a n c).ownBlock) : Own w' B t 1 A m C us := by
  refine ⟨h.1, ?_⟩
  rcases h.2 with h2 | ⟨g, cap, cur, h1, h2, h3, h4⟩
  · exact .inl h2
  · refine .inr ⟨g, cap, cur, h1, h2, ?_, h4⟩
    refine (hg.block g (Array.getElem?_eq_some_iff.1 h3).1 fun e => ?_).trans h3
    rcases ho.2 with ⟨k1, _⟩ | ⟨g', cap', cur', k1, _, k3, _⟩
    · rw [k1] at e; cases e
    · rw [k1] at e
      cases e
      rw [h3] at k3
      simp only [Option.some.injEq, Obj.cells.injEq] at k3
      exact hne k3.2.1.symm
theorem Own.cap_max {vs : List Value} (h : Own w B t 1 a n c vs) : c ≤ maxLen := by
  rcases h.2 with ⟨hv, _⟩ | ⟨g, cap, cur, hv, _, _, _, hm, _⟩
  · simp only [Value.slice.injEq] at hv; unfold maxLen; omega
  · simp only [Value.slice.injEq] at hv; omega

/-- The rows ls, the outer slice and each row in memory of the call's own. -/
def OwnPieces (w : World) (B : Nat) (T t : TypeId) (a : Option Addr) (n c : Nat) (vs : List Value) (ls : List (List UInt8)) : Prop :=
  Own w B T 1 a n c vs ∧ vs.length = ls.length ∧ ∀ r (h : r < ls.length), ∃ A C, vs[r]? = some (.slice A ls[r].length C) ∧ Own w B t 1 A ls[r].length C (ls[r].map bv)
theorem OwnPieces.nil (w : World) (B : Nat) (T t : TypeId) : OwnPieces w B T t none 0 0 [] [] := ⟨Own.nil _ _ _ _, rfl, fun r h => by simp at h⟩
theorem OwnPieces.old {vs : List Value} {ls : List (List UInt8)} (h : OwnPieces w B T t a n c vs ls) (hb : Below w.heap.size w w') : OwnPieces w' B T t a n c vs ls :=
  ⟨h.1.old hb, h.2.1, fun r hr => by obtain ⟨A, C, h1, h2⟩ := h.2.2 r hr; exact ⟨A, C, h1, h2.old hb⟩⟩
theorem OwnPieces.drew {vs : List Value} {ls : List (List UInt8)} (h : OwnPieces w B T t a n c vs ls) (k : Nat) : OwnPieces (w.drewN k) B T t a n c vs ls :=
  h.old (below_drewN (Below.refl _ _) k)
theorem OwnPieces.length {vs : List Value} {ls : List (List UInt8)} (h : OwnPieces w B T t a n c vs ls) : ls.length = n := by
  have := h.1.1
  rw [← h.2.1]; omega
theorem OwnPieces.pieces {vs : List Value} {ls : List (List UInt8)} (h : OwnPieces w B T t a n c vs ls) : PiecesAt w a ls := by
  intro r hr
  obtain ⟨A, C, h1, h2⟩ := h.2.2 r hr
  have hr' : r < vs.length := by rw [h.2.1]; exact hr
  obtain ⟨b, o, e, hc⟩ := h.1.row r hr'
  refine ⟨b, o, A, C, e, ?_, h2.row, h2.le, h2.cap_max⟩
  rw [hc, ← h1, List.getElem?_eq_getElem hr']
/-- One row more behind the others. -/
theorem OwnPieces.snoc {B' : Nat} {vs : List Value} {ls : List (List UInt8)} (h : OwnPieces w B T t a n c vs ls) (hne : T ≠ t) (hg : w.grownBy w' (Value.slice a n c).ownBlock) {x : List UInt8} {A : Option Addr} {m C : Nat} (hm : x.length = m)
    (hx : Own w B' t 1 A m C (x.map bv)) (hB : B ≤ B') (h' : Own w' B T 1 a' n' c' (vs ++ [.slice A m C])) : OwnPieces w' B T t a' n' c' (vs ++ [.slice A m C]) (ls ++ [x]) := by
  subst hm
  refine ⟨h', by simp [h.2.1], fun r hr => ?_⟩
  by_cases hlt : r < ls.length
  · obtain ⟨A1, C1, h1, h2⟩ := h.2.2 r hlt
    rw [List.getElem_append_left hlt]
    refine ⟨A1, C1, ?_, h2.other h.1 hne hg⟩
    rw [List.getElem?_append_left (by rw [h.2.1]; exact hlt)]
    exact h1
  · have : r = ls.length := by simp at hr; omega
    subst this
    simp only [List.getElem_concat_length]
    refine ⟨A, C, ?_, (hx.lower hB).other h.1 hne hg⟩
    rw [← h.2.1]
    simp
end
end Go.Proofs.Ytnojeiklgjhkgaa
