/- A slice of bools that came in. -/
import Derived.Test.YtojmffpkaihmmaaRows
import Derived.Test.YtojmffpkaihmmaaReads
namespace Go.Proofs.Ytojmffpkaihmmaa
open Go.ChangeShapes Go.WideShapes Go.ChangeAt Go.RowKit
def BoolRow (w : World) (a : Option Addr) (n c : Nat) (l : List Bool) : Prop := RowAt w a (l.map Value.bool) ∧ l.length = n ∧ n ≤ c ∧ c ≤ maxLen
section
variable {H : Type} {enc : TypeId × Value → H} {w : World}
theorem boolCells : Try.prog.cellsOf 4 = 1 := by kernel_rfl
theorem came_bools {v : Value} (h : Came enc Try.prog w 23 [v]) : ∃ a n c l, v = .slice a n c ∧ BoolRow w a n c l := by
  obtain ⟨a, len, cap, rfl, h1, h2, h3, _, h5⟩ := h.slice Try.underlying23
  obtain ⟨l, hl, hr, hok⟩ := came_row (g := fun b : Bool => [Value.bool b]) (Ok := fun _ => True) (fun _ => rfl) Nat.one_pos boolCells (fun cs hc hlen => by
    match cs, hlen with
    | [c], _ =>
      obtain ⟨b, rfl⟩ := hc.bool Try.underlying4
      exact ⟨b, rfl, trivial⟩) h3 h5
  refine ⟨a, len, cap, l, rfl, ?_, hl, h1, h2⟩
  have e : l.flatMap (fun b : Bool => [Value.bool b]) = l.map Value.bool := by
    clear hl hr hok
    induction l with
    | nil => rfl
    | cons x l ih => rw [List.flatMap_cons, ih]; rfl
  rw [← e]; exact hr
end
end Go.Proofs.Ytojmffpkaihmmaa
