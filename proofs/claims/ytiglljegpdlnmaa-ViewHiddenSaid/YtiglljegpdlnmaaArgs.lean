/- Arguments that are structs by value, as they came in. -/
import Derived.Test.YtiglljegpdlnmaaState
namespace Go.Proofs.Ytiglljegpdlnmaa
open Go.ChangeShapes Go.WideShapes Go.ChangeAt Go.RowKit
section
variable {H : Type} {enc : TypeId × Value → H} {W : World}
theorem came_state' {v : Value} {d : DataW H} {ps : List MemPlace} {r : Reach} {b0 : Nat} (hz : ∀ n ∈ d.weights Try.prog 50, n ≤ reachBytes) (hv : Value.okWide Try.prog W r b0 50 v) (h : DataW.Trod enc Try.prog W 0 (fun _ => true) true 50 v d ps) :
    ∃ p g, v = stateVal p g ∧ StateAt W p g := by
  obtain ⟨cs, rfl, hl, hc⟩ := came_agg Try.underlying50 (show Try.prog.cellsOf 50 = 23 by kernel_rfl) hz hv h
  obtain ⟨p, g, rfl, ha⟩ := came_state hl hc
  exact ⟨p, g, (stateVal_cells p g).symm, ha⟩
theorem came_view' {v : Value} {d : DataW H} {ps : List MemPlace} {r : Reach} {b0 : Nat} (hz : ∀ n ∈ d.weights Try.prog 41, n ≤ reachBytes) (hv : Value.okWide Try.prog W r b0 41 v) (h : DataW.Trod enc Try.prog W 0 (fun _ => true) true 41 v d ps) :
    ∃ p g, v = viewVal p g ∧ ViewAt W p g := by
  obtain ⟨cs, rfl, hl, hc⟩ := came_agg Try.underlying41 (show Try.prog.cellsOf 41 = 27 by kernel_rfl) hz hv h
  obtain ⟨p, g, rfl, ha⟩ := came_view hl hc
  exact ⟨p, g, (viewVal_cells p g).symm, ha⟩
end
end Go.Proofs.Ytiglljegpdlnmaa
