/- Arguments that are structs by value, as they came in. -/
import Derived.Test.YtdokkhjgmhcpkaaState
namespace Go.Proofs.Ytdokkhjgmhcpkaa
open Go.ChangeShapes Go.WideShapes Go.ChangeAt Go.RowKit
set_option maxRecDepth 20000
section
variable {H : Type} {enc : TypeId × Value → H} {W : World}
theorem came_state' {v : Value} {d : DataW H} {ps : List MemPlace} {r : Reach} {b0 : Nat} (hz : ∀ n ∈ d.weights Try.prog 29, n ≤ reachBytes) (hv : Value.okWide Try.prog W r b0 29 v) (h : DataW.Trod enc Try.prog W 0 (fun _ => true) true 29 v d ps) :
    ∃ p g, v = stateVal p g ∧ StateAt W p g := by
  obtain ⟨cs, rfl, hl, hc⟩ := came_agg Try.underlying29 (show Try.prog.cellsOf 29 = 23 by kernel_rfl) hz hv h
  obtain ⟨p, g, rfl, ha⟩ := came_state hl hc
  exact ⟨p, g, (stateVal_cells p g).symm, ha⟩
theorem came_action' {v : Value} {d : DataW H} {ps : List MemPlace} {r : Reach} {b0 : Nat} (hz : ∀ n ∈ d.weights Try.prog 41, n ≤ reachBytes) (hv : Value.okWide Try.prog W r b0 41 v) (h : DataW.Trod enc Try.prog W 0 (fun _ => true) true 41 v d ps) :
    ∃ p g, v = actionVal p g ∧ ActionAt W p g := by
  obtain ⟨cs, rfl, hl, hc⟩ := came_agg Try.underlying41 (show Try.prog.cellsOf 41 = 6 by kernel_rfl) hz hv h
  obtain ⟨p, g, rfl, ha⟩ := came_action hl hc
  exact ⟨p, g, (actionVal_cells p g).symm, ha⟩
end
end Go.Proofs.Ytdokkhjgmhcpkaa
