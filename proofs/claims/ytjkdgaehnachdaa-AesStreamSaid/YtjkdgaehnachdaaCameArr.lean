/- Arguments that are arrays of bytes by value, as they came in. -/
import Derived.Test.YtjkdgaehnachdaaReads
import Derived.Test.YtjkdgaehnachdaaAesLaws
namespace Go.Proofs.Ytjkdgaehnachdaa
open Go.ChangeShapes Go.WideShapes Go.ChangeAt Go.RowKit
section
variable {H : Type} {enc : TypeId × Value → H} {P : Program} {w : World}
theorem okWide_array {t e : TypeId} {k : Nat} {v : Value} {r : Reach} {b0 : Nat} (ht : P.underlying t = some (.array k e)) (h : Value.okWide P w r b0 t v) : ∃ cs, v = .agg cs ∧ cs.size = P.cellsOf t := by
  simp only [Value.okWide, ht] at h
  obtain ⟨cs, h1, h2, _⟩ := h
  exact ⟨cs, h1, h2⟩
theorem came_arr {t e : TypeId} {k : Nat} {v : Value} {d : DataW H} {ps : List MemPlace} {r : Reach} {b0 : Nat} (ht : P.underlying t = some (.array k e)) (hn : P.cellsOf t = k) (he : P.underlying e = some (.int .u8)) (ce : P.cellsOf e = 1)
    (hz : ∀ n ∈ d.weights P t, n ≤ reachBytes) (hv : Value.okWide P w r b0 t v) (h : DataW.Trod enc P w 0 (fun _ => true) true t v d ps) : ∃ s : Nat → BitVec 8, v = .agg (fA k s) := by
  obtain ⟨cs, rfl, hs⟩ := okWide_array ht hv
  obtain ⟨fuel, hf⟩ := h
  have hc : Came enc P w t cs.toList := ⟨fuel, (d, ps), by simpa [Value.cells] using hf, hz⟩
  rw [hn] at hs
  have each : ∀ j, ∃ x : BitVec 8, j < k → cs[j]? = some (.int .u8 (B8 x)) := fun j => by
    by_cases hj : j < k
    · have h1 := hc.elem ht j hj
      rw [ce, Nat.mul_one, List.drop_eq_getElem_cons (by simp; omega)] at h1
      obtain ⟨n, h2, h3⟩ := Came.int h1 he
      obtain ⟨x, rfl⟩ := byte_came h3
      refine ⟨x, fun _ => ?_⟩
      rw [Array.getElem?_eq_getElem (by omega)]
      simpa using h2
    · exact ⟨0#8, fun h => absurd h hj⟩
  obtain ⟨s, hsx⟩ := Classical.axiomOfChoice each
  refine ⟨s, ?_⟩
  congr 1
  apply Array.ext_getElem?
  intro j
  by_cases hj : j < k
  · rw [hsx j hj, fA_at s hj]
  · rw [Array.getElem?_eq_none (by omega), Array.getElem?_eq_none (by rw [fA_size]; omega)]
end
end Go.Proofs.Ytjkdgaehnachdaa
