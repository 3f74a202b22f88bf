/- A token by value, as it came in. -/
import Derived.Test.YtlhemmlmhgjodaaTokWakes
import Derived.Test.YtlhemmlmhgjodaaReads
namespace Go.Proofs.Ytlhemmlmhgjodaa
open Go.ChangeShapes Go.WideShapes Go.ChangeAt Go.RowKit

section
variable {H : Type} {enc : TypeId × Value → H} {P : Program} {w : World}
theorem Came.str {t : TypeId} {c : Value} (h : Came enc P w t [c]) (hs : P.underlying t = some .string) : ∃ s : ByteArray, c = .string s ∧ s.size ≤ 140737488351232 := by
  obtain ⟨n, x, h1, h2⟩ := h
  obtain ⟨s, hc, hx, _⟩ := DataW.trod_string hs h1
  simp at hc
  refine ⟨s, hc, ?_⟩
  have := h2 s.data.toList.length (by rw [hx]; simp [DataW.weights])
  rw [Array.length_toList] at this
  exact this
end
section
variable {H : Type} {enc : TypeId × Value → H} {W : World}
theorem strOf_strL (s : ByteArray) : strOf (strL s) = s := by
  obtain ⟨⟨l⟩⟩ := s
  rfl
theorem came_token {v : Value} {d : DataW H} {ps : List MemPlace} {r : Reach} {b0 : Nat} (hz : ∀ n ∈ d.weights Try.prog 25, n ≤ reachBytes) (hv : Value.okWide Try.prog W r b0 25 v) (h : DataW.Trod enc Try.prog W 0 (fun _ => true) true 25 v d ps) :
    ∃ T, v = tokV T ∧ TokWf T := by
  obtain ⟨cs, rfl, hl, hc⟩ := came_agg Try.underlying25 (show Try.prog.cellsOf 25 = 3 by kernel_rfl) hz hv h
  have f0 := hc.field Try.underlying25 0 (by decide)
  have f1 := hc.field Try.underlying25 1 (by decide)
  have f2 := hc.field Try.underlying25 2 (by decide)
  have k0 : Try.prog.cellsOf 9 = 1 := by kernel_rfl
  have k1 : Try.prog.cellsOf 23 = 1 := by kernel_rfl
  have k2 : Try.prog.cellsOf 2 = 1 := by kernel_rfl
  match cs, hl with
  | [c0, c1, c2], _ =>
    simp [k0, k1, k2] at f0 f1 f2
    obtain ⟨s, rfl, hs⟩ := f0.str Try.underlying9
    obtain ⟨n1, rfl, w1⟩ := f1.int Try.underlying23
    obtain ⟨n2, rfl, w2⟩ := f2.int Try.underlying2
    simp [Lit.wf, IntKind.min, IntKind.max, IntKind.signed, IntKind.bits] at w1 w2
    exact ⟨⟨strL s, n1, n2⟩, by rw [tokV, strOf_strL], ⟨by rw [strL_length]; exact hs, w1.1, w1.2, w2.1, w2.2⟩⟩
end
end Go.Proofs.Ytlhemmlmhgjodaa
