/- A []byte argument, with the reach of memory. -/
import Derived.Test.YtlhemmlmhgjodaaCame
namespace Go.Proofs.Ytlhemmlmhgjodaa
open Go.ChangeShapes Go.WideShapes Go.ChangeAt Go.RowKit

section
variable {H : Type} {enc : TypeId × Value → H} {P : Program} {W : World} {base : Nat} {held : Bool}
theorem came_bytesz {t e : TypeId} {v : Value} {d : DataW H} {ps : List MemPlace} {r : Reach} {b0 : Nat} (ht : P.underlying t = some (.slice e)) (he : P.underlying e = some (.int .u8)) (ce : P.cellsOf e = 1) (be : P.bytesOf e = 1) (hz : ∀ n ∈ d.weights P t, n ≤ reachBytes)
    (hv : Value.okWide P W r b0 t v) (h : DataW.Trod enc P W base (fun _ => true) held t v d ps) :
    ∃ a len cap, ∃ l : List UInt8, v = .slice a len cap ∧ l.length = len ∧ BytesAt W a l ∧ len ≤ cap ∧ cap ≤ maxLen ∧ cap ≤ 140737488351232 := by
  obtain ⟨a, len, cap, l, rfl, h1, h2, h3, h4⟩ := came_bytes ht he ce hv h
  refine ⟨a, len, cap, l, rfl, h1, h2, h3, h4, ?_⟩
  obtain ⟨fuel, hf⟩ := h
  rcases open_ints ht he ce hf with ⟨hcs, _⟩ | ⟨x, l', c, zs, hcs, _, hl, hm, hzl, hd, _⟩
  · simp [Value.cells] at hcs
    obtain ⟨rfl, rfl, rfl⟩ := hcs
    omega
  · simp [Value.cells] at hcs
    obtain ⟨rfl, rfl, rfl⟩ := hcs
    obtain ⟨rfl, -⟩ := Prod.mk.inj hd
    have := sized_row hz ht be
    simp only [lits, List.length_map, List.length_take, List.length_drop] at this
    simp at hzl
    omega
end
end Go.Proofs.Ytlhemmlmhgjodaa
