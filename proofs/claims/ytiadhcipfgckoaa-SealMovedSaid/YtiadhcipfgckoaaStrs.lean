/- Texts put together (merge.py): CameSized, StrBytes. -/
import Derived.Test.YtiadhcipfgckoaaCame
import Derived.Test.YtiadhcipfgckoaaBase
import Derived.Laws.IdiomStrings
/- A []byte argument, with the reach of memory. -/
namespace Go.Proofs.Ytiadhcipfgckoaa
open Go.ChangeShapes Go.WideShapes Go.ChangeAt Go.RowKit

section
variable {H : Type} {enc : TypeId × Value → H} {P : Program} {W : World} {base : Nat} {held : Bool}
theorem came_bytesz {t e : TypeId} {v : Value} {d : DataW H} {ps : List MemPlace} {r : Reach} {b0 : Nat} (ht : P.underlying t = some (.slice e)) (he : P.underlying e = some (.int .u8)) (ce : P.cellsOf e = 1) (be : P.bytesOf e = 1) (hz : ∀ n ∈ d.weights P t, n ≤ reachBytes)
    (hv : Value.okWide P W r b0 t v) (h : DataW.Trod enc P W base (fun _ => true) held t v d ps) :
    ∃ a len cap, ∃ l : List UInt8, v = .slice a len cap ∧ l.length = len ∧ BytesAt W a l ∧ len ≤ cap ∧ cap ≤ maxLen ∧ cap ≤ 140737488351232 := by
  obtain ⟨a, len, cap, l, rfl, h1, h2, h3, h4⟩ := came_bytes ht he ce hv h
  refine ⟨a, len, cap, l, rfl, h1, h2, h3, h4, ?_⟩
  obtain ⟨fuel, hf⟩ := h
  rcases open_ints ht he ce hf with ⟨hcs, _⟩ | ⟨x, l', c, zs, hcs, _, hl, hm, hzl, hd, _⟩
  · simp [Value.cells] at hcs
    obtain ⟨rfl, rfl, rfl⟩ := hcs
    omega
  · simp [Value.cells] at hcs
    obtain ⟨rfl, rfl, rfl⟩ := hcs
    obtain ⟨rfl, -⟩ := Prod.mk.inj hd
    have := sized_row hz ht be
    simp only [lits, List.length_map, List.length_take, List.length_drop] at this
    simp at hzl
    omega
end
end Go.Proofs.Ytiadhcipfgckoaa

/- A string as bytes at one operation. No program is named. -/
namespace Go.Proofs.Ytiadhcipfgckoaa
open Go.RowKit

/-- The bytes of a string. -/
def strL (s : ByteArray) : List UInt8 := s.data.toList
theorem strL_length (s : ByteArray) : (strL s).length = s.size := rfl
theorem wpList_bytes_of {P : Program} {ops : Array Oper} {rest : List Oper} {o : Oper} {a : Act} {w : World} {Q : Exit → Act → World → Prop} (hgd : o.guard = none) (src dst : TypeId) (x : Operand) (ho : o.op = .convert src dst x)
    {e : TypeId} (hs : P.underlying src = some .string) (hd : P.underlying dst = some (.slice e)) (he : P.underlying e = some (.int .u8)) {s : ByteArray} (hx : a.eval x = .string s)
    (h : ∀ c w', BytesAt w' (some ⟨w.heap.size, 0, none⟩) (strL s) → Below w.heap.size w w' → w.heap.size < w'.heap.size → wpList P ops Q rest (a.put o.dst (.slice (some ⟨w.heap.size, 0, none⟩) s.size c)) w') : wpList P ops Q (o :: rest) a w := by
  refine wpList_plain hgd fun K hK => ?_
  unfold Oper.wp execOp
  simp only [ho, hx, run_bytes_of_string w src dst e s hs hd he, Sem.run_bind, Sem.run_pure, Result.andThen_ok]
  refine hK _ _ (h _ _ ?_ ((Below.refl _ _).drew.alloc (by simp) _) (by simp))
  refine RowAt.mk fun i hi => ?_
  rw [List.length_map, strL_length] at hi
  have e1 : w.heap.size = w.drew.heap.size := rfl
  rw [Nat.zero_add, e1, World.cell?_alloc_mark, bytesRow]
  have hi' : i < s.data.size := hi
  rw [Array.getElem?_append_left (by simpa using hi')]
  simp [strL, bv, U8]
  exact ⟨_, Array.getElem?_eq_getElem hi', rfl⟩
end Go.Proofs.Ytiadhcipfgckoaa

