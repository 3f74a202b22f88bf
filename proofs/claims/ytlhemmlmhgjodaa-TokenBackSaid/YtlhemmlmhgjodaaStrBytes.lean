/- A string as bytes at one operation. No program is named. -/
import Derived.Test.YtlhemmlmhgjodaaBase
import Derived.Laws.IdiomStrings
namespace Go.Proofs.Ytlhemmlmhgjodaa
open Go.RowKit

/-- The bytes of a string. -/
def strL (s : ByteArray) : List UInt8 := s.data.toList
theorem strL_length (s : ByteArray) : (strL s).length = s.size := rfl
theorem wpList_bytes_of {P : Program} {ops : Array Oper} {rest : List Oper} {o : Oper} {a : Act} {w : World} {Q : Exit → Act → World → Prop} (hgd : o.guard = none) (src dst : TypeId) (x : Operand) (ho : o.op = .convert src dst x)
    {e : TypeId} (hs : P.underlying src = some .string) (hd : P.underlying dst = some (.slice e)) (he : P.underlying e = some (.int .u8)) {s : ByteArray} (hx : a.eval x = .string s)
    (h : ∀ c w', BytesAt w' (some ⟨w.heap.size, 0, none⟩) (strL s) → Below w.heap.size w w' → w.heap.size < w'.heap.size → wpList P ops Q rest (a.put o.dst (.slice (some ⟨w.heap.size, 0, none⟩) s.size c)) w') : wpList P ops Q (o :: rest) a w := by
  refine wpList_plain hgd fun K hK => ?_
  unfold Oper.wp execOp
  simp only [ho, hx, run_bytes_of_string w src dst e s hs hd he, Sem.run_bind, Sem.run_pure, Result.andThen_ok]
  refine hK _ _ (h _ _ ?_ ((Below.refl _ _).drew.alloc (by simp) _) (by simp))
  refine RowAt.mk fun i hi => ?_
  rw [List.length_map, strL_length] at hi
  have e1 : w.heap.size = w.drew.heap.size := rfl
  rw [Nat.zero_add, e1, World.cell?_alloc_mark, bytesRow]
  have hi' : i < s.data.size := hi
  rw [Array.getElem?_append_left (by simpa using hi')]
  simp [strL, bv, U8]
  exact ⟨_, Array.getElem?_eq_getElem hi', rfl⟩
end Go.Proofs.Ytlhemmlmhgjodaa
