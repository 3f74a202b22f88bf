/- A region that draws its order, walked once (XLex), the walk behind a name that nothing looks through: for regions with long rows of operations that are skipped. No program is named. -/
import Derived.Test.YtlhemmlmhgjodaaLex
namespace Go.Proofs.Ytlhemmlmhgjodaa
open Go.RowKit

structure GexAt (P : Program) (l : List Oper) (Q : Exit → Act → World → Prop) (order : List Nat) (a : Act) (w : World) : Prop where
  out : wpLexR P l.toArray Q Old order a w
section
variable {P : Program} {Q : Exit → Act → World → Prop} {a : Act} {w : World}
theorem wp_region_g (order : List Nat) {id : Nat} {l : List Oper} (hm : P.follows .mixedOrders = true) (hB : lexR l.toArray order = true)
    (hQ : ∀ c a d v w, Q (.panic c) (a.put d v) w → Q (.panic c) a w)
    (h : GexAt P l Q order a w.drew) : (Code.region id l.toArray true).wp P Q a w := wp_region_old order hm hB hQ h.out
variable {l : List Oper} {rest : List Nat} {i : Nat} {o : Oper}
theorem gex_quiet {v : Value} (ho : nthOp l i = some o) (hl : loudOp o.op = false) (hw : Region.wanted o (yielded l.toArray a.tmps) = true)
    (hy : ∀ w', Old w w' → (execOp a.eval o).run P w' = .ok (.value v) w') (h : GexAt P l Q rest (a.put o.dst v) w) : GexAt P l Q (i :: rest) a w := ⟨lex_quiet ho hl hw hy h.out⟩
theorem gex_skip (ho : nthOp l i = some o) (hw : Region.wanted o (yielded l.toArray a.tmps) = false) (h : GexAt P l Q rest (a.put o.dst undef) w) : GexAt P l Q (i :: rest) a w := ⟨lex_skip ho hw h.out⟩
theorem gex_loud (ho : nthOp l i = some o) (hl : loudOp o.op = true) (hw : Region.wanted o (yielded l.toArray a.tmps) = true)
    (h : ∀ K : Act → World → Prop, (∀ a' w', Below w.heap.size w w' → GexAt P l Q rest a' w' → K a' w') → o.wp P a w K Q) : GexAt P l Q (i :: rest) a w :=
  ⟨lex_loud ho hl hw fun K hK => h K fun a' w' h1 h2 => hK a' w' h1 h2.out⟩
theorem gex_nil (h : Q .normal a w) : GexAt P l Q [] a w := ⟨lex_nil h⟩
end
end Go.Proofs.Ytlhemmlmhgjodaa
