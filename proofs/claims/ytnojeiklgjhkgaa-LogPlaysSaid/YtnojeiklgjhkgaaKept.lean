/- Drawn regions in which the call's own memory grows: what lies below B stays. No program is named. -/
import Derived.Test.YtnojeiklgjhkgaaBase
import Derived.Test.YtnojeiklgjhkgaaLex
namespace Go.Proofs.Ytnojeiklgjhkgaa
open Go.RowKit

/-- append(s, x...) at one operation (XBase has it at a list of them). -/
theorem wp_append_row {P : Program} {w : World} {o : Oper} {a : Act} {K : Act → World → Prop} {Q : Exit → Act → World → Prop} (s x : Operand) (t : TypeId)
    (ho : o.op = .call { callee := .builtin .append, args := #[s, x], argTypes := #[t, t] }) {e : TypeId} {size bytes : Nat} (hT : RowType P t e size bytes)
    {B : Nat} {sa : Option Addr} {n sc : Nat} {xs : List Value} (hs : a.eval s = .slice sa n sc) (hown : Own w B e size sa n sc xs)
    {xa : Option Addr} {m xc : Nat} {news : List Value} (hx : a.eval x = .slice xa m xc) (hrow : RowAt w xa news) (hl : news.length = m * size) (h1 : ∀ u ∈ news, u.oneCell' = true)
    (h63 : n + m ≤ maxLen) (hbytes : (n + m) * bytes ≤ 140737488355328) (hbase : B ≤ w.heap.size)
    (h : ∀ a' c' w', Own w' B e size a' (n + m) c' (xs ++ news) → w.grownBy w' (Value.slice sa n sc).ownBlock → K (a.put o.dst (.slice a' (n + m) c')) w') : o.wp P a w K Q := by
  obtain ⟨ht, hsz, i, z, hi, hz, hsize, hby, hzs⟩ := hT
  have form : ∀ (v' : Value) (w' : World), w'.ownsRow B e size v' (n + m) (xs ++ news) → ∃ a' c', v' = .slice a' (n + m) c' := by
    intro v' w' h'
    rcases h'.2 with ⟨rfl, hn⟩ | ⟨g, cap, cur, rfl, _⟩
    · exact ⟨none, 0, by rw [hn]⟩
    · exact ⟨_, _, rfl⟩
  match xa, hx, hrow with
  | none, hx, hrow =>
    have hn0 : news = [] := by
      cases news with
      | nil => rfl
      | cons u r => obtain ⟨b, o, he, _⟩ := hrow 0 (by simp); cases he
    subst hn0
    have hm : m = 0 := by
      simp only [List.length_nil] at hl
      rcases Nat.mul_eq_zero.1 hl.symm with h | h
      · exact h
      · omega
    subst hm
    have hrun := run_append_none (P := P) (w := w) B t o.type e i size ht hi (.slice sa n sc) n xc xs hown
    unfold Oper.wp
    simp [execOp, ho, resolve, invoke, builtin, hs, hx, hrun, Result.andThen]
    have hh := h sa sc w (by simpa using hown) (World.grownBy.refl _ _)
    simp at hh
    exact hh
  | some ad, hx, hrow =>
    refine wp_append_own w s x t ho B e i z size bytes ht hi hz hsize hby hzs hsz (.slice sa n sc) n xs hs hown ad m xc news hx hl ?_ h1 h63 hbytes hbase ?_
    · intro j u hu
      have hj : j < news.length := (List.getElem?_eq_some_iff.1 hu).1
      obtain ⟨b, o, he, hc⟩ := hrow j hj
      obtain rfl := Option.some.inj he
      rw [Addr.add_mid, hc, ← hu, List.getElem?_eq_getElem hj]
    · intro v' w' hown' hg _
      obtain ⟨a', c', rfl⟩ := form v' w' hown'
      exact h a' c' w' hown' hg

section
variable {P : Program} {Q : Exit → Act → World → Prop} {a : Act} {w : World} {B : Nat}
theorem wp_region_kept (B : Nat) (order : List Nat) {id : Nat} {l : List Oper} (hm : P.follows .mixedOrders = true) (hB : lexR l.toArray order = true)
    (hQ : ∀ c a d v w, Q (.panic c) (a.put d v) w → Q (.panic c) a w)
    (h : wpLexR P l.toArray Q (Kept B) order a w.drew) : (Code.region id l.toArray true).wp P Q a w :=
  wp_region_lexR (R := Kept B) order (fun _ => Below.refl _ _) (fun _ _ _ h1 h2 => Below.trans h1 h2) hm hB hQ h
variable {l : List Oper} {rest : List Nat} {i : Nat} {o : Oper}
theorem kept_quiet {v : Value} (ho : nthOp l i = some o) (hl : loudOp o.op = false) (hw : Region.wanted o (yielded l.toArray a.tmps) = true)
    (hy : ∀ w', Kept B w w' → (execOp a.eval o).run P w' = .ok (.value v) w') (h : wpLexR P l.toArray Q (Kept B) rest (a.put o.dst v) w) : wpLexR P l.toArray Q (Kept B) (i :: rest) a w := by
  rw [nthOp_eq] at ho
  simp only [wpLexR, ho, hw, hl, if_true]
  exact ⟨v, hy, h⟩
theorem kept_skip (ho : nthOp l i = some o) (hw : Region.wanted o (yielded l.toArray a.tmps) = false) (h : wpLexR P l.toArray Q (Kept B) rest (a.put o.dst undef) w) : wpLexR P l.toArray Q (Kept B) (i :: rest) a w := by
  rw [nthOp_eq] at ho
  simp only [wpLexR, ho, hw]
  exact h
theorem kept_loud (ho : nthOp l i = some o) (hl : loudOp o.op = true) (hw : Region.wanted o (yielded l.toArray a.tmps) = true)
    (h : ∀ K : Act → World → Prop, (∀ a' w', Kept B w w' → wpLexR P l.toArray Q (Kept B) rest a' w' → K a' w') → o.wp P a w K Q) : wpLexR P l.toArray Q (Kept B) (i :: rest) a w := by
  rw [nthOp_eq] at ho
  simp only [wpLexR, ho, hw, hl, if_true]
  exact h _ (fun a' w' h1 h2 => ⟨h1, h2⟩)
theorem kept_nil {ops : Array Oper} (h : Q .normal a w) : wpLexR P ops Q (Kept B) [] a w := h
end
end Go.Proofs.Ytnojeiklgjhkgaa
