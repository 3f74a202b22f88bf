/- append to a row of the call's own: its block is the old one, or a new one. No program is named. -/
import Derived.Test.YtnojeiklgjhkgaaMid
namespace Go.Proofs.Ytnojeiklgjhkgaa
open Go.RowKit
section
variable {P : Program}
theorem run_append_fresh (t ty : TypeId) {e : TypeId} {bytes : Nat} (hT : RowType P t e 1 bytes) {w : World} {B : Nat} {sa : Option Addr} {n sc : Nat} {vs : List Value} (h : Own w B e 1 sa n sc vs)
    {xa : Option Addr} {m xc : Nat} {news : List Value} (hrow : RowAt w xa news) (hl : news.length = m) (hm : 0 < m) (h1 : ∀ u ∈ news, u.oneCell' = true) (h63 : n + m ≤ maxLen) (hbytes : (n + m) * bytes ≤ 140737488355328) (hB : B ≤ w.heap.size) :
    ∃ a' c' w', (Builtin.append_ #[t, t] ty #[.slice sa n sc, .slice xa m xc]).run P w = .ok (.slice a' (n + m) c') w' ∧ Own w' B e 1 a' (n + m) c' (vs ++ news) ∧ w.grownBy w' (rowB sa sc) ∧
      (rowB a' c' = rowB sa sc ∨ ∃ b, rowB a' c' = some b ∧ w.heap.size ≤ b) := by
  obtain ⟨a', c', w', r0, _, r2, r3⟩ := run_append_mid (P := P) t ty hT (Mid.of h) hrow hl h1 h63 hbytes hB (xc := xc)
  obtain ⟨ht, hsz, i, z, hi, hz, hsize, hby, hzs⟩ := hT
  obtain ⟨b, o, rfl, _⟩ := hrow 0 (by omega)
  have hnews : ∀ j u, news[j]? = some u → w.cell? ((⟨b, o, none⟩ : Addr).add j) = some u := fun j u hu => by
    obtain ⟨hj, rfl⟩ := List.getElem?_eq_some_iff.1 hu
    obtain ⟨b', o', he, hc⟩ := hrow j hj
    cases he
    rw [Addr.add_mid]; exact hc
  obtain ⟨v', w2, q0, q1, _⟩ := run_append_own (P := P) w B t ty e i z 1 bytes ht hi hz hsize hby hzs (by omega) (.slice sa n sc) n vs h ⟨b, o, none⟩ m xc news (by rw [hl, Nat.mul_one]) hnews h1 h63 hbytes hB
  rw [r0] at q0
  simp only [Result.ok.injEq] at q0
  obtain ⟨rfl, rfl⟩ := q0
  exact ⟨a', c', w', r0, q1, r2, r3⟩
theorem wp_append_fresh {w : World} {o : Oper} {a : Act} {K : Act → World → Prop} {Q : Exit → Act → World → Prop} (s x : Operand) (t : TypeId) (ho : o.op = .call { callee := .builtin .append, args := #[s, x], argTypes := #[t, t] })
    {e : TypeId} {bytes : Nat} (hT : RowType P t e 1 bytes) {B : Nat} {sa : Option Addr} {n sc : Nat} {vs : List Value} (hs : a.eval s = .slice sa n sc) (h : Own w B e 1 sa n sc vs)
    {xa : Option Addr} {m xc : Nat} {news : List Value} (hx : a.eval x = .slice xa m xc) (hrow : RowAt w xa news) (hl : news.length = m) (hm : 0 < m) (h1 : ∀ u ∈ news, u.oneCell' = true) (h63 : n + m ≤ maxLen) (hbytes : (n + m) * bytes ≤ 140737488355328) (hB : B ≤ w.heap.size)
    (hK : ∀ a' c' w', Own w' B e 1 a' (n + m) c' (vs ++ news) → w.grownBy w' (rowB sa sc) → (rowB a' c' = rowB sa sc ∨ ∃ b, rowB a' c' = some b ∧ w.heap.size ≤ b) → K (a.put o.dst (.slice a' (n + m) c')) w') : o.wp P a w K Q := by
  obtain ⟨a', c', w', hrun, r1, r2, r3⟩ := run_append_fresh (P := P) t o.type hT h hrow hl hm h1 h63 hbytes hB (xc := xc)
  unfold Oper.wp
  simp [execOp, ho, resolve, invoke, builtin, hs, hx, hrun, Result.andThen]
  exact hK a' c' w' r1 r2 r3
theorem wpList_append_fresh {w : World} {ops : Array Oper} {rest : List Oper} {o : Oper} {a : Act} {Q : Exit → Act → World → Prop} (hgd : o.guard = none) (s x : Operand) (t : TypeId) (ho : o.op = .call { callee := .builtin .append, args := #[s, x], argTypes := #[t, t] })
    {e : TypeId} {bytes : Nat} (hT : RowType P t e 1 bytes) {B : Nat} {sa : Option Addr} {n sc : Nat} {vs : List Value} (hs : a.eval s = .slice sa n sc) (h : Own w B e 1 sa n sc vs)
    {xa : Option Addr} {m xc : Nat} {news : List Value} (hx : a.eval x = .slice xa m xc) (hrow : RowAt w xa news) (hl : news.length = m) (hm : 0 < m) (h1 : ∀ u ∈ news, u.oneCell' = true) (h63 : n + m ≤ maxLen) (hbytes : (n + m) * bytes ≤ 140737488355328) (hB : B ≤ w.heap.size)
    (hK : ∀ a' c' w', Own w' B e 1 a' (n + m) c' (vs ++ news) → w.grownBy w' (rowB sa sc) → (rowB a' c' = rowB sa sc ∨ ∃ b, rowB a' c' = some b ∧ w.heap.size ≤ b) → wpList P ops Q rest (a.put o.dst (.slice a' (n + m) c')) w') : wpList P ops Q (o :: rest) a w :=
  wpList_plain hgd fun _ hK' => wp_append_fresh s x t ho hT hs h hx hrow hl hm h1 h63 hbytes hB fun a' c' w' r1 r2 r3 => hK' _ _ (hK a' c' w' r1 r2 r3)
end
/-- The blocks of S stay. -/
def KeepAt (S : Nat → Prop) (W W' : World) : Prop := W.heap.size ≤ W'.heap.size ∧ ∀ x, S x → W'.heap[x]? = W.heap[x]?
theorem KeepAt.refl (S : Nat → Prop) (W : World) : KeepAt S W W := ⟨Nat.le_refl _, fun _ _ => rfl⟩
theorem KeepAt.trans {S : Nat → Prop} {A B C : World} (h : KeepAt S A B) (h' : KeepAt S B C) : KeepAt S A C := ⟨Nat.le_trans h.1 h'.1, fun x hx => (h'.2 x hx).trans (h.2 x hx)⟩
theorem KeepAt.below {S : Nat → Prop} {A B : World} {n : Nat} (h : Below n A B) (hS : ∀ x, S x → x < n) : KeepAt S A B := ⟨h.size, fun x hx => h.block x (hS x hx)⟩
end Go.Proofs.Ytnojeiklgjhkgaa
