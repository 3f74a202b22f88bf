/- A slice of one-cell elements that the call owns, which may begin in the midst of its row: cut at its head, appended to. No program is named. -/
import Derived.Test.YtnojeiklgjhkgaaBase
import Derived.ArgAppend
import Derived.Laws.CopyRow
namespace Go.Proofs.Ytnojeiklgjhkgaa
open Go.RowKit

/-- The slice a .. c reads as vs (n elements), and what room it has is the call's own, from block B on. -/
structure Mid (w : World) (B : Nat) (e : TypeId) (a : Option Addr) (n c : Nat) (vs : List Value) : Prop where
  len : vs.length = n
  le : n ≤ c
  max : c ≤ maxLen
  nil : a = none → c = 0
  row : 0 < c → ∃ r o cur, a = some ⟨r, o, none⟩ ∧ B ≤ r ∧ Blk w r cur e ∧ o + c ≤ cur.size ∧ (cur.toList.drop o).take n = vs
/-- The block that is written where there is room. -/
def rowB (a : Option Addr) (c : Nat) : Option Nat := if c = 0 then none else a.map (·.block)
section
variable {w w' : World} {B : Nat} {e : TypeId} {a : Option Addr} {n c : Nat} {vs : List Value}
theorem rowB_some {r o : Nat} (hc : 0 < c) : rowB (some ⟨r, o, none⟩) c = some r := by simp [rowB]; omega
theorem Mid.nil' (w : World) (B : Nat) (e : TypeId) : Mid w B e none 0 0 [] := ⟨rfl, Nat.le_refl _, by unfold maxLen; omega, fun _ => rfl, fun h => by omega⟩
theorem Mid.lower {B' : Nat} (h : Mid w B e a n c vs) (hB : B' ≤ B) : Mid w B' e a n c vs :=
  ⟨h.len, h.le, h.max, h.nil, fun hc => by obtain ⟨r, o, cur, h1, h2, h3⟩ := h.row hc; exact ⟨r, o, cur, h1, Nat.le_trans hB h2, h3⟩⟩
theorem Mid.of (h : Own w B e 1 a n c vs) : Mid w B e a n c vs := by
  refine ⟨by have := h.length; omega, h.le, h.cap_le, ?_, fun hc => ?_⟩
  · rintro rfl
    rcases h.2 with ⟨hv, _⟩ | ⟨g, cap, cur, hv, _⟩
    · simp only [Value.slice.injEq] at hv; omega
    · simp at hv
  · rcases h.2 with ⟨hv, hn⟩ | ⟨g, cap, cur, hv, hB, hg, _, _, hs, ht⟩
    · simp only [Value.slice.injEq] at hv; omega
    · simp only [Value.slice.injEq] at hv
      obtain ⟨rfl, -, rfl⟩ := hv
      exact ⟨g, 0, cur, rfl, hB, hg, by omega, by simpa using ht⟩
/-- Where it is kept: whatever leaves its row. -/
theorem Mid.keep (h : Mid w B e a n c vs) (hk : ∀ r, rowB a c = some r → w'.heap[r]? = w.heap[r]?) : Mid w' B e a n c vs :=
  ⟨h.len, h.le, h.max, h.nil, fun hc => by
    obtain ⟨r, o, cur, h1, h2, h3, h4⟩ := h.row hc
    refine ⟨r, o, cur, h1, h2, ?_, h4⟩
    unfold Blk
    rw [hk r (by rw [h1]; exact rowB_some hc)]
    exact h3⟩
theorem Mid.lt (h : Mid w B e a n c vs) {r : Nat} (hr : rowB a c = some r) : B ≤ r ∧ r < w.heap.size ∧ ∃ cur, Blk w r cur e := by
  have hc : 0 < c := by
    rcases Nat.eq_zero_or_pos c with h0 | h0
    · subst h0; simp [rowB] at hr
    · exact h0
  obtain ⟨r', o, cur, h1, h2, h3, _⟩ := h.row hc
  rw [h1, rowB_some hc] at hr
  cases hr
  exact ⟨h2, h3.lt, cur, h3⟩
theorem Mid.old (h : Mid w B e a n c vs) (hb : Below w.heap.size w w') : Mid w' B e a n c vs := h.keep fun r hr => hb.block r (h.lt hr).2.1
theorem Mid.drew (h : Mid w B e a n c vs) : Mid w.drew B e a n c vs := h.keep fun _ _ => rfl
theorem Mid.alloc (h : Mid w B e a n c vs) (o : Obj) : Mid (w.alloc o) B e a n c vs := h.old ((Below.refl _ _).alloc (Nat.le_refl _) o)
theorem Mid.setCell (h : Mid w B e a n c vs) {g : Nat} {cs : Array Value} {t : TypeId} (hB : Blk w g cs t) (hne : t ≠ e) (i : Nat) (v : Value) : Mid (w.setCell ⟨g, i, none⟩ v) B e a n c vs := h.keep fun r hr => by
  obtain ⟨_, _, cur, hcur⟩ := h.lt hr
  exact heap_setCell_other w ⟨g, i, none⟩ r v (by rintro rfl; exact (Blk.ne hcur hB (Ne.symm hne)) rfl)
theorem Mid.setRow (h : Mid w B e a n c vs) {g : Nat} {cs : Array Value} {t : TypeId} (hB : Blk w g cs t) (hne : t ≠ e) (cs' : Array Value) : Mid (w.setRow g cs') B e a n c vs := h.keep fun r hr => by
  obtain ⟨_, _, cur, hcur⟩ := h.lt hr
  exact Go.setRow_other w g r cs' (Blk.ne hcur hB (Ne.symm hne))
theorem Mid.read (h : Mid w B e a n c vs) : RowAt w a vs := by
  intro i hi
  have hc : 0 < c := by have := h.le; have := h.len; omega
  obtain ⟨r, o, cur, rfl, _, h3, h4, h5⟩ := h.row hc
  refine ⟨r, o, rfl, ?_⟩
  rw [h3.rule]
  have h6 : vs[i]? = some vs[i] := List.getElem?_eq_getElem hi
  have hi' : i < n := by rw [← h.len]; exact hi
  rw [← h6, ← h5, List.getElem?_take_of_lt hi', List.getElem?_drop, Array.getElem?_toList]
/-- s[k:], at one cell an element. -/
def cutA (a : Option Addr) (c k : Nat) : Option Addr := if c = k then a else a.map (·.add (k * 1))
theorem Mid.cut (h : Mid w B e a n c vs) (k : Nat) (hk : k ≤ n) : Mid w B e (cutA a c k) (n - k) (c - k) (vs.drop k) := by
  have hle := h.le
  have hmax := h.max
  refine ⟨by rw [List.length_drop, h.len], by omega, by omega, fun hn => ?_, fun hc => ?_⟩
  · unfold cutA at hn
    split at hn
    · omega
    · have := h.nil (by simpa using hn); omega
  · obtain ⟨r, o, cur, rfl, h2, h3, h4, h5⟩ := h.row (by omega)
    refine ⟨r, o + k, cur, ?_, h2, h3, by omega, ?_⟩
    · unfold cutA
      rw [if_neg (by omega), Option.map_some, Addr.add_mid, Nat.mul_one]
    · rw [← h5, List.drop_take, List.drop_drop]
theorem rowB_cut (a : Option Addr) (c k : Nat) : rowB (cutA a c k) (c - k) = none ∨ rowB (cutA a c k) (c - k) = rowB a c := by
  unfold rowB cutA
  by_cases h : c - k = 0
  · left; rw [if_pos h]
  · right
    rw [if_neg h, if_neg (show ¬ c = k by omega), if_neg (show ¬ c = 0 by omega)]
    cases a with
    | none => rfl
    | some ad =>
      obtain ⟨b, o, sp⟩ := ad
      by_cases hk : k = 0 <;> cases sp <;> simp [Addr.add, hk]
end
section
variable {P : Program}
theorem run_append_mid {w : World} {B : Nat} {e : TypeId} {sa : Option Addr} {n sc : Nat} {vs : List Value} (t ty : TypeId) {bytes : Nat} (hT : RowType P t e 1 bytes) (h : Mid w B e sa n sc vs)
    {xa : Option Addr} {m xc : Nat} {news : List Value} (hrow : RowAt w xa news) (hl : news.length = m) (h1 : ∀ u ∈ news, u.oneCell' = true) (h63 : n + m ≤ maxLen) (hbytes : (n + m) * bytes ≤ 140737488355328) (hB : B ≤ w.heap.size) :
    ∃ a' c' w', (Builtin.append_ #[t, t] ty #[.slice sa n sc, .slice xa m xc]).run P w = .ok (.slice a' (n + m) c') w' ∧ Mid w' B e a' (n + m) c' (vs ++ news) ∧ w.grownBy w' (rowB sa sc) ∧
      (rowB a' c' = rowB sa sc ∨ ∃ b, rowB a' c' = some b ∧ w.heap.size ≤ b) := by
  obtain ⟨ht, hsz, i, z, hi, hz, hsize, hby, hzs⟩ := hT
  by_cases hm : m = 0
  · subst hm
    obtain rfl : news = [] := List.eq_nil_of_length_eq_zero hl
    refine ⟨sa, sc, w, ?_, by simpa using h, World.grownBy.refl _ _, .inl rfl⟩
    have hle := h.le
    cases sa with
    | none =>
      have h0 := h.nil rfl
      subst h0
      obtain rfl : n = 0 := by omega
      cases xa with
      | none => simp [Builtin.append_, run_underlying ht, sizeOf, typeInfo, hi, Builtin.lenOf, Builtin.firstCells]
      | some xad =>
        have hfc := run_firstCells_some (P := P) w i.size 0 xad 0 xc [] (by simp) (fun j u hu => by simp at hu)
        simp [Builtin.append_, run_underlying ht, sizeOf, typeInfo, hi, Builtin.lenOf, hfc]
    | some ad =>
      cases xa with
      | none => simp [Builtin.append_, run_underlying ht, sizeOf, typeInfo, hi, Builtin.lenOf, Builtin.firstCells, hle, storeCells]
      | some xad =>
        have hfc := run_firstCells_some (P := P) w i.size 0 xad 0 xc [] (by simp) (fun j u hu => by simp at hu)
        simp [Builtin.append_, run_underlying ht, sizeOf, typeInfo, hi, Builtin.lenOf, hfc, hle, storeCells]
  · obtain ⟨xad, rfl⟩ : ∃ ad, xa = some ad := by
      obtain ⟨b, o, hx, _⟩ := hrow 0 (by omega)
      exact ⟨_, hx⟩
    have hnews : ∀ j u, news[j]? = some u → w.cell? (xad.add j) = some u := fun j u hu => by
      obtain ⟨hj, rfl⟩ := List.getElem?_eq_some_iff.1 hu
      obtain ⟨b, o, he, hc⟩ := hrow j hj
      obtain rfl := Option.some.inj he
      rw [Addr.add_mid]; exact hc
    by_cases hroom : n + m ≤ sc
    · obtain ⟨r, o, cur, rfl, h2, h3, h4, h5⟩ := h.row (by omega)
      have hfc := run_firstCells_some (P := P) w i.size m xad m xc news (by rw [hl, hsize, Nat.mul_one]) hnews
      have hst := run_storeCells_at (P := P) r (o + n * i.size) e news 0 cur w h3 (by rw [hsize]; omega) h1
      refine ⟨some ⟨r, o, none⟩, sc, w.setRow r (cur.toList.take (o + n) ++ news ++ cur.toList.drop (o + n + news.length)).toArray, ?_, ?_, ?_, .inl rfl⟩
      · simp only [Nat.add_zero] at hst
        have e1 : o + n * i.size = o + n := by rw [hsize, Nat.mul_one]
        rw [e1] at hst
        simp [Builtin.append_, run_underlying ht, sizeOf, typeInfo, hi, Builtin.lenOf, hroom, hfc, Addr.add_lit, e1, hst]
      · refine ⟨by rw [List.length_append, h.len, hl], hroom, h.max, (fun hn => by cases hn), fun hc => ⟨r, o, _, rfl, h2, h3.setRow _, ?_, ?_⟩⟩
        · simp; omega
        · have el : (List.take (o + n) cur.toList).length = o + n := by simp; omega
          have e2 : List.drop o (List.take (o + n) cur.toList ++ news ++ List.drop (o + n + news.length) cur.toList) = vs ++ news ++ List.drop (o + n + news.length) cur.toList := by
            rw [List.append_assoc, List.drop_append_of_le_length (by omega), List.drop_take, show o + n - o = n by omega, h5, List.append_assoc]
          show List.take (n + m) (List.drop o (List.take (o + n) cur.toList ++ news ++ List.drop (o + n + news.length) cur.toList)) = vs ++ news
          rw [e2, List.take_append_of_le_length (by rw [List.length_append, h.len, hl]; omega), List.take_of_length_le (by rw [List.length_append, h.len, hl]; omega)]
      · rw [rowB_some (by omega)]
        exact ⟨rfl, rfl, rfl, by simp [World.setRow], fun k _ hne => Go.setRow_other w r k _ (by rintro rfl; exact hne rfl)⟩
    · have hgrow : ∃ v' w', (Builtin.append_ #[t, t] ty #[.slice sa n sc, .slice (some xad) m xc]).run P w = .ok v' w' ∧ w'.ownsRow w.heap.size e 1 v' (n + m) (vs ++ news) ∧ w.grownBy w' none := by
        cases sa with
        | some b =>
          refine run_append_arg_grows (P := P) w t ty e i z 1 bytes ht hi hz hsize hby hzs (by omega) b n sc vs (by rw [h.len, Nat.mul_one]) (fun j u hu => ?_) xad m xc news (by rw [hl, Nat.mul_one]) hnews (by omega) h63 hbytes
          obtain ⟨hj, rfl⟩ := List.getElem?_eq_some_iff.1 hu
          obtain ⟨b', o, he, hc⟩ := h.read j hj
          obtain rfl := Option.some.inj he
          rw [Addr.add_mid]; exact hc
        | none =>
          have h0 := h.nil rfl
          have hle := h.le
          subst h0
          obtain rfl : n = 0 := by omega
          obtain rfl : vs = [] := List.eq_nil_of_length_eq_zero h.len
          obtain ⟨v', w', hrun, r1, r2, _⟩ := run_append_own (P := P) w w.heap.size t ty e i z 1 bytes ht hi hz hsize hby hzs (by omega) (.slice none 0 0) 0 [] (World.ownsRow_nil w _ e 1) xad m xc news (by rw [hl, Nat.mul_one]) hnews h1 h63 hbytes (Nat.le_refl _)
          exact ⟨v', w', hrun, r1, r2⟩
      obtain ⟨v', w', hrun, hown, hg⟩ := hgrow
      obtain ⟨g, cap, rfl, hgB, _⟩ : ∃ g cap, v' = .slice (some ⟨g, 0, none⟩) (n + m) cap ∧ w.heap.size ≤ g ∧ True := by
        rcases hown.2 with ⟨_, h0⟩ | ⟨g, cap, cur, rfl, hB', _⟩
        · omega
        · exact ⟨g, cap, rfl, hB', trivial⟩
      have hMid : Mid w' w.heap.size e (some ⟨g, 0, none⟩) (n + m) cap (vs ++ news) := Mid.of (n := n + m) hown
      refine ⟨_, _, w', hrun, hMid.lower hB, ⟨hg.os, hg.tape, hg.output, hg.size, fun k hk _ => hg.block k hk (by simp)⟩, .inr ⟨g, rowB_some (by have := hMid.le; omega), hgB⟩⟩
theorem wp_append_mid {w : World} {o : Oper} {a : Act} {K : Act → World → Prop} {Q : Exit → Act → World → Prop} (s x : Operand) (t : TypeId) (ho : o.op = .call { callee := .builtin .append, args := #[s, x], argTypes := #[t, t] })
    {e : TypeId} {bytes : Nat} (hT : RowType P t e 1 bytes) {B : Nat} {sa : Option Addr} {n sc : Nat} {vs : List Value} (hs : a.eval s = .slice sa n sc) (h : Mid w B e sa n sc vs)
    {xa : Option Addr} {m xc : Nat} {news : List Value} (hx : a.eval x = .slice xa m xc) (hrow : RowAt w xa news) (hl : news.length = m) (h1 : ∀ u ∈ news, u.oneCell' = true) (h63 : n + m ≤ maxLen) (hbytes : (n + m) * bytes ≤ 140737488355328) (hB : B ≤ w.heap.size)
    (hK : ∀ a' c' w', Mid w' B e a' (n + m) c' (vs ++ news) → w.grownBy w' (rowB sa sc) → (rowB a' c' = rowB sa sc ∨ ∃ b, rowB a' c' = some b ∧ w.heap.size ≤ b) → K (a.put o.dst (.slice a' (n + m) c')) w') : o.wp P a w K Q := by
  obtain ⟨a', c', w', hrun, r1, r2, r3⟩ := run_append_mid (P := P) t o.type hT h hrow hl h1 h63 hbytes hB (xc := xc)
  unfold Oper.wp
  simp [execOp, ho, resolve, invoke, builtin, hs, hx, hrun, Result.andThen]
  exact hK a' c' w' r1 r2 r3
theorem wpList_append_mid {w : World} {ops : Array Oper} {rest : List Oper} {o : Oper} {a : Act} {Q : Exit → Act → World → Prop} (hgd : o.guard = none) (s x : Operand) (t : TypeId) (ho : o.op = .call { callee := .builtin .append, args := #[s, x], argTypes := #[t, t] })
    {e : TypeId} {bytes : Nat} (hT : RowType P t e 1 bytes) {B : Nat} {sa : Option Addr} {n sc : Nat} {vs : List Value} (hs : a.eval s = .slice sa n sc) (h : Mid w B e sa n sc vs)
    {xa : Option Addr} {m xc : Nat} {news : List Value} (hx : a.eval x = .slice xa m xc) (hrow : RowAt w xa news) (hl : news.length = m) (h1 : ∀ u ∈ news, u.oneCell' = true) (h63 : n + m ≤ maxLen) (hbytes : (n + m) * bytes ≤ 140737488355328) (hB : B ≤ w.heap.size)
    (hK : ∀ a' c' w', Mid w' B e a' (n + m) c' (vs ++ news) → w.grownBy w' (rowB sa sc) → (rowB a' c' = rowB sa sc ∨ ∃ b, rowB a' c' = some b ∧ w.heap.size ≤ b) → wpList P ops Q rest (a.put o.dst (.slice a' (n + m) c')) w') : wpList P ops Q (o :: rest) a w :=
  wpList_plain hgd fun _ hK' => wp_append_mid s x t ho hT hs h hx hrow hl h1 h63 hbytes hB fun a' c' w' r1 r2 r3 => hK' _ _ (hK a' c' w' r1 r2 r3)
/-- s[k:] and s[:k], as the walk meets them. -/
theorem run_cut_from {t e : TypeId} (ht : P.underlying t = some (.slice e)) (hsz : (P.info? e).map (·.size) = some 1) (a : Option Addr) (n c k : Nat) (hk : k ≤ n) (W : World) :
    (Instr.sliceAt t (.slice a n c) (some (.int .i64 (k : Int))) none none).run P W = .ok (.slice (cutA a c k) (n - k) (c - k)) W := by
  have he : P.elem t = e := by simp [Program.elem, ht]
  rw [run_sliceAt_slice W t _ _ _ _ (by rw [he]; exact ht)]
  rw [run_slice_l W t a n c (by rw [he]; exact ht) .i64 (k : Int) (by omega) (by omega), he]
  have hs : (sizeOf e).run P W = .ok 1 W := by
    cases hq : P.info? e with
    | none => simp [hq] at hsz
    | some i => simp [hq] at hsz; simp [sizeOf, typeInfo, hq, hsz]
  rw [hs]
  simp [sliced, cutA]
end
end Go.Proofs.Ytnojeiklgjhkgaa
