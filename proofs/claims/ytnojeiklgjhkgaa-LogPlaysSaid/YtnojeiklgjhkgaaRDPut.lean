/- The walks through the document's disk, on: drop, put. -/
import Derived.Test.YtnojeiklgjhkgaaRDMore
namespace Go.Proofs.Ytnojeiklgjhkgaa
open Go.RowKit Go.Maps
set_option linter.unusedVariables false
set_option linter.unusedSimpArgs false

theorem fileT : AggT Try.prog 101 3 := ⟨⟨_, Try.underlying101, rfl⟩, by kernel_rfl⟩
theorem filesT : RowType Try.prog 53 101 3 48 := RowType.mk (z := .agg #[.string ⟨#[]⟩, .slice none 0 0, .int .i64 0]) Try.underlying53 (by kernel_rfl) rfl (by omega)
def fileVal (f : FileQ) : Value := .agg #[.string f.nm, .slice f.a f.b.length f.c, .int .i64 (f.sure : Int)]
theorem file_cells {w : World} {g o : Nat} {f : FileQ} (c0 : w.cell? ⟨g, o, none⟩ = some (.string f.nm)) (c1 : w.cell? ⟨g, o + 1, none⟩ = some (.slice f.a f.b.length f.c)) (c2 : w.cell? ⟨g, o + 2, none⟩ = some (.int .i64 (f.sure : Int))) :
    ∀ j (h : j < (fileCells f).length), w.cell? ⟨g, o + j, none⟩ = some (fileCells f)[j] := by
  intro j hj
  have hj3 : j < 3 := hj
  match j, hj3 with
  | 0, _ => exact c0
  | 1, _ => exact c1
  | 2, _ => exact c2
theorem files_len (l : List FileQ) : (l.flatMap fileCells).length = l.length * 3 := by
  induction l with
  | nil => rfl
  | cons x l ih => rw [List.flatMap_cons, List.length_append, ih, List.length_cons]; show 3 + _ = _; omega
/-- What is dropped of a beginning. -/
theorem erase_step {α : Type} (l : List α) (k j : Nat) (hj : j < l.length) : (l.take (j + 1)).eraseIdx k = if j = k then (l.take j).eraseIdx k else (l.take j).eraseIdx k ++ [l[j]] := by
  rw [List.take_succ_eq_append_getElem hj]
  have hl : (l.take j).length = j := by rw [List.length_take]; omega
  by_cases e : j = k
  · subst e
    rw [if_pos rfl, List.eraseIdx_append_of_length_le (by omega), hl, Nat.sub_self]
    simp [List.eraseIdx_of_length_le (show (l.take j).length ≤ j by omega)]
  · rw [if_neg e]
    by_cases h : k < j
    · rw [List.eraseIdx_append_of_lt_length (by omega)]
    · rw [List.eraseIdx_append_of_length_le (by omega), hl, List.eraseIdx_of_length_le (show ([l[j]] : List α).length ≤ k - j by simp; omega), List.eraseIdx_of_length_le (show (l.take j).length ≤ k by omega)]
theorem DiskOk.sub {p : DiskP} (h : DiskOk p) {fs : List FileP} (hs : fs.Sublist p.fs) : DiskOk { p with fs := fs } :=
  ⟨(hs.map _).nodup h.names, fun f hf => h.named f (hs.subset hf), fun f hf => h.sure f (hs.subset hf), fun f hf => h.size f (hs.subset hf), Nat.le_trans hs.length_le h.count, h.left⟩
/-- The list has a new row. -/
theorem RefAt.relist {w w' : World} {B : Nat} {r : RefR} (h : RefAt w' B r) (hB : B ≤ w.heap.size) (hs : w.heap.size ≤ w'.heap.size) {la : Option Addr} {lc : Nat} {fs : List FileQ} (hrow : Own w' w.heap.size 101 3 la fs.length lc (fs.flatMap fileCells)) (hsub : ∀ f ∈ fs, f ∈ r.fs) (hok : DiskOk (RefR.p { r with fs := fs, la := la, lc := lc })) :
    RefAt (w'.setCell ⟨r.d, 0, none⟩ (.slice la fs.length lc)) B { r with fs := fs, la := la, lc := lc } := by
  have hk : ∀ x, x ≠ r.d → (w'.setCell ⟨r.d, 0, none⟩ (.slice la fs.length lc)).heap[x]? = w'.heap[x]? := fun x hx => heap_setCell_other _ _ _ _ hx
  have ne : ∀ {b : Nat} {cs : Array Value} {t : TypeId}, Blk w' b cs t → t ≠ 55 → b ≠ r.d := fun hb' ht => Blk.ne hb' h.blk ht
  refine ⟨h.ged, ?_, (hrow.lower hB).keepAt fun x hx => hk _ ?_, fun f hf => (h.files f (hsub f hf)).keepAt fun x hx => hk _ ?_, h.plan.keepAt fun x hx => hk _ ?_, hok⟩
  · have := h.blk.set 0 (.slice la fs.length lc)
    unfold refHead
    exact this
  · obtain ⟨_, _, _, hc⟩ := hrow.block_lt hx
    exact ne hc (by decide)
  · obtain ⟨_, _, _, hc⟩ := (h.files f (hsub f hf)).block_lt hx
    exact ne hc (by decide)
  · obtain ⟨_, _, _, hc⟩ := h.plan.block_lt hx
    exact ne hc (by decide)
section
variable {P : Program}
/-- append to an own row, of whatever size: where the new row lies. -/
theorem run_append_where (t ty : TypeId) {e : TypeId} {size bytes : Nat} (hT : RowType P t e size bytes) {w : World} {B : Nat} {sa : Option Addr} {n sc : Nat} {vs : List Value} (h : Own w B e size sa n sc vs)
    {xa : Option Addr} {m xc : Nat} {news : List Value} (hrow : RowAt w xa news) (hl : news.length = m * size) (hm : 0 < m) (h1 : ∀ u ∈ news, u.oneCell' = true) (h63 : n + m ≤ maxLen) (hbytes : (n + m) * bytes ≤ 140737488355328) (hB : B ≤ w.heap.size) :
    ∃ b c' w', (Builtin.append_ #[t, t] ty #[.slice sa n sc, .slice xa m xc]).run P w = .ok (.slice (some ⟨b, 0, none⟩) (n + m) c') w' ∧ Own w' B e size (some ⟨b, 0, none⟩) (n + m) c' (vs ++ news) ∧ w.grownBy w' (Value.slice sa n sc).ownBlock ∧
      ((∃ ad, sa = some ad ∧ b = ad.block) ∨ w.heap.size ≤ b) := by
  obtain ⟨ht, hsz, i, z, hi, hz, hsize, hby, hzs⟩ := hT
  obtain ⟨b0, o0, rfl, _⟩ := hrow 0 (by rw [hl]; exact Nat.mul_pos hm hsz)
  have hnews : ∀ j u, news[j]? = some u → w.cell? ((⟨b0, o0, none⟩ : Addr).add j) = some u := fun j u hu => by
    obtain ⟨hj, rfl⟩ := List.getElem?_eq_some_iff.1 hu
    obtain ⟨b', o', he, hc⟩ := hrow j hj
    cases he
    rw [Addr.add_mid]; exact hc
  obtain ⟨v', w2, q0, q1, q2, _⟩ := run_append_own (P := P) w B t ty e i z size bytes ht hi hz hsize hby hzs hsz (.slice sa n sc) n vs h ⟨b0, o0, none⟩ m xc news hl hnews h1 h63 hbytes hB
  have h63' : n + m ≤ 9223372036854775807 := by simp only [maxLen] at h63; omega
  subst hsize
  subst hby
  rcases h.2 with ⟨k1, k2⟩ | ⟨g, cap, cur, k1, hbg, hg, hnc, hcm, hcs, htake⟩
  · simp only [Value.slice.injEq] at k1
    obtain ⟨rfl, rfl, rfl⟩ := k1
    have hx : vs = [] := List.eq_nil_of_length_eq_zero (by simpa using h.1)
    subst hx
    have hr := run_append_nil (P := P) w t ty e i z ht hi hz ⟨b0, o0, none⟩ m xc news hl hnews (by omega) (by omega) (by have hb := hbytes; simp only [Nat.zero_add] at hb; omega)
    rw [hr] at q0
    simp only [Result.ok.injEq] at q0
    obtain ⟨rfl, rfl⟩ := q0
    rw [show m = 0 + m from (Nat.zero_add m).symm] at hr
    exact ⟨_, _, _, by simpa using hr, by simpa [Own] using q1, q2, .inr (Nat.le_refl _)⟩
  · simp only [Value.slice.injEq] at k1
    obtain ⟨rfl, -, rfl⟩ := k1
    by_cases hroom : n + m ≤ sc
    · have hfit : n * i.size + news.length ≤ cur.size := by rw [hl, hcs, ← Nat.add_mul]; exact Nat.mul_le_mul_right _ hroom
      have hr := run_append_room (P := P) w t ty e i ht hi g n sc cur hg ⟨b0, o0, none⟩ m xc news hl hnews h1 hroom hfit
      rw [hr] at q0
      simp only [Result.ok.injEq] at q0
      obtain ⟨rfl, rfl⟩ := q0
      exact ⟨_, _, _, hr, q1, q2, .inl ⟨_, rfl, rfl⟩⟩
    · have hr := run_append_grow (P := P) w t ty e i z ht hi hz ⟨g, 0, none⟩ n sc vs h.1 (World.ownsRow.cells h (g := g) rfl) ⟨b0, o0, none⟩ m xc news hl hnews (by omega) (by omega) (growslice_fits (by omega) hbytes)
      rw [hr] at q0
      simp only [Result.ok.injEq] at q0
      obtain ⟨rfl, rfl⟩ := q0
      exact ⟨_, _, _, hr, q1, q2, .inr (Nat.le_refl _)⟩
theorem wp_append_where {w : World} {o : Oper} {a : Act} {K : Act → World → Prop} {Q : Exit → Act → World → Prop} (s x : Operand) (t : TypeId) (ho : o.op = .call { callee := .builtin .append, args := #[s, x], argTypes := #[t, t] })
    {e : TypeId} {size bytes : Nat} (hT : RowType P t e size bytes) {B : Nat} {sa : Option Addr} {n sc : Nat} {vs : List Value} (hs : a.eval s = .slice sa n sc) (h : Own w B e size sa n sc vs)
    {xa : Option Addr} {m xc : Nat} {news : List Value} (hx : a.eval x = .slice xa m xc) (hrow : RowAt w xa news) (hl : news.length = m * size) (hm : 0 < m) (h1 : ∀ u ∈ news, u.oneCell' = true) (h63 : n + m ≤ maxLen) (hbytes : (n + m) * bytes ≤ 140737488355328) (hB : B ≤ w.heap.size)
    (hK : ∀ b c' w', Own w' B e size (some ⟨b, 0, none⟩) (n + m) c' (vs ++ news) → w.grownBy w' (Value.slice sa n sc).ownBlock → ((∃ ad, sa = some ad ∧ b = ad.block) ∨ w.heap.size ≤ b) → K (a.put o.dst (.slice (some ⟨b, 0, none⟩) (n + m) c')) w') : o.wp P a w K Q := by
  obtain ⟨b, c', w', hrun, r1, r2, r3⟩ := run_append_where (P := P) t o.type hT h hrow hl hm h1 h63 hbytes hB (xc := xc)
  unfold Oper.wp
  simp [execOp, ho, resolve, invoke, builtin, hs, hx, hrun, Result.andThen]
  exact hK b c' w' r1 r2 r3
end
def insAt {α : Type} (l : List α) (f : α) (i : Nat) : List α := l.take i ++ f :: l.drop i
theorem insAt_len {α : Type} (l : List α) (f : α) (i : Nat) : (insAt l f i).length = l.length + 1 := by simp [insAt]; omega
theorem insAt_end {α : Type} (l : List α) (f : α) : insAt l f l.length = l ++ [f] := by simp [insAt]
theorem insAt_perm {α : Type} (l : List α) (f : α) (i : Nat) : (insAt l f i).Perm (l ++ [f]) := by
  unfold insAt
  refine (List.perm_middle).trans ?_
  rw [List.take_append_drop]
  exact (List.perm_append_comm (l₁ := [f]) (l₂ := l))
theorem insAt_at {α : Type} (l : List α) (f : α) (i : Nat) (hi : i ≤ l.length) : (insAt l f i)[i]'(by rw [insAt_len]; omega) = f := by
  unfold insAt
  rw [List.getElem_append_right (by simp; omega)]
  simp [Nat.min_eq_left hi]
theorem insAt_lt {α : Type} (l : List α) (f : α) (i j : Nat) (hi : i ≤ l.length) (hj : j < i) : (insAt l f i)[j]'(by rw [insAt_len]; omega) = l[j]'(by omega) := by
  unfold insAt
  rw [List.getElem_append_left (by simp; omega)]
  simp
theorem insAt_get {α : Type} (l : List α) (f : α) (i j : Nat) (hi : i ≤ l.length) : (insAt l f i)[j]? = if j < i then l[j]? else if j = i then some f else l[j - 1]? := by
  unfold insAt
  have hl : (l.take i).length = i := by simp; omega
  rcases Nat.lt_trichotomy j i with h | h | h
  · rw [if_pos h, List.getElem?_append_left (by omega), List.getElem?_take, if_pos h]
  · subst h
    rw [if_neg (by omega), if_pos rfl, List.getElem?_append_right (by omega), hl, Nat.sub_self]
    rfl
  · rw [if_neg (by omega), if_neg (by omega), List.getElem?_append_right (by omega), hl]
    obtain ⟨m, rfl⟩ : ∃ m, j = i + 1 + m := ⟨j - (i + 1), by omega⟩
    rw [show i + 1 + m - i = m + 1 by omega, List.getElem?_cons_succ, List.getElem?_drop]
    congr 1
    omega
theorem insAt_swap {α : Type} (l : List α) (f : α) (j : Nat) (hj : j < l.length) : ((insAt l f (j + 1)).set (j + 1) l[j]).set j f = insAt l f j := by
  refine List.ext_getElem? fun i => ?_
  rw [List.getElem?_set, List.getElem?_set, insAt_get _ _ _ _ (by omega), insAt_get _ _ _ _ (by omega)]
  simp only [List.length_set, insAt_len]
  rcases Nat.lt_trichotomy i j with h | h | h
  · rw [if_neg (by omega), if_neg (by omega), if_pos (by omega), if_pos (by omega)]
  · subst h
    rw [if_pos rfl, if_pos (by omega), if_neg (by omega), if_pos rfl]
  · rw [if_neg (show ¬ j = i by omega), if_neg (show ¬ i < j by omega), if_neg (show ¬ i = j by omega)]
    by_cases e : j + 1 = i
    · subst e
      rw [if_pos rfl, if_pos (by omega), Nat.add_sub_cancel, List.getElem?_eq_getElem hj]
    · rw [if_neg e, if_neg (by omega), if_neg (by omega)]
def lessN (x y : Name) : Bool := Op.bytesLess x.toList y.toList
theorem DiskOk.perm {p : DiskP} (h : DiskOk p) {fs : List FileP} (hp : fs.Perm p.fs) : DiskOk { p with fs := fs } :=
  ⟨((hp.map _).nodup_iff).2 h.names, fun f hf => h.named f (hp.mem_iff.1 hf), fun f hf => h.sure f (hp.mem_iff.1 hf), fun f hf => h.size f (hp.mem_iff.1 hf), by have := hp.length_eq; have := h.count; show fs.length ≤ 64; omega, h.left⟩
/-- What is told of the list with one file more. -/
def PutPost (B : Nat) (w : World) (r : RefR) (f : FileQ) (w' : World) : Prop :=
  ∃ i la lc, i ≤ r.fs.length ∧ (i = 0 ∨ ∃ h : i - 1 < r.fs.length, lessN f.nm r.fs[i - 1].nm = false) ∧ (∀ j (hj : j < r.fs.length), i ≤ j → lessN f.nm r.fs[j].nm = true) ∧
    RefAt w' B { r with fs := insAt r.fs f i, la := la, lc := lc } ∧ Turn (fun x => x = r.d ∨ ∃ ad, r.la = some ad ∧ x = ad.block) w w' ∧ ∀ ad, la = some ad → (∃ ad', r.la = some ad' ∧ ad.block = ad'.block) ∨ w.heap.size ≤ ad.block
end Go.Proofs.Ytnojeiklgjhkgaa