/- What a reading of a struct, an array, a slice says of its cells. No program is named. -/
import Derived.Test.YtnojeiklgjhkgaaCame
namespace Go.Proofs.Ytnojeiklgjhkgaa
open Go.ChangeShapes Go.WideShapes Go.ChangeAt Go.RowKit

section
variable {H : Type} {enc : TypeId × Value → H} {P : Program} {w : World}
/-- The cells cs read as d, no slice or string in it being greater than the form's reach. -/
def Came (enc : TypeId × Value → H) (P : Program) (w : World) (t : TypeId) (cs : List Value) : Prop :=
  ∃ (n : Nat) (x : DataW H × List MemPlace), DataW.trod enc P w 0 (fun _ => true) true n t cs = some x ∧ ∀ m ∈ x.1.weights P t, m ≤ reachBytes

theorem mapM_get {α β : Type} {f : α → Option β} : ∀ {l : List α} {r : List β}, l.mapM f = some r → r.length = l.length ∧ ∀ (i : Nat) (h : i < l.length) (h' : i < r.length), f l[i] = some r[i]
  | [], r, h => by
    simp at h; subst h
    exact ⟨rfl, fun i h => by simp at h⟩
  | a :: l, r, h => by
    rw [List.mapM_cons] at h
    cases ha : f a with
    | none => simp [ha] at h
    | some b =>
      cases hl : l.mapM f with
      | none => simp [ha, hl] at h
      | some r' =>
        simp [ha, hl] at h
        subst h
        obtain ⟨h1, h2⟩ := mapM_get hl
        refine ⟨by simp [h1], fun i hi hi' => ?_⟩
        cases i with
        | zero => simpa using ha
        | succ i => simpa using h2 i (by simpa using hi) (by simpa using hi')

theorem weightsEach_get {ts : List TypeId} {ds : List (DataW H)} {i : Nat} (h : i < ts.length) (h' : i < ds.length) : ∀ m ∈ ds[i].weights P ts[i], m ∈ DataW.weightsEach P ts ds :=
  DataW.weights_mem_each (List.getElem?_eq_getElem h) (List.getElem?_eq_getElem h')

theorem Came.field {t : TypeId} {fs : Array Field} {cs : List Value} (h : Came enc P w t cs) (hs : P.underlying t = some (.struct fs)) (j : Nat) (hj : j < fs.toList.length) :
    Came enc P w fs.toList[j].type ((cs.drop fs.toList[j].offset).take (P.cellsOf fs.toList[j].type)) := by
  obtain ⟨n, x, h1, h2⟩ := h
  cases n with
  | zero => simp [DataW.trod] at h1
  | succ n =>
    unfold DataW.trod at h1
    rw [hs] at h1
    simp only at h1
    split at h1
    · obtain ⟨xs, hx, rfl⟩ := Option.map_eq_some_iff.1 h1
      obtain ⟨hl, hg⟩ := mapM_get hx
      have hj' : j < xs.length := by rw [hl]; exact hj
      refine ⟨n, xs[j], hg j hj hj', fun m hm => h2 m ?_⟩
      simp only [DataW.weights, hs]
      refine weightsEach_get (i := j) (by simpa using hj) (by simpa using hj') m ?_
      simpa using hm
    · cases h1
theorem Came.elem {t e : TypeId} {k : Nat} {cs : List Value} (h : Came enc P w t cs) (hs : P.underlying t = some (.array k e)) (j : Nat) (hj : j < k) :
    Came enc P w e ((cs.drop (j * P.cellsOf e)).take (P.cellsOf e)) := by
  obtain ⟨n, x, h1, h2⟩ := h
  cases n with
  | zero => simp [DataW.trod] at h1
  | succ n =>
    unfold DataW.trod at h1
    rw [hs] at h1
    simp only at h1
    split at h1
    · obtain ⟨xs, hx, rfl⟩ := Option.map_eq_some_iff.1 h1
      obtain ⟨hl, hg⟩ := mapM_get hx
      rw [List.length_range] at hl
      have hj' : j < xs.length := by rw [hl]; exact hj
      have := hg j (by simpa using hj) hj'
      rw [List.getElem_range] at this
      refine ⟨n, xs[j], this, fun m hm => h2 m ?_⟩
      simp only [DataW.weights, hs]
      exact weightsAll_mem (d := xs[j].1) (List.mem_map.2 ⟨xs[j], List.getElem_mem _, rfl⟩) m hm
    · cases h1
theorem Came.int {t : TypeId} {k : IntKind} {c : Value} (h : Came enc P w t [c]) (hs : P.underlying t = some (.int k)) : ∃ n, c = .int k n ∧ (Lit.int k n).wf = true := by
  obtain ⟨n, x, h1, _⟩ := h
  cases n with
  | zero => simp [DataW.trod] at h1
  | succ n =>
    unfold DataW.trod at h1
    rw [hs] at h1
    split at h1 <;> simp_all
theorem Came.bool {t : TypeId} {c : Value} (h : Came enc P w t [c]) (hs : P.underlying t = some .bool) : ∃ b, c = .bool b := by
  obtain ⟨n, x, h1, _⟩ := h
  cases n with
  | zero => simp [DataW.trod] at h1
  | succ n =>
    unfold DataW.trod at h1
    rw [hs] at h1
    split at h1 <;> simp_all
/-- A slice: each element's cells read, as many as its capacity; none of those that count is greater than the reach. -/
theorem Came.slice {t e : TypeId} {c : Value} (h : Came enc P w t [c]) (hs : P.underlying t = some (.slice e)) :
    ∃ a len cap, c = .slice a len cap ∧ len ≤ cap ∧ cap ≤ maxLen ∧ (a = none → len = 0) ∧ len * P.bytesOf e ≤ 140737488351232 ∧
      ∀ x, a = some x → ∀ i, i < len → ∃ cs, w.cells? 0 (x.add (i * P.cellsOf e)) (P.cellsOf e) = some cs ∧ Came enc P w e cs := by
  obtain ⟨n, x, h1, h2⟩ := h
  cases n with
  | zero => simp [DataW.trod] at h1
  | succ n =>
    unfold DataW.trod at h1
    rw [hs] at h1
    split at h1
    all_goals try (simp_all; done)
    · rename_i e1 e2
      simp at e2
      subst e2
      exact ⟨none, 0, 0, rfl, Nat.le_refl _, by unfold maxLen; omega, fun _ => rfl, by omega, fun x hx => by cases hx⟩
    · rename_i e' ad len cap e1 e2
      simp only [Option.some.injEq, TypeDesc.slice.injEq] at e1
      simp at e2
      subst e1 e2
      simp only at h1
      split at h1
      · rename_i hcond
        obtain ⟨elems, hx, h3⟩ := Option.bind_eq_some_iff.1 h1
        obtain ⟨rest, hr, rfl⟩ := Option.map_eq_some_iff.1 h3
        obtain ⟨hl, hg⟩ := mapM_get hx
        rw [List.length_range] at hl
        refine ⟨some ad, len, cap, rfl, hcond.2.1, hcond.2.2, fun h => by simp at h, ?_, fun x hx i hi => ?_⟩
        · have := h2 ((elems.length + rest.length) * P.bytesOf e) (by simp [DataW.weights, hs])
          rw [hl] at this
          have hmul : len * P.bytesOf e ≤ (len + rest.length) * P.bytesOf e := Nat.mul_le_mul_right _ (by omega)
          have hr : reachBytes = 140737488351232 := rfl
          omega
        · obtain rfl := Option.some.inj hx
          have hi' : i < elems.length := by rw [hl]; exact hi
          have := hg i (by simpa using hi) hi'
          rw [List.getElem_range] at this
          obtain ⟨cs, hc, ht⟩ := Option.bind_eq_some_iff.1 this
          refine ⟨cs, hc, n, elems[i], ht, fun m hm => h2 m ?_⟩
          simp only [DataW.weights, hs, List.mem_cons, List.mem_append]
          exact .inr (.inl (weightsAll_mem (d := elems[i].1) (List.mem_map.2 ⟨elems[i], List.getElem_mem _, rfl⟩) m hm))
      · cases h1
theorem flatMap_len {α : Type} {g : α → List Value} {sz : Nat} (hg : ∀ y, (g y).length = sz) : ∀ l : List α, (l.flatMap g).length = l.length * sz
  | [] => by simp
  | y :: l => by rw [List.flatMap_cons, List.length_append, hg, flatMap_len hg l, List.length_cons, Nat.add_mul]; omega
theorem flatMap_get {α : Type} {g : α → List Value} {sz : Nat} (hg : ∀ y, (g y).length = sz) : ∀ (l : List α) (i r : Nat), r < sz → (h : i < l.length) → (l.flatMap g)[i * sz + r]? = (g l[i])[r]?
  | y :: l, 0, r, hr, _ => by rw [List.flatMap_cons, Nat.zero_mul, Nat.zero_add, List.getElem?_append_left (by rw [hg]; exact hr)]; rfl
  | y :: l, i + 1, r, hr, h => by
    rw [List.flatMap_cons, List.getElem?_append_right (by rw [hg, Nat.add_mul]; omega), hg]
    have : (i + 1) * sz + r - sz = i * sz + r := by rw [Nat.add_mul]; omega
    rw [this, flatMap_get hg l i r hr (by simpa using h)]
    rfl
/-- A slice's elements, each of sz cells, as a row of cells. -/
theorem came_row {α : Type} [Inhabited α] {g : α → List Value} {Ok : α → Prop} {sz : Nat} {e : TypeId} (hg : ∀ y, (g y).length = sz) (hpos : 0 < sz) (hce : P.cellsOf e = sz) (hread : ∀ cs, Came enc P w e cs → cs.length = sz → ∃ y, cs = g y ∧ Ok y)
    {a : Option Addr} {len : Nat} (h0 : a = none → len = 0) (h : ∀ x, a = some x → ∀ i, i < len → ∃ cs, w.cells? 0 (x.add (i * P.cellsOf e)) (P.cellsOf e) = some cs ∧ Came enc P w e cs) :
    ∃ l : List α, l.length = len ∧ RowAt w a (l.flatMap g) ∧ ∀ y ∈ l, Ok y := by
  rw [hce] at h
  cases a with
  | none => exact ⟨[], (h0 rfl).symm, RowAt.nil _ _, fun y hy => by simp at hy⟩
  | some x =>
    have each : ∀ i, i < len → ∃ y, w.cells? 0 (x.add (i * sz)) sz = some (g y) ∧ Ok y := by
      intro i hi
      obtain ⟨cs, h1, h2⟩ := h x rfl i hi
      have hlen : cs.length = sz := by
        unfold World.cells? at h1
        rw [if_pos (Nat.zero_le _)] at h1
        have := (mapM_get h1).1
        simpa using this
      obtain ⟨y, rfl, hy⟩ := hread cs h2 hlen
      exact ⟨y, h1, hy⟩
    obtain ⟨y, hy⟩ := Go.Deep.choose_lt each
    have cell : ∀ i r, i < len → r < sz → w.cell? ((x.add (i * sz)).add r) = (g (y i))[r]? := by
      intro i r hi hr
      have h1 := (hy i hi).1
      unfold World.cells? at h1
      rw [if_pos (Nat.zero_le _)] at h1
      obtain ⟨hl, hm⟩ := mapM_get h1
      have hr' : r < (g (y i)).length := by rw [hg]; exact hr
      have := hm r (by simpa using hr) hr'
      rw [List.getElem_range] at this
      rw [this, List.getElem?_eq_getElem hr']
    refine ⟨(List.range len).map y, by simp, ?_, fun z hz => ?_⟩
    · intro j hj
      rw [flatMap_len hg, List.length_map, List.length_range] at hj
      have hi : j / sz < len := (Nat.div_lt_iff_lt_mul hpos).2 hj
      have hr : j % sz < sz := Nat.mod_lt _ hpos
      have hsp : x.spot = none := by
        have h00 := cell 0 0 (Nat.lt_of_le_of_lt (Nat.zero_le _) hi) hpos
        have hlt : 0 < (g (y 0)).length := by rw [hg]; exact hpos
        rw [List.getElem?_eq_getElem hlt] at h00
        simp [Addr.add] at h00
        exact World.cell?_spot h00
      obtain ⟨b, o, sp⟩ := x
      simp only at hsp
      subst hsp
      have hc := cell (j / sz) (j % sz) hi hr
      rw [Addr.add_mid, Addr.add_mid, Nat.add_assoc, Nat.mul_comm, Nat.div_add_mod] at hc
      refine ⟨b, o, rfl, hc.trans ?_⟩
      have hf := flatMap_get hg ((List.range len).map y) (j / sz) (j % sz) hr (by simpa using hi)
      rw [Nat.mul_comm, Nat.div_add_mod] at hf
      simp only [List.getElem_map, List.getElem_range] at hf
      rw [← hf, List.getElem?_eq_getElem]
    · obtain ⟨i, hi, rfl⟩ := List.mem_map.1 hz
      exact (hy i (List.mem_range.1 hi)).2
/-- An argument of one cell. -/
theorem came_one {t : TypeId} {v : Value} {d : DataW H} {ps : List MemPlace} {r : Reach} {b0 : Nat} (hz : ∀ n ∈ d.weights P t, n ≤ reachBytes) (hv : Value.okWide P w r b0 t v)
    (ht : (∃ e, P.underlying t = some (.slice e)) ) (h : DataW.Trod enc P w 0 (fun _ => true) true t v d ps) : Came enc P w t [v] := by
  obtain ⟨e, ht⟩ := ht
  obtain ⟨a, len, cap, rfl⟩ := okWide_slice ht hv
  obtain ⟨fuel, hf⟩ := h
  exact ⟨fuel, (d, ps), by simpa [Value.cells] using hf, hz⟩
/-- An argument that is a struct. -/
theorem came_agg {t : TypeId} {fs : Array Field} {n : Nat} {v : Value} {d : DataW H} {ps : List MemPlace} {r : Reach} {b0 : Nat} (ht : P.underlying t = some (.struct fs)) (hn : P.cellsOf t = n) (hz : ∀ n ∈ d.weights P t, n ≤ reachBytes) (hv : Value.okWide P w r b0 t v)
    (h : DataW.Trod enc P w 0 (fun _ => true) true t v d ps) : ∃ cs : List Value, v = .agg cs.toArray ∧ cs.length = n ∧ Came enc P w t cs := by
  obtain ⟨cs, rfl, hs⟩ := okWide_struct ht hv
  obtain ⟨fuel, hf⟩ := h
  exact ⟨cs.toList, by simp, by rw [Array.length_toList, hs, hn], fuel, (d, ps), by simpa [Value.cells] using hf, hz⟩
end
end Go.Proofs.Ytnojeiklgjhkgaa
