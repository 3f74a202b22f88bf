/- Maps that the call itself has made, as lists of keys and what stands there. No program is named. -/
import Derived.Test.YtnojeiklgjhkgaaBase
import Derived.Maps.RangeWalk
namespace Go.Proofs.Ytnojeiklgjhkgaa
open Go.RowKit Go.Maps

abbrev DU := DataW Unit
def keyIs (kl : Lit) (x : Lit × DU) : Bool := x.1.sameKey kl
/-- Block M of w is a map; at each key of the list stands what the list says. -/
structure GMap (w : World) (P : Program) (k : TypeId) (R : Value → Option (DU × List MemPlace)) (M : Nat) (l : List (Lit × DU)) : Prop where
  ex : ∃ D, w.ownsMap P k R M l.length D ∧ (∀ kl z, D.atKey kl z = ((l.find? (keyIs kl)).map (·.2)).getD z) ∧ (∀ kl, Maps.has D kl = l.any (keyIs kl)) ∧ Maps.size D = l.length
  keys : ∀ x ∈ l, WideAt.IsKeyLit x.1
  nd : (l.map Prod.fst).Nodup
theorem sameKey_iff {a b : Lit} (ha : WideAt.IsKeyLit a) : a.sameKey b = true ↔ a = b := by
  refine ⟨WideAt.sameKey_eq, ?_⟩
  rintro rfl
  cases a <;> simp_all [Lit.sameKey, WideAt.IsKeyLit]
section
variable {w w' : World} {P : Program} {k : TypeId} {R : Value → Option (DU × List MemPlace)} {M : Nat} {l : List (Lit × DU)}
theorem ownsMap_tight {n : Nat} {D : DU} (h : w.ownsMap P k R M n D) : w.ownsMap P k R M (Maps.size D) D := by
  obtain ⟨es, clock, hb, F, _, hD⟩ := h
  refine ⟨es, clock, hb, F, ?_, hD⟩
  rw [hD]
  simp [Maps.size, length_sorted]
theorem GMap.made (w : World) (P : Program) (k : TypeId) (R : Value → Option (DU × List MemPlace)) : GMap (w.alloc (.map #[] 0)) P k R w.heap.size [] :=
  ⟨⟨.map [], World.ownsMap_made w P k R, fun _ _ => rfl, fun _ => rfl, rfl⟩, by simp, by simp⟩
theorem GMap.lt (h : GMap w P k R M l) : M < w.heap.size := by
  obtain ⟨D, h1, _⟩ := h.ex
  exact h1.lt
theorem GMap.keep (h : GMap w P k R M l) (hk : w'.heap[M]? = w.heap[M]?) : GMap w' P k R M l := by
  obtain ⟨D, ⟨es, clock, hb, h1⟩, h2⟩ := h.ex
  exact ⟨⟨D, ⟨es, clock, hk.trans hb, h1⟩, h2⟩, h.keys, h.nd⟩
theorem find_key {kl : Lit} {d : DU} (hk : WideAt.IsKeyLit kl) : ∀ {l : List (Lit × DU)}, (l.map Prod.fst).Nodup → (kl, d) ∈ l → l.find? (keyIs kl) = some (kl, d)
  | [], _, h => by cases h
  | x :: l, hn, h => by
    simp only [List.map_cons, List.nodup_cons] at hn
    rcases List.mem_cons.1 h with e | h'
    · subst e
      rw [List.find?_cons, show keyIs kl (kl, d) = true from (sameKey_iff hk).2 rfl]
    · have hne : keyIs kl x = false := by
        rw [Bool.eq_false_iff]
        intro e
        have e' : x.1 = kl := WideAt.sameKey_eq e
        exact hn.1 (e' ▸ List.mem_map_of_mem (f := Prod.fst) h')
      rw [List.find?_cons, hne]
      exact find_key hk hn.2 h'
theorem find_nokey {kl : Lit} : ∀ {l : List (Lit × DU)}, kl ∉ l.map Prod.fst → l.find? (keyIs kl) = none := by
  intro l h
  rw [List.find?_eq_none]
  intro x hx e
  exact h ((WideAt.sameKey_eq e) ▸ List.mem_map_of_mem (f := Prod.fst) hx)
theorem any_key {kl : Lit} (hk : WideAt.IsKeyLit kl) {l : List (Lit × DU)} : l.any (keyIs kl) = true ↔ kl ∈ l.map Prod.fst := by
  rw [List.any_eq_true]
  constructor
  · rintro ⟨x, hx, e⟩
    exact (WideAt.sameKey_eq e) ▸ List.mem_map_of_mem (f := Prod.fst) hx
  · intro h
    obtain ⟨x, hx, e⟩ := List.mem_map.1 h
    exact ⟨x, hx, by unfold keyIs; rw [e]; exact (sameKey_iff hk).2 rfl⟩
variable {t e : TypeId}
/-- m[key], the key there. -/
theorem GMap.look (h : GMap w P k R M l) (K : Keyed P k) (ht : P.underlying t = some (.map k e)) {z : Value} (hz : (zeroValue e).run P w = .ok z w) {zd : DU} {zp : List MemPlace} (hzd : R z = some (zd, zp))
    {key : Value} {kl : Lit} (hkey : keyOf P k key = some kl) {d : DU} (hm : (kl, d) ∈ l) : ∃ v ps, (Instr.lookup t (.map (some M)) key false).run P w = .ok v w ∧ R v = some (d, ps) := by
  obtain ⟨D, h1, h2, _, _⟩ := h.ex
  obtain ⟨v, ps, hr, hv⟩ := h1.lookup K ht hz hzd hkey
  refine ⟨v, ps, hr, ?_⟩
  rw [hv, h2, find_key (K.key hkey) h.nd hm]
  rfl
theorem GMap.look_no (h : GMap w P k R M l) (K : Keyed P k) (ht : P.underlying t = some (.map k e)) {z : Value} (hz : (zeroValue e).run P w = .ok z w) {zd : DU} {zp : List MemPlace} (hzd : R z = some (zd, zp))
    {key : Value} {kl : Lit} (hkey : keyOf P k key = some kl) (hm : kl ∉ l.map Prod.fst) : ∃ v ps, (Instr.lookup t (.map (some M)) key false).run P w = .ok v w ∧ R v = some (zd, ps) := by
  obtain ⟨D, h1, h2, _, _⟩ := h.ex
  obtain ⟨v, ps, hr, hv⟩ := h1.lookup K ht hz hzd hkey
  refine ⟨v, ps, hr, ?_⟩
  rw [hv, h2, find_nokey hm]
  rfl
/-- v, ok := m[key]. -/
theorem GMap.look_ok (h : GMap w P k R M l) (K : Keyed P k) (ht : P.underlying t = some (.map k e)) {z : Value} (hz : (zeroValue e).run P w = .ok z w) {zd : DU} {zp : List MemPlace} (hzd : R z = some (zd, zp))
    {key : Value} {kl : Lit} (hkey : keyOf P k key = some kl) {d : DU} (hm : (kl, d) ∈ l) : ∃ v ps, (Instr.lookup t (.map (some M)) key true).run P w = .ok (.tuple #[v, .bool true]) w ∧ R v = some (d, ps) := by
  obtain ⟨D, h1, h2, h3, _⟩ := h.ex
  obtain ⟨v, ps, hr, hv⟩ := h1.look_ok K ht hz hzd hkey
  refine ⟨v, ps, ?_, ?_⟩
  · rw [hr, h3, (any_key (K.key hkey)).2 (List.mem_map_of_mem (f := Prod.fst) hm)]
  · rw [hv, h2, find_key (K.key hkey) h.nd hm]
    rfl
theorem GMap.look_ok_no (h : GMap w P k R M l) (K : Keyed P k) (ht : P.underlying t = some (.map k e)) {z : Value} (hz : (zeroValue e).run P w = .ok z w) {zd : DU} {zp : List MemPlace} (hzd : R z = some (zd, zp))
    {key : Value} {kl : Lit} (hkey : keyOf P k key = some kl) (hm : kl ∉ l.map Prod.fst) : ∃ v ps, (Instr.lookup t (.map (some M)) key true).run P w = .ok (.tuple #[v, .bool false]) w ∧ R v = some (zd, ps) := by
  obtain ⟨D, h1, h2, h3, _⟩ := h.ex
  obtain ⟨v, ps, hr, hv⟩ := h1.look_ok K ht hz hzd hkey
  refine ⟨v, ps, ?_, ?_⟩
  · rw [hr, h3, show l.any (keyIs kl) = false from by
      rw [Bool.eq_false_iff]
      intro e
      exact hm ((any_key (K.key hkey)).1 e)]
  · rw [hv, h2, find_nokey hm]
    rfl
theorem GMap.len (h : GMap w P k R M l) (ht : P.underlying t = some (.map k e)) (ty : TypeId) : (Builtin.len_ #[t] ty #[.map (some M)]).run P w = .ok (.int .i64 (l.length : Int)) w := by
  obtain ⟨D, h1, _, _, h4⟩ := h.ex
  rw [h1.len ht ty, h4]
theorem GMap.perm {l' : List (Lit × DU)} (h : GMap w P k R M l) (hp : l.Perm l') : GMap w P k R M l' := by
  obtain ⟨D, h1, h2, h3, h4⟩ := h.ex
  have hn' : (l'.map Prod.fst).Nodup := (hp.map _).nodup_iff.1 h.nd
  refine ⟨⟨D, by rw [← hp.length_eq]; exact h1, fun kl z => ?_, fun kl => ?_, by rw [h4, hp.length_eq]⟩, fun x hx => h.keys x (hp.mem_iff.2 hx), hn'⟩
  · rw [h2]
    congr 2
    cases hf : l.find? (keyIs kl) with
    | none =>
      symm
      rw [List.find?_eq_none] at hf ⊢
      intro x hx
      exact hf x (hp.mem_iff.2 hx)
    | some x =>
      have hm := List.mem_of_find?_eq_some hf
      have he0 := List.find?_some hf
      have he : x.1 = kl := WideAt.sameKey_eq he0
      obtain ⟨x1, x2⟩ := x
      cases he
      exact (find_key (h.keys _ hm) hn' (hp.mem_iff.1 hm)).symm
  · rw [h3, Bool.eq_iff_iff, List.any_eq_true, List.any_eq_true]
    exact ⟨fun ⟨x, hx, e⟩ => ⟨x, hp.mem_iff.1 hx, e⟩, fun ⟨x, hx, e⟩ => ⟨x, hp.mem_iff.2 hx, e⟩⟩
/-- m[key] = val, the key not there. -/
theorem GMap.add (h : GMap w P k R M l) (K : Keyed P k) (ht : P.underlying t = some (.map k e)) (hn : l.length < maxLen) {key val : Value} {kl : Lit} {d : DU} {ps : List MemPlace} (hkey : keyOf P k key = some kl) (hv : R val = some (d, ps)) (hm : kl ∉ l.map Prod.fst) :
    ∃ w', (Instr.mapUpdate t (.map (some M)) key val).run P w = .ok () w' ∧ GMap w' P k R M (l ++ [(kl, d)]) ∧ w.mapTurned w' M := by
  obtain ⟨D, h1, h2, h3, h4⟩ := h.ex
  obtain ⟨w', hr, ho, ht'⟩ := h1.store K ht hn hkey hv
  have hkl := K.key hkey
  have hno : Maps.has D kl = false := by
    rw [h3, Bool.eq_false_iff]
    intro e
    exact hm ((any_key hkl).1 e)
  refine ⟨w', hr, ⟨⟨D.put kl d, by rw [List.length_append]; exact ho, fun k' z => ?_, fun k' => ?_, ?_⟩, fun x hx => ?_, ?_⟩, ht'⟩
  · rw [List.find?_append]
    by_cases hk' : k' = kl
    · subst hk'
      rw [Maps.atKey_put_same h1.isMap hkl, find_nokey hm]
      simp [keyIs, (sameKey_iff hkl).2 rfl]
    · rw [Maps.atKey_put_other hk', h2]
      have hne : keyIs k' (kl, d) = false := by
        rw [Bool.eq_false_iff]
        intro e
        exact hk' (WideAt.sameKey_eq e).symm
      simp [hne]
  · rw [List.any_append]
    by_cases hk' : k' = kl
    · subst hk'
      rw [Maps.has_put_same h1.isMap hkl]
      simp [keyIs, (sameKey_iff hkl).2 rfl]
    · rw [Maps.has_put_other hk', h3]
      have hne : keyIs k' (kl, d) = false := by
        rw [Bool.eq_false_iff]
        intro e
        exact hk' (WideAt.sameKey_eq e).symm
      simp [hne]
  · obtain ⟨es, e1, e2, _⟩ := h1.entries K
    rw [Maps.size_put ⟨es, e1, e2⟩, hno, h4]
    simp
  · rcases List.mem_append.1 hx with hx | hx
    · exact h.keys x hx
    · rw [List.mem_singleton.1 hx]; exact hkl
  · rw [List.map_append, List.map_cons, List.map_nil]
    rw [List.nodup_append]
    exact ⟨h.nd, by simp, by
      intro a ha b hb e
      rw [List.mem_singleton] at hb
      subst hb
      exact hm (e ▸ ha)⟩
/-- delete(m, key). -/
theorem GMap.del (h : GMap w P k R M l) (K : Keyed P k) (ht : P.underlying t = some (.map k e)) {key : Value} {kl : Lit} (hkey : keyOf P k key = some kl) (ty : TypeId) :
    ∃ w', (Builtin.delete_ #[t, k] ty #[.map (some M), key]).run P w = .ok (.tuple #[]) w' ∧ GMap w' P k R M (l.filter fun x => !keyIs kl x) ∧ w.mapTurned w' M := by
  obtain ⟨D, h1, h2, h3, h4⟩ := h.ex
  obtain ⟨w', hr, ho, ht'⟩ := h1.drop K ht hkey ty
  have hkl := K.key hkey
  have hnd : ((l.filter fun x => !keyIs kl x).map Prod.fst).Nodup := h.nd.sublist (List.filter_sublist.map _)
  have hsz : Maps.size (D.del kl) = (l.filter fun x => !keyIs kl x).length := by
    obtain ⟨es, e1, e2, _⟩ := h1.entries K
    have e3 := Maps.size_del (k := kl) ⟨es, e1, e2⟩
    rw [h3, h4] at e3
    have e4 : l.length = (l.filter (keyIs kl)).length + (l.filter fun x => !keyIs kl x).length := by
      have := (List.filter_append_perm (keyIs kl) l).length_eq
      rw [List.length_append] at this
      exact this.symm
    have e5 : (l.filter (keyIs kl)).length = if l.any (keyIs kl) = true then 1 else 0 := by
      by_cases ha : l.any (keyIs kl) = true
      · rw [if_pos ha]
        obtain ⟨x, hx, e6⟩ := List.mem_map.1 ((any_key hkl).1 ha)
        have hle : (l.filter (keyIs kl)).length ≤ 1 := by
          have hn2 : ((l.filter (keyIs kl)).map Prod.fst).Nodup := h.nd.sublist (List.filter_sublist.map _)
          have hall : ∀ y ∈ (l.filter (keyIs kl)).map Prod.fst, y = kl := by
            intro y hy
            obtain ⟨z, hz, rfl⟩ := List.mem_map.1 hy
            exact WideAt.sameKey_eq (List.mem_filter.1 hz).2
          match hq : (l.filter (keyIs kl)).map Prod.fst with
          | [] => have := congrArg List.length hq; rw [List.length_map] at this; rw [this]; simp
          | [a] => have := congrArg List.length hq; rw [List.length_map] at this; rw [this]; simp
          | a :: b :: r =>
            rw [hq] at hn2 hall
            have ea := hall a (by simp)
            have eb := hall b (by simp)
            simp [ea, eb] at hn2
        have hge : 0 < (l.filter (keyIs kl)).length := List.length_pos_of_mem (List.mem_filter.2 ⟨hx, by unfold keyIs; rw [e6]; exact (sameKey_iff hkl).2 rfl⟩)
        omega
      · rw [if_neg ha]
        have : l.filter (keyIs kl) = [] := by
          rw [List.filter_eq_nil_iff]
          intro x hx e
          exact ha (List.any_eq_true.2 ⟨x, hx, e⟩)
        rw [this]; rfl
    have e7 : (if l.any (keyIs kl) = true then 1 else 0) = (if l.any (keyIs kl) then 1 else 0 : Nat) := rfl
    omega
  refine ⟨w', hr, ⟨⟨D.del kl, by rw [← hsz]; exact ownsMap_tight ho, fun k' z => ?_, fun k' => ?_, hsz⟩, fun x hx => h.keys x (List.mem_filter.1 hx).1, hnd⟩, ht'⟩
  · by_cases hk' : k' = kl
    · subst hk'
      rw [Maps.atKey_del_same, find_nokey]
      · rfl
      · intro hm
        obtain ⟨x, hx, e⟩ := List.mem_map.1 hm
        have h5 := (List.mem_filter.1 hx).2
        simp only [keyIs, e, (sameKey_iff hkl).2 rfl] at h5
        cases h5
    · rw [Maps.atKey_del_other hk', h2]
      congr 2
      rw [Maps.find_filter_keep]
      intro x hx
      rw [Bool.not_eq_true', Bool.eq_false_iff]
      intro e
      exact hk' ((WideAt.sameKey_eq hx).symm.trans (WideAt.sameKey_eq e))
  · by_cases hk' : k' = kl
    · subst hk'
      rw [Maps.has_del_same]
      symm
      rw [Bool.eq_false_iff]
      intro e
      obtain ⟨x, hx, e2⟩ := List.any_eq_true.1 e
      have h5 := (List.mem_filter.1 hx).2
      rw [e2] at h5
      cases h5
    · rw [Maps.has_del_other hk', h3, Maps.any_filter_keep]
      intro x hx
      rw [Bool.not_eq_true', Bool.eq_false_iff]
      intro e
      exact hk' ((WideAt.sameKey_eq hx).symm.trans (WideAt.sameKey_eq e))
end
section
theorem filter_key_len {kl : Lit} (hkl : WideAt.IsKeyLit kl) {l : List (Lit × DU)} (nd : (l.map Prod.fst).Nodup) : l.length = (if l.any (keyIs kl) = true then 1 else 0) + (l.filter fun x => !keyIs kl x).length := by
  have e4 : l.length = (l.filter (keyIs kl)).length + (l.filter fun x => !keyIs kl x).length := by
    have := (List.filter_append_perm (keyIs kl) l).length_eq
    rw [List.length_append] at this
    exact this.symm
  have e5 : (l.filter (keyIs kl)).length = if l.any (keyIs kl) = true then 1 else 0 := by
    by_cases ha : l.any (keyIs kl) = true
    · rw [if_pos ha]
      obtain ⟨x, hx, e6⟩ := List.mem_map.1 ((any_key hkl).1 ha)
      have hle : (l.filter (keyIs kl)).length ≤ 1 := by
        have hn2 : ((l.filter (keyIs kl)).map Prod.fst).Nodup := nd.sublist (List.filter_sublist.map _)
        have hall : ∀ y ∈ (l.filter (keyIs kl)).map Prod.fst, y = kl := by
          intro y hy
          obtain ⟨z, hz, rfl⟩ := List.mem_map.1 hy
          exact WideAt.sameKey_eq (List.mem_filter.1 hz).2
        match hq : (l.filter (keyIs kl)).map Prod.fst with
        | [] => have := congrArg List.length hq; rw [List.length_map] at this; rw [this]; simp
        | [a] => have := congrArg List.length hq; rw [List.length_map] at this; rw [this]; simp
        | a :: b :: r =>
          rw [hq] at hn2 hall
          have ea := hall a (by simp)
          have eb := hall b (by simp)
          simp [ea, eb] at hn2
      have hge : 0 < (l.filter (keyIs kl)).length := List.length_pos_of_mem (List.mem_filter.2 ⟨hx, by unfold keyIs; rw [e6]; exact (sameKey_iff hkl).2 rfl⟩)
      omega
    · rw [if_neg ha]
      have : l.filter (keyIs kl) = [] := by
        rw [List.filter_eq_nil_iff]
        intro x hx e
        exact ha (List.any_eq_true.2 ⟨x, hx, e⟩)
      rw [this]; rfl
  omega
variable {w w' : World} {P : Program} {k : TypeId} {R : Value → Option (DU × List MemPlace)} {M : Nat} {l : List (Lit × DU)} {t e : TypeId}
/-- m[key] = val, whatever stood there. -/
theorem GMap.put (h : GMap w P k R M l) (K : Keyed P k) (ht : P.underlying t = some (.map k e)) (hn : l.length < maxLen) {key val : Value} {kl : Lit} {d : DU} {ps : List MemPlace} (hkey : keyOf P k key = some kl) (hv : R val = some (d, ps)) :
    ∃ w', (Instr.mapUpdate t (.map (some M)) key val).run P w = .ok () w' ∧ GMap w' P k R M ((l.filter fun x => !keyIs kl x) ++ [(kl, d)]) ∧ w.mapTurned w' M := by
  obtain ⟨D, h1, h2, h3, h4⟩ := h.ex
  obtain ⟨w', hr, ho, ht'⟩ := h1.store K ht hn hkey hv
  have hkl := K.key hkey
  have hlen := filter_key_len hkl h.nd
  have hsz : Maps.size (D.put kl d) = ((l.filter fun x => !keyIs kl x) ++ [(kl, d)]).length := by
    obtain ⟨es, e1, e2, _⟩ := h1.entries K
    rw [Maps.size_put ⟨es, e1, e2⟩, h3, h4, List.length_append]
    by_cases ha : l.any (keyIs kl) = true
    · rw [if_pos ha] at hlen ⊢; simp; omega
    · rw [if_neg ha] at hlen ⊢; simp; omega
  refine ⟨w', hr, ⟨⟨D.put kl d, by rw [← hsz]; exact ownsMap_tight ho, fun k' z => ?_, fun k' => ?_, hsz⟩, fun x hx => ?_, ?_⟩, ht'⟩
  · rw [List.find?_append]
    by_cases hk' : k' = kl
    · subst hk'
      rw [Maps.atKey_put_same h1.isMap hkl, find_nokey]
      · simp [keyIs, (sameKey_iff hkl).2 rfl]
      · intro hm
        obtain ⟨x, hx, e⟩ := List.mem_map.1 hm
        have h5 := (List.mem_filter.1 hx).2
        simp only [keyIs, e, (sameKey_iff hkl).2 rfl] at h5
        cases h5
    · rw [Maps.atKey_put_other hk', h2]
      have hne : keyIs k' (kl, d) = false := by
        rw [Bool.eq_false_iff]
        intro e
        exact hk' (WideAt.sameKey_eq e).symm
      rw [Maps.find_filter_keep]
      · simp [hne]
      · intro x hx
        rw [Bool.not_eq_true', Bool.eq_false_iff]
        intro e
        exact hk' ((WideAt.sameKey_eq hx).symm.trans (WideAt.sameKey_eq e))
  · rw [List.any_append]
    by_cases hk' : k' = kl
    · subst hk'
      rw [Maps.has_put_same h1.isMap hkl]
      simp [keyIs, (sameKey_iff hkl).2 rfl]
    · rw [Maps.has_put_other hk', h3]
      have hne : keyIs k' (kl, d) = false := by
        rw [Bool.eq_false_iff]
        intro e
        exact hk' (WideAt.sameKey_eq e).symm
      rw [Maps.any_filter_keep]
      · simp [hne]
      · intro x hx
        rw [Bool.not_eq_true', Bool.eq_false_iff]
        intro e
        exact hk' ((WideAt.sameKey_eq hx).symm.trans (WideAt.sameKey_eq e))
  · rcases List.mem_append.1 hx with hx | hx
    · exact h.keys x (List.mem_filter.1 hx).1
    · rw [List.mem_singleton.1 hx]; exact hkl
  · rw [List.map_append, List.map_cons, List.map_nil]
    rw [List.nodup_append]
    refine ⟨h.nd.sublist (List.filter_sublist.map _), by simp, ?_⟩
    intro a ha b hb e
    rw [List.mem_singleton] at hb
    subst hb
    obtain ⟨x, hx, e2⟩ := List.mem_map.1 ha
    have h5 := (List.mem_filter.1 hx).2
    simp only [keyIs, e2, e, (sameKey_iff hkl).2 rfl] at h5
    cases h5
end
/-! ### Ranging: what is still to come, as a list -/
/-- The iterator r goes over the map M, which holds l; what is still to come: todo. -/
structure GRan (w : World) (P : Program) (k : TypeId) (R : Value → Option (DU × List MemPlace)) (M r : Nat) (l todo : List (Lit × DU)) : Prop where
  map : GMap w P k R M l
  ex : ∃ D left cnt, w.ranges P k R M r l.length D left cnt ∧ (∀ kl z, D.atKey kl z = ((l.find? (keyIs kl)).map (·.2)).getD z) ∧ (∀ kl, left kl = todo.any (keyIs kl)) ∧ cnt = w.rangeLeft M r
  sub : ∀ x ∈ todo, x ∈ l
  nd : (todo.map Prod.fst).Nodup
section
variable {w w' : World} {P : Program} {k : TypeId} {R : Value → Option (DU × List MemPlace)} {M r : Nat} {l todo : List (Lit × DU)} {t e : TypeId}
theorem GRan.ne (h : GRan w P k R M r l todo) : r ≠ M := by
  obtain ⟨D, left, cnt, h1, _⟩ := h.ex
  exact h1.ne
theorem GRan.lt (h : GRan w P k R M r l todo) : r < w.heap.size := by
  obtain ⟨D, left, cnt, h1, _⟩ := h.ex
  exact h1.lt
theorem ranges_keep {n : Nat} {D : DU} {left : Lit → Bool} {cnt : Nat} (h : w.ranges P k R M r n D left cnt) (hM : w'.heap[M]? = w.heap[M]?) (hr : w'.heap[r]? = w.heap[r]?) : w'.ranges P k R M r n D left cnt := by
  obtain ⟨es, clock, since, seen, c0, hb, F, hs, hD, hr0, rest⟩ := h
  exact ⟨es, clock, since, seen, c0, hM.trans hb, F, hs, hD, hr.trans hr0, rest⟩
theorem GRan.keep (h : GRan w P k R M r l todo) (hM : w'.heap[M]? = w.heap[M]?) (hr : w'.heap[r]? = w.heap[r]?) : GRan w' P k R M r l todo := by
  obtain ⟨D, left, cnt, h1, h2, h3, h4⟩ := h.ex
  have h5 := ranges_keep h1 hM hr
  exact ⟨h.map.keep hM, ⟨D, left, cnt, h5, h2, h3, h5.left_eq.symm⟩, h.sub, h.nd⟩
/-- range m. -/
theorem GMap.range (h : GMap w P k R M l) (K : Keyed P k) (ht : P.underlying t = some (.map k e)) :
    ∃ w', (Instr.range t (.map (some M))).run P w = .ok (.pointer (some ⟨w.heap.size, 0, none⟩)) w' ∧ GRan w' P k R M w.heap.size l l ∧ w.grownBy w' none ∧ w'.heap.size = w.heap.size + 1 := by
  obtain ⟨D, h1, h2, h3, h4⟩ := h.ex
  obtain ⟨w', hr, hg, hgr, hsz⟩ := h1.range K ht
  refine ⟨w', hr, ⟨h.keep (hgr.block M h.lt (by simp)), ⟨D, _, _, hg, h2, h3, hg.left_eq.symm⟩, fun x hx => hx, h.nd⟩, hgr, hsz⟩
/-- The step. -/
theorem GRan.next (h : GRan w P k R M r l todo) (K : Keyed P k) (ty : TypeId) :
    (todo = [] ∧ (Instr.next (.pointer (some ⟨r, 0, none⟩)) false ty).run P w = .ok (.tuple #[.bool false]) w) ∨
    ∃ key v kl d ps w', keyOf P k key = some kl ∧ (kl, d) ∈ todo ∧ R v = some (d, ps) ∧ (Instr.next (.pointer (some ⟨r, 0, none⟩)) false ty).run P w = .ok (.tuple #[.bool true, key, v]) w' ∧
      GRan w' P k R M r l (todo.filter fun x => !keyIs kl x) ∧ w'.rangeLeft M r < w.rangeLeft M r ∧ w.grownBy w' (some r) ∧ w'.heap.size = w.heap.size ∧ (Instr.entry (.pointer (some ⟨r, 0, none⟩))).run P w' = .ok (.tuple #[key, v]) w' := by
  obtain ⟨D, left, cnt, h1, h2, h3, h4⟩ := h.ex
  rcases h1.next K ty with ⟨_, hl, hrun⟩ | ⟨key, v, kl, y, w', cnt', hkey, hlk, hv, hat, hrun, hrg, hlt, hgr, hsz, hen⟩
  · refine .inl ⟨?_, hrun⟩
    cases htodo : todo with
    | nil => rfl
    | cons x rest =>
      have hx : x ∈ todo := by rw [htodo]; simp
      have := hl x.1
      rw [h3] at this
      have h5 : todo.any (keyIs x.1) = true := List.any_eq_true.2 ⟨x, hx, (sameKey_iff (h.map.keys x (h.sub x hx))).2 rfl⟩
      rw [h5] at this
      cases this
  · have hkl := K.key hkey
    rw [h3] at hlk
    obtain ⟨x, hx, ek⟩ := List.any_eq_true.1 hlk
    have hxk : x.1 = kl := WideAt.sameKey_eq ek
    obtain ⟨x1, d⟩ := x
    cases hxk
    have hd : y.1 = d := by
      have e1 := hat (.lit (.bool true))
      rw [h2, find_key hkl h.map.nd (h.sub _ hx)] at e1
      exact e1.symm
    obtain ⟨y1, y2⟩ := y
    cases hd
    have hne : r ≠ M := h.ne
    refine .inr ⟨key, v, x1, y1, y2, w', hkey, hx, hv, hrun, ⟨h.map.keep (hgr.block M h.map.lt (by simp [Ne.symm hne])), ⟨D, _, cnt', hrg, h2, fun kl' => ?_, hrg.left_eq.symm⟩, fun z hz => h.sub z (List.mem_filter.1 hz).1, h.nd.sublist (List.filter_sublist.map _)⟩, ?_, hgr, hsz, hen⟩
    · rw [h3]
      rw [Bool.eq_iff_iff, Bool.and_eq_true, List.any_eq_true, List.any_eq_true]
      constructor
      · rintro ⟨⟨z, hz, ez⟩, hn⟩
        refine ⟨z, List.mem_filter.2 ⟨hz, ?_⟩, ez⟩
        rw [Bool.not_eq_true'] at hn ⊢
        rw [Bool.eq_false_iff] at hn ⊢
        intro e1
        have ea : z.1 = kl' := WideAt.sameKey_eq ez
        have eb : z.1 = x1 := WideAt.sameKey_eq e1
        apply hn
        rw [← ea, eb]
        exact (sameKey_iff hkl).2 rfl
      · rintro ⟨z, hz, ez⟩
        obtain ⟨hz1, hz2⟩ := List.mem_filter.1 hz
        refine ⟨⟨z, hz1, ez⟩, ?_⟩
        rw [Bool.not_eq_true'] at hz2 ⊢
        rw [Bool.eq_false_iff] at hz2 ⊢
        intro e1
        have ea : z.1 = kl' := WideAt.sameKey_eq ez
        have eb : kl' = x1 := WideAt.sameKey_eq e1
        apply hz2
        show z.1.sameKey x1 = true
        rw [ea, eb]
        exact (sameKey_iff hkl).2 rfl
    · rw [hrg.left_eq, ← h4]; exact hlt
end
/-! ### Values that are pointers to whole blocks -/
def Rp : Value → Option (DU × List MemPlace)
  | .pointer (some ⟨b, 0, none⟩) => some (.lit (.int .i64 b), [])
  | .pointer none => some (.lit (.int .i64 (-1)), [])
  | _ => none
theorem Rp_mk (b : Nat) : Rp (.pointer (some ⟨b, 0, none⟩)) = some (.lit (.int .i64 b), []) := rfl
theorem Rp_inv {v : Value} {b : Nat} {ps : List MemPlace} (h : Rp v = some (.lit (.int .i64 (b : Int)), ps)) : v = .pointer (some ⟨b, 0, none⟩) := by
  unfold Rp at h
  split at h
  · simp at h
    rename_i b'
    have h2 : b' = b := by omega
    rw [h2]
  · simp at h
  · cases h
theorem Rp_nil {v : Value} {ps : List MemPlace} (h : Rp v = some (.lit (.int .i64 (-1)), ps)) : v = .pointer none := by
  unfold Rp at h
  split at h
  · simp at h
  · rfl
  · cases h
end Go.Proofs.Ytnojeiklgjhkgaa
