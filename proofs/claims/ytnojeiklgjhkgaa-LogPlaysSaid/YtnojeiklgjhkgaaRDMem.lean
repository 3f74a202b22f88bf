/- The document's disk in memory. -/
import Derived.Test.YtnojeiklgjhkgaaDiskWake
import Derived.Test.YtnojeiklgjhkgaaOwnFresh
namespace Go.Proofs.Ytnojeiklgjhkgaa
open Go.RowKit Go.Maps
set_option linter.unusedVariables false
set_option linter.unusedSimpArgs false

/-! ### A cell written into a row of the call's own -/
theorem Own.setN {w : World} {B : Nat} {e : TypeId} {size : Nat} {g n c : Nat} {vs : List Value} (h : Own w B e size (some ⟨g, 0, none⟩) n c vs) (i : Nat) (hi : i < n * size) (v : Value) : Own (w.setCell ⟨g, i, none⟩ v) B e size (some ⟨g, 0, none⟩) n c (vs.set i v) := by
  refine ⟨by rw [List.length_set]; exact h.1, ?_⟩
  rcases h.2 with ⟨h0, h1⟩ | ⟨g', cap, cur, h0, hB, hg, hn, hm, hs, ht⟩
  · simp at h0
  · simp only [Value.slice.injEq, Option.some.injEq, Addr.mk.injEq] at h0
    obtain ⟨⟨rfl, -⟩, -, rfl⟩ := h0
    refine .inr ⟨g, c, cur.setIfInBounds i v, rfl, hB, (show Blk w g cur e from hg).set i v, hn, hm, by simpa using hs, ?_⟩
    rw [Array.toList_setIfInBounds, List.take_set, ht]
theorem Own.head {w : World} {B : Nat} {e : TypeId} {size : Nat} {a : Option Addr} {n c : Nat} {vs : List Value} (h : Own w B e size a n c vs) (hn : 0 < n) : ∃ g, a = some ⟨g, 0, none⟩ := by
  rcases h.2 with ⟨h0, h1⟩ | ⟨g', cap, cur, h0, _⟩
  · omega
  · simp only [Value.slice.injEq] at h0
    exact ⟨g', h0.1⟩
theorem Own.freeN {w : World} {B : Nat} {e : TypeId} {size : Nat} {g n c : Nat} {vs : List Value} (h : Own w B e size (some ⟨g, 0, none⟩) n c vs) (i : Nat) : w.frozen? ⟨g, i, none⟩ = false := by
  obtain ⟨_, _, cur, hc⟩ := h.block_lt rfl
  exact hc.free i

structure FileQ where
  nm : Name
  a : Option Addr
  c : Nat
  b : List UInt8
  sure : Nat
def FileQ.p (f : FileQ) : FileP := ⟨f.nm, f.b, f.sure⟩
def fileCells (f : FileQ) : List Value := [.string f.nm, .slice f.a f.b.length f.c, .int .i64 (f.sure : Int)]
structure RefR where
  d : Nat
  la : Option Addr
  lc : Nat
  fs : List FileQ
  down : Bool
  armed : Bool
  left : Int
  pa : Option Addr
  pc : Nat
  plan : PlanP
def RefR.p (r : RefR) : DiskP := ⟨r.fs.map (·.p), r.down, r.armed, r.left, r.plan⟩
def refHead (r : RefR) : Array Value := #[.slice r.la r.fs.length r.lc, .bool r.down, .bool r.armed, .int .i64 r.left, .slice r.pa r.plan.length r.pc]
structure RefAt (w : World) (B : Nat) (r : RefR) : Prop where
  ged : B ≤ r.d
  blk : Blk w r.d (refHead r) 55
  row : Own w B 101 3 r.la r.fs.length r.lc (r.fs.flatMap fileCells)
  files : ∀ f ∈ r.fs, Own w B 5 1 f.a f.b.length f.c (f.b.map bv)
  plan : Own w B 87 2 r.pa r.plan.length r.pc (r.plan.flatMap pieceV)
  ok : DiskOk r.p
/-- The document's disk's own blocks. -/
def rfoot (r : RefR) (x : Nat) : Prop := x = r.d ∨ (∃ ad, r.la = some ad ∧ x = ad.block) ∨ (∃ f ∈ r.fs, ∃ ad, f.a = some ad ∧ x = ad.block) ∨ ∃ ad, r.pa = some ad ∧ x = ad.block
section
variable {w w' : World} {B : Nat} {f : FileQ} {r r' r'' : RefR}
theorem RefAt.keep (h : RefAt w B r) (hk : ∀ x, rfoot r x → w'.heap[x]? = w.heap[x]?) : RefAt w' B r :=
  ⟨h.ged, (hk _ (.inl rfl)).trans h.blk, h.row.keepAt fun x hx => hk _ (.inr (.inl ⟨x, hx, rfl⟩)), fun f hf => (h.files f hf).keepAt fun x hx => hk _ (.inr (.inr (.inl ⟨f, hf, x, hx, rfl⟩))), h.plan.keepAt fun x hx => hk _ (.inr (.inr (.inr ⟨x, hx, rfl⟩))), h.ok⟩
theorem RefAt.lt (h : RefAt w B r) {x : Nat} (hx : rfoot r x) : B ≤ x ∧ x < w.heap.size := by
  rcases hx with rfl | ⟨ad, ha, rfl⟩ | ⟨f, hf, ad, ha, rfl⟩ | ⟨ad, ha, rfl⟩
  · exact ⟨h.ged, h.blk.lt⟩
  · exact ⟨(h.row.block_lt ha).1, (h.row.block_lt ha).2.1⟩
  · exact ⟨((h.files f hf).block_lt ha).1, ((h.files f hf).block_lt ha).2.1⟩
  · exact ⟨(h.plan.block_lt ha).1, (h.plan.block_lt ha).2.1⟩
theorem RefAt.old (h : RefAt w B r) (hb : Below w.heap.size w w') : RefAt w' B r := h.keep fun x hx => hb.block x (h.lt hx).2
theorem RefAt.lower {B' : Nat} (h : RefAt w B r) (hB : B' ≤ B) : RefAt w B' r := ⟨Nat.le_trans hB h.ged, h.blk, h.row.lower hB, fun f hf => (h.files f hf).lower hB, h.plan.lower hB, h.ok⟩
structure RStep (B : Nat) (w : World) (r : RefR) (w' : World) (r' : RefR) : Prop where
  turn : Turn (rfoot r) w w'
  at' : RefAt w' B r'
  foot' : ∀ x, rfoot r' x → rfoot r x ∨ w.heap.size ≤ x
  d : r'.d = r.d
theorem RStep.refl (h : RefAt w B r) : RStep B w r w r := ⟨Turn.refl _ _, h, fun _ hx => .inl hx, rfl⟩
theorem RStep.old (h : RefAt w B r) (hb : Below w.heap.size w w') : RStep B w r w' r := ⟨Turn.of_below hb, h.old hb, fun _ hx => .inl hx, rfl⟩
theorem RStep.trans {w'' : World} (h : RStep B w r w' r') (h' : RStep B w' r' w'' r'') : RStep B w r w'' r'' :=
  ⟨h.turn.trans h'.turn h.foot', h'.at', fun x hx => by
    rcases h'.foot' x hx with h1 | h1
    · exact h.foot' x h1
    · exact .inr (Nat.le_trans h.turn.size h1), h'.d.trans h.d⟩
theorem RStep.below (h : RStep B w r w' r') (hr : RefAt w B r) (hB : B ≤ w.heap.size) : Below B w w' := h.turn.below (fun _ hx => (hr.lt hx).1) hB
/-- The head alone is written. -/
theorem RefAt.head (h : RefAt w B r) (r2 : RefR) (hd : r2.d = r.d) (hla : r2.la = r.la) (hlc : r2.lc = r.lc) (hfs : r2.fs = r.fs) (hpa : r2.pa = r.pa) (hpc : r2.pc = r.pc) (hplan : r2.plan = r.plan) (hl : 0 ≤ r2.left ∧ r2.left ≤ 9223372036854775807)
    (hb : Blk w' r.d (refHead r2) 55) (ho : ∀ x, x ≠ r.d → w'.heap[x]? = w.heap[x]?) : RefAt w' B r2 := by
  obtain ⟨d2, la2, lc2, fs2, down2, armed2, left2, pa2, pc2, plan2⟩ := r2
  dsimp only at hd hla hlc hfs hpa hpc hplan hl
  subst hd hla hlc hfs hpa hpc hplan
  have ne : ∀ {b : Nat} {cs : Array Value} {t : TypeId}, Blk w b cs t → t ≠ 55 → b ≠ r.d := fun hb' ht => Blk.ne hb' h.blk ht
  refine ⟨h.ged, hb, h.row.keepAt fun x hx => ho _ ?_, fun f hf => (h.files f hf).keepAt fun x hx => ho _ ?_, h.plan.keepAt fun x hx => ho _ ?_, ⟨h.ok.names, h.ok.named, h.ok.sure, h.ok.size, h.ok.count, hl⟩⟩
  · obtain ⟨_, _, _, hc⟩ := h.row.block_lt hx
    exact ne hc (by decide)
  · obtain ⟨_, _, _, hc⟩ := (h.files f hf).block_lt hx
    exact ne hc (by decide)
  · obtain ⟨_, _, _, hc⟩ := h.plan.block_lt hx
    exact ne hc (by decide)
/-- The cells of one file. -/
theorem RefAt.elem (h : RefAt w B r) (k : Nat) (hk : k < r.fs.length) : ∃ g, r.la = some ⟨g, 0, none⟩ ∧ w.cell? ⟨g, k * 3, none⟩ = some (.string r.fs[k].nm) ∧ w.cell? ⟨g, k * 3 + 1, none⟩ = some (.slice r.fs[k].a r.fs[k].b.length r.fs[k].c) ∧ w.cell? ⟨g, k * 3 + 2, none⟩ = some (.int .i64 (r.fs[k].sure : Int)) := by
  obtain ⟨g, hg⟩ := h.row.head (by omega)
  obtain ⟨b, o, e1, _, hc⟩ := RowAt.elem (g := fileCells) (sz := 3) (fun _ => rfl) h.row.row (by omega) k hk
  rw [hg] at e1
  cases e1
  have h0 := hc 0 (show 0 < 3 by omega)
  have h1 := hc 1 (show 1 < 3 by omega)
  have h2 := hc 2 (show 2 < 3 by omega)
  simp only [Nat.zero_add, Nat.add_zero] at h0 h1 h2
  exact ⟨g, hg, h0, h1, h2⟩
/-- The cells of a row with one element written. -/
theorem flat_set {fs : List FileQ} {k : Nat} (hk : k < fs.length) (f : FileQ) : (fs.set k f).flatMap fileCells = (((fs.flatMap fileCells).set (k * 3) (.string f.nm)).set (k * 3 + 1) (.slice f.a f.b.length f.c)).set (k * 3 + 2) (.int .i64 (f.sure : Int)) := by
  induction fs generalizing k with
  | nil => simp at hk
  | cons x l ih =>
    cases k with
    | zero => simp [fileCells]
    | succ k =>
      have hk' : k < l.length := by simpa using hk
      have e : (k + 1) * 3 = k * 3 + 3 := by omega
      rw [List.set_cons_succ, List.flatMap_cons, List.flatMap_cons, ih hk', e]
      simp [fileCells]
theorem set_name {fs : List FileQ} {k : Nat} (hk : k < fs.length) : (fs.flatMap fileCells)[k * 3]? = some (.string fs[k].nm) ∧ (fs.flatMap fileCells)[k * 3 + 1]? = some (.slice fs[k].a fs[k].b.length fs[k].c) ∧ (fs.flatMap fileCells)[k * 3 + 2]? = some (.int .i64 (fs[k].sure : Int)) := by
  induction fs generalizing k with
  | nil => simp at hk
  | cons x l ih =>
    cases k with
    | zero => simp [fileCells]
    | succ k =>
      have hk' : k < l.length := by simpa using hk
      have e : (k + 1) * 3 = k * 3 + 3 := by omega
      obtain ⟨a, b, c⟩ := ih hk'
      rw [List.flatMap_cons, e]
      simp only [fileCells, List.cons_append, List.nil_append, List.getElem?_cons_succ, List.getElem_cons_succ]
      exact ⟨a, b, c⟩
end
/-- A file of a list, by its name. -/
theorem upd_set {fs : List FileQ} {k : Nat} (hk : k < fs.length) (hn : (fs.map (·.nm)).Nodup) (G : FileP → FileP) (f : FileQ) (hf : f.p = G fs[k].p) : (fs.set k f).map (·.p) = updF (fs.map (·.p)) fs[k].nm G := by
  refine List.ext_getElem (by simp [updF]) fun i h1 h2 => ?_
  simp only [List.length_map, List.length_set] at h1
  simp only [updF, List.getElem_map, List.getElem_set]
  by_cases e : k = i
  · subst e
    rw [if_pos rfl, if_pos (show fs[k].p.name = fs[k].nm from rfl), hf]
  · rw [if_neg e, if_neg]
    intro e2
    have e3 : (fs.map (·.nm))[i]'(by simpa using h1) = (fs.map (·.nm))[k]'(by simpa using hk) := by simpa using (show fs[i].nm = fs[k].nm from e2)
    exact e ((List.getElem_inj hn).1 e3).symm
/-- A file's place; -1: there is none. -/
def placeI (fs : List FileQ) (nm : Name) : Int := match fs.findIdx? (fun f => f.nm = nm) with
  | some k => (k : Int)
  | none => -1
theorem place_some {fs : List FileQ} {nm : Name} {k : Nat} (hk : k < fs.length) (h1 : fs[k].nm = nm) (h2 : ∀ j (hj : j < fs.length), j < k → fs[j].nm ≠ nm) : placeI fs nm = (k : Int) := by
  unfold placeI
  have : fs.findIdx? (fun f => decide (f.nm = nm)) = some k := by
    rw [List.findIdx?_eq_some_iff_getElem]
    exact ⟨hk, by simpa using h1, fun j hj => by simpa using h2 j (by omega) hj⟩
  rw [this]
theorem place_none {fs : List FileQ} {nm : Name} (h : ∀ f ∈ fs, f.nm ≠ nm) : placeI fs nm = -1 := by
  unfold placeI
  have : fs.findIdx? (fun f => decide (f.nm = nm)) = none := by
    rw [List.findIdx?_eq_none_iff]
    intro f hf
    simpa using h f hf
  rw [this]
theorem place_cases (fs : List FileQ) (nm : Name) : (∃ k, ∃ hk : k < fs.length, fs[k].nm = nm ∧ placeI fs nm = (k : Int) ∧ (fs.map (·.p)).find? (fun f => f.name = nm) = some fs[k].p) ∨ ((∀ f ∈ fs, f.nm ≠ nm) ∧ placeI fs nm = -1 ∧ (fs.map (·.p)).find? (fun f => f.name = nm) = none) := by
  cases h : fs.findIdx? (fun f => decide (f.nm = nm)) with
  | some k =>
    obtain ⟨hk, h1, h2⟩ := List.findIdx?_eq_some_iff_getElem.1 h
    refine .inl ⟨k, hk, by simpa using h1, by unfold placeI; rw [h], ?_⟩
    rw [List.find?_eq_some_iff_getElem]
    refine ⟨decide_eq_true (of_decide_eq_true h1), k, by simpa using hk, by simp, fun j hj => ?_⟩
    have := h2 j hj
    simpa [FileQ.p] using this
  | none =>
    have hn : ∀ f ∈ fs, f.nm ≠ nm := fun f hf => by have := List.findIdx?_eq_none_iff.1 h f hf; simpa using this
    refine .inr ⟨hn, by unfold placeI; rw [h], ?_⟩
    rw [List.find?_eq_none]
    intro f hf
    obtain ⟨g, hg, rfl⟩ := List.mem_map.1 hf
    exact fun e => hn g hg (of_decide_eq_true e)

theorem flat_both {fs : List FileQ} {k : Nat} (hk : k < fs.length) (f : FileQ) (hn : f.nm = fs[k].nm) : (fs.set k f).flatMap fileCells = ((fs.flatMap fileCells).set (k * 3 + 1) (.slice f.a f.b.length f.c)).set (k * 3 + 2) (.int .i64 (f.sure : Int)) := by
  rw [flat_set hk f, hn]
  congr 2
  obtain ⟨h, _, _⟩ := set_name hk
  obtain ⟨h1, h2⟩ := List.getElem?_eq_some_iff.1 h
  rw [← h2]
  exact List.set_getElem_self h1
theorem flat_b {fs : List FileQ} {k : Nat} (hk : k < fs.length) (f : FileQ) (hn : f.nm = fs[k].nm) (hs : f.sure = fs[k].sure) : (fs.set k f).flatMap fileCells = (fs.flatMap fileCells).set (k * 3 + 1) (.slice f.a f.b.length f.c) := by
  rw [flat_both hk f hn, hs, List.set_comm _ _ (by omega)]
  congr 1
  obtain ⟨_, _, h⟩ := set_name hk
  obtain ⟨h1, h2⟩ := List.getElem?_eq_some_iff.1 h
  rw [← h2]
  exact List.set_getElem_self h1
theorem flat_sure {fs : List FileQ} {k : Nat} (hk : k < fs.length) (f : FileQ) (hn : f.nm = fs[k].nm) (ha : f.a = fs[k].a) (hb : f.b = fs[k].b) (hc : f.c = fs[k].c) : (fs.set k f).flatMap fileCells = (fs.flatMap fileCells).set (k * 3 + 2) (.int .i64 (f.sure : Int)) := by
  rw [flat_both hk f hn, ha, hb, hc]
  congr 1
  obtain ⟨_, h, _⟩ := set_name hk
  obtain ⟨h1, h2⟩ := List.getElem?_eq_some_iff.1 h
  rw [← h2]
  exact List.set_getElem_self h1
section
variable {w w' : World} {B : Nat} {r : RefR}
theorem RefAt.nd (h : RefAt w B r) : (r.fs.map (·.nm)).Nodup := by
  have := h.ok.names
  rw [show r.p.fs = r.fs.map (·.p) from rfl, List.map_map] at this
  exact this
theorem RefAt.same {f g : FileQ} (h : RefAt w B r) (hf : f ∈ r.fs) (hg : g ∈ r.fs) (he : f.nm = g.nm) : f = g := by
  have hn := h.nd
  generalize r.fs = l at hf hg hn
  induction l with
  | nil => cases hf
  | cons x l ih =>
    simp only [List.map_cons, List.nodup_cons] at hn
    rcases List.mem_cons.1 hf with rfl | hf'
    · rcases List.mem_cons.1 hg with rfl | hg'
      · rfl
      · exact (hn.1 (he ▸ List.mem_map_of_mem (f := fun x : FileQ => x.nm) hg')).elim
    · rcases List.mem_cons.1 hg with rfl | hg'
      · exact (hn.1 (he ▸ List.mem_map_of_mem (f := fun x : FileQ => x.nm) hf')).elim
      · exact ih hf' hg' hn.2
/-- One file is written. -/
theorem RefAt.file (h : RefAt w B r) {k : Nat} (hk : k < r.fs.length) (f : FileQ) (hf : Own w' B 5 1 f.a f.b.length f.c (f.b.map bv)) (hrow : Own w' B 101 3 r.la r.fs.length r.lc ((r.fs.set k f).flatMap fileCells)) (ht : Turn (fun x => ∃ ad, r.la = some ad ∧ x = ad.block) w w')
    (hna : ∀ ad, f.a = some ad → (∃ ad', r.fs[k].a = some ad' ∧ ad.block = ad'.block) ∨ w.heap.size ≤ ad.block) (hok : DiskOk (RefR.p { r with fs := r.fs.set k f })) : RStep B w r w' { r with fs := r.fs.set k f } := by
  have hx : ∀ x, (∃ ad, r.la = some ad ∧ x = ad.block) → ∃ cur, Blk w x cur 101 := fun x ⟨ad, h1, h2⟩ => by
    obtain ⟨_, _, cur, hc⟩ := h.row.block_lt h1
    exact ⟨cur, h2 ▸ hc⟩
  have off : ∀ {b : Nat} {cs : Array Value} {t : TypeId}, Blk w b cs t → t ≠ 101 → w'.heap[b]? = w.heap[b]? := fun hb hne => ht.block _ hb.lt fun e => by
    obtain ⟨cur, hc⟩ := hx _ e
    exact Blk.ne hb hc hne rfl
  refine ⟨ht.mono fun x hx => .inr (.inl hx), ⟨h.ged, (off h.blk (by decide)).trans ?_, ?_, ?_, ?_, hok⟩, ?_, rfl⟩
  · have := h.blk
    unfold Blk refHead at *
    rw [this]
    simp
  · simpa using hrow
  · intro g hg
    rcases List.mem_or_eq_of_mem_set hg with hg | rfl
    · refine (h.files g hg).keepAt fun x hx => ?_
      obtain ⟨_, _, cur, hc⟩ := (h.files g hg).block_lt hx
      exact off hc (by decide)
    · exact hf
  · refine h.plan.keepAt fun x hx => ?_
    obtain ⟨_, _, cur, hc⟩ := h.plan.block_lt hx
    exact off hc (by decide)
  · intro x hx
    rcases hx with rfl | ⟨ad, ha, rfl⟩ | ⟨g, hg, ad, ha, rfl⟩ | ⟨ad, ha, rfl⟩
    · exact .inl (.inl rfl)
    · exact .inl (.inr (.inl ⟨ad, ha, rfl⟩))
    · rcases List.mem_or_eq_of_mem_set hg with hg | rfl
      · exact .inl (.inr (.inr (.inl ⟨g, hg, ad, ha, rfl⟩)))
      · rcases hna ad ha with ⟨ad', e1, e2⟩ | e
        · exact .inl (.inr (.inr (.inl ⟨r.fs[k], List.getElem_mem hk, ad', e1, e2⟩)))
        · exact .inr e
    · exact .inl (.inr (.inr (.inr ⟨ad, ha, rfl⟩)))
theorem RefAt.both (h : RefAt w B r) (hB : B ≤ w.heap.size) {k : Nat} (hk : k < r.fs.length) {g : Nat} (hg : r.la = some ⟨g, 0, none⟩) {w3 : World} (hb : Below w.heap.size w w3) (f : FileQ) (hnm : f.nm = r.fs[k].nm) (ho : Own w3 w.heap.size 5 1 f.a f.b.length f.c (f.b.map bv)) (hok : DiskOk (RefR.p { r with fs := r.fs.set k f })) :
    RStep B w r ((w3.setCell ⟨g, k * 3 + 1, none⟩ (.slice f.a f.b.length f.c)).setCell ⟨g, k * 3 + 2, none⟩ (.int .i64 (f.sure : Int))) { r with fs := r.fs.set k f } ∧ Turn (fun x => ∃ ad, r.la = some ad ∧ x = ad.block) w ((w3.setCell ⟨g, k * 3 + 1, none⟩ (.slice f.a f.b.length f.c)).setCell ⟨g, k * 3 + 2, none⟩ (.int .i64 (f.sure : Int))) := by
  have hrow := h.row.old hb
  rw [hg] at hrow
  obtain ⟨_, _, cur, hcur⟩ := hrow.block_lt rfl
  have ht : Turn (fun x => ∃ ad, r.la = some ad ∧ x = ad.block) w ((w3.setCell ⟨g, k * 3 + 1, none⟩ (.slice f.a f.b.length f.c)).setCell ⟨g, k * 3 + 2, none⟩ (.int .i64 (f.sure : Int))) :=
    Turn.setCell (Turn.setCell (Turn.of_below hb) (x := ⟨g, k * 3 + 1, none⟩) (.inl ⟨_, hg, rfl⟩) _) (x := ⟨g, k * 3 + 2, none⟩) (.inl ⟨_, hg, rfl⟩) _
  refine ⟨h.file hk f ?_ ?_ ht (fun ad ha => .inr (ho.block_lt ha).1) hok, ht⟩
  · exact ((ho.lower hB).setCell_apart hcur (by decide) _ _).setCell_apart (hcur.set _ _) (by decide) _ _
  · rw [hg, flat_both hk f hnm]
    exact (hrow.setN (k * 3 + 1) (by omega) _).setN (k * 3 + 2) (by omega) _
theorem RefAt.onlyB (h : RefAt w B r) (hB : B ≤ w.heap.size) {k : Nat} (hk : k < r.fs.length) {g : Nat} (hg : r.la = some ⟨g, 0, none⟩) {w3 : World} (hb : Below w.heap.size w w3) (f : FileQ) (hnm : f.nm = r.fs[k].nm) (hs : f.sure = r.fs[k].sure) (ho : Own w3 w.heap.size 5 1 f.a f.b.length f.c (f.b.map bv)) (hok : DiskOk (RefR.p { r with fs := r.fs.set k f })) :
    RStep B w r (w3.setCell ⟨g, k * 3 + 1, none⟩ (.slice f.a f.b.length f.c)) { r with fs := r.fs.set k f } := by
  have hrow := h.row.old hb
  rw [hg] at hrow
  obtain ⟨_, _, cur, hcur⟩ := hrow.block_lt rfl
  have ht : Turn (fun x => ∃ ad, r.la = some ad ∧ x = ad.block) w (w3.setCell ⟨g, k * 3 + 1, none⟩ (.slice f.a f.b.length f.c)) :=
    Turn.setCell (Turn.of_below hb) (x := ⟨g, k * 3 + 1, none⟩) (.inl ⟨_, hg, rfl⟩) _
  refine h.file hk f ?_ ?_ ht (fun ad ha => .inr (ho.block_lt ha).1) hok
  · exact (ho.lower hB).setCell_apart hcur (by decide) _ _
  · rw [hg, flat_b hk f hnm hs]
    exact hrow.setN (k * 3 + 1) (by omega) _
theorem RefAt.onlySure (h : RefAt w B r) {k : Nat} (hk : k < r.fs.length) {g : Nat} (hg : r.la = some ⟨g, 0, none⟩) (n : Nat) (hok : DiskOk (RefR.p { r with fs := r.fs.set k { r.fs[k] with sure := n } })) :
    RStep B w r (w.setCell ⟨g, k * 3 + 2, none⟩ (.int .i64 (n : Int))) { r with fs := r.fs.set k { r.fs[k] with sure := n } } := by
  have hrow := h.row
  rw [hg] at hrow
  obtain ⟨_, _, cur, hcur⟩ := hrow.block_lt rfl
  have ht : Turn (fun x => ∃ ad, r.la = some ad ∧ x = ad.block) w (w.setCell ⟨g, k * 3 + 2, none⟩ (.int .i64 (n : Int))) :=
    Turn.setCell (Turn.refl _ _) (x := ⟨g, k * 3 + 2, none⟩) (.inl ⟨_, hg, rfl⟩) _
  refine h.file hk { r.fs[k] with sure := n } ?_ ?_ ht (fun ad ha => .inl ⟨ad, ha, rfl⟩) hok
  · exact (h.files _ (List.getElem_mem hk)).setCell_apart hcur (by decide) _ _
  · rw [hg, flat_sure hk { r.fs[k] with sure := n } rfl rfl rfl rfl]
    exact hrow.setN (k * 3 + 2) (by omega) _
/-- What is told by the plain words of the list with one file written. -/
theorem RefR.p_set {r : RefR} {k : Nat} (hk : k < r.fs.length) (hn : (r.fs.map (·.nm)).Nodup) (G : FileP → FileP) (f : FileQ) (hf : f.p = G r.fs[k].p) : RefR.p { r with fs := r.fs.set k f } = updP r.p r.fs[k].nm G := by
  unfold RefR.p updP
  simp only [DiskP.mk.injEq, and_true]
  exact upd_set hk hn G f hf
end
end Go.Proofs.Ytnojeiklgjhkgaa
