/- The document's log in memory. -/
import Derived.Test.YtnojeiklgjhkgaaLogDisk
import Derived.Test.YtnojeiklgjhkgaaRDName
namespace Go.Proofs.Ytnojeiklgjhkgaa
open Go.RowKit Go.Maps
set_option linter.unusedVariables false
set_option linter.unusedSimpArgs false

theorem RefAt.turn {w w' : World} {B : Nat} {r : RefR} {F : Nat → Prop} (h : RefAt w B r) (ht : Turn F w w') (hF : ∀ x, rfoot r x → F x → False) : RefAt w' B r :=
  h.keep fun x hx => ht.block x (h.lt hx).2 fun hf => hF x hx hf
structure RLogAt (w : World) (B : Nat) (d : Nat) (R : LogR) : Prop where
  ge : B ≤ R.l
  blk : Blk w R.l #[.pointer (some ⟨d, 0, none⟩), .string R.nm, .slice R.a R.ls.length R.c, .int .i64 (R.sure : Int)] 63
  rows : OwnPieces w B 22 5 R.a R.ls.length R.c R.vs R.ls
  cnt : R.ls.length ≤ 4096
  lens : ∀ x ∈ R.ls, x.length ≤ 65536
  nmz : R.nm.size ≤ maxLen
  sle : R.sure ≤ R.ls.length
/-- The log's own blocks. -/
def qfoot (R : LogR) (x : Nat) : Prop := x = R.l ∨ (∃ ad, R.a = some ad ∧ x = ad.block) ∨ ∃ ad m C, Value.slice (some ad) m C ∈ R.vs ∧ x = ad.block
section
variable {w w' : World} {B d : Nat} {R R' R'' : LogR} {r r' r'' : RefR}
theorem RLogAt.keep (h : RLogAt w B d R) (hk : ∀ x, qfoot R x → w'.heap[x]? = w.heap[x]?) : RLogAt w' B d R :=
  ⟨h.ge, (hk _ (.inl rfl)).trans h.blk, h.rows.keep (fun x hx => hk _ (.inr (.inl ⟨x, hx, rfl⟩))) (fun ad m C hm => hk _ (.inr (.inr ⟨ad, m, C, hm, rfl⟩))), h.cnt, h.lens, h.nmz, h.sle⟩
theorem RLogAt.lt (h : RLogAt w B d R) {x : Nat} (hx : qfoot R x) : B ≤ x ∧ x < w.heap.size := by
  rcases hx with rfl | ⟨ad, ha, rfl⟩ | ⟨ad, m, C, hm, rfl⟩
  · exact ⟨h.ge, h.blk.lt⟩
  · obtain ⟨h1, h2, _⟩ := h.rows.1.block_lt ha
    exact ⟨h1, h2⟩
  · obtain ⟨h1, h2, _⟩ := h.rows.inner hm
    exact ⟨h1, h2⟩
theorem RLogAt.old (h : RLogAt w B d R) (hb : Below w.heap.size w w') : RLogAt w' B d R := h.keep fun x hx => hb.block x (h.lt hx).2
theorem RLogAt.lower {B' : Nat} (h : RLogAt w B d R) (hB : B' ≤ B) : RLogAt w B' d R := ⟨Nat.le_trans hB h.ge, h.blk, h.rows.lower hB, h.cnt, h.lens, h.nmz, h.sle⟩
/-- A log and its disk. -/
structure RDL (w : World) (B : Nat) (r : RefR) (R : LogR) : Prop where
  disk : RefAt w B r
  log : RLogAt w B r.d R
  apart : ∀ x, qfoot R x → ¬ rfoot r x
theorem RDL.keep (h : RDL w B r R) (hk : ∀ x, rfoot r x ∨ qfoot R x → w'.heap[x]? = w.heap[x]?) : RDL w' B r R := ⟨h.disk.keep fun x hx => hk x (.inl hx), h.log.keep fun x hx => hk x (.inr hx), h.apart⟩
theorem RDL.lt (h : RDL w B r R) {x : Nat} (hx : rfoot r x ∨ qfoot R x) : B ≤ x ∧ x < w.heap.size := hx.elim h.disk.lt h.log.lt
theorem RDL.old (h : RDL w B r R) (hb : Below w.heap.size w w') : RDL w' B r R := h.keep fun x hx => hb.block x (h.lt hx).2
theorem RDL.lower {B' : Nat} (h : RDL w B r R) (hB : B' ≤ B) : RDL w B' r R := ⟨h.disk.lower hB, h.log.lower hB, h.apart⟩
/-- A call on a log. -/
structure RLStep (B : Nat) (w : World) (r : RefR) (R : LogR) (w' : World) (r' : RefR) (R' : LogR) : Prop where
  turn : Turn (fun x => rfoot r x ∨ qfoot R x) w w'
  at' : RDL w' B r' R'
  foot' : ∀ x, rfoot r' x ∨ qfoot R' x → (rfoot r x ∨ qfoot R x) ∨ w.heap.size ≤ x
  d : r'.d = r.d
  l : R'.l = R.l
  nm : R'.nm = R.nm
theorem RLStep.refl (h : RDL w B r R) : RLStep B w r R w r R := ⟨Turn.refl _ _, h, fun _ hx => .inl hx, rfl, rfl, rfl⟩
theorem RLStep.trans {w'' : World} (h : RLStep B w r R w' r' R') (h' : RLStep B w' r' R' w'' r'' R'') : RLStep B w r R w'' r'' R'' :=
  ⟨h.turn.trans h'.turn h.foot', h'.at', fun x hx => by
    rcases h'.foot' x hx with h1 | h1
    · exact h.foot' x h1
    · exact .inr (Nat.le_trans h.turn.size h1), h'.d.trans h.d, h'.l.trans h.l, h'.nm.trans h.nm⟩
theorem RLStep.below (h : RLStep B w r R w' r' R') (hr : RDL w B r R) (hB : B ≤ w.heap.size) : Below B w w' := h.turn.below (fun _ hx => (hr.lt hx).1) hB
theorem RLStep.old (h : RDL w B r R) (hb : Below w.heap.size w w') : RLStep B w r R w' r R := ⟨Turn.of_below hb, h.old hb, fun _ hx => .inl hx, rfl, rfl, rfl⟩
/-- A call on the disk alone. -/
theorem RStep.log (hs : RStep B w r w' r') (h : RDL w B r R) : RLStep B w r R w' r' R := by
  refine ⟨hs.turn.mono fun _ hx => .inl hx, ⟨hs.at', ?_, fun x hx hf => ?_⟩, fun x hx => ?_, hs.d, rfl, rfl⟩
  · rw [hs.d]
    exact h.log.keep fun x hx => hs.turn.block x (h.log.lt hx).2 (h.apart x hx)
  · rcases hs.foot' x hf with h1 | h1
    · exact h.apart x hx h1
    · have := (h.log.lt hx).2; omega
  · rcases hx with hx | hx
    · rcases hs.foot' x hx with h1 | h1
      · exact .inl (.inl h1)
      · exact .inr h1
    · exact .inl (.inr hx)
end

section
variable {w w1 w2 w3 : World} {B : Nat} {r : RefR} {R : LogR}
theorem rappend_mem (h : RDL w1 B r R) (hB : B ≤ w1.heap.size) {A : Option Addr} {m C : Nat} {l : List UInt8} (hb : Below w1.heap.size w1 w2) (hm : l.length = m) (hx : Own w2 w1.heap.size 5 1 A m C (l.map bv)) {a2 : Option Addr} {c2 : Nat}
    (h' : Own w3 B 22 1 a2 (R.ls.length + 1) c2 (R.vs ++ [.slice A m C])) (hg : w2.grownBy w3 (rowB R.a R.c)) (hr : rowB a2 c2 = rowB R.a R.c ∨ ∃ b, rowB a2 c2 = some b ∧ w2.heap.size ≤ b) (hcnt : R.ls.length < 4096) (hlen : l.length ≤ 65536) :
    RLStep B w1 r R (w3.setCell ⟨R.l, 2, none⟩ (.slice a2 (R.ls.length + 1) c2)) r { R with a := a2, c := c2, vs := R.vs ++ [.slice A m C], ls := R.ls ++ [l] } := by
  have hc2 : 0 < c2 := by have := h'.le; omega
  have hrow2 := h.log.rows.old hb
  have hgo : w2.grownBy w3 (Value.slice R.a R.ls.length R.c).ownBlock := by
    refine ⟨hg.os, hg.tape, hg.output, hg.size, fun k hk hne => hg.block k hk fun e => ?_⟩
    obtain ⟨ad, h1, rfl⟩ := rowB_blk e.symm
    rw [h1] at hne
    exact hne rfl
  have hpc := hrow2.snoc (x := l) (by decide) hgo hm hx hB h'
  -- what turns: the row's block and the log's own
  have htF : Turn (fun k => k = R.l ∨ ∃ ad, R.a = some ad ∧ k = ad.block) w1 (w3.setCell ⟨R.l, 2, none⟩ (.slice a2 (R.ls.length + 1) c2)) := by
    refine Turn.setCell ?_ (.inl (.inl rfl)) _
    refine (Turn.of_below hb).trans (Turn.of_grown (F := fun k => ∃ ad, R.a = some ad ∧ k = ad.block) hg fun k e => rowB_blk e) fun k hk => .inl (.inr hk)
  have hlf : ∀ k, (k = R.l ∨ ∃ ad, R.a = some ad ∧ k = ad.block) → qfoot R k := fun k hk => hk.elim .inl fun h => .inr (.inl h)
  have hnew : ∀ ad, a2 = some ad → (∃ ad', R.a = some ad' ∧ ad.block = ad'.block) ∨ w1.heap.size ≤ ad.block := fun ad ha => by
    have e := rowB_of ha hc2
    rcases hr with hr | ⟨b, hr, hb2⟩
    · rw [e] at hr
      exact .inl (rowB_blk hr.symm)
    · rw [e] at hr
      cases hr
      exact .inr (Nat.le_trans hb.size hb2)
  have hA : ∀ ad m' C', Value.slice (some ad) m' C' = .slice A m C → w1.heap.size ≤ ad.block := fun ad m' C' e => by
    simp only [Value.slice.injEq] at e
    exact (hx.block_lt e.1.symm).1
  have hl3 : Blk w3 R.l #[.pointer (some ⟨r.d, 0, none⟩), .string R.nm, .slice R.a R.ls.length R.c, .int .i64 (R.sure : Int)] 63 := by
    refine (h.log.blk.old hb).grown hg fun e => ?_
    obtain ⟨ad, h1, h2⟩ := rowB_blk e
    obtain ⟨_, _, cur, hcur⟩ := h.log.rows.1.block_lt h1
    exact Blk.ne hcur h.log.blk (by decide) h2.symm
  have hother : ∀ x, x ≠ R.l → (w3.setCell ⟨R.l, 2, none⟩ (.slice a2 (R.ls.length + 1) c2)).heap[x]? = w3.heap[x]? := fun x hx => heap_setCell_other w3 ⟨R.l, 2, none⟩ x _ hx
  have hlog : RLogAt (w3.setCell ⟨R.l, 2, none⟩ (.slice a2 (R.ls.length + 1) c2)) B r.d { R with a := a2, c := c2, vs := R.vs ++ [.slice A m C], ls := R.ls ++ [l] } := by
    refine ⟨h.log.ge, ?_, ?_, by simp; omega, ?_, h.log.nmz, by have := h.log.sle; simp; omega⟩
    · have := hl3.set 2 (.slice a2 (R.ls.length + 1) c2)
      simpa using this
    · rw [show (R.ls ++ [l]).length = R.ls.length + 1 by simp]
      refine hpc.keep (fun x hx => hother _ ?_) (fun ad m' C' hm' => hother _ ?_)
      · obtain ⟨_, _, cur, hcur⟩ := hpc.1.block_lt hx
        exact Blk.ne hcur hl3 (by decide)
      · obtain ⟨_, _, cur, hcur⟩ := hpc.inner hm'
        exact Blk.ne hcur hl3 (by decide)
    · intro x hx
      rcases List.mem_append.1 hx with hx | hx
      · exact h.log.lens x hx
      · rw [List.mem_singleton.1 hx]; exact hlen
  have hdisk : RefAt (w3.setCell ⟨R.l, 2, none⟩ (.slice a2 (R.ls.length + 1) c2)) B r := h.disk.turn htF fun x hx hF => h.apart x (hlf x hF) hx
  have hfoot : ∀ x, qfoot { R with a := a2, c := c2, vs := R.vs ++ [.slice A m C], ls := R.ls ++ [l] } x → qfoot R x ∨ w1.heap.size ≤ x := by
    intro x hx
    rcases hx with rfl | ⟨ad, ha, rfl⟩ | ⟨ad, m', C', hm', rfl⟩
    · exact .inl (.inl rfl)
    · rcases hnew ad ha with ⟨ad', h1, h2⟩ | h1
      · exact .inl (.inr (.inl ⟨ad', h1, h2⟩))
      · exact .inr h1
    · rcases List.mem_append.1 hm' with hm' | hm'
      · exact .inl (.inr (.inr ⟨ad, m', C', hm', rfl⟩))
      · exact .inr (hA ad m' C' (List.mem_singleton.1 hm'))
  refine ⟨htF.mono fun k hk => .inr (hlf k hk), ⟨hdisk, hlog, fun x hx hf => ?_⟩, fun x hx => ?_, rfl, rfl, rfl⟩
  · rcases hfoot x hx with h1 | h1
    · exact h.apart x h1 hf
    · have := (h.disk.lt hf).2; omega
  · rcases hx with hx | hx
    · exact .inl (.inl hx)
    · rcases hfoot x hx with h1 | h1
      · exact .inl (.inr h1)
      · exact .inr h1
/-- The count of what is sure is written. -/
theorem rsure_mem (h : RDL w B r R) (n : Nat) (hn : n = R.ls.length) : RLStep B w r R (w.setCell ⟨R.l, 3, none⟩ (.int .i64 (n : Int))) r { R with sure := n } := by
  subst hn
  have ht : Turn (fun k => k = R.l) w (w.setCell ⟨R.l, 3, none⟩ (.int .i64 (R.ls.length : Int))) := (Turn.refl (fun k => k = R.l) w).setCell (x := ⟨R.l, 3, none⟩) (.inl rfl) _
  have ho : ∀ x, x ≠ R.l → (w.setCell ⟨R.l, 3, none⟩ (.int .i64 (R.ls.length : Int))).heap[x]? = w.heap[x]? := fun x hx => heap_setCell_other w ⟨R.l, 3, none⟩ x _ hx
  refine ⟨ht.mono fun k hk => .inr (.inl hk), ⟨h.disk.turn ht fun x hx e => h.apart x (.inl e) hx, ⟨h.log.ge, ?_, ?_, h.log.cnt, h.log.lens, h.log.nmz, Nat.le_refl _⟩, h.apart⟩, fun x hx => .inl hx, rfl, rfl, rfl⟩
  · have := h.log.blk.set 3 (.int .i64 (R.ls.length : Int))
    simpa using this
  · refine h.log.rows.keep (fun x hx => ho _ ?_) (fun ad m' C' hm' => ho _ ?_)
    · obtain ⟨_, _, cur, hcur⟩ := h.log.rows.1.block_lt hx
      exact Blk.ne hcur h.log.blk (by decide)
    · obtain ⟨_, _, cur, hcur⟩ := h.log.rows.inner hm'
      exact Blk.ne hcur h.log.blk (by decide)
end
end Go.Proofs.Ytnojeiklgjhkgaa
