/- The program's disk and log beside the document's: both are opened. -/
import Derived.Test.YtnojeiklgjhkgaaRLog
import Derived.Test.YtnojeiklgjhkgaaLogBeginP
namespace Go.Proofs.Ytnojeiklgjhkgaa
open Go.RowKit Go.Maps
set_option linter.unusedVariables false
set_option linter.unusedSimpArgs false

/-! ### Names stay -/
def namesP' (p : DiskP) : List Name := p.fs.map (·.name)
theorem OneN.of_names {p q : DiskP} {nm : Name} (h : OneN p nm) (e : namesP' q = namesP' p) : OneN q nm := fun f hf => by
  have h1 : f.name ∈ namesP' q := List.mem_map.2 ⟨f, hf, rfl⟩
  rw [e] at h1
  obtain ⟨g, hg, he⟩ := List.mem_map.1 h1
  rw [← he]
  exact h g hg
theorem upd_names (p : DiskP) (nm : Name) (g : FileP → FileP) (hg : ∀ f, (g f).name = f.name) : namesP' (updP p nm g) = namesP' p := by
  unfold namesP' updP updF
  rw [List.map_map]
  refine List.map_congr_left fun f _ => ?_
  simp only [Function.comp]
  split
  · exact hg f
  · rfl
theorem crash_names (p : DiskP) (plan : PlanP) : namesP' (crashP p plan) = namesP' p := by
  unfold namesP' crashP
  rw [List.map_map]
  rfl
theorem goes_names (p : DiskP) : namesP' (goesP p).1 = namesP' p := by
  unfold goesP
  split
  · rfl
  · split
    · rfl
    · exact crash_names p p.plan
theorem may_names (p : DiskP) (nm : Name) (g : FileP → DiskP × Int) (hg : ∀ f, namesP' (g f).1 = namesP' p) : namesP' (mayP p nm g).1 = namesP' p := by
  unfold mayP
  split
  · rfl
  · split
    · rfl
    · exact hg _
theorem append_names (p : DiskP) (nm : Name) (b : List UInt8) : namesP' (appendP p nm b).1 = namesP' p := may_names p nm _ fun f => by
  split
  · rfl
  · rw [goes_names]; exact upd_names p nm _ fun _ => rfl
theorem sync_names (p : DiskP) (nm : Name) : namesP' (syncP p nm).1 = namesP' p := may_names p nm _ fun f => by
  split
  · exact (upd_names (goesP p).1 nm (fun f => { f with sure := f.b.length }) fun _ => rfl).trans (goes_names p)
  · exact goes_names p
theorem cut_names (p : DiskP) (nm : Name) (n : Int) : namesP' (cutP p nm n).1 = namesP' p := may_names p nm _ fun f => by
  split
  · rfl
  · exact upd_names p nm _ fun _ => rfl
theorem crashAll_names (p : DiskP) (plan : PlanP) : namesP' (crashAll p plan).1 = namesP' p := by
  unfold crashAll
  split
  · rfl
  · exact crash_names p plan
theorem openP_names (p : DiskP) : namesP' (openP p).1 = namesP' p := by
  unfold openP
  split <;> rfl
theorem arm_names (p : DiskP) (n : Int) (plan : PlanP) : namesP' (armP p n plan).1 = namesP' p := by
  unfold armP
  split
  · rfl
  · split <;> rfl
theorem make_oneN {p : DiskP} {nm : Name} (h : OneN p nm) : OneN (makeP p nm).1 nm := by
  unfold makeP
  split
  · exact h
  · split
    · exact h
    · split
      · exact h
      · split
        · exact h
        · intro f hf
          rcases List.mem_append.1 hf with hf | hf
          · exact h f hf
          · rw [List.mem_singleton.1 hf]
theorem open_oneN {p : DiskP} {nm : Name} (h : OneN p nm) : OneN (openD p nm) nm := by
  have h1 : OneN (openMk p nm).1 nm := by
    unfold openMk
    split
    · exact make_oneN h
    · exact h
  have h2 : OneN (openCut p nm).1 nm := by
    unfold openCut
    split
    · exact h1
    · exact h1.of_names (cut_names _ _ _)
  have h3 : OneN (openSync p nm).1 nm := h2.of_names (sync_names _ _)
  unfold openD
  split
  · exact h1
  · split
    · exact h2
    · exact h3
/-! ### Both in memory -/
structure BothAt (w : World) (B x : Nat) (r : DiskR) (R : RefR) (P Q : LogR) : Prop where
  ge : B ≤ x
  blk : Blk w x #[.pointer (some ⟨r.d, 0, none⟩), .pointer (some ⟨P.l, 0, none⟩), .pointer (some ⟨R.d, 0, none⟩), .pointer (some ⟨Q.l, 0, none⟩)] 58
  dl : DL w B r P
  rdl : RDL w B R Q
  apart : ∀ y, (foot r y ∨ lfoot P y) → (rfoot R y ∨ qfoot Q y) → False
  off : ¬ (foot r x ∨ lfoot P x)
  off' : ¬ (rfoot R x ∨ qfoot Q x)
  eq : R.p = r.p
  ls : Q.ls = P.ls
  sure : Q.sure = P.sure
  nm : P.nm = nmLog
  nm' : Q.nm = nmLog
  one : OneN r.p nmLog
section
variable {w w1 w2 w' : World} {B x : Nat} {r r' : DiskR} {R R' : RefR} {P P' Q Q' : LogR}
theorem BothAt.keep (h : BothAt w B x r R P Q) (hk : ∀ y, y = x ∨ (foot r y ∨ lfoot P y) ∨ (rfoot R y ∨ qfoot Q y) → w'.heap[y]? = w.heap[y]?) : BothAt w' B x r R P Q :=
  ⟨h.ge, (hk x (.inl rfl)).trans h.blk, h.dl.keep fun y hy => hk y (.inr (.inl hy)), h.rdl.keep fun y hy => hk y (.inr (.inr hy)), h.apart, h.off, h.off', h.eq, h.ls, h.sure, h.nm, h.nm', h.one⟩
theorem BothAt.old (h : BothAt w B x r R P Q) (hb : Below w.heap.size w w') : BothAt w' B x r R P Q := h.keep fun y hy => hb.block y (by
  rcases hy with rfl | hy | hy
  · exact h.blk.lt
  · exact (h.dl.lt hy).2
  · exact (h.rdl.lt hy).2)
/-- The program's part has been asked: the document's stands. -/
theorem BothAt.mid (h : BothAt w B x r R P Q) (h1 : Turn (fun y => foot r y ∨ lfoot P y) w w1) : RDL w1 B R Q ∧ Blk w1 x #[.pointer (some ⟨r.d, 0, none⟩), .pointer (some ⟨P.l, 0, none⟩), .pointer (some ⟨R.d, 0, none⟩), .pointer (some ⟨Q.l, 0, none⟩)] 58 :=
  ⟨h.rdl.keep fun y hy => h1.block y (h.rdl.lt hy).2 fun hf => h.apart y hf hy, (h1.block x h.blk.lt h.off).trans h.blk⟩
/-- Both parts have been asked. -/
theorem BothAt.step (h : BothAt w B x r R P Q) (t1 : Turn (fun y => foot r y ∨ lfoot P y) w w1) (a1 : DL w1 B r' P') (f1 : ∀ y, foot r' y ∨ lfoot P' y → (foot r y ∨ lfoot P y) ∨ w.heap.size ≤ y) (hd : r'.d = r.d) (hl : P'.l = P.l) (hn : P'.nm = nmLog)
    (t2 : Turn (fun y => rfoot R y ∨ qfoot Q y) w1 w2) (a2 : RDL w2 B R' Q') (f2 : ∀ y, rfoot R' y ∨ qfoot Q' y → (rfoot R y ∨ qfoot Q y) ∨ w1.heap.size ≤ y) (hd' : R'.d = R.d) (hl' : Q'.l = Q.l) (hn' : Q'.nm = nmLog)
    (eq : R'.p = r'.p) (ls : Q'.ls = P'.ls) (su : Q'.sure = P'.sure) (one : OneN r'.p nmLog) : BothAt w2 B x r' R' P' Q' := by
  have z1 := t1.size
  have hx := h.blk.lt
  have ap : ∀ y, (foot r' y ∨ lfoot P' y) → (rfoot R y ∨ qfoot Q y) → False := fun y hy hq => by
    rcases f1 y hy with g | g
    · exact h.apart y g hq
    · have := (h.rdl.lt hq).2; omega
  refine ⟨h.ge, ?_, a1.keep fun y hy => t2.block y (a1.lt hy).2 fun hq => ap y hy hq, a2, fun y hy hq => ?_, fun hy => ?_, fun hq => ?_, eq, ls, su, hn, hn', one⟩
  · rw [hd, hl, hd', hl']
    exact (t2.block x (h.mid t1).2.lt h.off').trans (h.mid t1).2
  · rcases f2 y hq with g | g
    · exact ap y hy g
    · have := (a1.lt hy).2; omega
  · rcases f1 x hy with g | g
    · exact h.off g
    · omega
  · rcases f2 x hq with g | g
    · exact h.off' g
    · omega
/-- The program's log was asked, then the document's. -/
theorem BothAt.lstep (h : BothAt w B x r R P Q) (h1 : LStep B w r P w1 r' P') (h2 : RLStep B w1 R Q w2 R' Q') (eq : R'.p = r'.p) (ls : Q'.ls = P'.ls) (su : Q'.sure = P'.sure) (one : OneN r'.p nmLog) : BothAt w2 B x r' R' P' Q' :=
  h.step h1.turn h1.at' h1.foot' h1.d h1.l (h1.nm.trans h.nm) h2.turn h2.at' h2.foot' h2.d h2.l (h2.nm.trans h.nm') eq ls su one
theorem BothAt.below (h : BothAt w B x r R P Q) (hB : B ≤ w.heap.size) (t1 : Turn (fun y => foot r y ∨ lfoot P y) w w1) (t2 : Turn (fun y => rfoot R y ∨ qfoot Q y) w1 w2) : Below B w w2 :=
  (t1.below (fun y hy => (h.dl.lt hy).1) hB).trans (t2.below (fun y hy => (h.rdl.lt hy).1) (Nat.le_trans hB t1.size))
end
/-- What both.open leaves. -/
def OpenRes2 (B x : Nat) (w : World) (r : DiskR) (R : RefR) (w' : World) : Prop :=
  ∃ w1 w2 r' R', DStep B w r w1 r' ∧ RStep B w1 R w2 R' ∧ r'.p = openD r.p nmLog ∧ R'.p = openD r.p nmLog ∧
    ((openE r.p nmLog ≠ 0 ∧ w' = w2) ∨
     (openE r.p nmLog = 0 ∧ ∃ P Q : LogR, DL w1 B r' P ∧ P.nm = nmLog ∧ P.ls = (openB r.p nmLog).1 ∧ P.sure = P.ls.length ∧ (∀ y, lfoot P y → w.heap.size ≤ y) ∧
        RDL w2 B R' Q ∧ Q.nm = nmLog ∧ Q.ls = (openB r.p nmLog).1 ∧ Q.sure = Q.ls.length ∧ (∀ y, qfoot Q y → w1.heap.size ≤ y) ∧
        w' = (w2.setCell ⟨x, 1, none⟩ (.pointer (some ⟨P.l, 0, none⟩))).setCell ⟨x, 3, none⟩ (.pointer (some ⟨Q.l, 0, none⟩))))
set_option maxRecDepth 20000 in
set_option maxHeartbeats 4000000 in
theorem open_core (w : World) (B x : Nat) (r : DiskR) (R : RefR) (lv mv : Value) (hd : DiskAt w B r) (hr : RefAt w B R) (hap : ∀ y, foot r y → rfoot R y → False) (hx : Blk w x #[.pointer (some ⟨r.d, 0, none⟩), lv, .pointer (some ⟨R.d, 0, none⟩), mv] 58)
    (ho : ¬ foot r x) (ho' : ¬ rfoot R x) (heq : R.p = r.p) (hone : OneN r.p nmLog) (hB : B ≤ w.heap.size) :
    Calls Try.prog 25 #[.pointer (some ⟨x, 0, none⟩)] w fun e w' => e = .returned (.bool true) ∧ OpenRes2 B x w r R w' := by
  have hnz : nmLog.size ≤ maxLen := by unfold maxLen; decide
  have cx := hx.rule
  have co := lopen_any w B r nmLog hd hB hnz
  go_enter Try.func25, Try.ntmps25
  go_wp2_with fail
  refine co.mono ?_
  clear co
  rintro e w1 ⟨r', hrp, hs1, hcase⟩
  have hx1 : Blk w1 x _ _ := (hs1.turn.block x hx.lt ho).trans hx
  have hr1 : RefAt w1 B R := hr.turn hs1.turn fun y hy hf => hap y hf hy
  have hB1 : B ≤ w1.heap.size := Nat.le_trans hB hs1.turn.size
  have hxl : x < w.heap.size := hx.lt
  clear cx hx
  have cx := hx1.rule
  have co := rlopen_any w1 B R nmLog hr1 hB1 hnz (by rw [heq]; exact hone)
  have HEQ := Lib.hid heq
  clear heq hone
  obtain ⟨E, hE⟩ : ∃ E, E = openE r.p nmLog := ⟨_, rfl⟩
  rw [← hE] at hcase
  have HEE := Lib.hid hE
  clear hE
  rcases hcase with ⟨hne, rfl⟩ | ⟨h0, P, rfl, hdl, hPn, hPl, hPs, hPf⟩
  · have t0 : (E == 0) = false := by simpa using hne
    go_wp2_with fail
    refine co.mono ?_
    clear co
    rintro e w2 ⟨R', hRp, hs2, hcase2⟩
    rw [HEQ.out] at hRp hcase2
    rw [← HEE.out] at hcase2
    rcases hcase2 with ⟨-, rfl⟩ | ⟨h0, -⟩
    · clear cx
      go_wp2_with fail
      go_ret
      exact ⟨by first | rfl | simp, w1, w2, r', R', hs1, hs2, hrp, hRp, .inl ⟨by rw [← HEE.out]; exact hne, rfl⟩⟩
    · exact absurd h0 hne
  · subst h0
    have hPf' : ∀ y, lfoot P y → y ≠ x := fun y hy => by have := hPf y hy; omega
    go_wp2_with fail
    refine co.mono ?_
    clear co
    rintro e w2 ⟨R', hRp, hs2, hcase2⟩
    rw [HEQ.out] at hRp hcase2
    rw [← HEE.out] at hcase2
    have hx2 : Blk w2 x _ _ := (hs2.turn.block x hx1.lt ho').trans hx1
    rcases hcase2 with ⟨hne, -⟩ | ⟨-, Q, rfl, hql, hQn, hQl, hQs, hQf⟩
    · exact absurd rfl hne
    · clear cx
      have cx := hx2.rule
      have fx := hx2.free
      have hx3 := hx2.set 1 (.pointer (some ⟨P.l, 0, none⟩))
      have cx3 := hx3.rule
      have fx3 := hx3.free
      go_wp2_with fail
      go_ret
      exact ⟨by first | rfl | simp, w1, w2, r', R', hs1, hs2, hrp, hRp, .inr ⟨HEE.out.symm, P, Q, hdl, hPn, hPl, hPs, hPf, hql, hQn, hQl, hQs, hQf, rfl⟩⟩
/-- Both are opened anew. -/
theorem open_both {w w' : World} {B x : Nat} {r : DiskR} {R : RefR} (hd : DiskAt w B r) (hr : RefAt w B R) (hap : ∀ y, foot r y → rfoot R y → False) {lv mv : Value} (hx : Blk w x #[.pointer (some ⟨r.d, 0, none⟩), lv, .pointer (some ⟨R.d, 0, none⟩), mv] 58)
    (ho : ¬ foot r x) (ho' : ¬ rfoot R x) (hone : OneN r.p nmLog) (hB : B ≤ w.heap.size) (hge : B ≤ x) (hE : openE r.p nmLog = 0) (h : OpenRes2 B x w r R w') : ∃ r' R' P Q, BothAt w' B x r' R' P Q ∧ Below B w w' := by
  obtain ⟨w1, w2, r', R', hs1, hs2, hrp, hRp, hcase⟩ := h
  rcases hcase with ⟨hne, -⟩ | ⟨-, P, Q, hdl, hPn, hPl, hPs, hPf, hql, hQn, hQl, hQs, hQf, rfl⟩
  · exact absurd hE hne
  have hxl := hx.lt
  have z1 := hs1.turn.size
  have z2 := hs2.turn.size
  have hx1 : Blk w1 x _ _ := (hs1.turn.block x hx.lt ho).trans hx
  have hx2 : Blk w2 x _ _ := (hs2.turn.block x hx1.lt ho').trans hx1
  have g1 : ∀ y, foot r' y → foot r y ∨ w.heap.size ≤ y := hs1.foot'
  have g2 : ∀ y, rfoot R' y → rfoot R y ∨ w1.heap.size ≤ y := hs2.foot'
  have hr1 : RefAt w1 B R := hr.turn hs1.turn fun y hy hf => hap y hf hy
  -- the feet of the program's new log and disk, and what the document's call turns
  have n1 : ∀ y, foot r' y ∨ lfoot P y → y < w1.heap.size := fun y hy => (hdl.lt hy).2
  have a12 : ∀ y, (foot r' y ∨ lfoot P y) → rfoot R y → False := fun y hy hq => by
    have hql' := (hr.lt hq).2
    rcases hy with hy | hy
    · rcases g1 y hy with g | g
      · exact hap y g hq
      · omega
    · have := hPf y hy; omega
  have e3 : ∀ y, y ≠ x → ((w2.setCell ⟨x, 1, none⟩ (.pointer (some ⟨P.l, 0, none⟩))).setCell ⟨x, 3, none⟩ (.pointer (some ⟨Q.l, 0, none⟩))).heap[y]? = w2.heap[y]? := fun y hy => (heap_setCell_other (w2.setCell ⟨x, 1, none⟩ (.pointer (some ⟨P.l, 0, none⟩))) ⟨x, 3, none⟩ y _ hy).trans (heap_setCell_other w2 ⟨x, 1, none⟩ y _ hy)
  have ofx : ∀ y, foot r' y ∨ lfoot P y → y ≠ x := fun y hy e => by
    subst e
    rcases hy with hy | hy
    · rcases g1 y hy with g | g
      · exact ho g
      · omega
    · have := hPf y hy; omega
  have ofx' : ∀ y, rfoot R' y ∨ qfoot Q y → y ≠ x := fun y hy e => by
    subst e
    rcases hy with hy | hy
    · rcases g2 y hy with g | g
      · exact ho' g
      · omega
    · have := hQf y hy; omega
  refine ⟨r', R', P, Q, ⟨hge, ?_, (hdl.keep fun y hy => hs2.turn.block y (n1 y hy) fun hq => a12 y hy hq).keep fun y hy => e3 y (ofx y hy), hql.keep fun y hy => e3 y (ofx' y hy), fun y hy hq => ?_, fun hy => ofx x hy rfl, fun hy => ofx' x hy rfl, by rw [hRp, hrp], by rw [hQl, hPl], by rw [hQs, hPs, hQl, hPl], hPn, hQn, by rw [hrp]; exact open_oneN hone⟩, ?_⟩
  · have := (hx2.set 1 (.pointer (some ⟨P.l, 0, none⟩))).set 3 (.pointer (some ⟨Q.l, 0, none⟩))
    rw [← hs1.d, ← hs2.d] at this
    exact this
  · have l1 := n1 y hy
    rcases hq with hq | hq
    · rcases g2 y hq with g | g
      · exact a12 y hy g
      · omega
    · have := hQf y hq; omega
  · exact (((hs1.below hd hB).trans (hs2.below hr1 (Nat.le_trans hB z1))).setCell hge _).setCell hge _
/-- Both are opened again: if that fails, the logs stay. -/
theorem BothAt.open2 {w w' : World} {B x : Nat} {r : DiskR} {R : RefR} {P Q : LogR} (h : BothAt w B x r R P Q) (hB : B ≤ w.heap.size) (ho : OpenRes2 B x w r R w') : ∃ r' R' P' Q', BothAt w' B x r' R' P' Q' ∧ Below B w w' := by
  by_cases hE : openE r.p nmLog = 0
  · exact open_both h.dl.disk h.rdl.disk (fun y h1 h2 => h.apart y (.inl h1) (.inl h2)) h.blk (fun hf => h.off (.inl hf)) (fun hf => h.off' (.inl hf)) h.one hB h.ge hE ho
  · obtain ⟨w1, w2, r', R', hs1, hs2, hrp, hRp, hcase⟩ := ho
    rcases hcase with ⟨-, rfl⟩ | ⟨h0, -⟩
    · have l1 := hs1.log h.dl
      have hm := h.mid l1.turn
      have l2 := hs2.log hm.1
      exact ⟨r', R', P, Q, h.lstep l1 l2 (by rw [hRp, hrp]) h.ls h.sure (by rw [hrp]; exact open_oneN h.one), h.below hB l1.turn l2.turn⟩
    · exact absurd h0 hE
end Go.Proofs.Ytnojeiklgjhkgaa
