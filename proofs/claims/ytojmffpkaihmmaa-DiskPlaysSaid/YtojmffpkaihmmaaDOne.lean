/- One act, asked of the program's disk and of the document's. -/
import Derived.Test.YtojmffpkaihmmaaDCopy
import Derived.Test.YtojmffpkaihmmaaCameActs
namespace Go.Proofs.Ytojmffpkaihmmaa
open Go.RowKit Go.Maps
set_option linter.unusedVariables false
set_option linter.unusedSimpArgs false

/-- Both disks stand side by side, and hold the same. -/
structure Both (w : World) (B : Nat) (r : DiskR) (R : RefR) : Prop where
  at' : DiskAt w B r
  rat : RefAt w B R
  like : Like R.p r.p
  sorted : SortedN R.names
  apart : ∀ x, foot r x → rfoot R x → False
  pl : R.plan.length * 24 ≤ 140737488355328
theorem foot_at {w w1 : World} {B : Nat} {r : DiskR} {R : RefR} (h : RefAt w B R) (ht : Turn (foot r) w w1) (ha : ∀ x, foot r x → rfoot R x → False) : RefAt w1 B R :=
  h.keep fun x hx => ht.block x (h.lt hx).2 fun hf => ha x hf hx
theorem Both.old {w w1 : World} {B : Nat} {r : DiskR} {R : RefR} (h : Both w B r R) (hb : Below w.heap.size w w1) : Both w1 B r R := ⟨h.at'.old hb, h.rat.old hb, h.like, h.sorted, h.apart, h.pl⟩
theorem Both.step {w w1 w2 : World} {B : Nat} {r r' : DiskR} {R R' : RefR} (h : Both w B r R) {p : DiskP} (h1 : DStep B w r w1 r') (hr' : r'.p = p) (h2 : RStep B w1 R w2 R') (hR' : Like R'.p p) (hs : SortedN R'.names) (hp : p.plan.length * 24 ≤ 140737488355328) : Both w2 B r' R' := by
  have hz1 := h1.turn.size
  refine ⟨h1.at'.turn h2.turn fun x hx hx2 => ?_, h2.at', by rw [hr']; exact hR', hs, fun x hx hx2 => ?_, ?_⟩
  · rcases h1.foot' x hx with h3 | h3
    · exact h.apart x h3 hx2
    · have := (h.rat.lt hx2).2; omega
  · rcases h2.foot' x hx2 with h4 | h4
    · rcases h1.foot' x hx with h3 | h3
      · exact h.apart x h3 h4
      · have := (h.rat.lt h4).2; omega
    · have := (h1.at'.lt hx).2; omega
  · have e : R'.p.plan = p.plan := hR'.rest.2.2.2
    have e2 : R'.p.plan = R'.plan := rfl
    rw [← e2, e]; exact hp
section
theorem goes_plan (p : DiskP) : (goesP p).1.plan = p.plan := by
  unfold goesP crashP
  split
  · rfl
  · split <;> rfl
theorem may_plan (p : DiskP) (nm : Name) (g : FileP → DiskP × Int) (hg : ∀ f, (g f).1.plan = p.plan) : (mayP p nm g).1.plan = p.plan := by
  unfold mayP
  split
  · rfl
  · split
    · rfl
    · exact hg _
theorem append_plan (p : DiskP) (nm : Name) (b : List UInt8) : (appendP p nm b).1.plan = p.plan := may_plan p nm _ fun f => by
  split
  · rfl
  · rw [goes_plan]; rfl
theorem sync_plan (p : DiskP) (nm : Name) : (syncP p nm).1.plan = p.plan := may_plan p nm _ fun f => by
  split
  · exact goes_plan p
  · exact goes_plan p
theorem cut_plan (p : DiskP) (nm : Name) (n : Int) : (cutP p nm n).1.plan = p.plan := may_plan p nm _ fun f => by
  split <;> rfl
theorem remove_plan (p : DiskP) (nm : Name) : (removeP p nm).1.plan = p.plan := may_plan p nm _ fun f => rfl
theorem rename_plan (p : DiskP) (nm nw : Name) : (renameP p nm nw).1.plan = p.plan := may_plan p nm _ fun f => by
  split <;> rfl
theorem make_plan (p : DiskP) (nm : Name) : (makeP p nm).1.plan = p.plan := by
  unfold makeP
  repeat' split
  all_goals rfl
theorem crashAll_plan (p : DiskP) (plan : PlanP) : (crashAll p plan).1.plan = p.plan := by
  unfold crashAll crashP
  split <;> rfl
theorem open_plan (p : DiskP) : (openP p).1.plan = p.plan := by
  unfold openP
  split <;> rfl
theorem arm_plan (p : DiskP) (n : Int) (plan : PlanP) : (armP p n plan).1.plan = p.plan ∨ (armP p n plan).1.plan = plan := by
  unfold armP
  repeat' split
  · exact .inl rfl
  · exact .inl rfl
  · exact .inr rfl
end
/-- Two rows of the same names. -/
def NamesRel (w : World) (n : Nat) (f : Nat) (i : Value) (w' : World) : Prop := ∃ k : Nat, k + f = n ∧ i = .int .i64 (k : Int) ∧ Below w.heap.size w w'
set_option maxHeartbeats 1000000 in
theorem same_names (w : World) (l : List Name) (a1 a2 : Option Addr) (n c1 c2 : Nat) (h1 : RowAt w a1 (l.map strV)) (h2 : RowAt w a2 (l.map strV)) (hl : l.length = n) (hn : n ≤ 1000) :
    Calls Try.prog 53 #[.slice a1 n c1, .slice a2 n c2] w fun e w' => e = .returned (.bool true) ∧ Below w.heap.size w w' := by
  have HL := Lib.hid hl
  clear hl
  go_enter Try.func53, Try.ntmps53
  go_wp2_with fail
  go_loopg [13] n (NamesRel w n)
  case atStart => exact ⟨0, by omega, rfl, Below.refl _ _⟩
  case round =>
    obtain ⟨k, hk, rfl, hb⟩ := hrel
    by_cases hlt : k < n
    · have hkl : k < l.length := by rw [HL.out]; exact hlt
      obtain ⟨b1, o1, rfl, hc1⟩ := h1 k (by simpa using hkl)
      obtain ⟨b2, o2, rfl, hc2⟩ := h2 k (by simpa using hkl)
      have hl1 := World.block_lt_of_cell? w _ hc1
      have hl2 := World.block_lt_of_cell? w _ hc2
      rw [List.getElem_map] at hc1 hc2
      have HT := Lib.hid (show ∃ x, l[k] = x from ⟨_, rfl⟩)
      obtain ⟨x, hx⟩ := HT.out
      clear HT
      rw [hx] at hc1 hc2
      unfold strV at hc1 hc2
      have hd1 : ∀ W, Old wr.drew W → W.cell? ⟨b1, o1 + k, none⟩ = some (.string x) := fun W hW => by rw [(below_step (below_step hb (Below.refl _ _).drew) hW).cell hl1]; exact hc1
      have hd2 : ∀ W, Old wr.drew W → W.cell? ⟨b2, o2 + k, none⟩ = some (.string x) := fun W hW => by rw [(below_step (below_step hb (Below.refl _ _).drew) hW).cell hl2]; exact hc2
      clear hc1 hc2
      go_wp2_with fail
      refine wp_region_old (0 :: 1 :: 2 :: 3 :: 4 :: 5 :: 6 :: 7 :: 8 :: []) (by kernel_rfl) (by kernel_rfl) (fun c a d v w h => by cases d <;> exact h) ?_
      repeat (first | (refine lex_skip rfl (by rfl) ?_; simp only [Act.put, List.setIfInBounds_toArray, List.set]) | (refine lex_quiet (v := ?_) rfl rfl (by rfl) ?_ ?_; rotate_left; (intro W hW; go_simp); (try with_reducible rfl); simp only [Act.put, List.setIfInBounds_toArray, List.set]))
      refine lex_nil ?_
      go_wp2_with fail
      go_roundg (gk - 1)
      case measure => omega
      case rel => exact ⟨k + 1, by omega, by go_num, below_step hb (Below.refl _ _).drew⟩
    · have hkn : k = n := by omega
      go_wp2_with fail
      go_ret
      exact ⟨rfl, hb⟩

def OneRes (B : Nat) (d D : Nat) (w w' : World) : Prop := ∃ r R, Both w' B r R ∧ r.d = d ∧ R.d = D ∧ Below B w w'
theorem Both.done {w w1 w2 : World} {B : Nat} {r r' : DiskR} {R R' : RefR} (h : Both w B r R) (hB : B ≤ w.heap.size) {p : DiskP} (h1 : DStep B w r w1 r') (hr' : r'.p = p) (h2 : RStep B w1 R w2 R') (hR' : Like R'.p p) (hs : SortedN R'.names) (hp : p.plan.length * 24 ≤ 140737488355328) : OneRes B r.d R.d w w2 := by
  have hb1 := h1.below h.at' hB
  have h2' := h2.below (foot_at h.rat h1.turn h.apart) (Nat.le_trans hB h1.turn.size)
  exact ⟨r', R', h.step h1 hr' h2 hR' hs hp, h1.d, h2.d, hb1.trans h2'⟩
structure ActAt (w0 w : World) (X : Nat) (x : ActA) (r : DiskR) (R : RefR) : Prop where
  below : Below w0.heap.size w0 w
  both : Both w w0.heap.size r R
  blk : Blk w X (actCells x).toArray 44
  off : ¬ foot r X
set_option maxRecDepth 20000 in
set_option maxHeartbeats 4000000 in
theorem one_any (w0 w : World) (r : DiskR) (R : RefR) (x : ActA) (hb0 : Below w0.heap.size w0 w) (h : Both w w0.heap.size r R) (hx : ActOk w0 x) :
    Calls Try.prog 22 #[.pointer (some ⟨r.d, 0, none⟩), .pointer (some ⟨R.d, 0, none⟩), .agg (actCells x).toArray] w fun e w' => e = .returned (.bool true) ∧ OneRes w0.heap.size r.d R.d w w' ∧ (x.kind = 3 ∨ x.kind = 4 → Below w.heap.size w w') := by
  have hxb := hx.b
  have hxp := hx.plan
  have hxl := hx.pl
  have hxn := hx.n
  have hzn : x.nm.size ≤ maxLen := by have := hx.nm; unfold maxLen; omega
  have hbl : x.b.length ≤ maxLen := by have := hx.bl; unfold maxLen; omega
  have hpb : ∀ ad, x.pa = some ad → x.plan ≠ [] → ad.block < w0.heap.size := by
    intro ad ha hne
    obtain ⟨b, o, e, hc⟩ := hxp 0 (by rw [piecesLen]; have := List.length_pos_iff.2 hne; omega)
    rw [ha] at e
    cases e
    exact World.block_lt_of_cell? w0 _ hc
  have hpm : x.plan.length ≤ maxLen := by unfold maxLen; omega
  go_enter Try.func22, Try.ntmps22
  go_upto_region 1 with fail
  obtain ⟨X, hX⟩ : ∃ X, X = w.heap.size := ⟨_, rfl⟩
  rw [← hX]
  refine wp_forget (fun W => ActAt w0 W X x r R ∧ Below w.heap.size w W) ⟨⟨hb0.alloc hb0.size _, h.old ((Below.refl _ _).alloc (Nat.le_refl _) _), by rw [hX]; exact Blk.new _ _ _, fun hf => by have := (h.at'.lt hf).2; omega⟩, (Below.refl _ _).alloc (Nat.le_refl _) _⟩ ?_
  clear hX
  rintro wc ⟨hA, hbc⟩
  have HL := Lib.hid hbc
  have cX := hA.blk.rule
  unfold actCells at cX
  have hBc : w0.heap.size ≤ wc.heap.size := hA.below.size
  have hxbc : BytesAt wc x.ba x.b := hxb.below hA.below
  have hxpc : RowAt wc x.pa (x.plan.flatMap pieceV) := hxp.below hA.below
  have hat := hA.both.at'
  have hrat := hA.both.rat
  have hlk := hA.both.like
  have hso := hA.both.sorted
  have hpl := hA.both.pl
  have fin : ∀ w', OneRes w0.heap.size r.d R.d wc w' → OneRes w0.heap.size r.d R.d w w' := fun w' ⟨r', R', h1, h2, h3, h4⟩ => ⟨r', R', h1, h2, h3, (hbc.mono hb0.size).trans h4⟩
  have second : ∀ {w1 : World} {r' : DiskR}, DStep w0.heap.size wc r w1 r' → RefAt w1 w0.heap.size R ∧ (∀ i, w1.cell? ⟨X, i, none⟩ = (actCells x).toArray[i]?) ∧ w0.heap.size ≤ w1.heap.size ∧ Below w0.heap.size w0 w1 := fun {w1 r'} hs => by
    have hb1 := hA.below.trans (hs.below hat hBc)
    refine ⟨foot_at hrat hs.turn hA.both.apart, (show Blk w1 X (actCells x).toArray 44 from (hs.turn.block X hA.blk.lt hA.off).trans hA.blk).rule, hb1.size, hb1⟩

  by_cases k0 : x.kind = 0
  · skip
    have hl := hlk.make hrat.ok x.nm
    have ca := make_any wc _ r x.nm hat hBc hzn
    obtain ⟨v, hv⟩ : ∃ v, v = (makeP r.p x.nm).2 := ⟨_, rfl⟩
    rw [← hv] at ca
    rw [← hv] at hl
    go_wp2_with fail
    refine ca.mono ?_
    rintro e w1 ⟨rfl, r', hr', hs1⟩
    obtain ⟨hrat1, cX1, hB1, hb1⟩ := second hs1
    unfold actCells at cX1
    have cb := rmake_any w1 _ R x.nm hrat1 hB1
    rw [hl.1] at cb
    clear cX
    go_wp2_with fail
    refine cb.mono ?_
    rintro e w2 ⟨rfl, R', hlR, hs2, hsR⟩
    go_wp2_with fail
    go_ret
    exact ⟨by first | rfl | simp, fin _ (hA.both.done hBc hs1 hr' hs2 (hlR.trans hl.2) (hsR hso) (by rw [make_plan]; have e : r.plan = R.plan := hlk.rest.2.2.2.symm; show r.plan.length * 24 ≤ _; rw [e]; exact hpl)), fun hk => by omega⟩
  by_cases k1 : x.kind = 1
  · skip
    have hl := hlk.append hrat.ok x.nm x.b
    have ca := append_any wc _ r x.nm hat hBc hzn x.ba x.b.length x.bc x.b hxbc rfl hbl
    obtain ⟨v, hv⟩ : ∃ v, v = (appendP r.p x.nm x.b).2 := ⟨_, rfl⟩
    rw [← hv] at ca
    rw [← hv] at hl
    go_wp2_with fail
    refine ca.mono ?_
    rintro e w1 ⟨rfl, r', hr', hs1⟩
    obtain ⟨hrat1, cX1, hB1, hb1⟩ := second hs1
    unfold actCells at cX1
    have cb := rappend_any w1 _ R x.nm hrat1 hB1 x.ba x.b.length x.bc x.b (hxb.below hb1) rfl hbl
    rw [hl.1] at cb
    clear cX
    go_wp2_with fail
    refine cb.mono ?_
    rintro e w2 ⟨rfl, R', hR2, hs2⟩
    go_wp2_with fail
    go_ret
    exact ⟨by first | rfl | simp, fin _ (hA.both.done hBc hs1 hr' hs2 (by rw [hR2]; exact hl.2) (names_of (by rw [hR2]; exact append_names R.p x.nm x.b) hso) (by rw [append_plan]; have e : r.plan = R.plan := hlk.rest.2.2.2.symm; show r.plan.length * 24 ≤ _; rw [e]; exact hpl)), fun hk => by omega⟩
  by_cases k2 : x.kind = 2
  · skip
    have hl := hlk.sync hrat.ok x.nm
    have ca := sync_any wc _ r x.nm hat hBc hzn
    obtain ⟨v, hv⟩ : ∃ v, v = (syncP r.p x.nm).2 := ⟨_, rfl⟩
    rw [← hv] at ca
    rw [← hv] at hl
    go_wp2_with fail
    refine ca.mono ?_
    rintro e w1 ⟨rfl, r', hr', hs1⟩
    obtain ⟨hrat1, cX1, hB1, hb1⟩ := second hs1
    unfold actCells at cX1
    have cb := rsync_any w1 _ R x.nm hrat1 hB1
    rw [hl.1] at cb
    clear cX
    go_wp2_with fail
    refine cb.mono ?_
    rintro e w2 ⟨rfl, R', hR2, hs2⟩
    go_wp2_with fail
    go_ret
    exact ⟨by first | rfl | simp, fin _ (hA.both.done hBc hs1 hr' hs2 (by rw [hR2]; exact hl.2) (names_of (by rw [hR2]; exact sync_names R.p x.nm) hso) (by rw [sync_plan]; have e : r.plan = R.plan := hlk.rest.2.2.2.symm; show r.plan.length * 24 ≤ _; rw [e]; exact hpl)), fun hk => by omega⟩
  by_cases k5 : x.kind = 5
  · skip
    have hl := hlk.cut hrat.ok x.nm x.n
    have ca := cut_any wc _ r x.nm x.n hat hzn
    obtain ⟨v, hv⟩ : ∃ v, v = (cutP r.p x.nm x.n).2 := ⟨_, rfl⟩
    rw [← hv] at ca
    rw [← hv] at hl
    go_wp2_with fail
    refine ca.mono ?_
    rintro e w1 ⟨rfl, r', hr', hs1⟩
    obtain ⟨hrat1, cX1, hB1, hb1⟩ := second hs1
    unfold actCells at cX1
    have cb := rcut_any w1 _ R x.nm x.n hrat1 hB1
    rw [hl.1] at cb
    clear cX
    go_wp2_with fail
    refine cb.mono ?_
    rintro e w2 ⟨rfl, R', hR2, hs2⟩
    go_wp2_with fail
    go_ret
    exact ⟨by first | rfl | simp, fin _ (hA.both.done hBc hs1 hr' hs2 (by rw [hR2]; exact hl.2) (names_of (by rw [hR2]; exact cut_names R.p x.nm x.n) hso) (by rw [cut_plan]; have e : r.plan = R.plan := hlk.rest.2.2.2.symm; show r.plan.length * 24 ≤ _; rw [e]; exact hpl)), fun hk => by omega⟩
  by_cases k6 : x.kind = 6
  · skip
    have hl := hlk.remove hrat.ok x.nm
    have ca := remove_any wc _ r x.nm hat hzn
    obtain ⟨v, hv⟩ : ∃ v, v = (removeP r.p x.nm).2 := ⟨_, rfl⟩
    rw [← hv] at ca
    rw [← hv] at hl
    go_wp2_with fail
    refine ca.mono ?_
    rintro e w1 ⟨rfl, r', hr', hs1⟩
    obtain ⟨hrat1, cX1, hB1, hb1⟩ := second hs1
    unfold actCells at cX1
    have cb := rremove_any w1 _ R x.nm hrat1 hB1
    rw [hl.1] at cb
    clear cX
    go_wp2_with fail
    refine cb.mono ?_
    rintro e w2 ⟨rfl, R', hlR, hs2, hsR⟩
    go_wp2_with fail
    go_ret
    exact ⟨by first | rfl | simp, fin _ (hA.both.done hBc hs1 hr' hs2 (hlR.trans hl.2) (hsR hso) (by rw [remove_plan]; have e : r.plan = R.plan := hlk.rest.2.2.2.symm; show r.plan.length * 24 ≤ _; rw [e]; exact hpl)), fun hk => by omega⟩
  by_cases k7 : x.kind = 7
  · skip
    have hl := hlk.rename hrat.ok x.nm x.tn
    have ca := rename_any wc _ r x.nm x.tn hat hzn
    obtain ⟨v, hv⟩ : ∃ v, v = (renameP r.p x.nm x.tn).2 := ⟨_, rfl⟩
    rw [← hv] at ca
    rw [← hv] at hl
    go_wp2_with fail
    refine ca.mono ?_
    rintro e w1 ⟨rfl, r', hr', hs1⟩
    obtain ⟨hrat1, cX1, hB1, hb1⟩ := second hs1
    unfold actCells at cX1
    have cb := rrename_any w1 _ R x.nm x.tn hrat1 hB1
    rw [hl.1] at cb
    clear cX
    go_wp2_with fail
    refine cb.mono ?_
    rintro e w2 ⟨rfl, R', hlR, hs2, hsR⟩
    go_wp2_with fail
    go_ret
    exact ⟨by first | rfl | simp, fin _ (hA.both.done hBc hs1 hr' hs2 (hlR.trans hl.2) (hsR hso) (by rw [rename_plan]; have e : r.plan = R.plan := hlk.rest.2.2.2.symm; show r.plan.length * 24 ≤ _; rw [e]; exact hpl)), fun hk => by omega⟩
  by_cases k9 : x.kind = 9
  · skip
    have hl := hlk.crashAll x.plan
    have ca := crash_any wc _ r x.pa _ x.pc x.plan hat hBc hxpc rfl hpm (fun ad ha hne f hf e => by have := hpb ad ha hne; have := (hat.files f hf).ge; omega) (fun ad ha hne => Nat.lt_of_lt_of_le (hpb ad ha hne) hBc)
    obtain ⟨v, hv⟩ : ∃ v, v = (crashAll r.p x.plan).2 := ⟨_, rfl⟩
    rw [← hv] at ca
    rw [← hv] at hl
    go_wp2_with fail
    refine ca.mono ?_
    rintro e w1 ⟨r', rfl, hr', hs1⟩
    obtain ⟨hrat1, cX1, hB1, hb1⟩ := second hs1
    unfold actCells at cX1
    have cb := rcrash_any w1 _ R x.pa _ x.pc x.plan hrat1 hB1 (hxp.below hb1) rfl hpm (fun hne ad ha ad' ha' e => by have := hpb ad ha hne; have := (hrat1.lt (.inr (.inl ⟨ad', ha', rfl⟩))).1; omega)
    rw [hl.1] at cb
    clear cX
    go_wp2_with fail
    refine cb.mono ?_
    rintro e w2 ⟨R', rfl, hR2, hs2⟩
    go_wp2_with fail
    go_ret
    exact ⟨by first | rfl | simp, fin _ (hA.both.done hBc hs1 hr' hs2 (by rw [hR2]; exact hl.2) (names_of (by rw [hR2]; exact crash_names R.p x.plan) hso) (by rw [crashAll_plan]; have e : r.plan = R.plan := hlk.rest.2.2.2.symm; show r.plan.length * 24 ≤ _; rw [e]; exact hpl)), fun hk => by omega⟩
  by_cases k10 : x.kind = 10
  · skip
    have hl := hlk.open'
    have ca := open_any wc _ r hat
    obtain ⟨v, hv⟩ : ∃ v, v = (openP r.p).2 := ⟨_, rfl⟩
    rw [← hv] at ca
    rw [← hv] at hl
    go_wp2_with fail
    refine ca.mono ?_
    rintro e w1 ⟨rfl, r', hr', hs1⟩
    obtain ⟨hrat1, cX1, hB1, hb1⟩ := second hs1
    unfold actCells at cX1
    have cb := ropen_any w1 _ R hrat1
    rw [hl.1] at cb
    clear cX
    go_wp2_with fail
    refine cb.mono ?_
    rintro e w2 ⟨rfl, R', hR2, hs2⟩
    go_wp2_with fail
    go_ret
    exact ⟨by first | rfl | simp, fin _ (hA.both.done hBc hs1 hr' hs2 (by rw [hR2]; exact hl.2) (names_of (by rw [hR2]; exact open_names R.p) hso) (by rw [open_plan]; have e : r.plan = R.plan := hlk.rest.2.2.2.symm; show r.plan.length * 24 ≤ _; rw [e]; exact hpl)), fun hk => by omega⟩
  by_cases k11 : x.kind = 11
  · skip
    have hl := hlk.arm x.n x.plan
    have ca := arm_any wc _ r x.n x.pa _ x.pc x.plan hat hBc hxn.2 hxpc rfl hxl
    obtain ⟨v, hv⟩ : ∃ v, v = (armP r.p x.n x.plan).2 := ⟨_, rfl⟩
    rw [← hv] at ca
    rw [← hv] at hl
    go_wp2_with fail
    refine ca.mono ?_
    rintro e w1 ⟨rfl, r', hr', hs1⟩
    obtain ⟨hrat1, cX1, hB1, hb1⟩ := second hs1
    unfold actCells at cX1
    have cb := rarm_any w1 _ R x.n x.pa _ x.pc x.plan hrat1 hB1 hxn.2 (hxp.below hb1) rfl hxl (fun hne ad ha e => by have := hpb ad ha hne; have := hrat1.ged; omega)
    rw [hl.1] at cb
    clear cX
    go_wp2_with fail
    refine cb.mono ?_
    rintro e w2 ⟨rfl, R', hR2, hs2⟩
    go_wp2_with fail
    go_ret
    exact ⟨by first | rfl | simp, fin _ (hA.both.done hBc hs1 hr' hs2 (by rw [hR2]; exact hl.2) (names_of (by rw [hR2]; exact arm_names R.p x.n x.plan) hso) (by have e : r.plan = R.plan := hlk.rest.2.2.2.symm; rcases arm_plan r.p x.n x.plan with e2 | e2 <;> rw [e2]; (show r.plan.length * 24 ≤ _; rw [e]; exact hpl); exact hxl)), fun hk => by omega⟩
  by_cases k3 : x.kind = 3
  · have ca := read_any wc _ r x.nm hat hzn
    have hl := hlk.read hrat.ok x.nm
    obtain ⟨v, hv⟩ : ∃ v, v = readP r.p x.nm := ⟨_, rfl⟩
    rw [← hv] at ca hl
    go_wp2_with fail
    refine ca.mono ?_
    rintro e w1 ⟨ra, rn, rc, rfl, hrn, hown, hb5⟩
    obtain ⟨hrat1, cX1, hB1, hb1⟩ := second (DStep.quiet hat hb5)
    unfold actCells at cX1
    have cb := rread_any w1 _ R x.nm hrat1
    rw [hl] at cb
    have HN := Lib.hid hrn
    clear cX hrn
    go_wp2_with fail
    refine cb.mono ?_
    rintro e w2 ⟨ra2, rn2, rc2, rfl, hrn2, hown2, hb6⟩
    have hrd : BytesAt w2 ra v.1 := (hown.old hb6).row
    have hrb : BytesAt w2 ra2 v.1 := hown2.row
    have hst1 : (convert 24 9 (.slice ra rn rc)).run Try.prog w2 = .ok (.string (strOf v.1)) w2 := run_string_of (P := Try.prog) w2 (c := rc) Try.underlying24 Try.underlying5 Try.underlying9 hrd HN.out
    have hst2 : (convert 24 9 (.slice ra2 rn2 rc2)).run Try.prog w2 = .ok (.string (strOf v.1)) w2 := run_string_of (P := Try.prog) w2 (c := rc2) Try.underlying24 Try.underlying5 Try.underlying9 hrb hrn2
    have hb2 := below_step (below_step (Below.refl _ wc) hb5) hb6
    clear hrd hrb hown hown2 hrn2
    go_wp2_with fail
    go_ret
    exact ⟨by first | rfl | simp, fin _ ⟨r, R, hA.both.old hb2, rfl, rfl, hb2.mono hBc⟩, fun _ => below_step HL.out hb2⟩
  by_cases k4 : x.kind = 4
  · have ca := sure_any wc _ r x.nm hat hzn
    have hl := hlk.sure hrat.ok x.nm
    obtain ⟨v, hv⟩ : ∃ v, v = sureP r.p x.nm := ⟨_, rfl⟩
    rw [← hv] at ca hl
    go_wp2_with fail
    refine ca.mono ?_
    rintro e w1 ⟨rfl, hb5⟩
    obtain ⟨hrat1, cX1, hB1, hb1⟩ := second (DStep.quiet hat hb5)
    unfold actCells at cX1
    have cb := rsure_any w1 _ R x.nm hrat1
    rw [hl] at cb
    clear cX
    go_wp2_with fail
    refine cb.mono ?_
    rintro e w2 ⟨rfl, hw2⟩
    subst w2
    go_wp2_with fail
    go_ret
    exact ⟨by first | rfl | simp, fin _ ⟨r, R, hA.both.old hb5, rfl, rfl, hb5.mono hBc⟩, fun _ => below_step HL.out hb5⟩
  have ca := names_any wc _ r hat
  have hnn := names_eq hlk hso
  rw [hnn] at ca
  go_wp2_with fail
  refine ca.mono ?_
  rintro e w1 ⟨na, nn, nc, rfl, hnl, hown, hb5⟩
  obtain ⟨hrat1, _, hB1, hb1⟩ := second (DStep.quiet hat hb5)
  have HN := Lib.hid hnl
  clear cX hnl
  go_wp2_with fail
  refine (rnames_any w1 _ R hrat1).mono ?_
  rintro e w2 ⟨na2, nn2, nc2, rfl, hnl2, hown2, hb6⟩
  obtain rfl : nn = nn2 := HN.out.symm.trans hnl2
  have hcnt : (namesR R).length ≤ 64 := by
    have h1 := hrat.ok.count
    unfold namesR
    split
    · simp
    · simpa [RefR.p, RefR.names] using h1
  have hb2 := below_step (below_step (Below.refl _ wc) hb5) hb6
  have cc := same_names w2 (namesR R) na na2 nn nc nc2 (hown.old hb6).row hown2.row hnl2 (by rw [← hnl2]; omega)
  clear hnl2 hown hown2
  go_wp2_with fail
  refine cc.mono ?_
  rintro e w3 ⟨rfl, hb7⟩
  have hb3 := below_step hb2 hb7
  go_wp2_with fail
  go_ret
  exact ⟨rfl, fin _ ⟨r, R, hA.both.old hb3, rfl, rfl, hb3.mono hBc⟩, fun _ => below_step HL.out hb3⟩
end Go.Proofs.Ytojmffpkaihmmaa
