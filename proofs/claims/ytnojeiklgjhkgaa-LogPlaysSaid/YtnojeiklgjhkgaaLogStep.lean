/- One act, asked of the program's log and of the document's. -/
import Derived.Test.YtnojeiklgjhkgaaBothLog
import Derived.Test.YtnojeiklgjhkgaaLogEach
import Derived.Test.YtnojeiklgjhkgaaCameLog
namespace Go.Proofs.Ytnojeiklgjhkgaa
open Go.RowKit Go.Maps
set_option linter.unusedVariables false
set_option linter.unusedSimpArgs false

theorem lapp_same {p q : DiskP} {P Q : LogR} (l : List UInt8) (hp : q = p) (hl : Q.ls = P.ls) (hn : Q.nm = P.nm) : lappE q Q l = lappE p P l ∧ lappI q Q l = lappI p P l ∧ lappD q Q l = lappD p P l ∧ lappL q Q l = lappL p P l := by
  have e1 : lappE q Q l = lappE p P l := by unfold lappE; rw [hp, hl, hn]
  exact ⟨e1, by unfold lappI; rw [e1, hl], by unfold lappD; rw [hp, hl, hn], by unfold lappL; rw [e1, hl]⟩
theorem lappD_names (p : DiskP) (P : LogR) (l : List UInt8) : namesP' (lappD p P l) = namesP' p := by
  unfold lappD
  split
  · rfl
  · split
    · rfl
    · exact append_names _ _ _
/-- The act's own block beside both. -/
structure StepAt (w0 w : World) (x X : Nat) (y : ActQ) (r : DiskR) (R : RefR) (P Q : LogR) : Prop where
  below : Below w0.heap.size w0 w
  both : BothAt w w0.heap.size x r R P Q
  blk : Blk w X (actQCells y).toArray 61
  off : ¬ (foot r X ∨ lfoot P X)
  off' : ¬ (rfoot R X ∨ qfoot Q X)
theorem StepAt.drew {w0 w : World} {x X : Nat} {y : ActQ} {r : DiskR} {R : RefR} {P Q : LogR} (h : StepAt w0 w x X y r R P Q) : StepAt w0 w.drew x X y r R P Q :=
  ⟨h.below.drew, h.both.keep fun _ _ => rfl, h.blk, h.off, h.off'⟩
def StepRes (B x : Nat) (w w' : World) : Prop := ∃ r' R' P' Q', BothAt w' B x r' R' P' Q' ∧ Below B w w'
set_option maxRecDepth 20000 in
set_option maxHeartbeats 8000000 in
theorem bstep_any (w0 w : World) (x : Nat) (r : DiskR) (R : RefR) (P Q : LogR) (y : ActQ) (hb0 : Below w0.heap.size w0 w) (h : BothAt w w0.heap.size x r R P Q) (hy : ActQOk w0 y) :
    Calls Try.prog 26 #[.pointer (some ⟨x, 0, none⟩), .agg (actQCells y).toArray] w fun e w' => e = .returned (.bool true) ∧ StepRes w0.heap.size x w w' ∧ w.heap.size < w'.heap.size := by
  have hyb := hy.b
  have hyp := hy.plan
  have hyl := hy.pl
  have hyn := hy.n
  have hbl : y.b.length ≤ maxLen := by have := hy.bl; unfold maxLen; omega
  have hpm : y.plan.length ≤ maxLen := by unfold maxLen; omega
  have hpb : ∀ ad, y.pa = some ad → y.plan ≠ [] → ad.block < w0.heap.size := by
    intro ad ha hne
    obtain ⟨b, o, e, hc⟩ := hyp 0 (by rw [piecesLen]; have := List.length_pos_iff.2 hne; omega)
    rw [ha] at e
    cases e
    exact World.block_lt_of_cell? w0 _ hc
  have hbb : ∀ ad, y.ba = some ad → y.b ≠ [] → ad.block < w0.heap.size := by
    intro ad ha hne
    obtain ⟨b, o, e, hc⟩ := hyb 0 (by rw [List.length_map]; exact List.length_pos_iff.2 hne)
    rw [ha] at e
    cases e
    exact World.block_lt_of_cell? w0 _ hc
  have hnz : nmLog.size ≤ maxLen := by unfold maxLen; decide
  go_enter Try.func26, Try.ntmps26
  go_upto_region 1 with (fail)
  obtain ⟨X, hX⟩ : ∃ X, X = w.heap.size := ⟨_, rfl⟩
  rw [← hX]
  have hxX : x ≠ X := by have := h.blk.lt; omega
  refine wp_forget (fun W => StepAt w0 W x X y r R P Q ∧ Below w.heap.size w W ∧ w.heap.size < W.heap.size) ⟨⟨hb0.alloc hb0.size _, h.old ((Below.refl _ _).alloc (Nat.le_refl _) _), by rw [hX]; exact Blk.new _ _ _, fun hf => by have := (h.dl.lt hf).2; omega, fun hf => by have := (h.rdl.lt hf).2; omega⟩, (Below.refl _ _).alloc (Nat.le_refl _) _, by simp⟩ ?_
  clear hX
  rintro wc ⟨hA, hbc, hlt⟩
  have hBw := hb0.size
  have fin : ∀ w', StepRes w0.heap.size x wc w' → StepRes w0.heap.size x w w' ∧ w.heap.size < w'.heap.size := fun w' ⟨r', R', P', Q', h1, h2⟩ => ⟨⟨r', R', P', Q', h1, (hbc.mono hBw).trans h2⟩, Nat.lt_of_lt_of_le hlt h2.size⟩
  have HFIN := Lib.hid fin
  clear fin h hb0 hbc
  have hBc : w0.heap.size ≤ wc.heap.size := hA.below.size
  have cX := hA.blk.rule
  unfold actQCells at cX
  have hbw := hyb.below hA.below
  have hpw := hyp.below hA.below
  have kpA : ∀ {V V' : World}, Turn (fun z => foot r z ∨ lfoot P z) V V' → wc.heap.size ≤ V.heap.size → KeepAt (fun z => z = x ∨ z = X) V V' := fun {V V'} ht hz => ⟨ht.size, fun z hz' => ht.block z (by
    rcases hz' with rfl | rfl
    · have := hA.both.blk.lt; omega
    · have := hA.blk.lt; omega) (by
    rcases hz' with rfl | rfl
    · exact hA.both.off
    · exact hA.off)⟩
  have kpR : ∀ {V V' : World}, Turn (fun z => rfoot R z ∨ qfoot Q z) V V' → wc.heap.size ≤ V.heap.size → KeepAt (fun z => z = x ∨ z = X) V V' := fun {V V'} ht hz => ⟨ht.size, fun z hz' => ht.block z (by
    rcases hz' with rfl | rfl
    · have := hA.both.blk.lt; omega
    · have := hA.blk.lt; omega) (by
    rcases hz' with rfl | rfl
    · exact hA.both.off'
    · exact hA.off')⟩
  by_cases k0 : y.kind = 0
  · have e0 : decide (y.kind = 0) = true := by simpa using k0
    have hna : y.b ≠ [] → ∀ ad, y.ba = some ad → ¬ (foot r ad.block ∨ lfoot P ad.block) := fun hne ad ha hf => by have := (hA.both.dl.lt hf).1; have := hbb ad ha hne; omega
    have hna' : y.b ≠ [] → ∀ ad, y.ba = some ad → ¬ (rfoot R ad.block ∨ qfoot Q ad.block) := fun hne ad ha hf => by have := (hA.both.rdl.lt hf).1; have := hbb ad ha hne; omega
    have same := lapp_same y.b hA.both.eq hA.both.ls (hA.both.nm'.trans hA.both.nm.symm)
    go_upto_region 3 with (fail)
    have hAd := hA.drew
    have L1 := fun V (hV : KeepAt (fun z => z = x ∨ z = X) wc.drew V) => (show Blk V x _ _ from (hV.2 x (.inl rfl)).trans hAd.both.blk).rule
    have L2 := fun V (hV : KeepAt (fun z => z = x ∨ z = X) wc.drew V) => (show Blk V X (actQCells y).toArray 61 from (hV.2 X (.inr rfl)).trans hAd.blk).rule
    unfold actQCells at L2
    have ca := lappend_any wc.drew w0.heap.size r P hAd.both.dl hBc y.ba y.b.length y.bc y.b hbw.drew rfl hna
    unfold LAppRes at ca
    obtain ⟨vi, hvi⟩ : ∃ v, v = lappI r.p P y.b := ⟨_, rfl⟩
    obtain ⟨ve, hve⟩ : ∃ v, v = lappE r.p P y.b := ⟨_, rfl⟩
    rw [← hvi, ← hve] at ca same
    have SAME := Lib.hid same
    clear hvi hve same
    refine wp_region_treeR false (KeepAt (fun z => z = x ∨ z = X)) (KeepAt.refl _) (fun _ _ _ h1 h2 => KeepAt.trans h1 h2) (.step 0 (.step 1 (.step 2 (.step 3 (.step 4 (.step 5 (.step 6 (.step 7 (.step 8 (.step 9 (.step 10 (.step 11 .done)))))))))))) (by kernel_rfl) (by kernel_rfl) (fun c a d v w h => by cases d <;> exact h) ?_
    repeat (first | (refine tree_skip rfl (by rfl) ?_; simp only [Act.put, List.setIfInBounds_toArray, List.set]) | (refine tree_quiet (v := ?_) rfl rfl (by rfl) ?_ ?_; rotate_left; (intro W hW; go_simp); (try with_reducible rfl); simp only [Act.put, List.setIfInBounds_toArray, List.set]))
    refine tree_loud rfl rfl (by rfl) (fun K hK => ?_)
    go_wp2_with fail
    refine ca.mono ?_
    clear ca
    rintro e w1 ⟨rfl, r1, P1, hp1, hl1, hsu1, s1⟩
    have s0 : LStep w0.heap.size wc r P w1 r1 P1 := (LStep.old hA.both.dl (Below.refl wc.heap.size wc).drew).trans s1
    refine hK _ _ (kpA s1.turn (Nat.le_refl _)) ?_
    clear hK K L1 L2
    repeat (first | (refine tree_skip rfl (by rfl) ?_; simp only [Act.put, List.setIfInBounds_toArray, List.set]) | (refine tree_quiet (v := ?_) rfl rfl (by rfl) ?_ ?_; rotate_left; (intro W hW; go_simp); (try with_reducible rfl); simp only [Act.put, List.setIfInBounds_toArray, List.set]))
    refine tree_done ?_
    have hm := hA.both.mid s0.turn
    have hX1 : Blk w1 X (actQCells y).toArray 61 := (s0.turn.block X hA.blk.lt hA.off).trans hA.blk
    have z1 : wc.heap.size ≤ w1.heap.size := s0.turn.size
    have hb1 : BytesAt w1 y.ba y.b := hyb.below (hA.below.trans (s0.below hA.both.dl hBc))
    clear cX
    go_upto_region 4 with (fail)
    have L1 := fun V (hV : KeepAt (fun z => z = x ∨ z = X) w1.drew V) => (show Blk V x _ _ from (hV.2 x (.inl rfl)).trans hm.2).rule
    have L2 := fun V (hV : KeepAt (fun z => z = x ∨ z = X) w1.drew V) => (show Blk V X (actQCells y).toArray 61 from (hV.2 X (.inr rfl)).trans hX1).rule
    unfold actQCells at L2
    have cb := rlappend_any w1.drew w0.heap.size R Q (hm.1.keep fun _ _ => rfl) (Nat.le_trans hBc z1) y.ba y.b.length y.bc y.b hb1.drew rfl hna'
    unfold RLAppRes at cb
    rw [SAME.out.1, SAME.out.2.1, SAME.out.2.2.1, SAME.out.2.2.2] at cb
    refine wp_region_treeR false (KeepAt (fun z => z = x ∨ z = X)) (KeepAt.refl _) (fun _ _ _ h1 h2 => KeepAt.trans h1 h2) (.step 0 (.step 1 (.step 2 (.step 3 (.step 4 (.step 5 (.step 6 (.step 7 (.step 8 (.step 9 (.step 10 (.step 11 .done)))))))))))) (by kernel_rfl) (by kernel_rfl) (fun c a d v w h => by cases d <;> exact h) ?_
    repeat (first | (refine tree_skip rfl (by rfl) ?_; simp only [Act.put, List.setIfInBounds_toArray, List.set]) | (refine tree_quiet (v := ?_) rfl rfl (by rfl) ?_ ?_; rotate_left; (intro W hW; go_simp); (try with_reducible rfl); simp only [Act.put, List.setIfInBounds_toArray, List.set]))
    refine tree_loud rfl rfl (by rfl) (fun K hK => ?_)
    go_wp2_with fail
    refine cb.mono ?_
    clear cb
    rintro e w2 ⟨rfl, R2, Q2, hp2, hl2, hsu2, s2⟩
    have s3 : RLStep w0.heap.size w1 R Q w2 R2 Q2 := (RLStep.old hm.1 (Below.refl w1.heap.size w1).drew).trans s2
    refine hK _ _ (kpR s2.turn z1) ?_
    clear hK K L1 L2
    repeat (first | (refine tree_skip rfl (by rfl) ?_; simp only [Act.put, List.setIfInBounds_toArray, List.set]) | (refine tree_quiet (v := ?_) rfl rfl (by rfl) ?_ ?_; rotate_left; (intro W hW; go_simp); (try with_reducible rfl); simp only [Act.put, List.setIfInBounds_toArray, List.set]))
    refine tree_done ?_
    have HFIN2 := Lib.hid (HFIN.out _ ⟨r1, R2, P1, Q2, hA.both.lstep s0 s3 (by rw [hp2, hp1]) (by rw [hl2, hl1]) (by rw [hsu2, hsu1]; exact hA.both.sure) (by rw [hp1]; exact hA.both.one.of_names (lappD_names _ _ _)), hA.both.below hBc s0.turn s3.turn⟩)
    go_wp2_with fail
    go_ret
    exact ⟨by first | rfl | simp, HFIN2.out⟩
  have d0 : (y.kind == 0) = false := by simpa using k0
  clear k0
  by_cases k1 : y.kind = 1
  · have e1 : decide (y.kind = 1) = true := by simpa using k1
    have hsn : syncP R.p Q.nm = syncP r.p P.nm := by rw [hA.both.eq, hA.both.nm', hA.both.nm]
    have hss : lsyncS R.p Q = lsyncS r.p P := by unfold lsyncS; rw [hsn, hA.both.ls, hA.both.sure]
    go_upto_region 7 with (fail)
    have hAd := hA.drew
    have L1 := fun V (hV : KeepAt (fun z => z = x ∨ z = X) wc.drew V) => (show Blk V x _ _ from (hV.2 x (.inl rfl)).trans hAd.both.blk).rule
    have L2 := fun V (hV : KeepAt (fun z => z = x ∨ z = X) wc.drew V) => (show Blk V X (actQCells y).toArray 61 from (hV.2 X (.inr rfl)).trans hAd.blk).rule
    unfold actQCells at L2
    have ca := lsync_any wc.drew w0.heap.size r P hAd.both.dl hBc
    obtain ⟨ve, hve⟩ : ∃ v, v = (syncP r.p P.nm).2 := ⟨_, rfl⟩
    rw [← hve] at ca
    refine wp_region_treeR false (KeepAt (fun z => z = x ∨ z = X)) (KeepAt.refl _) (fun _ _ _ h1 h2 => KeepAt.trans h1 h2) (.step 0 (.step 1 (.step 2 (.step 3 (.step 5 (.step 6 (.step 7 (.step 8 (.step 4 (.step 9 (.step 10 (.step 11 .done)))))))))))) (by kernel_rfl) (by kernel_rfl) (fun c a d v w h => by cases d <;> exact h) ?_
    repeat (first | (refine tree_skip rfl (by rfl) ?_; simp only [Act.put, List.setIfInBounds_toArray, List.set]) | (refine tree_quiet (v := ?_) rfl rfl (by rfl) ?_ ?_; rotate_left; (intro W hW; go_simp); (try with_reducible rfl); simp only [Act.put, List.setIfInBounds_toArray, List.set]))
    refine tree_loud rfl rfl (by rfl) (fun K hK => ?_)
    go_wp2_with fail
    refine ca.mono ?_
    clear ca
    rintro e w1 ⟨rfl, r1, P1, hp1, hl1, hsu1, s1⟩
    have s0 : LStep w0.heap.size wc r P w1 r1 P1 := (LStep.old hA.both.dl (Below.refl wc.heap.size wc).drew).trans s1
    refine hK _ _ (kpA s1.turn (Nat.le_refl _)) ?_
    clear hK K
    have hm := hA.both.mid s0.turn
    have z1 : wc.heap.size ≤ w1.heap.size := s0.turn.size
    have cb := rlsync_any w1 w0.heap.size R Q hm.1 (Nat.le_trans hBc z1)
    rw [hss, hsn, ← hve] at cb
    clear hve hss
    refine tree_loud rfl rfl (by rfl) (fun K hK => ?_)
    go_wp2_with fail
    refine cb.mono ?_
    clear cb
    rintro e w2 ⟨rfl, R2, Q2, hp2, hl2, hsu2, s2⟩
    refine hK _ _ (kpR s2.turn z1) ?_
    clear hK K L1 L2
    have HFIN2 := Lib.hid (HFIN.out _ ⟨r1, R2, P1, Q2, hA.both.lstep s0 s2 (by rw [hp2, hp1]) (by rw [hl2, hl1]; exact hA.both.ls) (by rw [hsu2, hsu1]) (by rw [hp1]; exact hA.both.one.of_names (sync_names _ _)), hA.both.below hBc s0.turn s2.turn⟩)
    repeat (first | (refine tree_skip rfl (by rfl) ?_; simp only [Act.put, List.setIfInBounds_toArray, List.set]) | (refine tree_quiet (v := ?_) rfl rfl (by rfl) ?_ ?_; rotate_left; (intro W hW; go_simp); (try with_reducible rfl); simp only [Act.put, List.setIfInBounds_toArray, List.set]))
    refine tree_done ?_
    go_wp2_with fail
    go_ret
    exact ⟨by first | rfl | simp, HFIN2.out⟩
  have d1 : (y.kind == 1) = false := by simpa using k1
  clear k1
  by_cases k2 : y.kind = 2
  · have e2 : decide (y.kind = 2) = true := by simpa using k2
    go_upto_region 9 with (fail)
    have hAd := hA.drew
    have L1 := fun V (hV : KeepAt (fun z => z = x ∨ z = X) wc.drew V) => (show Blk V x _ _ from (hV.2 x (.inl rfl)).trans hAd.both.blk).rule
    have L2 := fun V (hV : KeepAt (fun z => z = x ∨ z = X) wc.drew V) => (show Blk V X (actQCells y).toArray 61 from (hV.2 X (.inr rfl)).trans hAd.blk).rule
    unfold actQCells at L2
    have ca := lread_any wc.drew w0.heap.size r.d P hAd.both.dl.log y.n
    refine wp_region_treeR false (KeepAt (fun z => z = x ∨ z = X)) (KeepAt.refl _) (fun _ _ _ h1 h2 => KeepAt.trans h1 h2) (.step 0 (.step 1 (.step 2 (.step 3 (.step 4 (.step 5 (.step 6 (.step 7 (.step 8 (.step 9 (.step 10 (.step 11 .done)))))))))))) (by kernel_rfl) (by kernel_rfl) (fun c a d v w h => by cases d <;> exact h) ?_
    repeat (first | (refine tree_skip rfl (by rfl) ?_; simp only [Act.put, List.setIfInBounds_toArray, List.set]) | (refine tree_quiet (v := ?_) rfl rfl (by rfl) ?_ ?_; rotate_left; (intro W hW; go_simp); (try with_reducible rfl); simp only [Act.put, List.setIfInBounds_toArray, List.set]))
    refine tree_loud rfl rfl (by rfl) (fun K hK => ?_)
    go_wp2_with fail
    refine ca.mono ?_
    clear ca
    rintro e w1 ⟨⟨a1, n1, c1, rfl, hr1, hn1⟩, hb1⟩
    have hb1' : Below wc.heap.size wc w1 := ⟨hb1.os, hb1.tape, hb1.output, hb1.size, hb1.block⟩
    refine hK _ _ ⟨hb1.size, fun z hz => hb1.block z (by rcases hz with rfl | rfl; exact hA.both.blk.lt; exact hA.blk.lt)⟩ ?_
    clear hK K L1 L2
    repeat (first | (refine tree_skip rfl (by rfl) ?_; simp only [Act.put, List.setIfInBounds_toArray, List.set]) | (refine tree_quiet (v := ?_) rfl rfl (by rfl) ?_ ?_; rotate_left; (intro W hW; go_simp); (try with_reducible rfl); simp only [Act.put, List.setIfInBounds_toArray, List.set]))
    refine tree_done ?_
    have h1 := hA.both.old hb1'
    have hX1 := hA.blk.old hb1'
    clear cX
    go_upto_region 10 with (fail)
    have L1 := fun V (hV : KeepAt (fun z => z = x ∨ z = X) w1.drew V) => (show Blk V x _ _ from (hV.2 x (.inl rfl)).trans h1.blk).rule
    have L2 := fun V (hV : KeepAt (fun z => z = x ∨ z = X) w1.drew V) => (show Blk V X (actQCells y).toArray 61 from (hV.2 X (.inr rfl)).trans hX1).rule
    unfold actQCells at L2
    have cb := rlread_any w1.drew w0.heap.size R.d Q (h1.rdl.log.keep fun _ _ => rfl) y.n
    rw [hA.both.ls] at cb
    refine wp_region_treeR false (KeepAt (fun z => z = x ∨ z = X)) (KeepAt.refl _) (fun _ _ _ h1 h2 => KeepAt.trans h1 h2) (.step 0 (.step 1 (.step 2 (.step 3 (.step 4 (.step 5 (.step 6 (.step 7 (.step 8 (.step 9 (.step 10 (.step 11 .done)))))))))))) (by kernel_rfl) (by kernel_rfl) (fun c a d v w h => by cases d <;> exact h) ?_
    repeat (first | (refine tree_skip rfl (by rfl) ?_; simp only [Act.put, List.setIfInBounds_toArray, List.set]) | (refine tree_quiet (v := ?_) rfl rfl (by rfl) ?_ ?_; rotate_left; (intro W hW; go_simp); (try with_reducible rfl); simp only [Act.put, List.setIfInBounds_toArray, List.set]))
    refine tree_loud rfl rfl (by rfl) (fun K hK => ?_)
    go_wp2_with fail
    refine cb.mono ?_
    clear cb
    rintro e w2 ⟨⟨a2, n2, c2, rfl, hr2, hn2⟩, rfl⟩
    refine hK _ _ (KeepAt.refl _ _) ?_
    clear hK K L1 L2
    repeat (first | (refine tree_skip rfl (by rfl) ?_; simp only [Act.put, List.setIfInBounds_toArray, List.set]) | (refine tree_quiet (v := ?_) rfl rfl (by rfl) ?_ ?_; rotate_left; (intro W hW; go_simp); (try with_reducible rfl); simp only [Act.put, List.setIfInBounds_toArray, List.set]))
    refine tree_done ?_
    have HFIN2 := Lib.hid (HFIN.out _ ⟨r, R, P, Q, h1.keep (w' := w1.drew) (fun _ _ => rfl), (hb1'.mono hBc).drew⟩)
    have q1 := string_of w1.drew a1 n1 c1 _ hr1.drew hn1 w1.drew (Old.refl _)
    have q2 := string_of w1.drew a2 n2 c2 _ hr2 hn2 w1.drew (Old.refl _)
    generalize lreadB P.ls y.n = bs at *
    go_wp2_with fail
    go_ret
    exact ⟨by first | rfl | simp, HFIN2.out⟩
  have d2 : (y.kind == 2) = false := by simpa using k2
  clear k2
  by_cases k3 : y.kind = 3
  · have e3 : decide (y.kind = 3) = true := by simpa using k3
    have hpf1 : ∀ ad, y.pa = some ad → y.plan ≠ [] → ∀ f ∈ r.fs, f.blk ≠ ad.block := fun ad ha hne f hf e => by have := (hA.both.dl.disk.files f hf).ge; have := hpb ad ha hne; omega
    have hpo : ∀ ad, y.pa = some ad → y.plan ≠ [] → ad.block < wc.drew.heap.size := fun ad ha hne => Nat.lt_of_lt_of_le (hpb ad ha hne) hBc
    have hpf2 : y.plan ≠ [] → ∀ ad, y.pa = some ad → ∀ ad', R.la = some ad' → ad.block ≠ ad'.block := fun hne ad ha ad' ha' e => by have := (hA.both.rdl.disk.lt (.inr (.inl ⟨ad', ha', rfl⟩))).1; have := hpb ad ha hne; omega
    go_upto_region 13 with (fail)
    have hAd := hA.drew
    have L1 := fun V (hV : KeepAt (fun z => z = x ∨ z = X) wc.drew V) => (show Blk V x _ _ from (hV.2 x (.inl rfl)).trans hAd.both.blk).rule
    have L2 := fun V (hV : KeepAt (fun z => z = x ∨ z = X) wc.drew V) => (show Blk V X (actQCells y).toArray 61 from (hV.2 X (.inr rfl)).trans hAd.blk).rule
    unfold actQCells at L2
    have ca := crash_any wc.drew w0.heap.size r y.pa y.plan.length y.pc y.plan hAd.both.dl.disk hBc hpw.drew rfl hpm hpf1 hpo
    refine wp_region_treeR false (KeepAt (fun z => z = x ∨ z = X)) (KeepAt.refl _) (fun _ _ _ h1 h2 => KeepAt.trans h1 h2) (.step 0 (.step 1 (.step 2 (.step 3 (.step 4 (.step 5 (.step 6 .done))))))) (by kernel_rfl) (by kernel_rfl) (fun c a d v w h => by cases d <;> exact h) ?_
    repeat (first | (refine tree_skip rfl (by rfl) ?_; simp only [Act.put, List.setIfInBounds_toArray, List.set]) | (refine tree_quiet (v := ?_) rfl rfl (by rfl) ?_ ?_; rotate_left; (intro W hW; go_simp); (try with_reducible rfl); simp only [Act.put, List.setIfInBounds_toArray, List.set]))
    refine tree_loud rfl rfl (by rfl) (fun K hK => ?_)
    go_wp2_with fail
    refine ca.mono ?_
    clear ca
    rintro e w1 ⟨r1, rfl, hp1, s1⟩
    have l1 := s1.log hAd.both.dl
    have m1 : LStep w0.heap.size wc r P w1 r1 P := (LStep.old hA.both.dl (Below.refl wc.heap.size wc).drew).trans l1
    refine hK _ _ (kpA l1.turn (Nat.le_refl _)) ?_
    clear hK K L1 L2 cX
    refine tree_done ?_
    have b1 := (hA.both.mid m1.turn).2
    have z1 := m1.turn.size
    go_upto_region 14 with (fail)
    have ca := open_any w1 w0.heap.size r1 m1.at'.disk
    rw [m1.d] at ca
    have c1 := b1.rule
    go_wp2_with fail
    refine ca.mono ?_
    clear ca c1
    rintro e w2 ⟨rfl, r2, hp2, s2⟩
    have m2 : LStep w0.heap.size wc r P w2 r2 P := m1.trans (s2.log m1.at')
    have b2 := hA.both.mid m2.turn
    have X2 : Blk w2 X (actQCells y).toArray 61 := (m2.turn.block X hA.blk.lt hA.off).trans hA.blk
    have z2 := m2.turn.size
    have p2 := hyp.below (hA.below.trans (m2.below hA.both.dl hBc))
    go_upto_region 15 with (fail)
    have L1 := fun V (hV : KeepAt (fun z => z = x ∨ z = X) w2.drew V) => (show Blk V x _ _ from (hV.2 x (.inl rfl)).trans b2.2).rule
    have L2 := fun V (hV : KeepAt (fun z => z = x ∨ z = X) w2.drew V) => (show Blk V X (actQCells y).toArray 61 from (hV.2 X (.inr rfl)).trans X2).rule
    unfold actQCells at L2
    have cb := rcrash_any w2.drew w0.heap.size R y.pa y.plan.length y.pc y.plan (b2.1.disk.keep fun _ _ => rfl) (Nat.le_trans hBc z2) p2.drew rfl hpm hpf2
    refine wp_region_treeR false (KeepAt (fun z => z = x ∨ z = X)) (KeepAt.refl _) (fun _ _ _ h1 h2 => KeepAt.trans h1 h2) (.step 0 (.step 1 (.step 2 (.step 3 (.step 4 (.step 5 (.step 6 .done))))))) (by kernel_rfl) (by kernel_rfl) (fun c a d v w h => by cases d <;> exact h) ?_
    repeat (first | (refine tree_skip rfl (by rfl) ?_; simp only [Act.put, List.setIfInBounds_toArray, List.set]) | (refine tree_quiet (v := ?_) rfl rfl (by rfl) ?_ ?_; rotate_left; (intro W hW; go_simp); (try with_reducible rfl); simp only [Act.put, List.setIfInBounds_toArray, List.set]))
    refine tree_loud rfl rfl (by rfl) (fun K hK => ?_)
    go_wp2_with fail
    refine cb.mono ?_
    clear cb
    rintro e w3 ⟨R1, rfl, hq1, s3⟩
    have l3 := s3.log (b2.1.keep (w' := w2.drew) fun _ _ => rfl)
    have m3 : RLStep w0.heap.size w2 R Q w3 R1 Q := (RLStep.old b2.1 (Below.refl w2.heap.size w2).drew).trans l3
    refine hK _ _ (kpR l3.turn z2) ?_
    clear hK K L1 L2
    refine tree_done ?_
    have b3 : Blk w3 x _ _ := (m3.turn.block x (by have := hA.both.blk.lt; omega) hA.both.off').trans b2.2
    go_upto_region 16 with (fail)
    have cb := ropen_any w3 w0.heap.size R1 m3.at'.disk
    rw [m3.d] at cb
    have c3 := b3.rule
    go_wp2_with fail
    refine cb.mono ?_
    clear cb c3
    rintro e w4 ⟨rfl, R2, hq2, s4⟩
    have m4 : RLStep w0.heap.size w2 R Q w4 R2 Q := m3.trans (s4.log m3.at')
    have hone : OneN r2.p nmLog := by rw [hp2, hp1]; exact (hA.both.one.of_names (crashAll_names _ _)).of_names (openP_names _)
    have hb4 := hA.both.lstep m2 m4 (by rw [hq2, hq1, hp2, hp1, hA.both.eq]) hA.both.ls hA.both.sure hone
    have hbw4 := hA.both.below hBc m2.turn m4.turn
    have co := open_core w4 w0.heap.size x r2 R2 _ _ hb4.dl.disk hb4.rdl.disk (fun z h1 h2 => hb4.apart z (.inl h1) (.inl h2)) hb4.blk (fun hf => hb4.off (.inl hf)) (fun hf => hb4.off' (.inl hf)) hb4.eq hone (Nat.le_trans hBc hbw4.size)
    go_upto_region 17 with (fail)
    go_wp2_with fail
    refine co.mono ?_
    clear co
    rintro e w5 ⟨rfl, ho⟩
    obtain ⟨r5, R5, P5, Q5, hb5, hbw5⟩ := hb4.open2 (Nat.le_trans hBc hbw4.size) ho
    have HFIN2 := Lib.hid (HFIN.out _ ⟨r5, R5, P5, Q5, hb5, hbw4.trans hbw5⟩)
    go_wp2_with fail
    go_ret
    exact ⟨by first | rfl | simp, HFIN2.out⟩
  have d3 : (y.kind == 3) = false := by simpa using k3
  clear k3
  by_cases k4 : y.kind = 4
  · have e4 : decide (y.kind = 4) = true := by simpa using k4
    have co := open_core wc w0.heap.size x r R _ _ hA.both.dl.disk hA.both.rdl.disk (fun z h1 h2 => hA.both.apart z (.inl h1) (.inl h2)) hA.both.blk (fun hf => hA.both.off (.inl hf)) (fun hf => hA.both.off' (.inl hf)) hA.both.eq hA.both.one hBc
    go_wp2_with fail
    refine co.mono ?_
    clear co
    rintro e w5 ⟨rfl, ho⟩
    have HFIN2 := Lib.hid (HFIN.out _ (hA.both.open2 hBc ho))
    go_wp2_with fail
    go_ret
    exact ⟨by first | rfl | simp, HFIN2.out⟩
  have d4 : (y.kind == 4) = false := by simpa using k4
  clear k4
  by_cases k5 : y.kind = 5
  · have e5 : decide (y.kind = 5) = true := by simpa using k5
    have han : appendP R.p nmLog y.b = appendP r.p nmLog y.b := by rw [hA.both.eq]
    go_upto_region 21 with (fail)
    have hAd := hA.drew
    have L1 := fun V (hV : KeepAt (fun z => z = x ∨ z = X) wc.drew V) => (show Blk V x _ _ from (hV.2 x (.inl rfl)).trans hAd.both.blk).rule
    have L2 := fun V (hV : KeepAt (fun z => z = x ∨ z = X) wc.drew V) => (show Blk V X (actQCells y).toArray 61 from (hV.2 X (.inr rfl)).trans hAd.blk).rule
    unfold actQCells at L2
    have ca := append_any wc.drew w0.heap.size r nmLog hAd.both.dl.disk hBc hnz y.ba y.b.length y.bc y.b hbw.drew rfl hbl
    obtain ⟨ve, hve⟩ : ∃ v, v = (appendP r.p nmLog y.b).2 := ⟨_, rfl⟩
    rw [← hve] at ca
    refine wp_region_treeR false (KeepAt (fun z => z = x ∨ z = X)) (KeepAt.refl _) (fun _ _ _ h1 h2 => KeepAt.trans h1 h2) (.step 0 (.step 1 (.step 2 (.step 3 (.step 4 (.step 5 (.step 7 (.step 8 (.step 9 (.step 10 (.step 11 (.step 12 (.step 6 (.step 13 (.step 14 (.step 15 .done)))))))))))))))) (by kernel_rfl) (by kernel_rfl) (fun c a d v w h => by cases d <;> exact h) ?_
    repeat (first | (refine tree_skip rfl (by rfl) ?_; simp only [Act.put, List.setIfInBounds_toArray, List.set]) | (refine tree_quiet (v := ?_) rfl rfl (by rfl) ?_ ?_; rotate_left; (intro W hW; go_simp); (try with_reducible rfl); simp only [Act.put, List.setIfInBounds_toArray, List.set]))
    refine tree_loud rfl rfl (by rfl) (fun K hK => ?_)
    go_wp2_with fail
    refine ca.mono ?_
    clear ca
    rintro e w1 ⟨rfl, r1, hp1, s1⟩
    have l1 := s1.log hAd.both.dl
    have s0 : LStep w0.heap.size wc r P w1 r1 P := (LStep.old hA.both.dl (Below.refl wc.heap.size wc).drew).trans l1
    refine hK _ _ (kpA l1.turn (Nat.le_refl _)) ?_
    clear hK K
    have hm := hA.both.mid s0.turn
    have z1 : wc.heap.size ≤ w1.heap.size := s0.turn.size
    have hb1 : BytesAt w1 y.ba y.b := hyb.below (hA.below.trans (s0.below hA.both.dl hBc))
    have cb := rappend_any w1 w0.heap.size R nmLog hm.1.disk (Nat.le_trans hBc z1) y.ba y.b.length y.bc y.b hb1 rfl hbl
    rw [han, ← hve] at cb
    clear hve
    refine tree_loud rfl rfl (by rfl) (fun K hK => ?_)
    go_wp2_with fail
    refine cb.mono ?_
    clear cb
    rintro e w2 ⟨rfl, R2, hp2, s2⟩
    have l2 := s2.log hm.1
    refine hK _ _ (kpR l2.turn z1) ?_
    clear hK K L1 L2
    have HFIN2 := Lib.hid (HFIN.out _ ⟨r1, R2, P, Q, hA.both.lstep s0 l2 (by rw [hp2, hp1]) hA.both.ls hA.both.sure (by rw [hp1]; exact hA.both.one.of_names (append_names _ _ _)), hA.both.below hBc s0.turn l2.turn⟩)
    repeat (first | (refine tree_skip rfl (by rfl) ?_; simp only [Act.put, List.setIfInBounds_toArray, List.set]) | (refine tree_quiet (v := ?_) rfl rfl (by rfl) ?_ ?_; rotate_left; (intro W hW; go_simp); (try with_reducible rfl); simp only [Act.put, List.setIfInBounds_toArray, List.set]))
    refine tree_done ?_
    go_wp2_with fail
    go_ret
    exact ⟨by first | rfl | simp, HFIN2.out⟩
  have d5 : (y.kind == 5) = false := by simpa using k5
  clear k5
  by_cases k6 : y.kind = 6
  · have e6 : decide (y.kind = 6) = true := by simpa using k6
    have han : armP R.p y.n y.plan = armP r.p y.n y.plan := by rw [hA.both.eq]
    have hpf3 : y.plan ≠ [] → ∀ ad, y.pa = some ad → ad.block ≠ R.d := fun hne ad ha e => by have := hA.both.rdl.disk.ged; have := hpb ad ha hne; omega
    go_upto_region 23 with (fail)
    have hAd := hA.drew
    have L1 := fun V (hV : KeepAt (fun z => z = x ∨ z = X) wc.drew V) => (show Blk V x _ _ from (hV.2 x (.inl rfl)).trans hAd.both.blk).rule
    have L2 := fun V (hV : KeepAt (fun z => z = x ∨ z = X) wc.drew V) => (show Blk V X (actQCells y).toArray 61 from (hV.2 X (.inr rfl)).trans hAd.blk).rule
    unfold actQCells at L2
    have ca := arm_any wc.drew w0.heap.size r y.n y.pa y.plan.length y.pc y.plan hAd.both.dl.disk hBc hyn.2 hpw.drew rfl hyl
    obtain ⟨ve, hve⟩ : ∃ v, v = (armP r.p y.n y.plan).2 := ⟨_, rfl⟩
    rw [← hve] at ca
    refine wp_region_treeR false (KeepAt (fun z => z = x ∨ z = X)) (KeepAt.refl _) (fun _ _ _ h1 h2 => KeepAt.trans h1 h2) (.step 0 (.step 1 (.step 2 (.step 3 (.step 4 (.step 5 (.step 6 (.step 7 (.step 9 (.step 10 (.step 11 (.step 12 (.step 13 (.step 14 (.step 15 (.step 16 (.step 8 (.step 17 (.step 18 (.step 19 .done)))))))))))))))))))) (by kernel_rfl) (by kernel_rfl) (fun c a d v w h => by cases d <;> exact h) ?_
    repeat (first | (refine tree_skip rfl (by rfl) ?_; simp only [Act.put, List.setIfInBounds_toArray, List.set]) | (refine tree_quiet (v := ?_) rfl rfl (by rfl) ?_ ?_; rotate_left; (intro W hW; go_simp); (try with_reducible rfl); simp only [Act.put, List.setIfInBounds_toArray, List.set]))
    refine tree_loud rfl rfl (by rfl) (fun K hK => ?_)
    go_wp2_with fail
    refine ca.mono ?_
    clear ca
    rintro e w1 ⟨rfl, r1, hp1, s1⟩
    have l1 := s1.log hAd.both.dl
    have s0 : LStep w0.heap.size wc r P w1 r1 P := (LStep.old hA.both.dl (Below.refl wc.heap.size wc).drew).trans l1
    refine hK _ _ (kpA l1.turn (Nat.le_refl _)) ?_
    clear hK K
    have hm := hA.both.mid s0.turn
    have z1 : wc.heap.size ≤ w1.heap.size := s0.turn.size
    have hb1 := hyp.below (hA.below.trans (s0.below hA.both.dl hBc))
    have cb := rarm_any w1 w0.heap.size R y.n y.pa y.plan.length y.pc y.plan hm.1.disk (Nat.le_trans hBc z1) hyn.2 hb1 rfl hyl hpf3
    rw [han, ← hve] at cb
    clear hve
    refine tree_loud rfl rfl (by rfl) (fun K hK => ?_)
    go_wp2_with fail
    refine cb.mono ?_
    clear cb
    rintro e w2 ⟨rfl, R2, hp2, s2⟩
    have l2 := s2.log hm.1
    refine hK _ _ (kpR l2.turn z1) ?_
    clear hK K L1 L2
    have HFIN2 := Lib.hid (HFIN.out _ ⟨r1, R2, P, Q, hA.both.lstep s0 l2 (by rw [hp2, hp1]) hA.both.ls hA.both.sure (by rw [hp1]; exact hA.both.one.of_names (arm_names _ _ _)), hA.both.below hBc s0.turn l2.turn⟩)
    repeat (first | (refine tree_skip rfl (by rfl) ?_; simp only [Act.put, List.setIfInBounds_toArray, List.set]) | (refine tree_quiet (v := ?_) rfl rfl (by rfl) ?_ ?_; rotate_left; (intro W hW; go_simp); (try with_reducible rfl); simp only [Act.put, List.setIfInBounds_toArray, List.set]))
    refine tree_done ?_
    go_wp2_with fail
    go_ret
    exact ⟨by first | rfl | simp, HFIN2.out⟩
  have d6 : (y.kind == 6) = false := by simpa using k6
  clear k6
  go_upto_region 24 with (fail)
  have hAd := hA.drew
  have hql := hA.both.rdl.log.blk.lt
  have L1 := fun V (hV : KeepAt (fun z => z = x ∨ z = X ∨ z = Q.l) wc.drew V) => (show Blk V x _ _ from (hV.2 x (.inl rfl)).trans hAd.both.blk).rule
  have L2 := fun V (hV : KeepAt (fun z => z = x ∨ z = X ∨ z = Q.l) wc.drew V) => (show Blk V X (actQCells y).toArray 61 from (hV.2 X (.inr (.inl rfl))).trans hAd.blk).rule
  have L3 := fun V (hV : KeepAt (fun z => z = x ∨ z = X ∨ z = Q.l) wc.drew V) => (show Blk V Q.l _ _ from (hV.2 Q.l (.inr (.inr rfl))).trans hAd.both.rdl.log.blk).rule
  unfold actQCells at L2
  have ct := told_any wc.drew w0.heap.size r.d P hAd.both.dl.log Q.a Q.ls.length Q.c y.n (by rw [← hA.both.ls]; exact hAd.both.rdl.log.rows.pieces) (by rw [hA.both.ls])
  refine wp_region_treeR false (KeepAt (fun z => z = x ∨ z = X ∨ z = Q.l)) (KeepAt.refl _) (fun _ _ _ h1 h2 => KeepAt.trans h1 h2) (.step 0 (.step 1 (.step 2 (.step 3 (.step 4 (.step 5 (.step 6 (.step 7 (.step 8 (.step 9 (.step 10 (.step 11 (.step 12 (.step 13 (.step 14 .done))))))))))))))) (by kernel_rfl) (by kernel_rfl) (fun c a d v w h => by cases d <;> exact h) ?_
  repeat (first | (refine tree_skip rfl (by rfl) ?_; simp only [Act.put, List.setIfInBounds_toArray, List.set]) | (refine tree_quiet (v := ?_) rfl rfl (by rfl) ?_ ?_; rotate_left; (intro W hW; go_simp); (try with_reducible rfl); simp only [Act.put, List.setIfInBounds_toArray, List.set]))
  refine tree_loud rfl rfl (by rfl) (fun K hK => ?_)
  go_wp2_with fail
  refine ct.mono ?_
  clear ct
  rintro e w1 ⟨rfl, hb1⟩
  refine hK _ _ ⟨hb1.size, fun z hz => hb1.block z (by rcases hz with rfl | rfl | rfl; exact hA.both.blk.lt; exact hA.blk.lt; exact hql)⟩ ?_
  clear hK K L1 L2 L3
  have hb1' : Below wc.heap.size wc w1 := ⟨hb1.os, hb1.tape, hb1.output, hb1.size, hb1.block⟩
  have HFIN2 := Lib.hid (HFIN.out _ ⟨r, R, P, Q, hA.both.old hb1', hb1'.mono hBc⟩)
  repeat (first | (refine tree_skip rfl (by rfl) ?_; simp only [Act.put, List.setIfInBounds_toArray, List.set]) | (refine tree_quiet (v := ?_) rfl rfl (by rfl) ?_ ?_; rotate_left; (intro W hW; go_simp); (try with_reducible rfl); simp only [Act.put, List.setIfInBounds_toArray, List.set]))
  refine tree_done ?_
  go_wp2_with fail
  go_ret
  exact ⟨by first | rfl | simp, HFIN2.out⟩
end Go.Proofs.Ytnojeiklgjhkgaa
