/- The walks through the document's disk: counting a call, Open, Arm, Read, Append, Sync, Cut. -/
import Derived.Test.YtnojeiklgjhkgaaRDCrash
namespace Go.Proofs.Ytnojeiklgjhkgaa
open Go.RowKit Go.Maps
set_option linter.unusedVariables false
set_option linter.unusedSimpArgs false

theorem rgoes_any (w : World) (B : Nat) (r : RefR) (h : RefAt w B r) (hB : B ≤ w.heap.size) :
    Calls Try.prog 66 #[.pointer (some ⟨r.d, 0, none⟩)] w fun e w' => e = .returned (.int .i64 (goesP r.p).2) ∧ (r.down = false → ∃ r', r'.p = (goesP r.p).1 ∧ RStep B w r w' r' ∧ ((goesP r.p).2 = 0 → r'.fs = r.fs ∧ r'.la = r.la ∧ r'.lc = r.lc)) := by
  have hb := h.blk.rule
  have hfr := h.blk.free
  have hlf := h.ok.left
  unfold refHead at hb
  cases har : r.armed with
  | false =>
    rw [har] at hb
    have HG := Lib.hid (show goesP r.p = (r.p, 0) by unfold goesP; rw [if_pos (show r.p.armed = false from har)])
    clear har
    go_enter Try.func66, Try.ntmps66
    go_wp2_with fail
    go_ret
    exact ⟨by rw [HG.out]; first | rfl | simp, fun _ => ⟨r, by rw [HG.out], RStep.refl h, fun _ => ⟨rfl, rfl, rfl⟩⟩⟩
  | true =>
    rw [har] at hb
    by_cases hl : 0 < r.left
    · have HG := Lib.hid (show goesP r.p = ({ r.p with left := r.p.left - 1 }, 0) by unfold goesP; rw [if_neg (by simp [RefR.p, har]), if_pos (show 0 < r.p.left from hl)])
      have hl2 : r.left ≤ 9223372036854775807 := hlf.2
      have hsub : IntKind.i64.wrap (r.left - 1) = r.left - 1 := by rw [IntKind.wrap_i64]; omega
      have hhead := h.head (w' := w.setCell ⟨r.d, 3, none⟩ (.int .i64 (r.left - 1))) { r with left := r.left - 1 } rfl rfl rfl rfl rfl rfl rfl ⟨by show 0 ≤ r.left - 1; omega, by show r.left - 1 ≤ _; omega⟩ (by have := h.blk.set 3 (.int .i64 (r.left - 1)); simpa [refHead] using this) (fun x hx => heap_setCell_other _ ⟨r.d, 3, none⟩ x _ hx)
      have HH := Lib.hid hhead
      clear hhead hlf
      go_enter Try.func66, Try.ntmps66
      go_wp2_with fail
      go_ret
      refine ⟨by rw [HG.out]; first | rfl | simp, fun _ => ⟨{ r with left := r.left - 1 }, by rw [HG.out]; rfl, ⟨Turn.setCell (Turn.refl _ _) (x := ⟨r.d, 3, none⟩) (.inl (.inl rfl)) _, ?_, fun x hx => .inl hx, rfl⟩, fun _ => ⟨rfl, rfl, rfl⟩⟩⟩
      exact HH.out
    · have HG := Lib.hid (show goesP r.p = (crashP r.p r.p.plan, 5) by unfold goesP; rw [if_neg (by simp [RefR.p, har]), if_neg (show ¬ 0 < r.p.left from hl)])
      have hcr := rcrash_any w B r r.pa r.plan.length r.pc r.plan h hB h.plan.row rfl h.plan.le_max (fun hne ad h1 ad' h2 => by
        obtain ⟨_, _, c1, q1⟩ := h.plan.block_lt h1
        obtain ⟨_, _, c2, q2⟩ := h.row.block_lt h2
        exact Blk.ne q1 q2 (by decide))
      have HAR := Lib.hid har
      clear hlf har
      go_enter Try.func66, Try.ntmps66
      go_wp2_with fail
      refine hcr.mono ?_
      clear hcr
      rintro e w1 ⟨r1, rfl, hp1, hs1⟩
      go_wp2_with fail
      go_ret
      refine ⟨by rw [HG.out]; first | rfl | simp, fun hdn => ⟨r1, ?_, hs1, fun e => by rw [HG.out] at e; cases e⟩⟩
      rw [HG.out, hp1]
      simp [crashAll, RefR.p, hdn]
theorem ropen_any (w : World) (B : Nat) (r : RefR) (h : RefAt w B r) :
    Calls Try.prog 46 #[.pointer (some ⟨r.d, 0, none⟩)] w fun e w' => e = .returned (.int .i64 (openP r.p).2) ∧ ∃ r', r'.p = (openP r.p).1 ∧ RStep B w r w' r' := by
  have hb := h.blk.rule
  have hfr := h.blk.free
  unfold refHead at hb
  cases hdn : r.down with
  | false =>
    rw [hdn] at hb
    have HG := Lib.hid (show openP r.p = (r.p, 2) by unfold openP; rw [if_neg (by simp [RefR.p, hdn])])
    clear hdn
    go_enter Try.func46, Try.ntmps46
    go_wp2_with fail
    go_ret
    exact ⟨by rw [HG.out]; first | rfl | simp, r, by rw [HG.out], RStep.refl h⟩
  | true =>
    rw [hdn] at hb
    have HG := Lib.hid (show openP r.p = ({ r.p with down := false }, 0) by unfold openP; rw [if_pos (show r.p.down = true from hdn)])
    have HH := Lib.hid (h.head (w' := w.setCell ⟨r.d, 1, none⟩ (.bool false)) { r with down := false } rfl rfl rfl rfl rfl rfl rfl h.ok.left (by have := h.blk.set 1 (.bool false); simpa [refHead] using this) (fun x hx => heap_setCell_other _ ⟨r.d, 1, none⟩ x _ hx))
    clear hdn
    go_enter Try.func46, Try.ntmps46
    go_wp2_with fail
    go_ret
    exact ⟨by rw [HG.out]; first | rfl | simp, { r with down := false }, by rw [HG.out]; rfl, ⟨Turn.setCell (Turn.refl _ _) (x := ⟨r.d, 1, none⟩) (.inl (.inl rfl)) _, HH.out, fun x hx => .inl hx, rfl⟩⟩
theorem rread_any (w : World) (B : Nat) (r : RefR) (nm : Name) (h : RefAt w B r) :
    Calls Try.prog 60 #[.pointer (some ⟨r.d, 0, none⟩), .string nm] w fun e w' => ∃ a n c, e = .returned (.tuple #[.slice a n c, .int .i64 (readP r.p nm).2]) ∧ (readP r.p nm).1.length = n ∧ Own w' w.heap.size 5 1 a n c ((readP r.p nm).1.map bv) ∧ Below w.heap.size w w' := by
  have hat := rat_any w B r nm h
  have hb := h.blk.rule
  unfold refHead at hb
  have hcnt : r.fs.length ≤ 64 := by have := h.ok.count; simpa [RefR.p] using this
  rcases at_cases r nm with ⟨hd, h1, h2⟩ | ⟨hd, h0, h1, h2, h3⟩ | ⟨k, hk, hd, h0, h1, h2, h3⟩
  · rw [h1, h2] at hat
    have HR := Lib.hid (show readP r.p nm = ([], 5) by unfold readP; rw [if_pos (show r.p.down = true from hd)])
    clear h1 h2 hd
    go_enter Try.func60, Try.ntmps60
    go_wp2_with fail
    refine hat.mono ?_
    rintro e w' ⟨rfl, rfl⟩
    go_wp2_with fail
    go_ret2
    exact ⟨none, 0, 0, by rw [HR.out]; first | rfl | simp, by rw [HR.out]; rfl, by rw [HR.out]; exact Own.nil _ _ _ _, Below.refl _ _⟩
  · rw [h1, h2] at hat
    have HR := Lib.hid (show readP r.p nm = ([], 4) by unfold readP; rw [if_neg (by simp [RefR.p, hd]), h3])
    clear h0 h1 h2 h3 hd
    go_enter Try.func60, Try.ntmps60
    go_wp2_with fail
    refine hat.mono ?_
    rintro e w' ⟨rfl, rfl⟩
    go_wp2_with fail
    go_ret2
    exact ⟨none, 0, 0, by rw [HR.out]; first | rfl | simp, by rw [HR.out]; rfl, by rw [HR.out]; exact Own.nil _ _ _ _, Below.refl _ _⟩
  · rw [h1, h2] at hat
    have HR := Lib.hid (show readP r.p nm = (r.fs[k].b, 0) by unfold readP; rw [if_neg (by simp [RefR.p, hd]), h3]; rfl)
    have HD := Lib.hid hd
    obtain ⟨g, hg, c0, c1, c2⟩ := h.elem k hk
    have hfo := h.files _ (List.getElem_mem hk)
    have hsz : r.fs[k].b.length ≤ 1048576 := h.ok.size r.fs[k].p (List.mem_map.2 ⟨_, List.getElem_mem hk, rfl⟩)
    generalize r.fs[k] = f at *
    rw [hg] at hb
    clear h0 h1 h2 h3 hd c0 c2 hg
    go_enter Try.func60, Try.ntmps60
    go_wp2_with fail
    refine hat.mono ?_
    rintro e w' ⟨rfl, rfl⟩
    go_wp2_with fail
    refine (rcopied_any f.a f.b.length f.c f.b _ hfo.row rfl (by omega)).mono ?_
    rintro e w1 ⟨a1, c1, rfl, hown, hb1⟩
    go_wp2_with fail
    go_ret2
    exact ⟨a1, f.b.length, c1, by rw [HR.out]; first | rfl | simp, by rw [HR.out], by rw [HR.out]; exact hown, hb1⟩
/-- Where a list's file is written, others stay (by the disk's plain words). -/
theorem rappend_eq {r : RefR} {nm : Name} {k : Nat} (hk : k < r.fs.length) (hd : r.down = false) (hf : findP r.p nm = some r.fs[k].p) (hn : r.fs[k].nm = nm) (b : List UInt8) (hb : ¬ maxFileN - r.fs[k].b.length < b.length) : appendP r.p nm b = goesP (updP r.p nm fun f => { f with b := f.b ++ b }) := by
  unfold appendP mayP
  rw [if_neg (by simp [RefR.p, hd]), hf]
  exact if_neg hb
set_option maxHeartbeats 2000000 in
set_option maxRecDepth 20000 in
theorem rappend_any (w : World) (B : Nat) (r : RefR) (nm : Name) (h : RefAt w B r) (hB : B ≤ w.heap.size) (a : Option Addr) (len cap : Nat) (l : List UInt8) (hl : BytesAt w a l) (hlen : l.length = len) (hcl : len ≤ maxLen) :
    Calls Try.prog 47 #[.pointer (some ⟨r.d, 0, none⟩), .string nm, .slice a len cap] w fun e w' => e = .returned (.int .i64 (appendP r.p nm l).2) ∧ ∃ r', r'.p = (appendP r.p nm l).1 ∧ RStep B w r w' r' := by
  unfold maxLen at hcl
  have HL := Lib.hid hlen
  clear hlen
  have hat := rat_any w B r nm h
  have hb := h.blk.rule
  unfold refHead at hb
  have hcnt : r.fs.length ≤ 64 := by have := h.ok.count; simpa [RefR.p] using this
  rcases at_cases r nm with ⟨hd, h1, h2⟩ | ⟨hd, h0, h1, h2, h3⟩ | ⟨k, hk, hd, h0, h1, h2, h3⟩
  · rw [h1, h2] at hat
    have HR := Lib.hid (show appendP r.p nm l = (r.p, 5) by unfold appendP mayP; rw [if_pos (show r.p.down = true from hd)])
    clear h1 h2 hd
    go_enter Try.func47, Try.ntmps47
    go_wp2_with fail
    refine hat.mono ?_
    rintro e w' ⟨rfl, rfl⟩
    go_wp2_with fail
    go_ret
    exact ⟨by rw [HR.out]; first | rfl | simp, r, by rw [HR.out], RStep.refl h⟩
  · rw [h1, h2] at hat
    have HR := Lib.hid (show appendP r.p nm l = (r.p, 4) by unfold appendP mayP; rw [if_neg (by simp [RefR.p, hd]), h3])
    clear h0 h1 h2 h3 hd
    go_enter Try.func47, Try.ntmps47
    go_wp2_with fail
    refine hat.mono ?_
    rintro e w' ⟨rfl, rfl⟩
    go_wp2_with fail
    go_ret
    exact ⟨by rw [HR.out]; first | rfl | simp, r, by rw [HR.out], RStep.refl h⟩
  · rw [h1, h2] at hat
    obtain ⟨g, hg, c0, c1, c2⟩ := h.elem k hk
    have hfo := h.files _ (List.getElem_mem hk)
    have hsz : r.fs[k].b.length ≤ 1048576 := h.ok.size r.fs[k].p (List.mem_map.2 ⟨_, List.getElem_mem hk, rfl⟩)
    have hsu : r.fs[k].sure ≤ r.fs[k].b.length := h.ok.sure r.fs[k].p (List.mem_map.2 ⟨_, List.getElem_mem hk, rfl⟩)
    have hwrap : IntKind.i64.wrap (1048576 - (r.fs[k].b.length : Int)) = 1048576 - (r.fs[k].b.length : Int) := by rw [IntKind.wrap_i64]; omega
    by_cases hbig : 1048576 - r.fs[k].b.length < len
    · have t0 : decide (1048576 - (r.fs[k].b.length : Int) < (len : Int)) = true := by simp; omega
      have HR := Lib.hid (show appendP r.p nm l = (r.p, 3) by
        unfold appendP mayP
        rw [if_neg (by simp [RefR.p, hd]), h3]
        exact if_pos (by rw [HL.out]; exact hbig))
      generalize r.fs[k] = f at *
      rw [hg] at hb
      clear h0 h1 h2 h3 hd c0 c2 hbig hg
      go_enter Try.func47, Try.ntmps47
      go_wp2_with fail
      refine hat.mono ?_
      rintro e w' ⟨rfl, rfl⟩
      go_wp2_with fail
      go_ret
      exact ⟨by rw [HR.out]; first | rfl | simp, r, by rw [HR.out], RStep.refl h⟩
    · have t0 : decide (1048576 - (r.fs[k].b.length : Int) < (len : Int)) = false := by simp; omega
      have HR := Lib.hid (rappend_eq hk hd h3 h0 l (by rw [HL.out]; exact hbig))
      have hlen2 : len ≤ 1048576 := by omega
      have hsum : r.fs[k].b.length + len ≤ 1048576 := by omega
      obtain ⟨f, hf⟩ : ∃ f, f = r.fs[k] := ⟨_, rfl⟩
      rw [← hf] at c1 hfo hsz hsu hwrap t0 hsum h0
      have HF := Lib.hid hf
      have HN := Lib.hid h0
      have HG := Lib.hid hg
      have HD := Lib.hid hd
      rw [hg] at hb
      clear h0 h1 h2 h3 hd c0 c2 hbig hf hg
      go_enter Try.func47, Try.ntmps47
      go_wp2_with fail
      refine hat.mono ?_
      rintro e w' ⟨rfl, rfl⟩
      go_wp2_with fail
      refine (rcopied_any f.a f.b.length f.c f.b _ hfo.row rfl (by omega)).mono ?_
      rintro e w1 ⟨a1, cc1, rfl, hown1, hb1⟩
      have hl1 := hl.below hb1
      have lift1 : ∀ b i (v : Value), w'.cell? ⟨b, i, none⟩ = some v → w1.cell? ⟨b, i, none⟩ = some v := fun b i v hv => (hb1.cell (p := ⟨b, i, none⟩) (World.block_lt_of_cell? w' _ hv)).trans hv
      have b0 := lift1 r.d 0 (.slice (some ⟨g, 0, none⟩) r.fs.length r.lc) (hb 0)
      have c1' := lift1 g (k * 3 + 1) _ c1
      have hz1 := hb1.size
      clear lift1 hb c1
      go_wp2_with fail
      have hle : ∀ W, KeepNot 5 w1.drew W → ∀ b i cs t (v : Value), Blk w1 b cs t → t ≠ 5 → w1.cell? ⟨b, i, none⟩ = some v → W.cell? ⟨b, i, none⟩ = some v := fun W hW b i cs t v hB1 hne hv => (World.cell?_of_block (a := ⟨b, i, none⟩) (hW.block b cs t (0, 0) hB1 hne)).trans hv
      have l0 : ∀ W, KeepNot 5 w1.drew W → W.cell? ⟨r.d, 0, none⟩ = some (.slice (some ⟨g, 0, none⟩) r.fs.length r.lc) := fun W hW => hle W hW _ 0 _ _ _ (h.blk.old hb1) (by decide) b0
      obtain ⟨_, _, cur1, hcur1⟩ := (h.row.old hb1).block_lt HG.out
      refine wp_region_treeN 5 (.step 0 (.step 1 (.step 2 (.step 3 (.step 4 (.step 5 (.step 6 (.step 7 (.step 8 (.step 9 (.step 10 .done))))))))))) (by kernel_rfl) (by kernel_rfl) (fun c a d v w h => by cases d <;> exact h) ?_
      repeat (first | (refine tree_skip rfl (by rfl) ?_; simp only [Act.put, List.setIfInBounds_toArray, List.set]) | (refine tree_quiet (v := ?_) rfl rfl (by rfl) ?_ ?_; rotate_left; (intro W hW; go_simp); (try with_reducible rfl); simp only [Act.put, List.setIfInBounds_toArray, List.set]))
      refine tree_loud rfl rfl (by rfl) (fun K hK => ?_)
      refine wp_append_row (.tmp 46) (.tmp 47) 22 rfl bytesT rfl (hown1.drew) rfl (hl1.drew) (by rw [List.length_map, HL.out, Nat.mul_one]) (bv_one _) (by unfold maxLen; omega) (by omega) (by exact hz1) ?_
      intro a2 cc2 w2 hown2 hg2
      refine hK _ _ (KeepNot.grown hown1.drew hg2) ?_
      clear hK K l0 hle
      have hb2 : Below w'.heap.size w' w2 := hown1.drew.grown hb1.drew (Nat.le_refl _) hg2 hz1
      have hcur2 := hcur1.drew.keepNot (KeepNot.grown hown1.drew hg2) (by decide)
      have f2 := hcur2.free
      have s2 : w2.cell? ⟨g, k * 3 + 1, none⟩ = some (.slice f.a f.b.length f.c) := (hcur2.rule _).trans ((hcur1.rule _).symm.trans c1')
      have hlb : (f.b ++ l).length = f.b.length + len := by rw [List.length_append, HL.out]
      have HSTEP := Lib.hid (h.onlyB hB hk HG.out hb2 ⟨f.nm, a2, cc2, f.b ++ l, f.sure⟩ (by rw [HF.out]) (by rw [HF.out]) (by rw [hlb, List.map_append]; exact hown2) (by
        rw [RefR.p_set hk h.nd (fun q => { q with b := q.b ++ l }) _ (by rw [← HF.out]; rfl)]
        refine h.ok.upd _ _ (fun _ _ => rfl) (fun q hq hqn => ?_) (fun q hq hqn => ?_)
        · have := h.ok.sure q hq; simp; omega
        · obtain ⟨f', hf', rfl⟩ := List.mem_map.1 hq
          have e : f' = r.fs[k] := RefAt.same h hf' (List.getElem_mem hk) hqn
          show (f'.b ++ l).length ≤ maxFileN
          rw [e, ← HF.out, hlb]
          exact hsum))
      rw [hlb] at HSTEP
      repeat (first | (refine tree_skip rfl (by rfl) ?_; simp only [Act.put, List.setIfInBounds_toArray, List.set]) | (refine tree_quiet (v := ?_) rfl rfl (by rfl) ?_ ?_; rotate_left; (intro W hW; go_simp); (try with_reducible rfl); simp only [Act.put, List.setIfInBounds_toArray, List.set]))
      refine tree_store rfl rfl (by rfl) (fun K hK => ?_)
      go_wp2_with fail
      refine tree_done ?_
      have hgo := rgoes_any _ B _ HSTEP.out.at' (Nat.le_trans hB HSTEP.out.turn.size)
      clear s2 f2 c1' b0
      go_wp2_with fail
      refine hgo.mono ?_
      rintro e w4 ⟨rfl, hr4⟩
      obtain ⟨r4, hp4, hs4, _⟩ := hr4 HD.out
      have hpe : RefR.p { r with fs := r.fs.set k ⟨f.nm, a2, cc2, f.b ++ l, f.sure⟩ } = updP r.p nm (fun q => { q with b := q.b ++ l }) := by
        rw [RefR.p_set hk h.nd (fun q => { q with b := q.b ++ l }) _ (by rw [← HF.out]; rfl), ← HF.out, HN.out]
      go_wp2_with fail
      go_ret
      refine ⟨?_, r4, ?_, HSTEP.out.trans hs4⟩
      · rw [HR.out, ← hpe]; first | rfl | simp
      · rw [HR.out, ← hpe]; exact hp4
end Go.Proofs.Ytnojeiklgjhkgaa
