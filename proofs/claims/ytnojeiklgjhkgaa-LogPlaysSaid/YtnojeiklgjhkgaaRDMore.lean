/- The walks through the document's disk, on: Arm, Sync, Cut. -/
import Derived.Test.YtnojeiklgjhkgaaRDOps
namespace Go.Proofs.Ytnojeiklgjhkgaa
open Go.RowKit Go.Maps
set_option linter.unusedVariables false
set_option linter.unusedSimpArgs false

set_option maxHeartbeats 1000000 in
theorem rarm_any (w : World) (B : Nat) (r : RefR) (n : Int) (pa : Option Addr) (pn pc : Nat) (plan : PlanP) (h : RefAt w B r) (hB : B ≤ w.heap.size) (hn : n ≤ 9223372036854775807) (hp : RowAt w pa (plan.flatMap pieceV)) (hpn : plan.length = pn) (hpm : pn * 24 ≤ 140737488355328) (hpf : plan ≠ [] → ∀ ad, pa = some ad → ad.block ≠ r.d) :
    Calls Try.prog 49 #[.pointer (some ⟨r.d, 0, none⟩), .int .i64 n, .slice pa pn pc] w fun e w' => e = .returned (.int .i64 (armP r.p n plan).2) ∧ ∃ r', r'.p = (armP r.p n plan).1 ∧ RStep B w r w' r' := by
  have HP := Lib.hid hpn
  clear hpn
  have hb := h.blk.rule
  have hfr := h.blk.free
  unfold refHead at hb
  cases hdn : r.down with
  | true =>
    rw [hdn] at hb
    have HE := Lib.hid (show armP r.p n plan = (r.p, 5) by simp [armP, RefR.p, hdn])
    go_enter Try.func49, Try.ntmps49
    go_wp2_with fail
    go_ret
    exact ⟨by rw [HE.out]; rfl, r, by rw [HE.out], RStep.refl h⟩
  | false =>
    rw [hdn] at hb
    by_cases h0 : n < 0
    · have HE := Lib.hid (show armP r.p n plan = (r.p, 2) by simp [armP, RefR.p, hdn, h0])
      go_enter Try.func49, Try.ntmps49
      go_wp2_with fail
      go_ret
      exact ⟨by rw [HE.out]; rfl, r, by rw [HE.out], RStep.refl h⟩
    · have HE := Lib.hid (show armP r.p n plan = ({ r.p with armed := true, left := n, plan := plan }, 0) by simp [armP, RefR.p, hdn, h0])
      have hblk2 : Blk ((w.setCell ⟨r.d, 2, none⟩ (.bool true)).setCell ⟨r.d, 3, none⟩ (.int .i64 n)) r.d (refHead { r with armed := true, left := n }) 55 := by
        have := ((h.blk.set 2 (.bool true)).set 3 (.int .i64 n))
        unfold refHead
        exact this
      have hk2 : ∀ x, x ≠ r.d → ((w.setCell ⟨r.d, 2, none⟩ (.bool true)).setCell ⟨r.d, 3, none⟩ (.int .i64 n)).heap[x]? = w.heap[x]? := fun x hx => by
        rw [heap_setCell_other _ _ _ _ hx, heap_setCell_other _ _ _ _ hx]
      have h2 := h.head { r with armed := true, left := n } rfl rfl rfl rfl rfl rfl rfl ⟨by show 0 ≤ n; omega, hn⟩ hblk2 hk2
      have hp2 : RowAt ((w.setCell ⟨r.d, 2, none⟩ (.bool true)).setCell ⟨r.d, 3, none⟩ (.int .i64 n)) pa (plan.flatMap pieceV) := by
        by_cases hne : plan = []
        · subst hne; exact RowAt.nil _ _
        · exact hp.keepAt fun x hx => hk2 _ (hpf hne x hx)
      have hs2 : RStep B w r _ { r with armed := true, left := n } := ⟨Turn.setCell (Turn.setCell (Turn.refl _ _) (x := ⟨r.d, 2, none⟩) (.inl (.inl rfl)) _) (x := ⟨r.d, 3, none⟩) (.inl (.inl rfl)) _, h2, fun x hx => .inl hx, rfl⟩
      have HS2 := Lib.hid hs2
      clear hs2 hdn
      go_enter Try.func49, Try.ntmps49
      go_wp2_with fail
      refine (rpieces_any pa pn pc plan _ hp2 HP.out hpm).mono ?_
      rintro e w1 ⟨a', c', rfl, hown, hb1⟩
      have h1 := h2.old hb1
      have c0 := h1.blk.rule
      have c1 := h1.blk.free
      unfold refHead at c0
      clear hb hfr
      go_wp2_with fail
      go_ret
      have hblk : Blk (w1.setCell ⟨r.d, 4, none⟩ (.slice a' pn c')) r.d (refHead { r with armed := true, left := n, pa := a', pc := c', plan := plan }) 55 := by
        have := h1.blk.set 4 (.slice a' pn c')
        unfold refHead
        dsimp only
        rw [HP.out]
        exact this
      have hk : ∀ x, x ≠ r.d → (w1.setCell ⟨r.d, 4, none⟩ (.slice a' pn c')).heap[x]? = w1.heap[x]? := fun x hx => heap_setCell_other _ _ _ _ hx
      have ne : ∀ {b : Nat} {cs : Array Value} {t : TypeId}, Blk w1 b cs t → t ≠ 55 → b ≠ r.d := fun hb' ht => Blk.ne hb' h1.blk ht
      refine ⟨by rw [HE.out]; rfl, { r with armed := true, left := n, pa := a', pc := c', plan := plan }, by rw [HE.out]; rfl, HS2.out.trans ⟨?_, ?_, ?_, rfl⟩⟩
      · exact (Turn.of_below hb1).setCell (x := ⟨r.d, 4, none⟩) (.inl (.inl rfl)) _
      · refine ⟨h.ged, hblk, h1.row.keepAt fun x hx => hk _ ?_, fun f hf => (h1.files f hf).keepAt fun x hx => hk _ ?_, ?_, ⟨h.ok.names, h.ok.named, h.ok.sure, h.ok.size, h.ok.count, ⟨by show 0 ≤ n; omega, hn⟩⟩⟩
        · obtain ⟨_, _, _, hc⟩ := h1.row.block_lt hx
          exact ne hc (by decide)
        · obtain ⟨_, _, _, hc⟩ := (h1.files f hf).block_lt hx
          exact ne hc (by decide)
        · show Own _ B 87 2 a' plan.length c' (plan.flatMap pieceV)
          rw [HP.out]
          exact (hown.lower (Nat.le_trans hB HS2.out.turn.size)).keepAt fun x hx => hk _ (by
            obtain ⟨_, _, cur, hcur⟩ := hown.block_lt hx
            exact ne hcur (by decide))
      · rintro x (hx | hx | hx | ⟨ad, ha, rfl⟩)
        · exact .inl (.inl hx)
        · exact .inl (.inr (.inl hx))
        · exact .inl (.inr (.inr (.inl hx)))
        · exact .inr (hown.block_lt ha).1

/-- Where a file is looked for, and is there, what is asked of it. -/
theorem mayP_at {r : RefR} {nm : Name} {f : FileQ} (hd : r.down = false) (hf : findP r.p nm = some f.p) (g : FileP → DiskP × Int) : mayP r.p nm g = g f.p := by
  unfold mayP
  rw [if_neg (by simp [RefR.p, hd]), hf]
set_option maxHeartbeats 2000000 in
set_option maxRecDepth 20000 in
theorem rsync_any (w : World) (B : Nat) (r : RefR) (nm : Name) (h : RefAt w B r) (hB : B ≤ w.heap.size) :
    Calls Try.prog 63 #[.pointer (some ⟨r.d, 0, none⟩), .string nm] w fun e w' => e = .returned (.int .i64 (syncP r.p nm).2) ∧ ∃ r', r'.p = (syncP r.p nm).1 ∧ RStep B w r w' r' := by
  have hat := rat_any w B r nm h
  have hcnt : r.fs.length ≤ 64 := by have := h.ok.count; simpa [RefR.p] using this
  rcases at_cases r nm with ⟨hd, h1, h2⟩ | ⟨hd, h0, h1, h2, h3⟩ | ⟨k, hk, hd, h0, h1, h2, h3⟩
  · rw [h1, h2] at hat
    have HR := Lib.hid (show syncP r.p nm = (r.p, 5) by unfold syncP mayP; rw [if_pos (show r.p.down = true from hd)])
    clear h1 h2 hd
    go_enter Try.func63, Try.ntmps63
    go_wp2_with fail
    refine hat.mono ?_
    rintro e w' ⟨rfl, rfl⟩
    go_wp2_with fail
    go_ret
    exact ⟨by rw [HR.out]; first | rfl | simp, r, by rw [HR.out], RStep.refl h⟩
  · rw [h1, h2] at hat
    have HR := Lib.hid (show syncP r.p nm = (r.p, 4) by unfold syncP mayP; rw [if_neg (by simp [RefR.p, hd]), h3])
    clear h0 h1 h2 h3 hd
    go_enter Try.func63, Try.ntmps63
    go_wp2_with fail
    refine hat.mono ?_
    rintro e w' ⟨rfl, rfl⟩
    go_wp2_with fail
    go_ret
    exact ⟨by rw [HR.out]; first | rfl | simp, r, by rw [HR.out], RStep.refl h⟩
  · rw [h1, h2] at hat
    have HR := Lib.hid (show syncP r.p nm = if (goesP r.p).2 = 0 then (updP (goesP r.p).1 nm fun f => { f with sure := f.b.length }, 0) else goesP r.p by unfold syncP; rw [mayP_at hd h3])
    have hgo := rgoes_any w B r h hB
    have HD := Lib.hid hd
    have HN := Lib.hid h0
    clear h0 h1 h2 h3 hd
    go_enter Try.func63, Try.ntmps63
    go_wp2_with fail
    refine hat.mono ?_
    rintro e w' ⟨rfl, rfl⟩
    go_wp2_with fail
    refine hgo.mono ?_
    rintro e w1 ⟨rfl, hr⟩
    obtain ⟨r1, hp1, hs1, hz1⟩ := hr HD.out
    clear hr
    have HP1 := Lib.hid hp1
    clear hp1
    by_cases hv : (goesP r.p).2 = 0
    · obtain ⟨e1, e2, e3⟩ := hz1 hv
      rw [hv]
      clear hz1
      have HV := Lib.hid hv
      clear hv
      have ha := hs1.at'
      have hk1 : k < r1.fs.length := by rw [e1]; exact hk
      obtain ⟨g, hg, c0, c1, c2⟩ := ha.elem k hk1
      have HE1 := Lib.hid e1
      have hbd : w1.cell? ⟨r.d, 0, none⟩ = some (.slice (some ⟨g, 0, none⟩) r.fs.length r1.lc) := by
        have := ha.blk.rule 0
        unfold refHead at this
        rw [hs1.d, hg, e1] at this
        exact this
      have hfi := ha.files _ (List.getElem_mem hk1)
      have hsz : r1.fs[k].b.length ≤ 1048576 := ha.ok.size r1.fs[k].p (List.mem_map.2 ⟨_, List.getElem_mem hk1, rfl⟩)
      have hnm1 : r1.fs[k].nm = nm := by rw [← HN.out]; simp only [e1]
      have hpe : RefR.p { r1 with fs := r1.fs.set k { r1.fs[k] with sure := r1.fs[k].b.length } } = updP r1.p nm (fun q => { q with sure := q.b.length }) := by
        rw [RefR.p_set hk1 ha.nd (fun q => { q with sure := q.b.length }) _ rfl, hnm1]
      have HPE := Lib.hid hpe
      have HON := Lib.hid (ha.onlySure hk1 hg r1.fs[k].b.length (by
        rw [hpe]
        refine ha.ok.upd _ _ (fun _ _ => rfl) (fun q hq hqn => Nat.le_refl _) (fun q hq hqn => ha.ok.size q hq)))
      clear hpe hnm1 e1 e2 e3 c0
      obtain ⟨_, _, cur, hcur⟩ := ha.row.block_lt hg
      have hfr := hcur.free
      have HG := Lib.hid hg
      clear hg
      obtain ⟨f, hf⟩ : ∃ f, f = r1.fs[k] := ⟨_, rfl⟩
      rw [← hf] at c1 c2 hfi hsz
      have c2' : w1.drew.cell? ⟨g, k * 3 + 2, none⟩ = some (.int .i64 (f.sure : Int)) := c2
      have HF := Lib.hid hf
      clear hf
      go_wp2_with fail
      have l0 : ∀ W, Old w1.drew W → W.cell? ⟨r.d, 0, none⟩ = some (.slice (some ⟨g, 0, none⟩) r.fs.length r1.lc) := fun W hW => ((hW : Below w1.drew.heap.size _ W).cell (p := ⟨r.d, 0, none⟩) (World.block_lt_of_cell? w1 _ hbd)).trans hbd
      have l1 : ∀ W, Old w1.drew W → W.cell? ⟨g, k * 3 + 1, none⟩ = some (.slice f.a f.b.length f.c) := fun W hW => ((hW : Below w1.drew.heap.size _ W).cell (p := ⟨g, k * 3 + 1, none⟩) (World.block_lt_of_cell? w1 _ c1)).trans c1
      have f0 : ∀ i, w1.drew.frozen? ⟨g, i, none⟩ = false := hfr
      refine wp_region_treeR true Old Old.refl Old.trans (.step 0 (.step 1 (.step 2 (.step 3 (.step 4 (.step 5 (.step 6 (.step 7 (.step 8 (.step 9 (.step 10 (.step 11 (.step 12 (.step 13 (.step 14 (.step 15 (.step 16 .done))))))))))))))))) (by kernel_rfl) (by kernel_rfl) (fun c a d v w h => by cases d <;> exact h) ?_
      repeat (first | (refine tree_skip rfl (by rfl) ?_; simp only [Act.put, List.setIfInBounds_toArray, List.set]) | (refine tree_quiet (v := ?_) rfl rfl (by rfl) ?_ ?_; rotate_left; (intro W hW; go_simp); (try with_reducible rfl); simp only [Act.put, List.setIfInBounds_toArray, List.set]))
      refine tree_store rfl rfl (by rfl) (fun K hK => ?_); go_wp2_with fail; refine tree_done ?_
      go_wp2_with fail
      go_ret
      have hpe2 : RefR.p { r1 with fs := r1.fs.set k { f with sure := f.b.length } } = updP r1.p nm (fun q => { q with sure := q.b.length }) := by
        have := HPE.out
        rw [← HF.out] at this
        exact this
      have hL : RStep B w1 r1 (w1.setCell ⟨g, k * 3 + 2, none⟩ (.int .i64 (f.b.length : Int))) { r1 with fs := r1.fs.set k { f with sure := f.b.length } } := by
        have := HON.out
        rw [← HF.out] at this
        exact this
      refine ⟨by rw [HR.out, if_pos HV.out]; first | rfl | simp, { r1 with fs := r1.fs.set k { f with sure := f.b.length } }, ?_, hs1.trans ⟨hL.turn.drewN 1, hL.at'.keep fun _ _ => rfl, hL.foot', hL.d⟩⟩
      rw [HR.out, if_pos HV.out, hpe2, HP1.out]
    · have t0 : decide ((goesP r.p).2 = 0) = false := by simpa using hv
      have HV := Lib.hid hv
      clear hz1
      obtain ⟨v, hve⟩ : ∃ v, v = (goesP r.p).2 := ⟨_, rfl⟩
      rw [← hve] at hv ⊢
      have HVE := Lib.hid hve
      clear hve t0
      go_wp2_with fail
      go_ret
      refine ⟨?_, r1, ?_, hs1⟩
      · rw [HR.out, if_neg HV.out, ← HVE.out]; first | rfl | simp
      · rw [HR.out, if_neg HV.out, HP1.out]
set_option maxHeartbeats 2000000 in
set_option maxRecDepth 20000 in
theorem rcut_any (w : World) (B : Nat) (r : RefR) (nm : Name) (n : Int) (h : RefAt w B r) (hB : B ≤ w.heap.size) :
    Calls Try.prog 62 #[.pointer (some ⟨r.d, 0, none⟩), .string nm, .int .i64 n] w fun e w' => e = .returned (.int .i64 (cutP r.p nm n).2) ∧ ∃ r', r'.p = (cutP r.p nm n).1 ∧ RStep B w r w' r' := by
  have hat := rat_any w B r nm h
  have hb := h.blk.rule
  unfold refHead at hb
  have hcnt : r.fs.length ≤ 64 := by have := h.ok.count; simpa [RefR.p] using this
  rcases at_cases r nm with ⟨hd, h1, h2⟩ | ⟨hd, h0, h1, h2, h3⟩ | ⟨k, hk, hd, h0, h1, h2, h3⟩
  · rw [h1, h2] at hat
    have HR := Lib.hid (show cutP r.p nm n = (r.p, 5) by unfold cutP mayP; rw [if_pos (show r.p.down = true from hd)])
    clear h1 h2 hd
    go_enter Try.func62, Try.ntmps62
    go_wp2_with fail
    refine hat.mono ?_
    rintro e w' ⟨rfl, rfl⟩
    go_wp2_with fail
    go_ret
    exact ⟨by rw [HR.out]; first | rfl | simp, r, by rw [HR.out], RStep.refl h⟩
  · rw [h1, h2] at hat
    have HR := Lib.hid (show cutP r.p nm n = (r.p, 4) by unfold cutP mayP; rw [if_neg (by simp [RefR.p, hd]), h3])
    clear h0 h1 h2 h3 hd
    go_enter Try.func62, Try.ntmps62
    go_wp2_with fail
    refine hat.mono ?_
    rintro e w' ⟨rfl, rfl⟩
    go_wp2_with fail
    go_ret
    exact ⟨by rw [HR.out]; first | rfl | simp, r, by rw [HR.out], RStep.refl h⟩
  · rw [h1, h2] at hat
    obtain ⟨g, hg, c0, c1, c2⟩ := h.elem k hk
    have hfo := h.files _ (List.getElem_mem hk)
    have hsz : r.fs[k].b.length ≤ 1048576 := h.ok.size r.fs[k].p (List.mem_map.2 ⟨_, List.getElem_mem hk, rfl⟩)
    have HR := Lib.hid (show cutP r.p nm n = if n < 0 ∨ (r.fs[k].b.length : Int) < n then (r.p, 2) else (updP r.p nm fun f => { f with b := f.b.take n.toNat, sure := n.toNat }, 0) by unfold cutP; rw [mayP_at hd h3]; rfl)
    obtain ⟨f, hf⟩ : ∃ f, f = r.fs[k] := ⟨_, rfl⟩
    rw [← hf] at c0 c1 c2 hfo hsz h0 HR
    have HF := Lib.hid hf
    have HN := Lib.hid h0
    have HD := Lib.hid hd
    have HG := Lib.hid hg
    rw [hg] at hb
    clear h0 h1 h2 h3 hd hf hg c0
    by_cases hn0 : n < 0
    · have HR2 := Lib.hid (show cutP r.p nm n = (r.p, 2) by rw [HR.out]; exact if_pos (.inl hn0))
      go_enter Try.func62, Try.ntmps62
      go_wp2_with fail
      refine hat.mono ?_
      rintro e w' ⟨rfl, rfl⟩
      go_wp2_with fail
      go_ret
      exact ⟨by rw [HR2.out]; first | rfl | simp, r, by rw [HR2.out], RStep.refl h⟩
    · by_cases hn1 : (f.b.length : Int) < n
      · have HR2 := Lib.hid (show cutP r.p nm n = (r.p, 2) by rw [HR.out]; exact if_pos (.inr hn1))
        go_enter Try.func62, Try.ntmps62
        go_wp2_with fail
        refine hat.mono ?_
        rintro e w' ⟨rfl, rfl⟩
        go_wp2_with fail
        go_ret
        exact ⟨by rw [HR2.out]; first | rfl | simp, r, by rw [HR2.out], RStep.refl h⟩
      · obtain ⟨n8, rfl⟩ : ∃ n8 : Nat, n = (n8 : Int) := ⟨n.toNat, by omega⟩
        have hn8l : n8 ≤ f.b.length := by omega
        have HR2 := Lib.hid (show cutP r.p nm (n8 : Int) = (updP r.p nm fun f => { f with b := f.b.take n8, sure := n8 }, 0) by rw [HR.out]; exact if_neg (by omega))
        clear hn0 HR
        have hcl : f.b.length ≤ f.c := hfo.le
        go_enter Try.func62, Try.ntmps62
        go_wp2_with fail
        refine hat.mono ?_
        rintro e w' ⟨rfl, rfl⟩
        have b0 : w'.cell? ⟨r.d, 0, none⟩ = some (.slice (some ⟨g, 0, none⟩) r.fs.length r.lc) := hb 0
        have hcut := run_cut_to (P := Try.prog) (t := 22) Try.underlying22 (by kernel_rfl) f.a f.b.length f.c n8 (by omega)
        clear hb
        go_wp2_with fail
        have hle : ∀ W, Old w'.drew W → ∀ b i (v : Value), w'.cell? ⟨b, i, none⟩ = some v → W.cell? ⟨b, i, none⟩ = some v := fun W hW b i v hv => ((hW : Below w'.drew.heap.size _ W).cell (p := ⟨b, i, none⟩) (World.block_lt_of_cell? w' _ hv)).trans hv
        have l0 : ∀ W, Old w'.drew W → W.cell? ⟨r.d, 0, none⟩ = some (.slice (some ⟨g, 0, none⟩) r.fs.length r.lc) := fun W hW => hle W hW _ 0 _ b0
        have l1 : ∀ W, Old w'.drew W → W.cell? ⟨g, k * 3 + 1, none⟩ = some (.slice f.a f.b.length f.c) := fun W hW => hle W hW _ (k * 3 + 1) _ c1
        clear hle
        refine wp_region_treeR true Old Old.refl Old.trans (.step 0 (.step 1 (.step 2 (.step 3 (.step 4 (.step 5 (.step 6 (.step 7 (.step 8 (.step 9 (.step 10 (.step 11 (.step 12 (.step 13 (.step 14 (.step 15 (.step 16 (.step 17 (.step 18 .done))))))))))))))))))) (by kernel_rfl) (by kernel_rfl) (fun c a d v w h => by cases d <;> exact h) ?_
        repeat (first | (refine tree_skip rfl (by rfl) ?_; simp only [Act.put, List.setIfInBounds_toArray, List.set]) | (refine tree_quiet (v := ?_) rfl rfl (by rfl) ?_ ?_; rotate_left; (intro W hW; go_simp); (try with_reducible rfl); simp only [Act.put, List.setIfInBounds_toArray, List.set]))
        have hbt : BytesAt w'.drew f.a (f.b.take n8) := by
          have := (RowAt.take n8 hfo.row)
          rw [← List.map_take] at this
          exact this
        refine tree_loud rfl rfl (by rfl) (fun K hK => ?_); go_wp2_with fail
        refine (rcopied_any f.a n8 f.c (f.b.take n8) _ hbt (by rw [List.length_take]; omega) (by omega)).mono ?_
        rintro e w3 ⟨a3, c3, rfl, hown3, hb3⟩
        go_wp2_with fail
        refine hK _ _ hb3 ?_
        clear hK K l0 l1
        repeat (first | (refine tree_skip rfl (by rfl) ?_; simp only [Act.put, List.setIfInBounds_toArray, List.set]) | (refine tree_quiet (v := ?_) rfl rfl (by rfl) ?_ ?_; rotate_left; (intro W hW; go_simp); (try with_reducible rfl); simp only [Act.put, List.setIfInBounds_toArray, List.set]))
        have hb03 : Below w'.heap.size w' w3 := below_step (Below.refl _ _).drew hb3
        have hlb : (f.b.take n8).length = n8 := by rw [List.length_take]; omega
        have hpe : RefR.p { r with fs := r.fs.set k ⟨f.nm, a3, c3, f.b.take n8, n8⟩ } = updP r.p nm (fun q => { q with b := q.b.take n8, sure := n8 }) := by
          rw [RefR.p_set hk h.nd (fun q => { q with b := q.b.take n8, sure := n8 }) _ (by rw [← HF.out]; rfl), ← HF.out, HN.out]
        have hstep := h.both hB hk HG.out (w3 := w3) hb03 ⟨f.nm, a3, c3, f.b.take n8, n8⟩ (by rw [HF.out]) (by rw [hlb]; exact hown3) (by
          rw [hpe]
          refine h.ok.upd _ _ (fun _ _ => rfl) (fun q hq hqn => ?_) (fun q hq hqn => ?_)
          · obtain ⟨f', hf', rfl⟩ := List.mem_map.1 hq
            have e : f' = r.fs[k] := RefAt.same h hf' (List.getElem_mem hk) (by rw [← HF.out, HN.out]; exact hqn)
            show n8 ≤ (f'.b.take n8).length
            rw [e, ← HF.out, hlb]
            exact Nat.le_refl _
          · have := h.ok.size q hq
            show (q.b.take n8).length ≤ _
            rw [List.length_take]
            omega)
        rw [hlb] at hstep
        have HSTEP := Lib.hid hstep
        have HPE := Lib.hid hpe
        obtain ⟨_, _, cur3, hcur3⟩ := (h.row.old (w' := w3) hb03).block_lt HG.out
        have f3 := hcur3.free
        have s3 : w3.cell? ⟨g, k * 3 + 1, none⟩ = some (.slice f.a f.b.length f.c) := (hb03.cell (p := ⟨g, k * 3 + 1, none⟩) (World.block_lt_of_cell? w' _ c1)).trans c1
        have s4 : w3.cell? ⟨g, k * 3 + 2, none⟩ = some (.int .i64 (f.sure : Int)) := (hb03.cell (p := ⟨g, k * 3 + 2, none⟩) (World.block_lt_of_cell? w' _ c2)).trans c2
        clear hstep hlb hpe
        have hng : r.d ≠ g := Blk.ne (h.blk.old hb03) hcur3 (by decide)
        have s5 : (w3.setCell ⟨g, k * 3 + 1, none⟩ (.slice a3 n8 c3)).cell? ⟨r.d, 0, none⟩ = some (.slice (some ⟨g, 0, none⟩) r.fs.length r.lc) := (World.cell?_of_block (a := ⟨r.d, 0, none⟩) (heap_setCell_other w3 ⟨g, k * 3 + 1, none⟩ r.d _ hng)).trans ((hb03.cell (p := ⟨r.d, 0, none⟩) (World.block_lt_of_cell? w' _ b0)).trans b0)
        refine tree_store rfl rfl (by rfl) (fun K hK => ?_); go_wp2_with fail; refine tree_done ?_
        go_wp2_with fail
        go_ret
        exact ⟨by rw [HR2.out]; first | rfl | simp, _, by rw [HR2.out]; exact HPE.out, HSTEP.out.1⟩
end Go.Proofs.Ytnojeiklgjhkgaa
