/- The walks through the document's disk: a crash, counting a call. -/
import Derived.Test.YtnojeiklgjhkgaaRDFind
namespace Go.Proofs.Ytnojeiklgjhkgaa
open Go.RowKit Go.Maps
set_option linter.unusedVariables false
set_option linter.unusedSimpArgs false

theorem keepN_int (plan : PlanP) (f : FileP) (h : f.sure ≤ f.b.length) : min (max (keepI plan f.name) 0) ((f.b.length : Int) - f.sure) = (keepN plan f : Int) := by
  unfold keepN
  by_cases ha : plan.any (fun x => x.1 = f.name) = true
  · rw [if_pos ha]; omega
  · rw [if_neg ha]
    have : keepI plan f.name = 0 := by
      unfold keepI
      have : plan.find? (fun x => x.1 = f.name) = none := by
        rw [List.find?_eq_none]
        intro x hx e
        exact ha (List.any_eq_true.2 ⟨x, hx, e⟩)
      rw [this]; rfl
    rw [this]; omega
theorem keepI_step (plan : PlanP) (nm : Name) (m : Nat) (hm : m < plan.length) : keepI (plan.drop m) nm = if plan[m].1 = nm then plan[m].2 else keepI (plan.drop (m + 1)) nm := by
  unfold keepI
  rw [List.drop_eq_getElem_cons hm, List.find?_cons]
  by_cases e : plan[m].1 = nm
  · rw [decide_eq_true e, if_pos e]; rfl
  · rw [decide_eq_false e, if_neg e]
theorem part_set {α : Type} (g : α → α) : ∀ (l : List α) (k : Nat) (hk : k < l.length), ((l.take k).map g ++ l.drop k).set k (g l[k]) = (l.take (k + 1)).map g ++ l.drop (k + 1)
  | x :: l, 0, _ => by simp
  | x :: l, k + 1, hk => by
    have := part_set g l k (by simpa using hk)
    simpa using this
theorem part_get {α : Type} (g : α → α) : ∀ (l : List α) (k : Nat) (hk : k < l.length), ((l.take k).map g ++ l.drop k)[k]? = some l[k]
  | x :: l, 0, _ => by simp
  | x :: l, k + 1, hk => by
    have := part_get g l k (by simpa using hk)
    simpa using this
/-- Where the outer loop stands. -/
structure CrR (w : World) (B : Nat) (r : RefR) (plan : PlanP) (k : Nat) (r' : RefR) (wr : World) : Prop where
  step : RStep B w r wr r'
  len : Hid (r'.fs.length = r.fs.length)
  p : Hid (r'.p.fs = (r.p.fs.take k).map (crashF plan) ++ r.p.fs.drop k)
  la : Hid (r'.la = r.la ∧ r'.lc = r.lc)
  tl : Turn (fun x => ∃ ad, r.la = some ad ∧ x = ad.block) w wr
  rest : Hid (r'.down = r.down ∧ r'.armed = r.armed ∧ r'.left = r.left ∧ r'.plan = r.plan ∧ r'.pa = r.pa ∧ r'.pc = r.pc)
theorem CrR.next {w wr w' : World} {B : Nat} {r r' : RefR} {plan : PlanP} {k : Nat} (h : CrR w B r plan k r' wr) (hk : k < r'.fs.length) (f : FileQ) (hf : f.p = crashF plan r'.fs[k].p) (ht : Turn (fun x => ∃ ad, r'.la = some ad ∧ x = ad.block) wr w') (hs : RStep B wr r' w' { r' with fs := r'.fs.set k f }) : CrR w B r plan (k + 1) { r' with fs := r'.fs.set k f } w' := by
  refine ⟨h.step.trans hs, Lib.hid (by simp [h.len.out]), Lib.hid ?_, Lib.hid h.la.out, h.tl.trans ht (fun x hx => .inl (by rw [h.la.out.1] at hx; exact hx)), Lib.hid h.rest.out⟩
  have hk2 : k < r.p.fs.length := by have := h.len.out; simp [RefR.p]; omega
  have e := h.p.out
  have ek : r'.p.fs[k]? = some r.p.fs[k] := by rw [e]; exact part_get _ _ _ hk2
  have ek2 : r'.fs[k].p = r.p.fs[k] := by
    have e3 : r'.p.fs[k]? = some r'.fs[k].p := by simp [RefR.p, hk]
    rw [e3] at ek
    exact Option.some.inj ek
  show (r'.fs.set k f).map (·.p) = _
  rw [List.map_set, hf, ek2, show r'.fs.map (·.p) = r'.p.fs from rfl, e]
  exact part_set _ _ _ hk2
theorem RStep.drewN {w wr : World} {B : Nat} {r r' : RefR} (h : RStep B w r wr r') (n : Nat) : RStep B w r (wr.drewN n) r' := ⟨h.turn.drewN n, h.at'.keep fun _ _ => rfl, h.foot', h.d⟩
theorem CrR.drewN {w wr : World} {B : Nat} {r r' : RefR} {plan : PlanP} {k : Nat} (h : CrR w B r plan k r' wr) (n : Nat) : CrR w B r plan k r' (wr.drewN n) := ⟨h.step.drewN n, h.len, h.p, h.la, h.tl.drewN n, h.rest⟩
theorem crash_ok {p : DiskP} (h : DiskOk p) (plan : PlanP) (nm : Name) : DiskOk (updP p nm (crashF plan)) :=
  h.upd nm (crashF plan) (fun f _ => rfl) (fun f hf _ => by rw [crashF_len plan f (h.sure f hf)]; exact Nat.le_refl _) (fun f hf _ => by rw [crashF_len plan f (h.sure f hf)]; exact Nat.le_trans (keepN_le plan f (h.sure f hf)) (h.size f hf))
set_option maxHeartbeats 4000000 in
set_option maxRecDepth 20000 in
theorem rcrash_any (w : World) (B : Nat) (r : RefR) (pa : Option Addr) (pn pc : Nat) (plan : PlanP) (h : RefAt w B r) (hB : B ≤ w.heap.size) (hp : RowAt w pa (plan.flatMap pieceV)) (hpn : plan.length = pn) (hpm : pn ≤ maxLen) (hpf : plan ≠ [] → ∀ ad, pa = some ad → ∀ ad', r.la = some ad' → ad.block ≠ ad'.block) :
    Calls Try.prog 45 #[.pointer (some ⟨r.d, 0, none⟩), .slice pa pn pc] w fun e w' => ∃ r', e = .returned (.int .i64 (crashAll r.p plan).2) ∧ r'.p = (crashAll r.p plan).1 ∧ RStep B w r w' r' := by
  have HP := Lib.hid hpn
  clear hpn
  unfold maxLen at hpm
  have hb := h.blk.rule
  unfold refHead at hb
  cases hdn : r.down with
  | true =>
    rw [hdn] at hb
    go_enter Try.func45, Try.ntmps45
    go_wp2_with fail
    go_ret
    refine ⟨r, ?_, ?_, RStep.refl h⟩
    · simp [crashAll, RefR.p, hdn]
    · simp [crashAll, RefR.p, hdn]
  | false =>
    rw [hdn] at hb
    have hcnt : r.fs.length ≤ 64 := by have := h.ok.count; simpa [RefR.p] using this
    go_enter Try.func45, Try.ntmps45
    go_wp2_with fail
    have hst : CrR w B r plan 0 r w := ⟨RStep.refl h, Lib.hid rfl, Lib.hid (by simp), Lib.hid ⟨rfl, rfl⟩, Turn.refl _ _, Lib.hid ⟨rfl, rfl, rfl, rfl, rfl, rfl⟩⟩
    have HD := Lib.hid hdn
    clear hb hdn
    go_loopg [5] r.fs.length (fun f i wr => ∃ (k : Nat) (r' : RefR), k + f = r.fs.length ∧ i = .int .i64 (k : Int) ∧ CrR w B r plan k r' wr)
    case atStart => exact ⟨0, r, by omega, rfl, hst⟩
    case round =>
      clear hst
      obtain ⟨k, r', hk, rfl, hC⟩ := hrel
      have ha := hC.step.at'
      have hd := hC.step.d
      have hb := ha.blk.rule
      unfold refHead at hb
      rw [hd] at hb
      have HLEN := Lib.hid hC.len.out
      by_cases hlt : k < r.fs.length
      · have hlt' : k < r'.fs.length := by rw [HLEN.out]; exact hlt
        obtain ⟨g, hg, c0, c1, c2⟩ := ha.elem k hlt'
        have hsu := ha.ok.sure r'.fs[k].p (List.mem_map.2 ⟨_, List.getElem_mem hlt', rfl⟩)
        have hsz : r'.fs[k].b.length ≤ 1048576 := ha.ok.size r'.fs[k].p (List.mem_map.2 ⟨_, List.getElem_mem hlt', rfl⟩)
        rw [hg, HLEN.out] at hb
        have HG := Lib.hid hg
        have HSU := Lib.hid hsu
        have HFN := Lib.hid (rfl : r'.fs[k] = r'.fs[k])
        clear hg hsu
        obtain ⟨f, hf⟩ : ∃ f, f = r'.fs[k] := ⟨_, rfl⟩
        rw [← hf] at c0 c1 c2 hsz
        have HF := Lib.hid hf
        have hfown := ha.files f (hf ▸ List.getElem_mem hlt')
        clear hf
        have hpw : RowAt wr pa (plan.flatMap pieceV) := by
          by_cases hne : plan = []
          · subst hne; exact RowAt.nil _ _
          · exact RowAt.turn hp hC.tl fun ad h1 ⟨ad', h2, h3⟩ => hpf hne ad h1 ad' h2 h3
        obtain ⟨gm, rfl⟩ : ∃ x, x = gk := ⟨_, rfl⟩
        go_wp2_with fail
        go_loopg [6, 7] pn (fun fu v6 v7 wx => (∃ nn, wx = wr.drewN nn) ∧ ∃ m : Nat, m = fu ∧ m ≤ pn ∧ v7 = .int .i64 ((m : Int) - 1) ∧ v6 = .int .i64 (keepI (plan.drop m) f.nm))
        case atStart => exact ⟨⟨0, rfl⟩, pn, rfl, Nat.le_refl _, rfl, by rw [← HP.out, List.drop_length]; rfl⟩
        case round =>
          obtain ⟨⟨nn, rfl⟩, m, rfl, hmn, rfl, rfl⟩ := hrel
          by_cases hm0 : m = 0
          · subst hm0
            have em : (((0 : Nat) : Int) - 1) = -1 := rfl
            rw [em, List.drop_zero]
            have hsu : f.sure ≤ f.b.length := by have := HSU.out; rw [← HF.out] at this; exact this
            have HKN := Lib.hid (show min (max (keepI plan f.nm) 0) ((f.b.length : Int) - (f.sure : Int)) = (keepN plan f.p : Int) from keepN_int plan f.p hsu)
            have hkl : f.sure + keepN plan f.p ≤ f.b.length := keepN_le plan f.p hsu
            go_upto_region 12 with (fail)
            go_cut [6] (fun v wx => v = .int .i64 (keepN plan f.p : Int) ∧ ∃ nq, wx = wr.drewN nq)
            case first =>
              go_quiet (fail)
              all_goals go_wp2_with fail
              all_goals
                go_meet
                case rel => exact ⟨by have := HKN.out; congr 1; omega, _, rfl⟩
            case rest =>
              obtain ⟨rfl, nq, rfl⟩ := hcut
              generalize hkn : keepN plan f.p = kn at *
              have HKN2 := Lib.hid hkn
              clear hkn HKN
              have hC0 := hC.drewN nq
              have hc1 : (wr.drewN nq).cell? ⟨g, k * 3 + 1, none⟩ = some (.slice f.a f.b.length f.c) := c1
              have hc2 : (wr.drewN nq).cell? ⟨g, k * 3 + 2, none⟩ = some (.int .i64 (f.sure : Int)) := c2
              have hfo : Own (wr.drewN nq) B 5 1 f.a f.b.length f.c (f.b.map bv) := hfown.keepAt fun _ _ => rfl
              clear hC ha hb c0 c1 c2 hfown hpw
              generalize wr.drewN nq = w0 at *
              have ha := hC0.step.at'
              have hb := ha.blk.rule
              unfold refHead at hb
              rw [hd, HG.out, HLEN.out] at hb
              have b0 : w0.cell? ⟨r.d, 0, none⟩ = some (.slice (some ⟨g, 0, none⟩) r.fs.length r'.lc) := hb 0
              obtain ⟨n8, hn8⟩ : ∃ n8, n8 = f.sure + kn := ⟨_, rfl⟩
              have e8 : (f.sure : Int) + (kn : Int) = (n8 : Int) := by omega
              have hcl : f.b.length ≤ f.c := hfo.le
              have hn8l : n8 ≤ f.b.length := by omega
              have HN8 := Lib.hid hn8
              clear hn8
              have hBr : B ≤ w0.heap.size := Nat.le_trans hB hC0.step.turn.size
              go_wp2_with fail
              clear e8 hkl
              have hcut := run_cut_to (P := Try.prog) (t := 22) Try.underlying22 (by kernel_rfl) f.a f.b.length f.c n8 (by omega)
              have hle : ∀ W, Old w0.drew W → ∀ b i (v : Value), w0.cell? ⟨b, i, none⟩ = some v → W.cell? ⟨b, i, none⟩ = some v := fun W hW b i v hv => ((hW : Below w0.drew.heap.size _ W).cell (p := ⟨b, i, none⟩) (World.block_lt_of_cell? w0 _ hv)).trans hv
              have l0 : ∀ W, Old w0.drew W → W.cell? ⟨r.d, 0, none⟩ = some (.slice (some ⟨g, 0, none⟩) r.fs.length r'.lc) := fun W hW => hle W hW _ 0 _ b0
              have l1 : ∀ W, Old w0.drew W → W.cell? ⟨g, k * 3 + 1, none⟩ = some (.slice f.a f.b.length f.c) := fun W hW => hle W hW _ (k * 3 + 1) _ hc1
              clear hle
              refine wp_region_treeR true Old Old.refl Old.trans (.step 0 (.step 1 (.step 2 (.step 3 (.step 4 (.step 5 (.step 6 (.step 7 (.step 8 (.step 9 (.step 10 (.step 11 (.step 12 (.step 13 (.step 14 (.step 15 (.step 16 (.step 17 (.step 18 .done))))))))))))))))))) (by kernel_rfl) (by kernel_rfl) (fun c a d v w h => by cases d <;> exact h) ?_
              repeat (first | (refine tree_skip rfl (by rfl) ?_; simp only [Act.put, List.setIfInBounds_toArray, List.set]) | (refine tree_quiet (v := ?_) rfl rfl (by rfl) ?_ ?_; rotate_left; (intro W hW; go_simp); (try with_reducible rfl); simp only [Act.put, List.setIfInBounds_toArray, List.set]))
              have hbt : BytesAt w0.drew f.a (f.b.take n8) := by
                have := (RowAt.take n8 hfo.row)
                rw [← List.map_take] at this
                exact this
              refine tree_loud rfl rfl (by rfl) (fun K hK => ?_); go_wp2_with fail
              refine (rcopied_any f.a n8 f.c (f.b.take n8) _ hbt (by rw [List.length_take]; omega) (by omega)).mono ?_
              rintro e w3 ⟨a3, c3, rfl, hown3, hb3⟩
              go_wp2_with fail
              refine hK _ _ hb3 ?_
              clear hK K l0 l1
              repeat (first | (refine tree_skip rfl (by rfl) ?_; simp only [Act.put, List.setIfInBounds_toArray, List.set]) | (refine tree_quiet (v := ?_) rfl rfl (by rfl) ?_ ?_; rotate_left; (intro W hW; go_simp); (try with_reducible rfl); simp only [Act.put, List.setIfInBounds_toArray, List.set]))
              have hb03 : Below w0.heap.size w0 w3 := below_step (Below.refl _ _).drew hb3
              have hlb : (f.b.take n8).length = n8 := by rw [List.length_take]; omega
              have hstep := ha.both hBr hlt' HG.out (w3 := w3) hb03 ⟨f.nm, a3, c3, f.b.take n8, n8⟩ (by rw [HF.out]) (by rw [hlb]; exact hown3) (by
                rw [RefR.p_set hlt' ha.nd (crashF plan) _ (by rw [← HF.out]; simp only [FileQ.p, crashF, HN8.out]; rw [← HKN2.out]; rfl)]
                exact crash_ok ha.ok plan _)
              rw [hlb] at hstep
              have HSTEP := Lib.hid hstep
              obtain ⟨_, _, cur3, hcur3⟩ := (ha.row.old (w' := w3) hb03).block_lt HG.out
              have f3 := hcur3.free
              have s3 : w3.cell? ⟨g, k * 3 + 1, none⟩ = some (.slice f.a f.b.length f.c) := (hb03.cell (p := ⟨g, k * 3 + 1, none⟩) (World.block_lt_of_cell? w0 _ hc1)).trans hc1
              clear hstep hlb
              have s4 : w3.cell? ⟨g, k * 3 + 2, none⟩ = some (.int .i64 (f.sure : Int)) := (hb03.cell (p := ⟨g, k * 3 + 2, none⟩) (World.block_lt_of_cell? w0 _ hc2)).trans hc2
              have hng : r.d ≠ g := by
                have := Blk.ne (ha.blk.old hb03) hcur3 (by decide)
                rw [hd] at this
                exact this
              have s5 : (w3.setCell ⟨g, k * 3 + 1, none⟩ (.slice a3 n8 c3)).cell? ⟨r.d, 0, none⟩ = some (.slice (some ⟨g, 0, none⟩) r.fs.length r'.lc) := (World.cell?_of_block (a := ⟨r.d, 0, none⟩) (heap_setCell_other w3 ⟨g, k * 3 + 1, none⟩ r.d _ hng)).trans ((hb03.cell (p := ⟨r.d, 0, none⟩) (World.block_lt_of_cell? w0 _ b0)).trans b0)
              refine tree_store rfl rfl (by rfl) (fun K hK => ?_); go_wp2_with fail; refine tree_done ?_
              go_wp2_with fail
              go_roundg (gm - 1)
              case measure => omega
              case rel =>
                refine ⟨k + 1, _, by omega, by go_num, hC0.next hlt' ⟨f.nm, a3, c3, f.b.take n8, n8⟩ ?_ HSTEP.out.2 HSTEP.out.1⟩
                rw [← HF.out]
                simp only [FileQ.p, crashF, HN8.out]
                rw [← HKN2.out]
                rfl
          · obtain ⟨j, rfl⟩ : ∃ j, m = j + 1 := ⟨m - 1, by omega⟩
            have em : (((j + 1 : Nat) : Int) - 1) = (j : Int) := by omega
            rw [em]
            have hjl : j < plan.length := by rw [HP.out]; omega
            obtain ⟨pb, po, rfl, _, hc⟩ := RowAt.elem (g := pieceV) (sz := 2) (fun _ => rfl) hpw (by omega) j hjl
            have p0 : wr.cell? ⟨pb, po + j * 2, none⟩ = some (.string plan[j].1) := hc 0 (show 0 < 2 by omega)
            have p1 : wr.cell? ⟨pb, po + j * 2 + 1, none⟩ = some (.int .i64 plan[j].2) := hc 1 (show 1 < 2 by omega)
            have HK := Lib.hid (keepI_step plan f.nm j hjl)
            clear hc
            have hjn : j < pn := by omega
            generalize plan[j] = x at *
            by_cases hx : x.1 = f.nm
            · have t0 : (x.1.toList == f.nm.toList) = true := by rw [beq_name]; simp [hx]
              have HX := Lib.hid hx
              clear hx
              go_wp2_with fail
              go_quiet (fail)
              go_wp2_with fail
              go_roundg j
              case measure => omega
              case rel => exact ⟨⟨_, rfl⟩, j, rfl, by omega, by go_num, by rw [HK.out, if_pos HX.out]⟩
            · have t0 : (x.1.toList == f.nm.toList) = false := by rw [beq_name]; simp [hx]
              have HX := Lib.hid hx
              clear hx
              go_wp2_with fail
              go_quiet (fail)
              go_wp2_with fail
              go_roundg j
              case measure => omega
              case rel => exact ⟨⟨_, rfl⟩, j, rfl, by omega, by go_num, by rw [HK.out, if_neg HX.out]⟩
      · have hke : k = r.fs.length := by omega
        have hfr := ha.blk.free
        rw [hd] at hfr
        have hblk := ha.blk
        rw [hd] at hblk
        have HC := Lib.hid hC
        rw [HLEN.out] at hb
        clear hC
        go_wp2_with fail
        go_ret
        obtain ⟨q1, q2, q3, q4, q5, q6⟩ := HC.out.rest.out
        have hpfs : r'.p.fs = r.p.fs.map (crashF plan) := by
          have := HC.out.p.out
          rw [hke, List.take_of_length_le (by simp [RefR.p]), List.drop_of_length_le (by simp [RefR.p]), List.append_nil] at this
          exact this
        have e1 : crashAll r.p plan = (crashP r.p plan, 0) := by unfold crashAll; rw [if_neg (by simp [RefR.p, HD.out])]
        have hset := ((ha.blk.set 1 (.bool true)).set 2 (.bool false))
        have hhead := ha.head (w' := (wr.setCell ⟨r'.d, 1, none⟩ (.bool true)).setCell ⟨r'.d, 2, none⟩ (.bool false)) { r' with down := true, armed := false } rfl rfl rfl rfl rfl rfl rfl ha.ok.left (by simpa [refHead] using hset) (fun x hx => (heap_setCell_other _ ⟨r'.d, 2, none⟩ x _ hx).trans (heap_setCell_other _ ⟨r'.d, 1, none⟩ x _ hx))
        refine ⟨{ r' with down := true, armed := false }, ?_, ?_, HC.out.step.trans ⟨?_, by rw [← hd]; exact hhead, fun x hx => .inl hx, rfl⟩⟩
        · rw [e1]; first | rfl | simp
        · rw [e1]
          show (⟨r'.fs.map (·.p), true, false, r'.left, r'.plan⟩ : DiskP) = _
          rw [show r'.fs.map (·.p) = r'.p.fs from rfl, hpfs, q3, q4]
          rfl
        · exact Turn.setCell (Turn.setCell (Turn.refl _ _) (x := ⟨r.d, 1, none⟩) (.inl (.inl hd.symm)) _) (x := ⟨r.d, 2, none⟩) (.inl (.inl hd.symm)) _
end Go.Proofs.Ytnojeiklgjhkgaa
