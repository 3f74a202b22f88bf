/- The walks through the document's disk, the last: Copy. -/
import Derived.Test.YtojmffpkaihmmaaRDName
namespace Go.Proofs.Ytojmffpkaihmmaa
open Go.RowKit Go.Maps
set_option linter.unusedVariables false
set_option linter.unusedSimpArgs false

/-- A file is put behind the others. -/
theorem RefAt.push {wA w2 : World} {B : Nat} {R : RefR} {f : FileQ} {a2 : Option Addr} {c2 : Nat} (h : RefAt wA B R) (hrow : Own w2 B 72 3 a2 (R.fs.length + 1) c2 (R.fs.flatMap fileCells ++ fileCells f)) (hg : wA.grownBy w2 (Value.slice R.la R.fs.length R.lc).ownBlock) (hf : Own wA B 5 1 f.a f.b.length f.c (f.b.map bv)) (hok : DiskOk (RefR.p { R with fs := R.fs ++ [f] })) :
    RefAt (w2.setCell ⟨R.d, 0, none⟩ (.slice a2 (R.fs.length + 1) c2)) B { R with fs := R.fs ++ [f], la := a2, lc := c2 } := by
  have off : ∀ {b : Nat} {cs : Array Value} {t : TypeId}, Blk wA b cs t → t ≠ 72 → w2.heap[b]? = wA.heap[b]? := fun hb hne => by
    refine hg.block _ hb.lt fun e => ?_
    cases hr : R.la with
    | none => rw [hr] at e; cases e
    | some ad =>
      rw [hr] at e
      obtain ⟨_, _, _, hc⟩ := h.row.block_lt hr
      exact Blk.ne hb hc hne (by simpa [Value.ownBlock] using e)
  have hk3 : ∀ x, x ≠ R.d → (w2.setCell ⟨R.d, 0, none⟩ (.slice a2 (R.fs.length + 1) c2)).heap[x]? = w2.heap[x]? := fun x hx => heap_setCell_other _ _ _ _ hx
  have hblk2 : Blk w2 R.d (refHead R) 51 := (off h.blk (by decide)).trans h.blk
  refine ⟨h.ged, ?_, ?_, fun q hq => ?_, ?_, hok⟩
  · have := hblk2.set 0 (.slice a2 (R.fs.length + 1) c2)
    unfold refHead at *
    simpa using this
  · have := hrow.setCell_apart hblk2 (by decide) 0 (.slice a2 (R.fs.length + 1) c2)
    simpa [fileCells] using this
  · have hq' : Own wA B 5 1 q.a q.b.length q.c (q.b.map bv) := by
      rcases List.mem_append.1 hq with hq | hq
      · exact h.files q hq
      · rw [List.mem_singleton.1 hq]; exact hf
    refine hq'.keepAt fun x hx => ?_
    obtain ⟨_, _, _, hc⟩ := hq'.block_lt hx
    exact (hk3 _ (Blk.ne hc h.blk (by decide))).trans (off hc (by decide))
  · refine h.plan.keepAt fun x hx => ?_
    obtain ⟨_, _, _, hc⟩ := h.plan.block_lt hx
    exact (hk3 _ (Blk.ne hc h.blk (by decide))).trans (off hc (by decide))
/-- Where Copy's loop stands. -/
structure CopyR (w : World) (r : RefR) (d0 j : Nat) (R : RefR) (wr : World) : Prop where
  at' : RefAt wr w.heap.size R
  d : R.d = d0
  p : Hid (R.p = { r.p with fs := r.p.fs.take j })
  len : R.fs.length = j
  below : Below w.heap.size w wr
set_option maxHeartbeats 4000000 in
set_option maxRecDepth 20000 in
theorem rcopy_any (w : World) (B : Nat) (r : RefR) (h : RefAt w B r) (hpl : r.plan.length * 24 ≤ 140737488355328) :
    Calls Try.prog 21 #[.pointer (some ⟨r.d, 0, none⟩)] w fun e w' => ∃ r', e = .returned (.pointer (some ⟨r'.d, 0, none⟩)) ∧ r'.p = r.p ∧ RefAt w' w.heap.size r' ∧ Below w.heap.size w w' := by
  have hb := h.blk.rule
  unfold refHead at hb
  have hcnt : r.fs.length ≤ 64 := by have := h.ok.count; simpa [RefR.p] using this
  have hz : r.d < w.heap.size := h.blk.lt
  go_enter Try.func21, Try.ntmps21
  go_upto_region 1 with (fail)
  have hl : ∀ W, Old w.drew W → ∀ i, W.cell? ⟨r.d, i, none⟩ = w.cell? ⟨r.d, i, none⟩ := fun W hW i => (hW : Below w.drew.heap.size _ W).cell (p := ⟨r.d, i, none⟩) hz
  have l1 : ∀ W, Old w.drew W → W.cell? ⟨r.d, 1, none⟩ = some (.bool r.down) := fun W hW => (hl W hW 1).trans (hb 1)
  have l2 : ∀ W, Old w.drew W → W.cell? ⟨r.d, 2, none⟩ = some (.bool r.armed) := fun W hW => (hl W hW 2).trans (hb 2)
  have l3 : ∀ W, Old w.drew W → W.cell? ⟨r.d, 3, none⟩ = some (.int .i64 r.left) := fun W hW => (hl W hW 3).trans (hb 3)
  have l4 : ∀ W, Old w.drew W → W.cell? ⟨r.d, 4, none⟩ = some (.slice r.pa r.plan.length r.pc) := fun W hW => (hl W hW 4).trans (hb 4)
  clear hl
  refine wp_region_treeR true Old Old.refl Old.trans (.step 0 (.step 1 (.step 2 (.step 3 (.step 4 (.step 5 (.step 6 (.step 7 (.step 8 (.step 9 (.step 10 (.step 11 (.step 12 (.step 13 (.step 14 (.step 15 (.step 16 (.step 17 (.step 18 (.step 19 .done)))))))))))))))))))) (by kernel_rfl) (by kernel_rfl) (fun c a d v w h => by cases d <;> exact h) ?_
  repeat (first | (refine tree_skip rfl (by rfl) ?_; simp only [Act.put, List.setIfInBounds_toArray, List.set]) | (refine tree_quiet (v := ?_) rfl rfl (by rfl) ?_ ?_; rotate_left; (intro W hW; go_simp); (try with_reducible rfl); simp only [Act.put, List.setIfInBounds_toArray, List.set]))
  refine tree_loud rfl rfl (by rfl) (fun K hK => ?_); go_wp2_with fail
  refine (rpieces_any r.pa r.plan.length r.pc r.plan w.drew (h.plan.row.keepAt fun _ _ => rfl) rfl hpl).mono ?_
  rintro e w1 ⟨pa, pc, rfl, hown1, hb1⟩
  go_wp2_with fail
  refine hK _ _ hb1 ?_
  clear hK K l1 l2 l3 l4
  repeat (first | (refine tree_skip rfl (by rfl) ?_; simp only [Act.put, List.setIfInBounds_toArray, List.set]) | (refine tree_quiet (v := ?_) rfl rfl (by rfl) ?_ ?_; rotate_left; (intro W hW; go_simp); (try with_reducible rfl); simp only [Act.put, List.setIfInBounds_toArray, List.set]))
  refine tree_loud rfl rfl (by rfl) (fun K hK => ?_); go_wp2_with fail
  have hbw1 : Below w.heap.size w w1 := below_step (Below.refl _ w).drew hb1
  have hz1 := hbw1.size
  obtain ⟨w2, hw2⟩ : ∃ w2, w2 = w1.alloc (.cells #[.slice none 0 0, .bool r.down, .bool r.armed, .int .i64 r.left, .slice pa r.plan.length pc] 51) := ⟨_, rfl⟩
  have hb12 : Below w1.heap.size w1 w2 := hw2 ▸ (Below.refl _ _).alloc (Nat.le_refl _) _
  have hb02 : Below w.heap.size w w2 := below_step hbw1 hb12
  have hst : CopyR w r w1.heap.size 0 ⟨w1.heap.size, none, 0, [], r.down, r.armed, r.left, pa, pc, r.plan⟩ w2 := by
    refine ⟨⟨hz1, ?_, Own.nil _ _ _ _, fun q hq => (by cases hq), ?_, h.ok.sub (List.nil_sublist _)⟩, rfl, Lib.hid rfl, rfl, hb02⟩
    · rw [hw2]; exact Blk.new _ _ _
    · exact hown1.old hb12
  rw [← hw2]
  refine hK _ _ hb12 ?_
  clear hK K hown1 hb1 hbw1 hb12 hw2
  repeat (first | (refine tree_skip rfl (by rfl) ?_; simp only [Act.put, List.setIfInBounds_toArray, List.set]) | (refine tree_quiet (v := ?_) rfl rfl (by rfl) ?_ ?_; rotate_left; (intro W hW; go_simp); (try with_reducible rfl); simp only [Act.put, List.setIfInBounds_toArray, List.set]))
  refine tree_done ?_
  go_wp2_with fail
  clear hb hb02
  go_loopg [4] r.fs.length (fun fu v4 wr => ∃ (j : Nat) (R : RefR), j + fu = r.fs.length ∧ v4 = .int .i64 (j : Int) ∧ CopyR w r w1.heap.size j R wr)
  case atStart => exact ⟨0, _, by omega, rfl, hst⟩
  case round =>
    clear hst
    obtain ⟨j, R, hj, rfl, hC⟩ := hrel
    have hr := h.old hC.below
    have hblk := hr.blk
    have hb := hblk.rule
    unfold refHead at hb
    have hzr : w.heap.size ≤ wr.heap.size := hC.below.size
    by_cases hlt : j < r.fs.length
    · obtain ⟨g, hg, c0, c1, c2⟩ := hr.elem j hlt
      have hfo := hr.files _ (List.getElem_mem hlt)
      have hsz : r.fs[j].b.length ≤ 1048576 := h.ok.size r.fs[j].p (List.mem_map.2 ⟨_, List.getElem_mem hlt, rfl⟩)
      have HT := Lib.hid (show r.p.fs.take (j + 1) = r.p.fs.take j ++ [r.fs[j].p] by
        have hjl : j < r.p.fs.length := by simpa [RefR.p] using hlt
        rw [List.take_succ_eq_append_getElem hjl]
        simp [RefR.p])
      obtain ⟨f, hf⟩ : ∃ f, f = r.fs[j] := ⟨_, rfl⟩
      rw [← hf] at c0 c1 c2 hfo hsz HT
      obtain ⟨gb1, gb2⟩ := h.row.block_lt hg
      have hgl : g < w.heap.size := gb2.1
      rw [hg] at hb
      have hl0 : wr.cell? ⟨r.d, 0, none⟩ = some (.slice (some ⟨g, 0, none⟩) r.fs.length r.lc) := hb 0
      have hdblk := hC.at'.blk
      rw [hC.d] at hdblk
      have hdl := hdblk.rule 0
      unfold refHead at hdl
      rw [hC.len] at hdl
      have hd0 : wr.cell? ⟨w1.heap.size, 0, none⟩ = some (.slice R.la j R.lc) := hdl
      clear hf gb1 gb2 hg hdl
      go_wp2_with fail
      clear hb
      obtain ⟨S, hS⟩ : ∃ S : Nat → Prop, S = fun x => x = r.d ∨ x = w1.heap.size ∨ x = g := ⟨_, rfl⟩
      have HS := Lib.hid hS
      have hSlt : ∀ x, S x → x < wr.heap.size := fun x hx => by
        rw [hS] at hx
        rcases hx with rfl | rfl | rfl
        · omega
        · exact hdblk.lt
        · omega
      clear hS
      have lS : ∀ W, KeepAt S wr.drew W → ∀ b i (v : Value), S b → wr.cell? ⟨b, i, none⟩ = some v → W.cell? ⟨b, i, none⟩ = some v := fun W hW b i v hb hv => (World.cell?_of_block (a := ⟨b, i, none⟩) (hW.2 b hb)).trans hv
      have m0 : ∀ W, KeepAt S wr.drew W → W.cell? ⟨r.d, 0, none⟩ = some (.slice (some ⟨g, 0, none⟩) r.fs.length r.lc) := fun W hW => lS W hW _ 0 _ (by rw [HS.out]; exact .inl rfl) hl0
      have m1 : ∀ W, KeepAt S wr.drew W → W.cell? ⟨w1.heap.size, 0, none⟩ = some (.slice R.la j R.lc) := fun W hW => lS W hW _ 0 _ (by rw [HS.out]; exact .inr (.inl rfl)) hd0
      have m2 : ∀ W, KeepAt S wr.drew W → W.cell? ⟨g, j * 3, none⟩ = some (.string f.nm) := fun W hW => lS W hW _ (j * 3) _ (by rw [HS.out]; exact .inr (.inr rfl)) c0
      have m3 : ∀ W, KeepAt S wr.drew W → W.cell? ⟨g, j * 3 + 1, none⟩ = some (.slice f.a f.b.length f.c) := fun W hW => lS W hW _ (j * 3 + 1) _ (by rw [HS.out]; exact .inr (.inr rfl)) c1
      have m4 : ∀ W, KeepAt S wr.drew W → W.cell? ⟨g, j * 3 + 2, none⟩ = some (.int .i64 (f.sure : Int)) := fun W hW => lS W hW _ (j * 3 + 2) _ (by rw [HS.out]; exact .inr (.inr rfl)) c2
      clear lS c0 c1 c2 hl0 hd0
      have hjI : (j : Int) < (r.fs.length : Int) := by omega
      refine wp_region_treeR true (KeepAt S) (KeepAt.refl _) (fun _ _ _ h1 h2 => KeepAt.trans h1 h2) (.step 0 (.step 1 (.step 2 (.step 3 (.step 4 (.step 5 (.step 6 (.step 7 (.step 8 (.step 9 (.step 10 (.step 11 (.step 12 (.step 13 (.step 14 (.step 15 (.step 16 (.step 17 (.step 18 (.step 19 (.step 20 (.step 22 (.step 23 (.step 24 (.step 25 (.step 26 (.step 27 (.step 28 (.step 29 (.step 21 (.step 30 (.step 31 (.step 32 (.step 33 (.step 34 (.step 35 .done)))))))))))))))))))))))))))))))))))) (by kernel_rfl) (by kernel_rfl) (fun c a d v w h => by cases d <;> exact h) ?_
      repeat (first | (refine tree_skip rfl (by rfl) ?_; simp only [Act.put, List.setIfInBounds_toArray, List.set]) | (refine tree_quiet (v := ?_) rfl rfl (by rfl) ?_ ?_; rotate_left; (intro W hW; go_simp); (try with_reducible rfl); simp only [Act.put, List.setIfInBounds_toArray, List.set]))
      refine tree_loud rfl rfl (by rfl) (fun K hK => ?_); go_wp2_with fail
      refine (rcopied_any f.a f.b.length f.c f.b wr.drew (hfo.row.keepAt fun _ _ => rfl) rfl (by omega)).mono ?_
      rintro e w3 ⟨a3, c3, rfl, hown3, hb3⟩
      go_wp2_with fail
      refine hK _ _ (KeepAt.below hb3 hSlt) ?_
      clear hK K m0 m1 m2 m3 m4
      repeat (first | (refine tree_skip rfl (by rfl) ?_; simp only [Act.put, List.setIfInBounds_toArray, List.set]) | (refine tree_quiet (v := ?_) rfl rfl (by rfl) ?_ ?_; rotate_left; (intro W hW; go_simp); (try with_reducible rfl); simp only [Act.put, List.setIfInBounds_toArray, List.set]))
      refine tree_loud rfl rfl (by rfl) (fun K hK => ?_); go_wp2_with fail
      have hb4 : Below wr.heap.size wr w3 := below_step (Below.refl _ _).drew hb3
      have hbA : Below w3.heap.size w3 (w3.alloc (.cells #[.string f.nm, .slice a3 f.b.length c3, .int .i64 (f.sure : Int)] 72)) := (Below.refl _ _).alloc (Nat.le_refl _) _
      have hbrA : Below wr.heap.size wr (w3.alloc (.cells #[.string f.nm, .slice a3 f.b.length c3, .int .i64 (f.sure : Int)] 72)) := below_step hb4 hbA
      have hz3 := hb4.size
      refine hK _ _ (KeepAt.below hbA fun x hx => Nat.lt_of_lt_of_le (hSlt x hx) hz3) ?_
      clear hK K
      repeat (first | (refine tree_skip rfl (by rfl) ?_; simp only [Act.put, List.setIfInBounds_toArray, List.set]) | (refine tree_quiet (v := ?_) rfl rfl (by rfl) ?_ ?_; rotate_left; (intro W hW; go_simp); (try with_reducible rfl); simp only [Act.put, List.setIfInBounds_toArray, List.set]))
      have hAt := hC.at'.old hbrA
      have hArow := hAt.row
      rw [hC.len] at hArow
      have hAblk := hAt.blk
      refine tree_loud rfl rfl (by rfl) (fun K hK => ?_)
      refine wp_append_row (.tmp 37) (.tmp 64) 49 rfl filesT rfl hArow rfl (RowAt.new' _ _ _ _ rfl) rfl (by exact all_one _ rfl) (by unfold maxLen; omega) (by omega) (Nat.le_trans hzr hbrA.size) ?_
      intro a5 c5 w5 hown5 hg5
      have hne : ∀ x, S x → some x ≠ (Value.slice R.la j R.lc).ownBlock := fun x hx e => by
        cases hla : R.la with
        | none => rw [hla] at e; cases e
        | some ad =>
          rw [hla] at e
          have e2 : x = ad.block := by simpa [Value.ownBlock] using e
          obtain ⟨q1, _, _, hc⟩ := hAt.row.block_lt hla
          rw [HS.out] at hx
          rcases hx with rfl | rfl | rfl
          · omega
          · rw [← hC.d] at e2
            exact Blk.ne hAblk hc (by decide) e2
          · omega
      have hka : KeepAt S (w3.alloc (.cells #[.string f.nm, .slice a3 f.b.length c3, .int .i64 (f.sure : Int)] 72)) w5 := ⟨hg5.size, fun x hx => hg5.block x (Nat.lt_of_lt_of_le (hSlt x hx) hbrA.size) (hne x hx)⟩
      refine hK _ _ hka ?_
      clear hK K
      have hd5 : Blk w5 w1.heap.size _ _ := (hka.2 w1.heap.size (by rw [HS.out]; exact .inr (.inl rfl))).trans (by rw [← hC.d]; exact hAblk)
      have hf5 := hd5.free
      have hr5 := hd5.rule 0
      unfold refHead at hr5
      have hfA : Own (w3.alloc (.cells #[.string f.nm, .slice a3 f.b.length c3, .int .i64 (f.sure : Int)] 72)) w.heap.size 5 1 a3 f.b.length c3 (f.b.map bv) := (hown3.old hbA).lower hzr
      have HNEXT := Lib.hid (hAt.push (f := ⟨f.nm, a3, c3, f.b, f.sure⟩) (a2 := a5) (c2 := c5) (by rw [hC.len]; exact hown5) (by rw [hC.len]; exact hg5) hfA (by
        have e : RefR.p { R with fs := R.fs ++ [⟨f.nm, a3, c3, f.b, f.sure⟩] } = { r.p with fs := r.p.fs.take (j + 1) } := by
          have e1 := hC.p.out
          have e2 : RefR.p { R with fs := R.fs ++ [⟨f.nm, a3, c3, f.b, f.sure⟩] } = { R.p with fs := R.p.fs ++ [f.p] } := by simp [RefR.p, FileQ.p]
          rw [e2, e1, HT.out]
        rw [e]
        exact h.ok.sub (List.take_sublist _ _)))
      have HP := Lib.hid (show RefR.p { R with fs := R.fs ++ [⟨f.nm, a3, c3, f.b, f.sure⟩], la := a5, lc := c5 } = { r.p with fs := r.p.fs.take (j + 1) } by
          have e1 := hC.p.out
          have e2 : RefR.p { R with fs := R.fs ++ [⟨f.nm, a3, c3, f.b, f.sure⟩], la := a5, lc := c5 } = { R.p with fs := R.p.fs ++ [f.p] } := by simp [RefR.p, FileQ.p]
          rw [e2, e1, HT.out])
      have HB5 := Lib.hid (show Below w.heap.size w w5 from hArow.grown (hC.below.trans (hbrA.mono hzr)) (Nat.le_refl _) hg5 (Nat.le_trans hzr hbrA.size))
      rw [hC.len, hC.d] at HNEXT
      have hzd : w.heap.size ≤ w1.heap.size := hz1
      clear hka hne hfA hbrA hbA hb4 hAt hArow hAblk hown5 hg5
      repeat (first | (refine tree_skip rfl (by rfl) ?_; simp only [Act.put, List.setIfInBounds_toArray, List.set]) | (refine tree_quiet (v := ?_) rfl rfl (by rfl) ?_ ?_; rotate_left; (intro W hW; go_simp); (try with_reducible rfl); simp only [Act.put, List.setIfInBounds_toArray, List.set]))
      refine tree_store rfl rfl (by rfl) (fun K hK => ?_); go_wp2_with fail; refine tree_done ?_
      go_wp2_with fail
      go_roundg (gk - 1)
      case measure => omega
      case rel =>
        refine ⟨j + 1, _, by omega, by go_num, ⟨HNEXT.out, rfl, HP, by simp [hC.len], ?_⟩⟩
        exact HB5.out.setCell hzd _
    · have hjl : j = r.fs.length := by omega
      subst hjl
      go_wp2_with fail
      go_ret
      refine ⟨R, by rw [hC.d]; rfl, ?_, hC.at', hC.below⟩
      rw [hC.p.out, List.take_of_length_le (by simp [RefR.p])]
end Go.Proofs.Ytojmffpkaihmmaa
