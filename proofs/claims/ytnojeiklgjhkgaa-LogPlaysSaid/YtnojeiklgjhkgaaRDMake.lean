/- The walks through the document's disk, on: put, Make, Remove, Rename. -/
import Derived.Test.YtnojeiklgjhkgaaRDPut
namespace Go.Proofs.Ytnojeiklgjhkgaa
open Go.RowKit Go.Maps
set_option linter.unusedVariables false
set_option linter.unusedSimpArgs false

/-- Where put's loop stands, behind the append. -/
structure PutR (w1 : World) (B : Nat) (r1 : RefR) (l : List FileQ) (f : FileQ) (g c i : Nat) (wr : World) : Prop where
  row : Own wr B 101 3 (some ⟨g, 0, none⟩) (l.length + 1) c ((insAt l f i).flatMap fileCells)
  turn : Turn (fun x => x = g) w1 wr
  more : ∀ j (hj : j < l.length), i ≤ j → lessN f.nm l[j].nm = true
theorem PutR.at {w1 wr : World} {B : Nat} {r1 : RefR} {l : List FileQ} {f : FileQ} {g c i : Nat} (h : PutR w1 B r1 l f g c i wr) (h1 : RefAt w1 B r1) (hl : r1.fs = l ++ [f]) (hg : r1.la = some ⟨g, 0, none⟩) (hc : r1.lc = c) : RefAt wr B { r1 with fs := insAt l f i } := by
  have hx : ∃ cur, Blk w1 g cur 101 := by
    obtain ⟨_, _, cur, hc⟩ := h1.row.block_lt hg
    exact ⟨cur, hc⟩
  obtain ⟨cur, hcur⟩ := hx
  have off : ∀ {b : Nat} {cs : Array Value} {t : TypeId}, Blk w1 b cs t → t ≠ 101 → wr.heap[b]? = w1.heap[b]? := fun hb hne => h.turn.block _ hb.lt (Blk.ne hb hcur hne)
  have hlen : r1.fs.length = l.length + 1 := by rw [hl]; simp
  have hp : (insAt l f i).Perm r1.fs := by rw [hl]; exact insAt_perm l f i
  refine ⟨h1.ged, (off h1.blk (by decide)).trans ?_, ?_, fun q hq => ?_, ?_, ?_⟩
  · have := h1.blk
    unfold Blk refHead at *
    rw [this]
    simp [insAt_len, hlen]
  · show Own wr B 101 3 r1.la (insAt l f i).length r1.lc ((insAt l f i).flatMap fileCells)
    rw [hg, insAt_len, hc]
    exact h.row
  · have hq' : q ∈ r1.fs := hp.mem_iff.1 hq
    refine (h1.files q hq').keepAt fun x hx => ?_
    obtain ⟨_, _, cur, hc⟩ := (h1.files q hq').block_lt hx
    exact off hc (by decide)
  · refine h1.plan.keepAt fun x hx => ?_
    obtain ⟨_, _, cur, hc⟩ := h1.plan.block_lt hx
    exact off hc (by decide)
  · exact h1.ok.perm (p := r1.p) (hp.map FileQ.p)
theorem PutR.old {w1 wr w' : World} {B : Nat} {r1 : RefR} {l : List FileQ} {f : FileQ} {g c i : Nat} (h : PutR w1 B r1 l f g c i wr) (hb : Below wr.heap.size wr w') : PutR w1 B r1 l f g c i w' := ⟨h.row.old hb, h.turn.trans (Turn.of_below (F := fun x => x = g) hb) (fun _ hk => .inl hk), h.more⟩
theorem splice3 (old : Array Value) (k : Nat) (a b c : Value) (hk : k + 3 ≤ old.size) : (splice old k #[a, b, c]).toList = ((old.toList.set k a).set (k + 1) b).set (k + 2) c := by
  have hl : old.toList.length = old.size := Array.length_toList
  have hd : (old.toList.drop k).length = old.size - k := by rw [List.length_drop, hl]
  have e1 : old.toList = old.toList.take k ++ old.toList.drop k := (List.take_append_drop _ _).symm
  have hA : (old.toList.take k).length = k := by rw [List.length_take, hl]; omega
  have e3 : old.toList.drop (k + 3) = (old.toList.drop k).drop 3 := by rw [List.drop_drop]
  unfold splice
  show old.toList.take k ++ [a, b, c] ++ old.toList.drop (k + 3) = _
  rw [e3]
  generalize hD : old.toList.drop k = D at *
  generalize old.toList.take k = A at *
  rw [e1]
  match D, hd with
  | x :: y :: z :: R, _ =>
    subst hA
    rw [List.set_append_right _ _ (by omega), List.set_append_right _ _ (by omega), List.set_append_right _ _ (by omega)]
    simp
  | [], hd => simp at hd; omega
  | [_], hd => simp at hd; omega
  | [_, _], hd => simp at hd; omega
theorem Own.store3 {w : World} {B g n c : Nat} {fs : List FileQ} {old : Array Value} (h : Own w B 101 3 (some ⟨g, 0, none⟩) n c (fs.flatMap fileCells)) (hB : Blk w g old 101) (k : Nat) (hk : k < fs.length) (q : FileQ) :
    Own (w.setRow g (splice old (k * 3) #[.string q.nm, .slice q.a q.b.length q.c, .int .i64 (q.sure : Int)])) B 101 3 (some ⟨g, 0, none⟩) n c ((fs.set k q).flatMap fileCells) ∧ k * 3 + 3 ≤ old.size := by
  have hn := h.1
  rw [files_len] at hn
  have hn2 : fs.length = n := by omega
  rcases h.2 with ⟨h0, h1⟩ | ⟨g', cap, cur, h0, hBg, hg, hnc, hm, hs, ht⟩
  · simp at h0
  · simp only [Value.slice.injEq, Option.some.injEq, Addr.mk.injEq] at h0
    obtain ⟨⟨rfl, -⟩, -, rfl⟩ := h0
    have e : cur = old := by
      have := (show w.heap[g]? = _ from hg).symm.trans hB
      simpa using this
    subst e
    have hle : k * 3 + 3 ≤ cur.size := by omega
    refine ⟨⟨by rw [files_len, List.length_set]; exact hn, .inr ⟨g, c, _, rfl, hBg, hB.setRow _, hnc, hm, ?_, ?_⟩⟩, hle⟩
    · have := congrArg List.length (splice3 cur (k * 3) (.string q.nm) (.slice q.a q.b.length q.c) (.int .i64 (q.sure : Int)) hle)
      simp only [List.length_set, Array.length_toList] at this
      omega
    · rw [splice3 _ _ _ _ _ hle, List.take_set, List.take_set, List.take_set, ht, flat_set hk]
theorem PutR.drewN {w1 wr : World} {B : Nat} {r1 : RefR} {l : List FileQ} {f : FileQ} {g c i : Nat} (h : PutR w1 B r1 l f g c i wr) (n : Nat) : PutR w1 B r1 l f g c i (wr.drewN n) := ⟨h.row.keepAt fun _ _ => rfl, h.turn.drewN n, h.more⟩
/-- The cells of one file, of a row of the call's own. -/
theorem file_row {w : World} {B : Nat} {g n c : Nat} {fs : List FileQ} (h : Own w B 101 3 (some ⟨g, 0, none⟩) n c (fs.flatMap fileCells)) (k : Nat) (hk : k < fs.length) : w.cell? ⟨g, k * 3, none⟩ = some (.string fs[k].nm) ∧ w.cell? ⟨g, k * 3 + 1, none⟩ = some (.slice fs[k].a fs[k].b.length fs[k].c) ∧ w.cell? ⟨g, k * 3 + 2, none⟩ = some (.int .i64 (fs[k].sure : Int)) := by
  obtain ⟨b, o, e1, _, hc⟩ := RowAt.elem (g := fileCells) (sz := 3) (fun _ => rfl) h.row (by omega) k hk
  cases e1
  have h0 := hc 0 (show 0 < 3 by omega)
  have h1 := hc 1 (show 1 < 3 by omega)
  have h2 := hc 2 (show 2 < 3 by omega)
  simp only [Nat.zero_add, Nat.add_zero] at h0 h1 h2
  exact ⟨h0, h1, h2⟩
theorem PutR.post {w w3 wr : World} {B : Nat} {r : RefR} {f : FileQ} {g c i : Nat} (h : PutR w3 B { r with fs := r.fs ++ [f], la := some ⟨g, 0, none⟩, lc := c } r.fs f g c i wr) (h1 : RefAt w3 B { r with fs := r.fs ++ [f], la := some ⟨g, 0, none⟩, lc := c })
    (ht : Turn (fun x => x = r.d ∨ ∃ ad, r.la = some ad ∧ x = ad.block) w w3) (hl : ∀ ad, some (⟨g, 0, none⟩ : Addr) = some ad → (∃ ad', r.la = some ad' ∧ ad.block = ad'.block) ∨ w.heap.size ≤ ad.block) (hi : i ≤ r.fs.length)
    (hn : i = 0 ∨ ∃ h : i - 1 < r.fs.length, lessN f.nm r.fs[i - 1].nm = false) : PutPost B w r f wr := by
  refine ⟨i, some ⟨g, 0, none⟩, c, hi, hn, h.more, h.at h1 rfl rfl rfl, ht.trans h.turn fun k hk => ?_, hl⟩
  subst hk
  rcases hl _ rfl with h2 | h2
  · exact .inl (.inr h2)
  · exact .inr h2
set_option maxHeartbeats 4000000 in
set_option maxRecDepth 20000 in
theorem rput_any (w : World) (B : Nat) (r : RefR) (f : FileQ) (h : RefAt w B r) (hB : B ≤ w.heap.size) (hf : Own w B 5 1 f.a f.b.length f.c (f.b.map bv)) (hok : DiskOk (RefR.p { r with fs := r.fs ++ [f] })) :
    Calls Try.prog 71 #[.pointer (some ⟨r.d, 0, none⟩), .agg #[.string f.nm, .slice f.a f.b.length f.c, .int .i64 (f.sure : Int)]] w fun e w' => e = .returned (.tuple #[]) ∧ PutPost B w r f w' := by
  have hcnt : r.fs.length + 1 ≤ 64 := by have := hok.count; simpa [RefR.p] using this
  have HO := Lib.hid hok
  have hz : r.d < w.heap.size := h.blk.lt
  obtain ⟨wb, hwb⟩ : ∃ wb, wb = w.alloc (.cells (fileCells f).toArray 101) := ⟨_, rfl⟩
  have hbb : Below w.heap.size w wb := hwb ▸ (Below.refl _ _).alloc (Nat.le_refl _) _
  have hbx : Blk wb w.heap.size (fileCells f).toArray 101 := hwb ▸ Blk.new _ _ _
  have hB2 : B ≤ wb.heap.size := Nat.le_trans hB hbb.size
  have hzb : wb.heap.size = w.heap.size + 1 := by rw [hwb]; simp
  have HW := Lib.hid hwb
  have hrb := h.old hbb
  have hblk := hrb.blk
  unfold refHead at hblk
  clear hok
  go_enter Try.func71, Try.ntmps71
  go_upto_region 1 with (fail)
  rw [show w.alloc (.cells #[.string f.nm, .slice f.a f.b.length f.c, .int .i64 (f.sure : Int)] 101) = wb from HW.out.symm]
  obtain ⟨S, hS⟩ : ∃ S : Nat → Prop, S = fun x => x = r.d ∨ x = w.heap.size := ⟨_, rfl⟩
  have HS := Lib.hid hS
  clear hS hwb
  have hkd : ∀ W, KeepAt S wb.drew W → W.cell? ⟨r.d, 0, none⟩ = some (.slice r.la r.fs.length r.lc) := fun W hW => by
    have : Blk W r.d _ _ := (hW.2 r.d (by rw [HS.out]; exact .inl rfl)).trans hblk
    exact this.rule 0
  have hkx : ∀ W, KeepAt S wb.drew W → ∀ i, W.cell? ⟨w.heap.size, i, none⟩ = (fileCells f).toArray[i]? := fun W hW i => by
    have : Blk W w.heap.size _ _ := (hW.2 w.heap.size (by rw [HS.out]; exact .inr rfl)).trans hbx
    exact this.rule i
  have k0 : ∀ W, KeepAt S wb.drew W → W.cell? ⟨w.heap.size, 0, none⟩ = some (.string f.nm) := fun W hW => hkx W hW 0
  have k1 : ∀ W, KeepAt S wb.drew W → W.cell? ⟨w.heap.size, 1, none⟩ = some (.slice f.a f.b.length f.c) := fun W hW => hkx W hW 1
  have k2 : ∀ W, KeepAt S wb.drew W → W.cell? ⟨w.heap.size, 2, none⟩ = some (.int .i64 (f.sure : Int)) := fun W hW => hkx W hW 2
  clear hkx
  refine wp_region_treeR true (KeepAt S) (KeepAt.refl _) (fun _ _ _ h1 h2 => KeepAt.trans h1 h2) (.step 0 (.step 1 (.step 2 (.step 3 (.step 4 (.step 5 (.step 6 (.step 7 (.step 8 (.step 9 (.step 10 .done))))))))))) (by kernel_rfl) (by kernel_rfl) (fun c a d v w h => by cases d <;> exact h) ?_
  repeat (first | (refine tree_skip rfl (by rfl) ?_; simp only [Act.put, List.setIfInBounds_toArray, List.set]) | (refine tree_quiet (v := ?_) rfl rfl (by rfl) ?_ ?_; rotate_left; (intro W hW; go_simp); (try with_reducible rfl); simp only [Act.put, List.setIfInBounds_toArray, List.set]))
  refine tree_loud rfl rfl (by rfl) (fun K hK => ?_); go_wp2_with fail
  have hbc : Below wb.heap.size wb (wb.alloc (.cells (fileCells f).toArray 101)).drew := ((Below.refl _ _).alloc (Nat.le_refl _) _).drew
  have hSlt : ∀ x, S x → x < wb.heap.size := fun x hx => by rw [HS.out] at hx; rcases hx with rfl | rfl <;> omega
  refine hK _ _ ⟨(KeepAt.below hbc hSlt).1, (KeepAt.below hbc hSlt).2⟩ ?_
  clear hK K
  repeat (first | (refine tree_skip rfl (by rfl) ?_; simp only [Act.put, List.setIfInBounds_toArray, List.set]) | (refine tree_quiet (v := ?_) rfl rfl (by rfl) ?_ ?_; rotate_left; (intro W hW; go_simp); (try with_reducible rfl); simp only [Act.put, List.setIfInBounds_toArray, List.set]))
  refine tree_loud rfl rfl (by rfl) (fun K hK => ?_)
  refine wp_append_where (.tmp 10) (.tmp 12) 53 rfl filesT rfl ((h.row.old hbb).old hbc) rfl (RowAt.new' _ _ _ _ hzb) rfl (by omega) (by exact all_one _ rfl) (by unfold maxLen; omega) (by omega) (Nat.le_trans hB2 hbc.size) ?_
  intro g c2 w2 hown2 hg2 hat2
  have hla : ∀ ad, r.la = some ad → ad.block < w.heap.size := fun ad ha => (h.row.block_lt ha).2.1
  have hka : KeepAt S (wb.alloc (.cells (fileCells f).toArray 101)).drew w2 := ⟨hg2.size, fun x hx => hg2.block x (Nat.lt_of_lt_of_le (hSlt x hx) hbc.size) fun e => by
    rw [HS.out] at hx
    cases hr : r.la with
    | none => rw [hr] at e; cases e
    | some ad =>
      rw [hr] at e
      have e2 : x = ad.block := by simpa [Value.ownBlock] using e
      obtain ⟨_, _, _, hc⟩ := h.row.block_lt hr
      rcases hx with rfl | rfl
      · exact Blk.ne h.blk hc (by decide) e2
      · have := hla ad hr; omega⟩
  refine hK _ _ hka ?_
  clear hK K
  have hblk2 : Blk w2 r.d _ _ := ((hka.2 r.d (by rw [HS.out]; exact .inl rfl)).trans (hbc.block _ (Nat.lt_of_lt_of_le hz hbb.size))).trans hblk
  have hfr2 := hblk2.free
  have hrd2 := hblk2.rule 0
  have off : ∀ {b : Nat} {cs : Array Value} {t : TypeId}, Blk w b cs t → t ≠ 101 → w2.heap[b]? = w.heap[b]? := fun hb hne => by
    refine ((hg2.block _ (Nat.lt_of_lt_of_le hb.lt (Nat.le_trans hbb.size hbc.size)) fun e => ?_).trans (hbc.block _ (Nat.lt_of_lt_of_le hb.lt hbb.size))).trans (hbb.block _ hb.lt)
    cases hr : r.la with
    | none => rw [hr] at e; cases e
    | some ad =>
      rw [hr] at e
      obtain ⟨_, _, _, hc⟩ := h.row.block_lt hr
      exact Blk.ne hb hc hne (by simpa [Value.ownBlock] using e)
  have hz2 : w.heap.size ≤ w2.heap.size := Nat.le_trans (Nat.le_trans hbb.size hbc.size) hg2.size
  have hk3 : ∀ x, x ≠ r.d → (w2.setCell ⟨r.d, 0, none⟩ (.slice (some ⟨g, 0, none⟩) (r.fs.length + 1) c2)).heap[x]? = w2.heap[x]? := fun x hx => heap_setCell_other _ _ _ _ hx
  have HAT := Lib.hid (show RefAt (w2.setCell ⟨r.d, 0, none⟩ (.slice (some ⟨g, 0, none⟩) (r.fs.length + 1) c2)) B { r with fs := r.fs ++ [f], la := some ⟨g, 0, none⟩, lc := c2 } by
    refine ⟨h.ged, ?_, ?_, ?_, ?_, HO.out⟩
    · have := hblk2.set 0 (.slice (some ⟨g, 0, none⟩) (r.fs.length + 1) c2)
      unfold refHead
      simpa using this
    · have := hown2.setCell_apart hblk2 (by decide) 0 (.slice (some ⟨g, 0, none⟩) (r.fs.length + 1) c2)
      simpa [fileCells] using this
    · intro q hq
      have hq' : Own w B 5 1 q.a q.b.length q.c (q.b.map bv) := by
        rcases List.mem_append.1 hq with hq | hq
        · exact h.files q hq
        · rw [List.mem_singleton.1 hq]; exact hf
      refine hq'.keepAt fun x hx => ?_
      obtain ⟨_, _, _, hc⟩ := hq'.block_lt hx
      exact (hk3 _ (Blk.ne hc h.blk (by decide))).trans (off hc (by decide))
    · refine h.plan.keepAt fun x hx => ?_
      obtain ⟨_, _, _, hc⟩ := h.plan.block_lt hx
      exact (hk3 _ (Blk.ne hc h.blk (by decide))).trans (off hc (by decide)))
  have HTU := Lib.hid (show Turn (fun x => x = r.d ∨ ∃ ad, r.la = some ad ∧ x = ad.block) w (w2.setCell ⟨r.d, 0, none⟩ (.slice (some ⟨g, 0, none⟩) (r.fs.length + 1) c2)) by
    have t1 := ((Turn.of_below (F := fun x => x = r.d ∨ ∃ ad, r.la = some ad ∧ x = ad.block) (hbb.trans (hbc.mono hbb.size))).trans (Turn.of_grown (F := fun x => x = r.d ∨ ∃ ad, r.la = some ad ∧ x = ad.block) hg2 (fun k e => by
      cases hr : r.la with
      | none => rw [hr] at e; cases e
      | some ad =>
        rw [hr] at e
        exact .inr ⟨ad, rfl, by simpa [Value.ownBlock] using e.symm⟩)) (fun k hk => .inl hk))
    exact t1.setCell (x := ⟨r.d, 0, none⟩) (.inl (.inl rfl)) _)
  have HLA := Lib.hid (show ∀ ad, some (⟨g, 0, none⟩ : Addr) = some ad → (∃ ad', r.la = some ad' ∧ ad.block = ad'.block) ∨ w.heap.size ≤ ad.block by
    intro ad ha
    cases ha
    rcases hat2 with ⟨ad', h1, h2⟩ | h1
    · exact .inl ⟨ad', h1, h2⟩
    · exact .inr (Nat.le_trans (Nat.le_trans hbb.size hbc.size) h1))
  clear hkd k0 k1 k2 off hk3 hat2 hla hka hbc hSlt hblk hbx hrb hzb
  repeat (first | (refine tree_skip rfl (by rfl) ?_; simp only [Act.put, List.setIfInBounds_toArray, List.set]) | (refine tree_quiet (v := ?_) rfl rfl (by rfl) ?_ ?_; rotate_left; (intro W hW; go_simp); (try with_reducible rfl); simp only [Act.put, List.setIfInBounds_toArray, List.set]))
  refine tree_store rfl rfl (by rfl) (fun K hK => ?_); go_wp2_with fail; refine tree_done ?_
  clear hg2 hown2 hblk2 hfr2 hrd2 hz2 HW hbb hB2 hcnt
  generalize w2.setCell ⟨r.d, 0, none⟩ (.slice (some ⟨g, 0, none⟩) (r.fs.length + 1) c2) = w3 at *
  have hat3 := HAT.out
  have hb3 := hat3.blk.rule 0
  unfold refHead at hb3
  have e3 : ((r.fs.length : Int) + 1) - 1 = (r.fs.length : Int) := by omega
  have hcnt : r.fs.length + 1 ≤ 64 := by have := HO.out.count; simpa [RefR.p] using this
  go_wp2_with fail
  have hst : PutR w3 B { r with fs := r.fs ++ [f], la := some ⟨g, 0, none⟩, lc := c2 } r.fs f g c2 r.fs.length w3 := ⟨by rw [insAt_end]; simpa using hat3.row, Turn.refl _ _, fun j hj hle => by omega⟩
  go_loopg [4, 5] r.fs.length (fun fu v4 v5 wr => v4 = .int .i64 (fu : Int) ∧ fu ≤ r.fs.length ∧ PutR w3 B { r with fs := r.fs ++ [f], la := some ⟨g, 0, none⟩, lc := c2 } r.fs f g c2 fu wr)
  case atStart => exact ⟨rfl, Nat.le_refl _, hst⟩
  case round =>
    obtain ⟨rfl, hle, hP⟩ := hrel
    clear hst hat3 hb3 e3
    have ha := hP.at HAT.out rfl rfl rfl
    have hblk := ha.blk
    have hb := hblk.rule
    unfold refHead at hb
    by_cases h0 : gk = 0
    · subst h0
      go_wp2_with fail
      go_quiet (fail)
      go_wp2_with fail
      refine bodyPost_end (v := .tuple #[]) (results_none rfl _ _ _) rfl ⟨rfl, ?_⟩
      exact (hP.drewN _).post HAT.out HTU.out HLA.out (by omega) (.inl rfl)
    · obtain ⟨j, hj⟩ : ∃ j, gk = j + 1 := ⟨gk - 1, by omega⟩
      have hjn : j < r.fs.length := by omega
      have hej : (gk : Int) - 1 = (j : Int) := by omega
      have hgl : gk < r.fs.length + 1 := by omega
      have hp0 : 0 < gk := by omega
      have hp1 : decide (0 < gk) = true := by simpa using hp0
      have hjl : j < r.fs.length + 1 := by omega
      obtain ⟨ci0, ci1, ci2⟩ := file_row hP.row gk (by rw [insAt_len]; omega)
      obtain ⟨cj0, cj1, cj2⟩ := file_row hP.row j (by rw [insAt_len]; omega)
      rw [insAt_at _ _ _ hle] at ci0 ci1 ci2
      rw [insAt_lt _ _ _ _ hle (by omega)] at cj0 cj1 cj2
      have HS := Lib.hid (insAt_swap r.fs f j hjn)
      have HJ := Lib.hid hj
      obtain ⟨y, hy⟩ : ∃ y, y = r.fs[j] := ⟨_, rfl⟩
      rw [← hy] at cj0 cj1 cj2 HS
      have HY := Lib.hid hy
      clear hy hj
      rw [insAt_len] at hb
      cases t0 : Op.bytesLess f.nm.toList y.nm.toList with
      | false =>
        go_wp2_with fail
        go_quiet (fail)
        go_wp2_with fail
        refine bodyPost_end (v := .tuple #[]) (results_none rfl _ _ _) rfl ⟨rfl, ?_⟩
        refine (hP.drewN _).post HAT.out HTU.out HLA.out (by omega) (.inr ⟨by omega, ?_⟩)
        have e : gk - 1 = j := by have := HJ.out; omega
        simp only [e, ← HY.out]
        exact t0
      | true =>
        go_wp2_with fail
        go_quiet (fail)
        go_upto_region 6 with (first | refine wpList_store_blk rfl 101 fileT (.tmp 5) _ rfl rfl rfl (Blk.new _ _ _) rfl rfl rfl ?_)
        refine wp_forget (fun W0 => Blk W0 wr.heap.size (fileCells f).toArray 101 ∧ Below wr.heap.size wr W0) ⟨(Blk.new _ _ _).setRow _, by (try unfold Kept); repeat (first | assumption | exact Below.refl _ _ | exact below_undrew (Below.refl _ _) | exact Below.mono (by assumption) (by first | (simp; done) | (simp; omega) | omega) | refine below_setRow ?_ (by first | (simp; done) | (simp; omega) | omega) _ | refine Below.setCell ?_ (by first | (simp; done) | (simp; omega) | omega) _ | refine Below.alloc ?_ (by first | (simp; done) | (simp; omega) | omega) _ | refine below_drewN ?_ _ | refine Below.drew ?_ | refine below_undrew ?_ | refine below_step ?_ (by assumption))⟩ ?_
        rintro w5 ⟨hx5, hb5⟩
        have hgw : g < wr.heap.size := (hP.row.block_lt rfl).2.1
        have hP5 := hP.old hb5
        have ha5 := hP5.at HAT.out rfl rfl rfl
        have hd5 := ha5.blk
        unfold refHead at hd5
        have hbd5 := hd5.rule 0
        rw [insAt_len] at hbd5
        obtain ⟨_, _, old5, hold5⟩ := hP5.row.block_lt rfl
        have HO6 := Lib.hid (Own.store3 (w := w5.drew) (hP5.row.keepAt fun _ _ => rfl) hold5 gk (by rw [insAt_len]; omega) y)
        have ho6 := HO6.out.2
        obtain ⟨dj0, dj1, dj2⟩ := file_row hP5.row j (by rw [insAt_len]; omega)
        rw [insAt_lt _ _ _ _ hle (by omega), ← HY.out] at dj0 dj1 dj2
        have hrg : r.d ≠ g := Blk.ne hd5 hold5 (by decide)
        have HT0 := Lib.hid t0
        clear ci0 ci1 ci2 cj0 cj1 cj2 hb hblk ha t0 hp1
        have l0 : ∀ W, Old w5.drew W → W.cell? ⟨r.d, 0, none⟩ = some (.slice (some ⟨g, 0, none⟩) (r.fs.length + 1) c2) := fun W hW => ((hW : Below w5.drew.heap.size _ W).cell (p := ⟨r.d, 0, none⟩) (World.block_lt_of_cell? w5 _ hbd5)).trans hbd5
        have l1 : ∀ W, Old w5.drew W → W.cell? ⟨g, j * 3, none⟩ = some (.string y.nm) := fun W hW => ((hW : Below w5.drew.heap.size _ W).cell (p := ⟨g, j * 3, none⟩) (World.block_lt_of_cell? w5 _ dj0)).trans dj0
        have l2 : ∀ W, Old w5.drew W → W.cell? ⟨g, j * 3 + 1, none⟩ = some (.slice y.a y.b.length y.c) := fun W hW => ((hW : Below w5.drew.heap.size _ W).cell (p := ⟨g, j * 3 + 1, none⟩) (World.block_lt_of_cell? w5 _ dj1)).trans dj1
        have l3 : ∀ W, Old w5.drew W → W.cell? ⟨g, j * 3 + 2, none⟩ = some (.int .i64 (y.sure : Int)) := fun W hW => ((hW : Below w5.drew.heap.size _ W).cell (p := ⟨g, j * 3 + 2, none⟩) (World.block_lt_of_cell? w5 _ dj2)).trans dj2
        have hw : IntKind.i64.wrap ((gk : Int) - 1) = (j : Int) := by rw [IntKind.wrap_i64]; omega
        have hjI : (j : Int) < (r.fs.length : Int) + 1 := by omega
        have hgI : (gk : Int) < (r.fs.length : Int) + 1 := by omega
        have hw2 : IntKind.i64.wrap (j : Int) = (j : Int) := by rw [IntKind.wrap_i64]; omega
        refine wp_region_treeR true Old Old.refl Old.trans (.step 0 (.step 1 (.step 2 (.step 3 (.step 4 (.step 5 (.step 6 (.step 7 (.step 8 (.step 9 (.step 10 (.step 11 (.step 12 (.step 13 (.step 14 .done))))))))))))))) (by kernel_rfl) (by kernel_rfl) (fun c a d v w h => by cases d <;> exact h) ?_
        repeat (first | (refine tree_skip rfl (by rfl) ?_; simp only [Act.put, List.setIfInBounds_toArray, List.set]) | (refine tree_quiet (v := ?_) rfl rfl (by rfl) ?_ ?_; rotate_left; (intro W hW; go_simp); (try with_reducible rfl); simp only [Act.put, List.setIfInBounds_toArray, List.set]))
        refine tree_store rfl rfl (by rfl) (fun K hK => ?_)
        refine wp_store_at 101 fileT (.tmp 66) (.tmp 65) rfl rfl rfl (show Blk w5.drew g old5 101 from hold5) rfl ho6 rfl ?_
        refine hK _ _ ?_
        refine tree_done ?_
        clear hK K l0 l1 l2 l3
        go_upto_region 7 with (fail)
        refine wp_forget (fun W0 => Blk W0 wr.heap.size (fileCells f).toArray 101 ∧ Blk W0 r.d (refHead { r with fs := insAt r.fs f gk, la := some ⟨g, 0, none⟩, lc := c2 }) 55 ∧ Own W0 B 101 3 (some ⟨g, 0, none⟩) (r.fs.length + 1) c2 (((insAt r.fs f gk).set gk y).flatMap fileCells) ∧ Turn (fun x => x = g) wr W0) ⟨?_, ?_, HO6.out.1, ?_⟩ ?_
        · exact Blk.setRow_other (w := w5.drew) hx5 g _ (by omega)
        · exact Blk.setRow_other (w := w5.drew) ha5.blk g _ hrg
        · exact ⟨hb5.os, hb5.tape, hb5.output, by simpa [World.setRow] using hb5.size, fun k hk hn => (Go.setRow_other w5.drew g k _ hn).trans (hb5.block k hk)⟩
        rintro w6 ⟨hx6, hd6, hO6, ht6⟩
        clear ha5 hd5 hbd5 hold5 HO6 ho6 dj0 dj1 dj2 hP5 hx5 hb5
        obtain ⟨_, _, old6, hold6⟩ := hO6.block_lt rfl
        have HO7 := Lib.hid (Own.store3 (w := w6.drew) (hO6.keepAt fun _ _ => rfl) hold6 j (by rw [List.length_set, insAt_len]; omega) f)
        have ho7 := HO7.out.2
        have hbd6 := hd6.rule 0
        unfold refHead at hbd6
        rw [insAt_len] at hbd6
        have hlx := hx6.lt
        have hxr := hx6.rule
        have m0 : ∀ W, Old w6.drew W → W.cell? ⟨r.d, 0, none⟩ = some (.slice (some ⟨g, 0, none⟩) (r.fs.length + 1) c2) := fun W hW => ((hW : Below w6.drew.heap.size _ W).cell (p := ⟨r.d, 0, none⟩) hd6.lt).trans hbd6
        have m1 : ∀ W, Old w6.drew W → W.cell? ⟨wr.heap.size, 0, none⟩ = some (.string f.nm) := fun W hW => ((hW : Below w6.drew.heap.size _ W).cell (p := ⟨wr.heap.size, 0, none⟩) hlx).trans (hxr 0)
        have m2 : ∀ W, Old w6.drew W → W.cell? ⟨wr.heap.size, 1, none⟩ = some (.slice f.a f.b.length f.c) := fun W hW => ((hW : Below w6.drew.heap.size _ W).cell (p := ⟨wr.heap.size, 1, none⟩) hlx).trans (hxr 1)
        have m3 : ∀ W, Old w6.drew W → W.cell? ⟨wr.heap.size, 2, none⟩ = some (.int .i64 (f.sure : Int)) := fun W hW => ((hW : Below w6.drew.heap.size _ W).cell (p := ⟨wr.heap.size, 2, none⟩) hlx).trans (hxr 2)
        clear hxr hbd6
        refine wp_region_treeR true Old Old.refl Old.trans (.step 0 (.step 1 (.step 2 (.step 3 (.step 4 (.step 5 (.step 6 (.step 7 (.step 8 .done))))))))) (by kernel_rfl) (by kernel_rfl) (fun c a d v w h => by cases d <;> exact h) ?_
        repeat (first | (refine tree_skip rfl (by rfl) ?_; simp only [Act.put, List.setIfInBounds_toArray, List.set]) | (refine tree_quiet (v := ?_) rfl rfl (by rfl) ?_ ?_; rotate_left; (intro W hW; go_simp); (try with_reducible rfl); simp only [Act.put, List.setIfInBounds_toArray, List.set]))
        refine tree_store rfl rfl (by rfl) (fun K hK => ?_)
        refine wp_store_at 101 fileT (.tmp 74) (.tmp 73) rfl rfl rfl (show Blk w6.drew g old6 101 from hold6) rfl ho7 rfl ?_
        refine hK _ _ ?_
        refine tree_done ?_
        clear hK K m0 m1 m2 m3
        go_wp2_with fail
        go_roundg j
        case measure => omega
        case rel =>
          refine ⟨by go_num, by omega, ?_, ?_, ?_⟩
          · have h7 := HO7.out.1
            have e := HS.out
            rw [← HJ.out] at e
            rw [e] at h7
            exact h7
          · refine hP.turn.trans (G := fun x => x = g) ⟨ht6.os, ht6.tape, ht6.output, by simpa [World.setRow] using ht6.size, fun k hk hn => (Go.setRow_other w6.drew g k _ hn).trans (ht6.block k hk hn)⟩ (fun k hk => .inl hk)
          · intro q hq hjq
            by_cases e : q = j
            · subst e
              have := HT0.out
              rw [HY.out] at this
              exact this
            · exact hP.more q hq (by have := HJ.out; omega)
end Go.Proofs.Ytnojeiklgjhkgaa
