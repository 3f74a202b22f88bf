/- The walks through package disk: Append. -/
import Derived.Test.YtnojeiklgjhkgaaDiskOps
namespace Go.Proofs.Ytnojeiklgjhkgaa
open Go.RowKit Go.Maps
set_option linter.unusedVariables false
set_option linter.unusedSimpArgs false

theorem bytesT8 : RowType Try.prog 22 5 1 1 := RowType.mk (z := .int .u8 0) Try.underlying22 (by kernel_rfl) rfl (by omega)
/-- A file has been written and what was written is its own. -/
theorem findP_of {w : World} {B : Nat} {r : DiskR} (h : DiskAt w B r) {f : FileR} (hf : f ∈ r.fs) : findP r.p f.nm = some f.p := by
  have := find_name h.ok.names (show f.p ∈ r.p.fs from List.mem_map.2 ⟨f, hf, rfl⟩)
  exact this
theorem findP_no {r : DiskR} {nm : Name} (hn : ∀ f ∈ r.fs, f.nm ≠ nm) : findP r.p nm = none := by
  unfold findP
  rw [List.find?_eq_none]
  intro x hx
  obtain ⟨f, hf, rfl⟩ := List.mem_map.1 hx
  exact fun e => hn f hf (of_decide_eq_true e)
def appG (l : List UInt8) (a2 : Option Addr) (c2 : Nat) (g : FileR) : FileR := { g with a := a2, c := c2, b := g.b ++ l }
theorem append_step {w w2 : World} {B : Nat} {r : DiskR} {f : FileR} (h : DiskAt w B r) (hf : f ∈ r.fs) {l : List UInt8} {len : Nat} (hlen : l.length = len) (hle : f.b.length + len ≤ 1048576) {a2 : Option Addr} {c2 : Nat}
    (hm : Mid w2 B 5 a2 (f.b.length + len) c2 (f.b.map bv ++ l.map bv)) (hg : w.grownBy w2 (rowB f.a f.c)) (hrow : rowB a2 c2 = rowB f.a f.c ∨ ∃ b, rowB a2 c2 = some b ∧ w.heap.size ≤ b) :
    DStep B w r (w2.setCell ⟨f.blk, 0, none⟩ (.slice a2 (f.b.length + len) c2)) { r with fs := updR r.fs f.nm (appG l a2 c2) } := by
  have hfa := h.files f hf
  have hkn := KeepNot.grownM hfa.row hg
  have hbl2 := hfa.blk.keepNot hkn (by decide)
  have hsame : ∀ g ∈ r.fs, g.nm = f.nm → g = f := fun g hg e => h.same hg hf e
  have hk : ∀ x, x ≠ f.blk → x < w.heap.size → rowB f.a f.c ≠ some x → (w2.setCell ⟨f.blk, 0, none⟩ (.slice a2 (f.b.length + len) c2)).heap[x]? = w.heap[x]? := fun x h1 h2 h3 => by
    rw [heap_setCell_other _ _ _ _ h1]
    exact hg.block x h2 (Ne.symm h3)
  have hff : ∀ x, rowB f.a f.c = some x → foot r x := fun x hx => .inr (.inr (.inl ⟨f, hf, .inr hx⟩))
  have hnr : ∀ {b : Nat} {cs : Array Value} {t : TypeId}, Blk w b cs t → t ≠ 5 → rowB f.a f.c ≠ some b := fun hb ht e => h.ne_row hf e hb ht rfl
  have hnm : rowB f.a f.c ≠ some r.m := fun e => by
    obtain ⟨_, _, cur, hcur⟩ := hfa.row.lt e
    exact h.ne_map hcur rfl
  refine ⟨(Turn.of_grown hg hff).setCell (.inl (.inr (.inr (.inl ⟨f, hf, .inl rfl⟩)))) _, ?_, ?_, rfl⟩
  · refine h.upd f.nm (appG l a2 c2) (fun _ _ => ⟨rfl, rfl⟩) (hk _ (Ne.symm (h.ne_file hf)) h.blk.lt (hnr h.blk (by decide))) (hk _ (Ne.symm (h.ne_map hfa.blk)) h.map.lt hnm) (fun x hx => ?_) ?_ ?_ ?_ ?_
    · obtain ⟨_, h2, cur, hcur⟩ := h.plan.block_lt hx
      exact hk _ (h.ne_plan hx hfa.blk (by decide)) h2 (hnr hcur (by decide))
    · intro g hg1 hgn
      obtain ⟨hb, hr⟩ := h.apart' hf hg1 (Ne.symm hgn)
      refine ⟨hk _ (Ne.symm hb) (h.files g hg1).blk.lt (hnr (h.files g hg1).blk (by decide)), fun x hx => hk _ (h.ne_row hg1 hx hfa.blk (by decide)) ((h.files g hg1).row.lt hx).2.1 (fun e => hr x e hx)⟩
    · intro g hg1 hgn
      obtain rfl := hsame g hg1 hgn
      have hl2 : (g.b ++ l).length = g.b.length + len := by rw [List.length_append, hlen]
      refine ⟨?_, hfa.ge, ?_⟩
      · show Blk _ g.blk #[.slice a2 (g.b ++ l).length c2, .int .i64 (g.sure : Int)] _
        rw [hl2]
        exact hbl2.set 0 _
      · show Mid _ B 5 a2 (g.b ++ l).length c2 ((g.b ++ l).map bv)
        rw [hl2, List.map_append]
        exact hm.setCell hbl2 (by decide) 0 _
    · intro g hg1 hgn g2 hg2 hgn2 x hx
      obtain rfl := hsame g hg1 hgn
      rcases hrow with e | ⟨b, e, hb⟩
      · exact (h.apart' hf hg2 (Ne.symm hgn2)).2 x (by rw [← e]; exact hx)
      · intro e2
        have := ((h.files g2 hg2).row.lt e2).2.1
        have e3 : rowB a2 c2 = some x := hx
        rw [e] at e3
        cases e3
        omega
    · have hp5 : DiskR.p { r with fs := updR r.fs f.nm (appG l a2 c2) } = updP r.p f.nm (fun f => { f with b := f.b ++ l }) := by
        simp only [DiskR.p, updP]
        rw [updR_p _ _ _ (fun f => { f with b := f.b ++ l }) (fun _ _ _ => rfl)]
      show DiskOk (DiskR.p { r with fs := updR r.fs f.nm (appG l a2 c2) })
      rw [hp5]
      refine h.ok.upd f.nm _ (fun _ _ => rfl) (fun g hg1 _ => ?_) (fun g hg1 hgn => ?_)
      · have := h.ok.sure g hg1
        show g.sure ≤ (g.b ++ l).length
        rw [List.length_append]; omega
      · obtain ⟨g0, hg0, rfl⟩ := List.mem_map.1 hg1
        obtain rfl := hsame g0 hg0 hgn
        show (g0.b ++ l).length ≤ maxFileN
        rw [List.length_append, hlen]; exact hle
  · rintro x (hx | hx | ⟨g, hg1, hx⟩ | hx)
    · exact .inl (.inl hx)
    · exact .inl (.inr (.inl hx))
    · obtain ⟨g0, hg0, ⟨e, rfl⟩ | ⟨e, rfl⟩⟩ := updR_mem hg1
      · obtain rfl := hsame g0 hg0 e
        rcases hx with hx | hx
        · exact .inl (.inr (.inr (.inl ⟨g0, hf, .inl hx⟩)))
        · have hx' : rowB a2 c2 = some x := hx
          rcases hrow with e2 | ⟨b, e2, hb⟩
          · rw [e2] at hx'; exact .inl (hff x hx')
          · rw [e2] at hx'; cases hx'; exact .inr hb
      · exact .inl (.inr (.inr (.inl ⟨_, hg0, hx⟩)))
    · exact .inl (.inr (.inr (.inr hx)))
def AppRes (B : Nat) (w : World) (r : DiskR) (nm : Name) (l : List UInt8) (v : Int) (w' : World) : Prop := v = (appendP r.p nm l).2 ∧ ∃ r', r'.p = (appendP r.p nm l).1 ∧ DStep B w r w' r'
set_option maxRecDepth 20000 in
set_option maxHeartbeats 2000000 in
theorem append1_any (w : World) (B : Nat) (r : DiskR) (f : FileR) (h : DiskAt w B r) (hB : B ≤ w.heap.size) (hdn : r.down = false) (hf : f ∈ r.fs) (bb bd : Nat) (a : Option Addr) (len cap : Nat) (l : List UInt8)
    (hbb : Blk w bb #[.slice a len cap] 22) (hbd : Blk w bd #[.pointer (some ⟨r.d, 0, none⟩)] 43) (hl : BytesAt w a l) (hlen : l.length = len) (hcl : len ≤ maxLen) :
    Calls Try.prog 53 #[.pointer (some ⟨f.blk, 0, none⟩), .pointer (some ⟨bb, 0, none⟩), .pointer (some ⟨bd, 0, none⟩)] w fun e w' => ∃ v, e = .returned (.int .i64 v) ∧ AppRes B w r f.nm l v w' := by
  unfold maxLen at hcl
  have HL := Lib.hid hlen
  have HDN := Lib.hid hdn
  clear hlen hdn
  have hfa := h.files f hf
  have hsz : f.b.length ≤ 1048576 := h.ok.size f.p (List.mem_map.2 ⟨f, hf, rfl⟩)
  have hfp := Lib.hid (findP_of h hf)
  have e1 : IntKind.i64.wrap (1048576 - (f.b.length : Int)) = 1048576 - (f.b.length : Int) := by rw [IntKind.wrap_i64]; omega
  have L1 : ∀ W, Old w.drew W → W.cell? ⟨bb, 0, none⟩ = some (.slice a len cap) := fun W hW => by rw [(hW : Below w.heap.size w.drew W).cell hbb.lt]; exact hbb.rule 0
  have L2 : ∀ W, Old w.drew W → W.cell? ⟨f.blk, 0, none⟩ = some (.slice f.a f.b.length f.c) := fun W hW => by rw [(hW : Below w.heap.size w.drew W).cell hfa.blk.lt]; exact hfa.blk.rule 0
  by_cases hbig : 1048576 - f.b.length < len
  · have t0 : decide (1048576 - (f.b.length : Int) < (len : Int)) = true := by simp; omega
    go_enter Try.func53, Try.ntmps53
    go_wp2_with fail
    refine wp_region_old (0 :: 1 :: 2 :: 3 :: 4 :: 5 :: 6 :: 7 :: 8 :: []) (by kernel_rfl) (by kernel_rfl) (fun c a d v w h => by cases d <;> exact h) ?_
    repeat (first | (refine lex_skip rfl (by rfl) ?_; simp only [Act.put, List.setIfInBounds_toArray, List.set]) | (refine lex_quiet (v := ?_) rfl rfl (by rfl) ?_ ?_; rotate_left; (intro W hW; go_simp); (try with_reducible rfl); simp only [Act.put, List.setIfInBounds_toArray, List.set]))
    refine lex_nil ?_
    go_wp2_with fail
    go_ret
    refine ⟨3, rfl, ?_⟩
    have e : appendP r.p f.nm l = (r.p, 3) := by
      unfold appendP mayP
      rw [hfp.out]
      have : maxFileN - f.p.b.length < l.length := by rw [HL.out]; exact hbig
      simp [DiskR.p, HDN.out, this]
    unfold AppRes
    rw [e]
    have hk := DStep.refl h
    exact ⟨rfl, r, rfl, ⟨hk.turn.drew, h.drew, hk.foot', rfl⟩⟩
  · have t0 : decide (1048576 - (f.b.length : Int) < (len : Int)) = false := by simp; omega
    go_enter Try.func53, Try.ntmps53
    go_wp2_with fail
    refine wp_region_old (0 :: 1 :: 2 :: 3 :: 4 :: 5 :: 6 :: 7 :: 8 :: []) (by kernel_rfl) (by kernel_rfl) (fun c a d v w h => by cases d <;> exact h) ?_
    repeat (first | (refine lex_skip rfl (by rfl) ?_; simp only [Act.put, List.setIfInBounds_toArray, List.set]) | (refine lex_quiet (v := ?_) rfl rfl (by rfl) ?_ ?_; rotate_left; (intro W hW; go_simp); (try with_reducible rfl); simp only [Act.put, List.setIfInBounds_toArray, List.set]))
    refine lex_nil ?_
    clear L1 L2
    go_wp2_with fail
    have r0 := fun W (hW : KeepNot 5 w.drew.drew W) => (hfa.blk.drew.drew.keepNot hW (by decide)).rule
    have r1 := fun W (hW : KeepNot 5 w.drew.drew W) => (hbb.drew.drew.keepNot hW (by decide)).rule
    refine wp_region_treeN 5 (.step 0 (.step 1 (.step 2 (.step 3 (.step 4 (.step 5 (.step 6 (.step 7 (.step 8 (.step 9 .done)))))))))) (by kernel_rfl) (by kernel_rfl) (fun c a d v w h => by cases d <;> exact h) ?_
    repeat (first | (refine tree_skip rfl (by rfl) ?_; simp only [Act.put, List.setIfInBounds_toArray, List.set]) | (refine tree_quiet (v := ?_) rfl rfl (by rfl) ?_ ?_; rotate_left; (intro W hW; go_simp); (try with_reducible rfl); simp only [Act.put, List.setIfInBounds_toArray, List.set]))
    refine tree_loud rfl rfl (by rfl) (fun K hK => ?_)
    refine wp_append_mid (.tmp 18) (.tmp 19) 22 rfl bytesT8 rfl hfa.row.drew.drew rfl (RowAt.drew (RowAt.drew hl)) (by rw [List.length_map]; exact HL.out) (bv_one _) (by unfold maxLen; omega) (by omega) hB ?_
    intro a2 c2 w2 hm2 hg2 hrow2
    refine hK _ _ (KeepNot.grownM hfa.row.drew.drew hg2) ?_
    clear hK K r0 r1
    have hkn := KeepNot.grownM hfa.row.drew.drew hg2
    have hbl2 := hfa.blk.drew.drew.keepNot hkn (by decide)
    have hbd2 := hbd.drew.drew.keepNot hkn (by decide)
    have c0 := hbl2.rule
    have c1 := hbl2.free
    repeat (first | (refine tree_skip rfl (by rfl) ?_; simp only [Act.put, List.setIfInBounds_toArray, List.set]) | (refine tree_quiet (v := ?_) rfl rfl (by rfl) ?_ ?_; rotate_left; (intro W hW; go_simp); (try with_reducible rfl); simp only [Act.put, List.setIfInBounds_toArray, List.set]))
    refine tree_store rfl rfl (by rfl) (fun K hK => ?_)
    go_wp2_with fail
    refine tree_done ?_
    have HS := Lib.hid (append_step h hf HL.out (by omega) hm2 ⟨hg2.os, hg2.tape, hg2.output, hg2.size, hg2.block⟩ hrow2)
    have hsz3 : B ≤ (w2.setCell ⟨f.blk, 0, none⟩ (.slice a2 (f.b.length + len) c2)).heap.size := Nat.le_trans hB HS.out.turn.size
    have c2' := (hbd2.other ⟨f.blk, 0, none⟩ (.slice a2 (f.b.length + len) c2) (Blk.ne hbd2 hbl2 (by decide))).rule
    clear c0 c1
    go_wp2_with fail
    refine (goes_any _ B _ HS.out.at' hsz3 HDN.out).mono ?_
    rintro e w4 ⟨rfl, r', hr', hs, _⟩
    go_wp2_with fail
    go_ret
    refine ⟨_, rfl, ?_⟩
    have e : appendP r.p f.nm l = goesP (updP r.p f.nm (fun f => { f with b := f.b ++ l })) := by
      unfold appendP mayP
      rw [hfp.out]
      have : ¬ maxFileN - f.p.b.length < l.length := by rw [HL.out]; exact hbig
      simp [DiskR.p, HDN.out, this]
    have hp5 : DiskR.p { r with fs := updR r.fs f.nm (appG l a2 c2) } = updP r.p f.nm (fun f => { f with b := f.b ++ l }) := by
      simp only [DiskR.p, updP]
      rw [updR_p _ _ _ (fun f => { f with b := f.b ++ l }) (fun _ _ _ => rfl)]
    unfold AppRes
    rw [e, ← hp5]
    exact ⟨rfl, r', hr', HS.out.trans hs⟩
end Go.Proofs.Ytnojeiklgjhkgaa
