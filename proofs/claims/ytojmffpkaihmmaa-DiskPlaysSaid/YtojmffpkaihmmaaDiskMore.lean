/- The walks through package disk: Sure, Remove, Rename. -/
import Derived.Test.YtojmffpkaihmmaaDiskWake
namespace Go.Proofs.Ytojmffpkaihmmaa
open Go.RowKit Go.Maps Go.Shelf
set_option linter.unusedVariables false
set_option linter.unusedSimpArgs false

theorem sure_enter (args : Array Value) (w : World) : (callFunc 35 args).run Try.prog w = .ok (.enter 35 args) w := enters_of Try.func35 (by kernel_rfl) rfl args w
theorem remove_enter (args : Array Value) (w : World) : (callFunc 37 args).run Try.prog w = .ok (.enter 37 args) w := enters_of Try.func37 (by kernel_rfl) rfl args w
theorem rename_enter (args : Array Value) (w : World) : (callFunc 38 args).run Try.prog w = .ok (.enter 38 args) w := enters_of Try.func38 (by kernel_rfl) rfl args w
def SureRes (w : World) (r : DiskR) (nm : Name) (bx : Nat) (v : Int) (w' : World) : Prop :=
  v = (sureP r.p nm).2 ∧ Blk w' bx #[.int .i64 ((sureP r.p nm).1 : Int)] 3 ∧ Below w.heap.size w w'
theorem sure1_any (w : World) (B : Nat) (r : DiskR) (f : FileR) (h : DiskAt w B r) (hdn : r.down = false) (hf : f ∈ r.fs) (w0 : World) (bx : Nat) (hbx : Blk w bx #[.int .i64 0] 3) (hb0 : Below w0.heap.size w0 w) (hbx0 : w0.heap.size ≤ bx) :
    Calls Try.prog 35 #[.pointer (some ⟨f.blk, 0, none⟩), .pointer (some ⟨bx, 0, none⟩)] w fun e w' => ∃ v, e = .returned (.int .i64 v) ∧ SureRes w0 r f.nm bx v w' := by
  have HR := Lib.hid (show sureP r.p f.nm = (f.sure, 0) by
    unfold sureP
    rw [findP_of h hf]
    simp [DiskR.p, hdn, FileR.p])
  have hfa := h.files f hf
  have c0 := hfa.blk.rule
  have c1 := hbx.rule
  have c2 := hbx.free
  go_enter Try.func35, Try.ntmps35
  go_wp2_with fail
  go_ret
  refine ⟨0, rfl, ?_⟩
  unfold SureRes
  rw [HR.out]
  exact ⟨rfl, hbx.set 0 _, hb0.setCell hbx0 _⟩
set_option maxHeartbeats 1000000 in
theorem sure_any (w : World) (B : Nat) (r : DiskR) (nm : Name) (h : DiskAt w B r) (hs : nm.size ≤ maxLen) :
    Calls Try.prog 15 #[.pointer (some ⟨r.d, 0, none⟩), .string nm] w fun e w' => e = .returned (.tuple #[.int .i64 ((sureP r.p nm).1 : Int), .int .i64 (sureP r.p nm).2]) ∧ Below w.heap.size w w' := by
  have hmf : ∀ (fn : Fn) (first cap : Array Value) (w : World), (Instr.makeFunc fn first cap).run Try.prog w = .ok (.func fn first cap) w := fun _ _ _ _ => rfl
  have hb2 : Below w.heap.size w (w.alloc (.cells #[.int .i64 0] 3)) := (Below.refl _ _).alloc (Nat.le_refl _) _
  have h2 := h.old hb2
  have hB2 := Blk.new w #[.int .i64 0] 3
  go_enter Try.func15, Try.ntmps15
  go_wp2_with fail
  refine (may_any h2 hs 35 _ sure_enter (SureRes w r nm w.heap.size) ?_ ?_ ?_).mono ?_
  · intro hdn
    have e : sureP r.p nm = (0, 5) := by simp [sureP, DiskR.p, hdn]
    unfold SureRes
    rw [e]
    exact ⟨rfl, hB2, hb2⟩
  · intro hdn hno
    have e : sureP r.p nm = (0, 4) := by unfold sureP; rw [findP_no hno]; simp [DiskR.p, hdn]
    unfold SureRes
    rw [e]
    exact ⟨rfl, hB2, hb2⟩
  · intro f hf hn hdn
    subst hn
    exact sure1_any _ B r f h2 hdn hf w _ hB2 hb2 (Nat.le_refl _)
  · rintro e w1 ⟨v, rfl, hv, hbx, hb⟩
    have c0 := hbx.rule
    have c1 := hbx.free
    go_wp2_with fail
    have hc := (hbx.set 0 (.int .i64 ((sureP r.p nm).1 : Int))).rule 0
    refine bodyPost_ret (v := .tuple #[.int .i64 ((sureP r.p nm).1 : Int), .int .i64 (sureP r.p nm).2]) ?_ rfl ?_
    · simp [results, Try.f15, go_sem, hc]
    · exact ⟨rfl, hb.setCell (Nat.le_refl _) _⟩
/-- The map alone is written, and what stands in it then are files that were there. -/
theorem map_step {w w' : World} {B : Nat} {r : DiskR} (h : DiskAt w B r) {fs' : List FileR} (hg : w.grownBy w' (some r.m)) (hm : GMap w' Try.prog 9 Rp r.m (fs'.map entryR))
    (hsub : ∀ g ∈ fs', ∃ f ∈ r.fs, g.blk = f.blk ∧ g.a = f.a ∧ g.c = f.c ∧ g.b = f.b ∧ g.sure = f.sure) (hap : fs'.Pairwise fun f g => f.blk ≠ g.blk ∧ ∀ x, rowB f.a f.c = some x → rowB g.a g.c ≠ some x)
    (hok : DiskOk (DiskR.p { r with fs := fs' })) : DStep B w r w' { r with fs := fs' } := by
  have hk : ∀ x, x ≠ r.m → x < w.heap.size → w'.heap[x]? = w.heap[x]? := fun x h1 h2 => hg.block x h2 (fun e => h1 (by simpa using e))
  refine ⟨Turn.of_grown hg (fun k e => by cases e; exact .inr (.inl rfl)), ?_, ?_, rfl⟩
  · refine ⟨h.ged, h.gem, (hk _ (h.ne_map h.blk) h.blk.lt).trans h.blk, hm, ?_, hap, ?_, hok⟩
    · intro g hg1
      obtain ⟨f, hf, e1, e2, e3, e4, e5⟩ := hsub g hg1
      have hfa := (h.files f hf).keep (w' := w') (hk _ (h.ne_map (h.files f hf).blk) (h.files f hf).blk.lt) (fun x hx => by
        obtain ⟨_, h2, cur, hcur⟩ := (h.files f hf).row.lt hx
        exact hk x (h.ne_map hcur) h2)
      obtain ⟨h1, h2, h3⟩ := hfa
      exact ⟨by rw [e1, e2, e3, e4, e5]; exact h1, by rw [e1]; exact h2, by rw [e2, e3, e4]; exact h3⟩
    · refine h.plan.keepAt fun x hx => ?_
      obtain ⟨_, h2, cur, hcur⟩ := h.plan.block_lt hx
      exact hk _ (h.ne_map hcur) h2
  · rintro x (hx | hx | ⟨g, hg1, hx⟩ | hx)
    · exact .inl (.inl hx)
    · exact .inl (.inr (.inl hx))
    · obtain ⟨f, hf, e1, e2, e3, _⟩ := hsub g hg1
      rw [e1, e2, e3] at hx
      exact .inl (.inr (.inr (.inl ⟨f, hf, hx⟩)))
    · exact .inl (.inr (.inr (.inr hx)))
theorem filter_entry (fs : List FileR) (nm : Name) : (fs.map entryR).filter (fun x => !keyIs (nameL nm) x) = (fs.filter fun g => decide (g.nm ≠ nm)).map entryR := by
  rw [List.filter_map]
  refine congrArg (List.map entryR) ?_
  refine List.filter_congr fun g _ => ?_
  simp only [Function.comp, keyIs, entryR]
  by_cases e : g.nm = nm
  · rw [e, (sameKey_iff (show WideAt.IsKeyLit (nameL nm) by simp [nameL, WideAt.IsKeyLit])).2 rfl]; simp
  · have : Lit.sameKey (nameL g.nm) (nameL nm) = false := by
      rw [Bool.eq_false_iff]
      intro e4
      exact e (nameL_inj (WideAt.sameKey_eq e4))
    rw [this]; simp [e]
theorem filter_p (fs : List FileR) (q : Name → Bool) : (fs.filter fun g => q g.nm).map (·.p) = (fs.map (·.p)).filter fun f => q f.name := by
  rw [List.filter_map]
  rfl
theorem DiskOk.filter {p : DiskP} (h : DiskOk p) (q : FileP → Bool) : DiskOk { p with fs := p.fs.filter q } :=
  ⟨h.names.sublist (List.filter_sublist.map _), fun f hf => h.named f (List.mem_filter.1 hf).1, fun f hf => h.sure f (List.mem_filter.1 hf).1, fun f hf => h.size f (List.mem_filter.1 hf).1, Nat.le_trans (List.length_filter_le _ _) h.count, h.left⟩
theorem DiskOk.rename {p : DiskP} (h : DiskOk p) {f : FileP} (hf : f ∈ p.fs) (nw : Name) (hnw : okName nw = true) : DiskOk { p with fs := (p.fs.filter fun g : FileP => g.name ≠ f.name ∧ g.name ≠ nw) ++ [{ f with name := nw }] } := by
  have hm : ∀ g ∈ (p.fs.filter fun g : FileP => decide (g.name ≠ f.name ∧ g.name ≠ nw)) ++ [({ f with name := nw } : FileP)], (g ∈ p.fs ∧ g.name ≠ nw) ∨ g = { f with name := nw } := fun g hg => by
    rcases List.mem_append.1 hg with hg | hg
    · exact .inl ⟨(List.mem_filter.1 hg).1, (of_decide_eq_true (List.mem_filter.1 hg).2).2⟩
    · exact .inr (List.mem_singleton.1 hg)
  refine ⟨?_, ?_, ?_, ?_, ?_, h.left⟩
  · show (((p.fs.filter fun g : FileP => decide (g.name ≠ f.name ∧ g.name ≠ nw)) ++ [({ f with name := nw } : FileP)]).map (·.name)).Nodup
    rw [List.map_append, List.nodup_append]
    refine ⟨h.names.sublist (List.filter_sublist.map _), by simp, ?_⟩
    intro a ha b hb e
    obtain rfl : b = nw := by simpa using hb
    obtain ⟨g, hg, e2⟩ := List.mem_map.1 ha
    exact (of_decide_eq_true (List.mem_filter.1 hg).2).2 (e2.trans e)
  · intro g hg
    rcases hm g hg with ⟨hg, _⟩ | rfl
    · exact h.named g hg
    · exact hnw
  · intro g hg
    rcases hm g hg with ⟨hg, _⟩ | rfl
    · exact h.sure g hg
    · exact h.sure f hf
  · intro g hg
    rcases hm g hg with ⟨hg, _⟩ | rfl
    · exact h.size g hg
    · exact h.size f hf
  · show ((p.fs.filter fun g : FileP => decide (g.name ≠ f.name ∧ g.name ≠ nw)) ++ [({ f with name := nw } : FileP)]).length ≤ 64
    have hlt : (p.fs.filter fun g : FileP => decide (g.name ≠ f.name ∧ g.name ≠ nw)).length < p.fs.length := by
      rw [List.length_filter_lt_length_iff_exists]
      exact ⟨f, hf, by simp⟩
    have := h.count
    rw [List.length_append]
    simp only [List.length_cons, List.length_nil]
    omega
theorem But.turned {w w' : World} {b : Nat} (h : w.mapTurned w' b) : But b w w' := ⟨h.grown.size, fun x hx hne => h.grown.block x hx (by simpa using hne)⟩
theorem But.cell {w w' : World} {g : Nat} (h : But g w w') {b : Nat} {cs : Array Value} {t : TypeId} (hb : Blk w b cs t) (hne : b ≠ g) (i : Nat) : w'.cell? ⟨b, i, none⟩ = cs[i]? := (hb.but h hne).rule i
def RemRes (B : Nat) (w : World) (r : DiskR) (nm : Name) (v : Int) (w' : World) : Prop := v = (removeP r.p nm).2 ∧ ∃ r', r'.p = (removeP r.p nm).1 ∧ DStep B w r w' r'
set_option maxHeartbeats 1000000 in
theorem remove1_any (w : World) (B : Nat) (r : DiskR) (f : FileR) (h : DiskAt w B r) (hs : f.nm.size ≤ maxLen) (hdn : r.down = false) (hf : f ∈ r.fs) (bd bn : Nat)
    (hbd : Blk w bd #[.pointer (some ⟨r.d, 0, none⟩)] 26) (hbn : Blk w bn #[.string f.nm] 9) :
    Calls Try.prog 37 #[.pointer (some ⟨f.blk, 0, none⟩), .pointer (some ⟨bd, 0, none⟩), .pointer (some ⟨bn, 0, none⟩)] w fun e w' => ∃ v, e = .returned (.int .i64 v) ∧ RemRes B w r f.nm v w' := by
  have HE := Lib.hid (show removeP r.p f.nm = ({ r.p with fs := r.p.fs.filter fun g => g.name ≠ f.nm }, 0) by
    unfold removeP mayP
    rw [findP_of h hf]
    simp [DiskR.p, hdn])
  have L1 := fun W (hW : But r.m w.drew W) => hW.cell hbd.drew (h.ne_map hbd)
  have L2 := fun W (hW : But r.m w.drew W) => hW.cell hbn.drew (h.ne_map hbn)
  have L3 := fun W (hW : But r.m w.drew W) => hW.cell h.blk.drew (h.ne_map h.blk)
  unfold headV at L3
  obtain ⟨w2, hrun, hm2, ht2⟩ := (h.map.keep (w' := w.drew) rfl).del keyS Try.underlying58 (Go.WideMaps.keyOf_string_mk Try.underlying9 hs) 0
  go_enter Try.func37, Try.ntmps37
  go_wp2_with fail
  refine wp_region_treeB r.m (.step 0 (.step 1 (.step 2 (.step 3 (.step 4 (.step 5 .done)))))) (by kernel_rfl) (by kernel_rfl) (fun c a d v w h => by cases d <;> exact h) ?_
  repeat (first | (refine tree_skip rfl (by rfl) ?_; simp only [Act.put, List.setIfInBounds_toArray, List.set]) | (refine tree_quiet (v := ?_) rfl rfl (by rfl) ?_ ?_; rotate_left; (intro W hW; go_simp); (try with_reducible rfl); simp only [Act.put, List.setIfInBounds_toArray, List.set]))
  refine tree_loud rfl rfl (by rfl) (fun K hK => ?_)
  go_wp2_with fail
  refine hK _ _ (But.turned ht2) ?_
  clear hK K L1 L2 L3
  refine tree_done ?_
  go_wp2_with fail
  go_ret
  refine ⟨0, rfl, ?_⟩
  unfold RemRes
  rw [HE.out]
  have hp : DiskR.p { r with fs := r.fs.filter fun g => decide (g.nm ≠ f.nm) } = { r.p with fs := r.p.fs.filter fun g => g.name ≠ f.nm } := by
    simp only [DiskR.p]
    rw [filter_p r.fs fun x => decide (x ≠ f.nm)]
  have hm3 : GMap w2 Try.prog 9 Rp r.m ((r.fs.filter fun g => decide (g.nm ≠ f.nm)).map entryR) := by
    have e := filter_entry r.fs f.nm
    unfold nameL at e
    rw [← e]
    exact hm2
  refine ⟨rfl, _, hp, DStep.pre (Below.refl _ _).drew (map_step h.drew ht2.grown hm3 (fun g hg => ⟨g, (List.mem_filter.1 hg).1, rfl, rfl, rfl, rfl, rfl⟩) (h.apart.sublist List.filter_sublist) ?_)⟩
  rw [hp]
  exact h.ok.filter _
set_option maxHeartbeats 1000000 in
theorem remove_any (w : World) (B : Nat) (r : DiskR) (nm : Name) (h : DiskAt w B r) (hs : nm.size ≤ maxLen) :
    Calls Try.prog 18 #[.pointer (some ⟨r.d, 0, none⟩), .string nm] w fun e w' => e = .returned (.int .i64 (removeP r.p nm).2) ∧ ∃ r', r'.p = (removeP r.p nm).1 ∧ DStep B w r w' r' := by
  have hmf : ∀ (fn : Fn) (first cap : Array Value) (w : World), (Instr.makeFunc fn first cap).run Try.prog w = .ok (.func fn first cap) w := fun _ _ _ _ => rfl
  have hb2 : Below w.heap.size w ((w.alloc (.cells #[.pointer (some ⟨r.d, 0, none⟩)] 26)).alloc (.cells #[.string nm] 9)) := ((Below.refl _ _).alloc (Nat.le_refl _) _).alloc (by simp) _
  have h2 := h.old hb2
  go_enter Try.func18, Try.ntmps18
  go_wp2_with fail
  refine (may_any h2 hs 37 _ remove_enter (RemRes B w r nm) ?_ ?_ ?_).mono ?_
  · intro hdn
    have e : removeP r.p nm = (r.p, 5) := by simp [removeP, mayP, DiskR.p, hdn]
    unfold RemRes
    rw [e]
    exact ⟨rfl, r, rfl, DStep.quiet h hb2⟩
  · intro hdn hno
    have e : removeP r.p nm = (r.p, 4) := by unfold removeP mayP; rw [findP_no hno]; simp [DiskR.p, hdn]
    unfold RemRes
    rw [e]
    exact ⟨rfl, r, rfl, DStep.quiet h hb2⟩
  · intro f hf hn hdn
    subst hn
    refine (remove1_any _ B r f h2 hs hdn hf _ _ (Blk.new2 _ _ _ _) (Blk.new2' _ _ _ _)).mono ?_
    rintro e w1 ⟨v, rfl, hv, r', hr', hs'⟩
    exact ⟨v, rfl, hv, r', hr', hs'.pre hb2⟩
  · rintro e w1 ⟨v, rfl, hv, r', hr', hs'⟩
    go_wp2_with fail
    go_ret
    refine ⟨?_, r', hr', hs'⟩
    rw [← hv]; rfl
def RenRes (B : Nat) (w : World) (r : DiskR) (nm nw : Name) (v : Int) (w' : World) : Prop := v = (renameP r.p nm nw).2 ∧ ∃ r', r'.p = (renameP r.p nm nw).1 ∧ DStep B w r w' r'
set_option maxRecDepth 20000 in
set_option maxHeartbeats 1000000 in
theorem rename1_any (w : World) (B : Nat) (r : DiskR) (f : FileR) (nw : Name) (h : DiskAt w B r) (hs : f.nm.size ≤ maxLen) (hdn : r.down = false) (hf : f ∈ r.fs) (bt bd bn : Nat)
    (hbt : Blk w bt #[.string nw] 9) (hbd : Blk w bd #[.pointer (some ⟨r.d, 0, none⟩)] 26) (hbn : Blk w bn #[.string f.nm] 9) :
    Calls Try.prog 38 #[.pointer (some ⟨f.blk, 0, none⟩), .pointer (some ⟨bt, 0, none⟩), .pointer (some ⟨bd, 0, none⟩), .pointer (some ⟨bn, 0, none⟩)] w fun e w' => ∃ v, e = .returned (.int .i64 v) ∧ RenRes B w r f.nm nw v w' := by
  have HE := Lib.hid (show renameP r.p f.nm nw = if okName nw = false then (r.p, 2) else ({ r.p with fs := (r.p.fs.filter fun g => g.name ≠ f.nm ∧ g.name ≠ nw) ++ [{ f.p with name := nw }] }, 0) by
    unfold renameP mayP
    rw [findP_of h hf]
    simp [DiskR.p, hdn])
  have c0 := hbt.rule
  cases hok : okName nw with
  | false =>
    go_enter Try.func38, Try.ntmps38
    go_wp2_with (go_at_call 26; refine (named_any nw _).mono ?_; rw [hok]; rintro e w1 ⟨rfl, hw⟩; subst w1)
    go_ret
    refine ⟨2, rfl, ?_⟩
    unfold RenRes
    rw [HE.out, if_pos hok]
    exact ⟨rfl, r, rfl, DStep.refl h⟩
  | true =>
    have hnz : nw.size ≤ maxLen := by
      have : nw.size ≤ 40 := by unfold okName at hok; simp at hok; exact hok.2
      unfold maxLen; omega
    obtain ⟨w2, hrun, hm2, ht2⟩ := (h.map.keep (w' := w.drew) rfl).del keyS Try.underlying58 (Go.WideMaps.keyOf_string_mk Try.underlying9 hs) 0
    have hk2 := But.turned ht2
    obtain ⟨w3, hrun3, hm3, ht3⟩ := (hm2.keep (w' := w2.drew) rfl).put keyS Try.underlying58 (by
      have := h.ok.count
      have e : r.p.fs.length = r.fs.length := by simp [DiskR.p]
      have e2 := List.length_filter_le (fun x => !keyIs (Lit.string f.nm.data.toList) x) (r.fs.map entryR)
      rw [List.length_map] at e2
      unfold maxLen; omega) (Go.WideMaps.keyOf_string_mk Try.underlying9 hnz) (Rp_mk f.blk)
    have L1 := fun W (hW : But r.m w.drew W) => hW.cell hbd.drew (h.ne_map hbd)
    have L2 := fun W (hW : But r.m w.drew W) => hW.cell hbn.drew (h.ne_map hbn)
    have L3 := fun W (hW : But r.m w.drew W) => hW.cell h.blk.drew (h.ne_map h.blk)
    unfold headV at L3
    go_enter Try.func38, Try.ntmps38
    go_wp2_with (go_at_call 26; refine (named_any nw _).mono ?_; rw [hok]; rintro e w1 ⟨rfl, hw⟩; subst w1)
    refine wp_region_treeB r.m (.step 0 (.step 1 (.step 2 (.step 3 (.step 4 (.step 5 .done)))))) (by kernel_rfl) (by kernel_rfl) (fun c a d v w h => by cases d <;> exact h) ?_
    repeat (first | (refine tree_skip rfl (by rfl) ?_; simp only [Act.put, List.setIfInBounds_toArray, List.set]) | (refine tree_quiet (v := ?_) rfl rfl (by rfl) ?_ ?_; rotate_left; (intro W hW; go_simp); (try with_reducible rfl); simp only [Act.put, List.setIfInBounds_toArray, List.set]))
    refine tree_loud rfl rfl (by rfl) (fun K hK => ?_)
    go_wp2_with fail
    refine hK _ _ hk2 ?_
    clear hK K L1 L2 L3
    refine tree_done ?_
    go_wp2_with fail
    have hbd2 := hbd.drew.but hk2 (h.ne_map hbd)
    have hbt2 := hbt.drew.but hk2 (h.ne_map hbt)
    have hB2 := h.blk.drew.but hk2 (h.ne_map h.blk)
    have M1 := fun W (hW : But r.m w2.drew W) => hW.cell hbd2.drew (h.ne_map hbd)
    have M2 := fun W (hW : But r.m w2.drew W) => hW.cell hbt2.drew (h.ne_map hbt)
    have M3 := fun W (hW : But r.m w2.drew W) => hW.cell hB2.drew (h.ne_map h.blk)
    unfold headV at M3
    refine wp_region_treeB r.m (.step 0 (.step 1 (.step 2 (.step 3 (.step 4 (.step 5 (.step 6 .done))))))) (by kernel_rfl) (by kernel_rfl) (fun c a d v w h => by cases d <;> exact h) ?_
    repeat (first | (refine tree_skip rfl (by rfl) ?_; simp only [Act.put, List.setIfInBounds_toArray, List.set]) | (refine tree_quiet (v := ?_) rfl rfl (by rfl) ?_ ?_; rotate_left; (intro W hW; go_simp); (try with_reducible rfl); simp only [Act.put, List.setIfInBounds_toArray, List.set]))
    refine tree_loud rfl rfl (by rfl) (fun K hK => ?_)
    go_wp2_with fail
    refine hK _ _ (But.turned ht3) ?_
    clear hK K M1 M2 M3
    refine tree_done ?_
    go_wp2_with fail
    go_ret
    refine ⟨0, rfl, ?_⟩
    unfold RenRes
    rw [HE.out, if_neg (by rw [hok]; simp)]
    have h13 : World.grownBy w.drew w3 (some r.m) := only_trans (only_drew ht2.grown) ht3.grown
    have hp : DiskR.p { r with fs := (r.fs.filter fun g : FileR => decide (g.nm ≠ f.nm ∧ g.nm ≠ nw)) ++ [({ f with nm := nw } : FileR)] } = { r.p with fs := (r.p.fs.filter fun g => g.name ≠ f.nm ∧ g.name ≠ nw) ++ [{ f.p with name := nw }] } := by
      simp only [DiskR.p]
      rw [List.map_append, filter_p r.fs fun x => decide (x ≠ f.nm ∧ x ≠ nw)]
      rfl
    have hm4 : GMap w3 Try.prog 9 Rp r.m (((r.fs.filter fun g : FileR => decide (g.nm ≠ f.nm ∧ g.nm ≠ nw)) ++ [({ f with nm := nw } : FileR)]).map entryR) := by
      have e := filter_entry r.fs f.nm
      have e2 := filter_entry (r.fs.filter fun g => decide (g.nm ≠ f.nm)) nw
      unfold nameL at e e2
      rw [List.map_append]
      have e3 : (r.fs.filter fun g : FileR => decide (g.nm ≠ f.nm ∧ g.nm ≠ nw)) = (r.fs.filter fun g : FileR => decide (g.nm ≠ f.nm)).filter fun g : FileR => decide (g.nm ≠ nw) := by
        rw [List.filter_filter]
        exact List.filter_congr fun g _ => by simp [Bool.and_comm]
      rw [e3, ← e2, ← e]
      exact hm3
    refine ⟨rfl, _, hp, DStep.pre (Below.refl _ _).drew (map_step h.drew h13 hm4 (fun g hg => ?_) ?_ ?_)⟩
    · rcases List.mem_append.1 hg with hg | hg
      · exact ⟨g, (List.mem_filter.1 hg).1, rfl, rfl, rfl, rfl, rfl⟩
      · obtain rfl := List.mem_singleton.1 hg
        exact ⟨f, hf, rfl, rfl, rfl, rfl, rfl⟩
    · rw [List.pairwise_append]
      refine ⟨h.apart.sublist List.filter_sublist, List.pairwise_singleton _ _, fun g hg g2 hg2 => ?_⟩
      obtain rfl := List.mem_singleton.1 hg2
      obtain ⟨hg1, hgn⟩ := List.mem_filter.1 hg
      have hgn' := of_decide_eq_true hgn
      exact h.apart' (g := f) hg1 hf hgn'.1
    · rw [hp]
      exact h.ok.rename (f := f.p) (List.mem_map.2 ⟨f, hf, rfl⟩) nw hok
set_option maxHeartbeats 1000000 in
theorem rename_any (w : World) (B : Nat) (r : DiskR) (nm nw : Name) (h : DiskAt w B r) (hs : nm.size ≤ maxLen) :
    Calls Try.prog 19 #[.pointer (some ⟨r.d, 0, none⟩), .string nm, .string nw] w fun e w' => e = .returned (.int .i64 (renameP r.p nm nw).2) ∧ ∃ r', r'.p = (renameP r.p nm nw).1 ∧ DStep B w r w' r' := by
  have hmf : ∀ (fn : Fn) (first cap : Array Value) (w : World), (Instr.makeFunc fn first cap).run Try.prog w = .ok (.func fn first cap) w := fun _ _ _ _ => rfl
  have hb2 : Below w.heap.size w (((w.alloc (.cells #[.pointer (some ⟨r.d, 0, none⟩)] 26)).alloc (.cells #[.string nm] 9)).alloc (.cells #[.string nw] 9)) := (((Below.refl _ _).alloc (Nat.le_refl _) _).alloc (by simp) _).alloc (by simp; omega) _
  have h2 := h.old hb2
  go_enter Try.func19, Try.ntmps19
  go_wp2_with fail
  refine (may_any h2 hs 38 _ rename_enter (RenRes B w r nm nw) ?_ ?_ ?_).mono ?_
  · intro hdn
    have e : renameP r.p nm nw = (r.p, 5) := by simp [renameP, mayP, DiskR.p, hdn]
    unfold RenRes
    rw [e]
    exact ⟨rfl, r, rfl, DStep.quiet h hb2⟩
  · intro hdn hno
    have e : renameP r.p nm nw = (r.p, 4) := by unfold renameP mayP; rw [findP_no hno]; simp [DiskR.p, hdn]
    unfold RenRes
    rw [e]
    exact ⟨rfl, r, rfl, DStep.quiet h hb2⟩
  · intro f hf hn hdn
    subst hn
    refine (rename1_any _ B r f nw h2 hs hdn hf _ _ _ (Blk.new3'' _ _ _ _ _) (Blk.new3 _ _ _ _ _) (Blk.new3' _ _ _ _ _)).mono ?_
    rintro e w1 ⟨v, rfl, hv, r', hr', hs'⟩
    exact ⟨v, rfl, hv, r', hr', hs'.pre hb2⟩
  · rintro e w1 ⟨v, rfl, hv, r', hr', hs'⟩
    go_wp2_with fail
    go_ret
    refine ⟨?_, r', hr', hs'⟩
    rw [← hv]; rfl
end Go.Proofs.Ytojmffpkaihmmaa
