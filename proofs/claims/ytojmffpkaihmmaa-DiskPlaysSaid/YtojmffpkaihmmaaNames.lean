/- The program's Names: the keys of the map, sorted. -/
import Derived.Test.YtojmffpkaihmmaaRDCopy
import Derived.Test.YtojmffpkaihmmaaSortS
namespace Go.Proofs.Ytojmffpkaihmmaa
open Go.RowKit Go.Maps Go.Shelf Go.Sort
set_option linter.unusedVariables false
set_option linter.unusedSimpArgs false

/-- The names of a program's disk, in order. -/
def sortedL (l : List (List UInt8)) : List (List UInt8) := l.mergeSort fun x y => decide (x ≤ y)
def nameOf (l : List UInt8) : Name := ⟨l.toArray⟩
def namesD (fs : List FileR) : List Name := (sortedL (fs.map fun f => f.nm.toList)).map nameOf
theorem name_round (nm : Name) : nameOf nm.toList = nm := by
  obtain ⟨⟨l⟩⟩ := nm
  unfold nameOf
  rw [show (ByteArray.mk ⟨l⟩).toList = l from ByteArray.toList_mk l]
theorem sortedL_perm {a b : List (List UInt8)} (h : a.Perm b) : sortedL a = sortedL b := by
  have ht : ∀ x y z : List UInt8, decide (x ≤ y) = true → decide (y ≤ z) = true → decide (x ≤ z) = true := fun x y z h1 h2 => decide_eq_true (List.le_trans (of_decide_eq_true h1) (of_decide_eq_true h2))
  have htot : ∀ x y : List UInt8, (decide (x ≤ y) || decide (y ≤ x)) = true := fun x y => by
    by_cases e : x ≤ y
    · simp [e]
    · have := List.not_le.1 e
      have h2 : y ≤ x := List.not_lt.1 (List.lt_asymm this)
      simp [h2]
  refine List.Perm.eq_of_pairwise (le := fun x y => decide (x ≤ y) = true) (fun x y _ _ h1 h2 => List.le_antisymm (of_decide_eq_true h1) (of_decide_eq_true h2)) (List.pairwise_mergeSort ht htot a) (List.pairwise_mergeSort ht htot b) ?_
  exact (List.mergeSort_perm _ _).trans (h.trans (List.mergeSort_perm _ _).symm)
theorem strV_nameOf (l : List (List UInt8)) : (l.map nameOf).map strV = l.map encStr := by
  rw [List.map_map]
  rfl
theorem filter_perm : ∀ {ys : List FileR} {f : FileR}, f ∈ ys → (ys.map (·.nm)).Nodup → (f :: ys.filter fun g => decide (g.nm ≠ f.nm)).Perm ys
  | x :: l, f, hf, hn => by
    simp only [List.map_cons, List.nodup_cons] at hn
    rcases List.mem_cons.1 hf with rfl | hf'
    · rw [List.filter_cons_of_neg (by simp), List.filter_eq_self.2]
      intro g hg
      refine decide_eq_true fun e => hn.1 ?_
      rw [← e]
      exact List.mem_map_of_mem (f := fun x : FileR => x.nm) hg
    · have hx : ¬ x.nm = f.nm := fun e => hn.1 (by rw [e]; exact List.mem_map_of_mem (f := fun x : FileR => x.nm) hf')
      rw [List.filter_cons_of_pos (by simpa using hx)]
      exact (List.Perm.swap _ _ _).trans ((filter_perm hf' hn.2).cons x)
structure KeysR (w : World) (r : DiskR) (ys : List FileR) (done : List FileR) (a : Option Addr) (c : Nat) (wr : World) : Prop where
  sub : ∀ y ∈ ys, y ∈ r.fs
  nd : (ys.map (·.nm)).Nodup
  perm : (done ++ ys).Perm r.fs
  ran : GRan wr Try.prog 9 Rp r.m w.heap.size (r.fs.map entryR) (ys.map entryR)
  own : Own wr (w.heap.size + 1) 9 1 a done.length c ((done.map (·.nm)).map strV)
  below : Below w.heap.size w wr
  size : w.heap.size + 1 ≤ wr.heap.size
set_option maxHeartbeats 1000000 in
theorem sorted_any (w : World) (B : Nat) (r : DiskR) (h : DiskAt w B r) :
    Calls Try.prog 54 #[.map (some r.m)] w fun e w' => ∃ a n c, e = .returned (.slice a n c) ∧ (namesD r.fs).length = n ∧ Own w' w.heap.size 9 1 a n c ((namesD r.fs).map strV) ∧ Below w.heap.size w w' := by
  have hcnt : r.fs.length ≤ 64 := by have := h.ok.count; simpa [DiskR.p] using this
  have hnd : (r.fs.map (·.nm)).Nodup := by
    have := h.ok.names
    rw [show r.p.fs = r.fs.map (·.p) from rfl, List.map_map] at this
    exact this
  have hmw := h.map.lt
  go_enter Try.func54, Try.ntmps54
  go_wp2_with (at_range; refine wpList_range_map rfl _ _ rfl keyS Try.underlying58 rfl h.map ?_; intro w0 hg0 hgr0 hsz0)
  go_frame
  go_loopw [3, 4] (fun v3 v4 wr => ∃ ys done a c, v3 = .slice a done.length c ∧ KeysR w r ys done a c wr) (fun _ _ wr => wr.rangeLeft r.m w.heap.size)
  case atStart =>
    have hb0 : Below w.heap.size w w0 := ⟨hgr0.os, hgr0.tape, hgr0.output, by omega, fun k hk => hgr0.block k hk (by simp)⟩
    exact ⟨r.fs, [], none, 0, rfl, fun _ hy => hy, hnd, by simp, hg0, Own.nil _ _ _ _, hb0, by omega⟩
  case round =>
    obtain ⟨ys, done, a, c, rfl, H⟩ := hrel
    go_wp2_with (at_next; refine wpList_next_file rfl _ rfl rfl H.ran ?_ ?_)
    · intro h0
      subst h0
      have hp : done.Perm r.fs := by have := H.perm; rwa [List.append_nil] at this
      have hNE := Lib.hid (show namesD r.fs = (sortedL (done.map fun f => f.nm.toList)).map nameOf by unfold namesD; rw [sortedL_perm (hp.map fun f : FileR => f.nm.toList)])
      have hsl : (sortedL (done.map fun f => f.nm.toList)).length = done.length := by unfold sortedL; rw [(List.mergeSort_perm _ _).length_eq, List.length_map]
      have hdl : done.length ≤ 64 := by have := hp.length_eq; omega
      by_cases hd : done.length = 0
      · have hde : done = [] := List.eq_nil_of_length_eq_zero hd
        subst hde
        have hN2 := Lib.hid (show namesD r.fs = [] by rw [hNE.out, List.eq_nil_of_length_eq_zero hsl]; rfl)
        have hso := sort_none a c wr
        have HB := Lib.hid H.below
        have hown := H.own
        have HO := Lib.hid hown
        clear hp hNE hsl
        go_wp2_with fail
        refine hso.mono ?_
        rintro e w2 ⟨rfl, rfl⟩
        go_wp2_with fail
        go_ret
        exact ⟨a, 0, c, rfl, by rw [hN2.out]; rfl, by rw [hN2.out]; exact HO.out.lower (Nat.le_succ _), HB.out⟩
      · obtain ⟨g, rfl⟩ := H.own.head (by omega)
        obtain ⟨_, hgl, cur, hcur⟩ := H.own.block_lt rfl
        have hH : Holds encStr wr g 0 (done.map fun f => f.nm.toList).toArray := by
          intro j hj
          have hj' : j < done.length := by simpa using hj
          obtain ⟨b, o, e, hc⟩ := H.own.row j (by simpa using hj')
          cases e
          refine ⟨?_, hcur.free _⟩
          rw [hc]
          simp only [List.getElem_map, strV, encStr]
          rw [getElem!_pos _ j hj]
          simp only [List.getElem_toArray, List.getElem_map]
          exact congrArg (fun x => some (Value.string x)) (name_round _).symm
        have hso := sort_any g 0 c (done.map fun f => f.nm.toList) wr hH hgl (by rw [List.length_map]; omega)
        rw [List.length_map] at hso
        have HOWN := Lib.hid (fun k os => H.own.putRow (sortedL (done.map fun f => f.nm.toList)) hsl k os)
        have HTURN := Lib.hid (fun k os => (put_turn hcur (sortedL (done.map fun f => f.nm.toList)).toArray k os).2)
        have HB := Lib.hid H.below
        have HSL := Lib.hid hsl
        have hgw := (H.own.block_lt rfl).1
        clear hp hH hsl
        go_wp2_with fail
        refine hso.mono ?_
        rintro e w2 ⟨rfl, k, os, hw2⟩
        have hO2 := HOWN.out k os
        have hT2 := HTURN.out k os
        unfold sortedL at hO2 hT2
        rw [← hw2] at hO2 hT2
        have HW := Lib.hid hw2
        clear hw2 hso
        go_wp2_with fail
        go_ret
        refine ⟨some ⟨g, 0, none⟩, done.length, c, rfl, by rw [hNE.out, List.length_map]; exact HSL.out, ?_, HB.out.trans (hT2.below (fun k hk => by subst hk; omega) HB.out.size)⟩
        rw [hNE.out, strV_nameOf]
        exact hO2.lower (Nat.le_succ _)
    · intro f hf w1 hgr1 hlt1 hgb1 hsz1 hen
      have HG := Lib.hid hgr1
      have HL := Lib.hid hlt1
      have hzz := H.size
      have hit : ∀ ad, a = some ad → w.heap.size + 1 ≤ ad.block ∧ ad.block < wr.heap.size := fun ad ha => ⟨(H.own.block_lt ha).1, (H.own.block_lt ha).2.1⟩
      have hown1 : Own w1 (w.heap.size + 1) 9 1 a done.length c ((done.map (·.nm)).map strV) := H.own.keepAt fun x hx => hgb1.block _ (hit x hx).2 (by have := (hit x hx).1; simp; omega)
      have hb1 : Below w.heap.size w w1 := H.below.trans ⟨hgb1.os, hgb1.tape, hgb1.output, by omega, fun k hk => hgb1.block k (by omega) (by simp; omega)⟩
      have hA := hown1.alloc (.cells #[.string f.nm] 9)
      have hdl : done.length ≤ 64 := by have := H.perm.length_eq; simp at this; omega
      clear hgr1 hlt1
      go_wp2_with (at_builtin; refine wpList_append_row rfl _ _ 54 rfl stringsT rfl hA rfl (RowAt.new' _ _ _ _ hsz1) (by rfl) (by exact all_one _ rfl) (by unfold maxLen; omega) (by omega) (by simp; omega) ?_)
      intro a2 c2 w2 hown2 hg2
      go_wp2_with fail
      have hb12 : Below (w.heap.size + 1) w1 w2 := hA.grown ((Below.refl _ _).alloc (by omega) _) (Nat.le_refl _) hg2 (by simp; omega)
      have e1 := hb12.block r.m (by omega)
      have e2 := hb12.block w.heap.size (by omega)
      have e3 : w2.rangeLeft r.m w.heap.size = w1.rangeLeft r.m w.heap.size := by simp only [World.rangeLeft, e1, e2]
      refine ⟨⟨ys.filter fun g => decide (g.nm ≠ f.nm), done ++ [f], a2, c2, by simp, fun y hy => H.sub y (List.mem_filter.1 hy).1, ?_, ?_, ?_, ?_, hb1.trans (hb12.mono (by omega)), by have := hb12.size; omega⟩, by rw [e3]; exact HL.out⟩
      · exact (List.Sublist.map _ List.filter_sublist).nodup H.nd
      · rw [List.append_assoc]
        exact ((filter_perm hf H.nd).append_left done).trans H.perm
      · have := HG.out.keep e1 e2
        simpa only [ne_eq, decide_not] using this
      · simpa [strV] using hown2
def namesP (r : DiskR) : List Name := if r.down then [] else namesD r.fs
set_option maxHeartbeats 1000000 in
theorem names_any (w : World) (B : Nat) (r : DiskR) (h : DiskAt w B r) :
    Calls Try.prog 24 #[.pointer (some ⟨r.d, 0, none⟩)] w fun e w' => ∃ a n c, e = .returned (.slice a n c) ∧ (namesP r).length = n ∧ Own w' w.heap.size 9 1 a n c ((namesP r).map strV) ∧ Below w.heap.size w w' := by
  have hb := h.blk.rule
  unfold headV at hb
  have hso := sorted_any w B r h
  cases hdn : r.down with
  | true =>
    rw [hdn] at hb
    have HR := Lib.hid (show namesP r = [] by unfold namesP; rw [hdn]; rfl)
    clear hso hdn
    go_enter Try.func24, Try.ntmps24
    go_wp2_with fail
    go_ret
    exact ⟨none, 0, 0, rfl, by rw [HR.out]; rfl, by rw [HR.out]; exact Own.nil _ _ _ _, Below.refl _ _⟩
  | false =>
    rw [hdn] at hb
    have HR := Lib.hid (show namesP r = namesD r.fs by unfold namesP; rw [hdn]; rfl)
    clear hdn
    go_enter Try.func24, Try.ntmps24
    go_wp2_with fail
    refine hso.mono ?_
    rintro e w1 ⟨a, n, c, rfl, hl, ho, hb1⟩
    have HL := Lib.hid hl
    clear hl
    go_wp2_with fail
    go_ret
    exact ⟨a, n, c, rfl, by rw [HR.out]; exact HL.out, by rw [HR.out]; exact ho, hb1⟩
/-- The document's names and the program's. -/
theorem names_eq {r : DiskR} {R : RefR} (h : Like R.p r.p) (hs : SortedN R.names) : namesP r = namesR R := by
  unfold namesP namesR
  have hd : R.down = r.down := h.rest.1
  rw [hd]
  split
  · rfl
  · have hp : (r.fs.map fun f => f.nm.toList).Perm (R.names.map ByteArray.toList) := by
      have := (h.fs.map (·.name)).map ByteArray.toList
      simp only [RefR.p, DiskR.p, List.map_map] at this
      simp only [RefR.names, List.map_map]
      exact this.symm
    unfold namesD
    rw [sortedL_perm hp]
    have hpw : (R.names.map ByteArray.toList).Pairwise (fun x y => decide (x ≤ y) = true) := by
      rw [List.pairwise_map]
      refine hs.imp fun h1 => ?_
      exact decide_eq_true ((leN_iff _ _).1 h1)
    have e : sortedL (R.names.map ByteArray.toList) = R.names.map ByteArray.toList := List.mergeSort_of_pairwise hpw
    rw [e, List.map_map]
    conv => rhs; rw [← List.map_id R.names]
    exact List.map_congr_left fun x _ => name_round x
end Go.Proofs.Ytojmffpkaihmmaa
