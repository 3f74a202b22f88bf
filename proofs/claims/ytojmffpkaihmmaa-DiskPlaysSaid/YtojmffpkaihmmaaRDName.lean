/- The walks through the document's disk, on: Make, Remove, Rename, Sure, Names. -/
import Derived.Test.YtojmffpkaihmmaaRDMake
namespace Go.Proofs.Ytojmffpkaihmmaa
open Go.RowKit Go.Maps
set_option linter.unusedVariables false
set_option linter.unusedSimpArgs false

/-! ### Names in order -/
theorem less_lists : ∀ (x y : List UInt8), Op.bytesLess x y = decide (x < y)
  | [], [] => by simp [Op.bytesLess]
  | _ :: _, [] => by simp [Op.bytesLess]
  | [], _ :: _ => by simp [Op.bytesLess]
  | a :: x, b :: y => by
    rw [Op.bytesLess, less_lists x y]
    simp only [List.cons_lt_cons_iff]
    by_cases h1 : a < b <;> by_cases h2 : a = b <;> by_cases h3 : x < y <;> simp [h1, h2, h3]
/-- Not behind the other. -/
def leN (x y : Name) : Prop := lessN y x = false
theorem leN_iff (x y : Name) : leN x y ↔ x.toList ≤ y.toList := by
  unfold leN lessN
  rw [less_lists, decide_eq_false_iff_not, List.not_lt]
theorem leN_of_less {x y : Name} (h : lessN x y = true) : leN x y := by
  rw [leN_iff]
  unfold lessN at h
  rw [less_lists, decide_eq_true_eq] at h
  exact List.not_lt.1 (List.lt_asymm h)
theorem leN_trans {x y z : Name} (h : leN x y) (h' : leN y z) : leN x z := by
  rw [leN_iff] at *
  exact List.le_trans h h'
theorem leN_antisymm {x y : Name} (h : leN x y) (h' : leN y x) : x = y := by
  rw [leN_iff] at *
  have e := List.le_antisymm h h'
  have := beq_name x y
  rw [e] at this
  simpa using this
def SortedN (l : List Name) : Prop := l.Pairwise leN
theorem SortedN.ins {l : List Name} (h : SortedN l) (f : Name) {i : Nat} (hi : i ≤ l.length) (h1 : i = 0 ∨ ∃ hq : i - 1 < l.length, lessN f l[i - 1] = false) (h2 : ∀ j (hj : j < l.length), i ≤ j → lessN f l[j] = true) : SortedN (insAt l f i) := by
  unfold SortedN insAt
  rw [List.pairwise_append, List.pairwise_cons]
  have hd : (l.take i ++ l.drop i).Pairwise leN := by rw [List.take_append_drop]; exact h
  rw [List.pairwise_append] at hd
  have hb : ∀ a ∈ l.take i, leN a f := by
    intro a ha
    obtain ⟨j, hj, rfl⟩ := List.getElem_of_mem ha
    have hj2 : j < i ∧ j < l.length := by rw [List.length_take] at hj; omega
    rcases h1 with h1 | ⟨hq, h1⟩
    · omega
    · rw [List.getElem_take]
      have hl : leN l[i - 1] f := h1
      by_cases e : j = i - 1
      · subst e; exact hl
      · exact leN_trans (List.pairwise_iff_getElem.1 h j (i - 1) hj2.2 hq (by omega)) hl
  refine ⟨hd.1, ⟨fun a ha => ?_, hd.2.1⟩, fun a ha b hb' => ?_⟩
  · obtain ⟨j, hj, rfl⟩ := List.getElem_of_mem ha
    rw [List.getElem_drop]
    exact leN_of_less (h2 _ _ (by omega))
  · rcases List.mem_cons.1 hb' with rfl | hb'
    · exact hb a ha
    · exact hd.2.2 a ha b hb'
/-- Two disks that differ in the order of the files alone. -/
structure Like (p q : DiskP) : Prop where
  fs : p.fs.Perm q.fs
  rest : p.down = q.down ∧ p.armed = q.armed ∧ p.left = q.left ∧ p.plan = q.plan
theorem Like.refl (p : DiskP) : Like p p := ⟨List.Perm.refl _, rfl, rfl, rfl, rfl⟩
theorem Like.trans {p q s : DiskP} (h : Like p q) (h' : Like q s) : Like p s := ⟨h.fs.trans h'.fs, h.rest.1.trans h'.rest.1, h.rest.2.1.trans h'.rest.2.1, h.rest.2.2.1.trans h'.rest.2.2.1, h.rest.2.2.2.trans h'.rest.2.2.2⟩
theorem Like.symm {p q : DiskP} (h : Like p q) : Like q p := ⟨h.fs.symm, h.rest.1.symm, h.rest.2.1.symm, h.rest.2.2.1.symm, h.rest.2.2.2.symm⟩
def RefR.names (r : RefR) : List Name := r.fs.map (·.nm)
/-- A file is dropped, by its name. -/
theorem erase_filter {fs : List FileQ} {k : Nat} (hk : k < fs.length) (hn : (fs.map (·.nm)).Nodup) : fs.eraseIdx k = fs.filter (fun f => f.nm ≠ fs[k].nm) := by
  induction fs generalizing k with
  | nil => simp at hk
  | cons x l ih =>
    simp only [List.map_cons, List.nodup_cons] at hn
    cases k with
    | zero =>
      rw [List.eraseIdx_cons_zero, List.getElem_cons_zero, List.filter_cons_of_neg (by simp)]
      symm
      rw [List.filter_eq_self]
      intro a ha
      simp only [ne_eq, decide_eq_true_eq]
      exact fun e => hn.1 (e ▸ List.mem_map_of_mem (f := fun x : FileQ => x.nm) ha)
    | succ k =>
      have hk' : k < l.length := by simpa using hk
      rw [List.eraseIdx_cons_succ, List.getElem_cons_succ, List.filter_cons_of_pos, ih hk' hn.2]
      simp only [ne_eq, decide_eq_true_eq]
      exact fun e => hn.1 (e ▸ List.mem_map_of_mem (f := fun x : FileQ => x.nm) (List.getElem_mem hk'))
theorem PutPost.step {B : Nat} {w0 w w' : World} {r0 r : RefR} {f : FileQ} (h0 : RStep B w0 r0 w r) (hp : PutPost B w r f w') (hf : ∀ ad, f.a = some ad → rfoot r0 ad.block ∨ w0.heap.size ≤ ad.block) :
    ∃ r', RStep B w0 r0 w' r' ∧ Like r'.p { r.p with fs := r.p.fs ++ [f.p] } ∧ (SortedN r.names → SortedN r'.names) := by
  obtain ⟨i, la, lc, hi, h1, h2, ha, ht, hl⟩ := hp
  have hperm := insAt_perm r.fs f i
  have hz := h0.turn.size
  refine ⟨_, ⟨h0.turn.trans (ht.mono (G := rfoot r) fun x hx => ?_) h0.foot', ha, ?_, h0.d⟩, ⟨?_, rfl, rfl, rfl, rfl⟩, fun hs => ?_⟩
  · rcases hx with hx | hx
    · exact .inl hx
    · exact .inr (.inl hx)
  · rintro x (hx | ⟨ad, h3, rfl⟩ | ⟨q, hq, ad, h3, rfl⟩ | hx)
    · exact h0.foot' _ (.inl hx)
    · rcases hl ad h3 with ⟨ad', h4, h5⟩ | h4
      · exact h0.foot' _ (.inr (.inl ⟨ad', h4, h5⟩))
      · exact .inr (Nat.le_trans hz h4)
    · have hq' := hperm.mem_iff.1 hq
      rcases List.mem_append.1 hq' with hq' | hq'
      · exact h0.foot' _ (.inr (.inr (.inl ⟨q, hq', ad, h3, rfl⟩)))
      · rw [List.mem_singleton.1 hq'] at h3
        exact hf ad h3
    · exact h0.foot' _ (.inr (.inr (.inr hx)))
  · have := hperm.map FileQ.p
    simpa [RefR.p] using this
  · have e : (insAt r.fs f i).map (·.nm) = insAt (r.fs.map (·.nm)) f.nm i := by
      unfold insAt
      simp [List.map_take, List.map_drop]
    show SortedN ((insAt r.fs f i).map (·.nm))
    rw [e]
    refine SortedN.ins (l := r.fs.map FileQ.nm) hs f.nm (by simpa using hi) ?_ ?_
    · rcases h1 with h1 | ⟨hq, h1⟩
      · exact .inl h1
      · exact .inr ⟨by simpa using hq, by simpa using h1⟩
    · intro j hj hij
      have := h2 j (by simpa using hj) hij
      simpa using this
theorem drop_step {B : Nat} {w w' : World} {r : RefR} {k : Nat} {la : Option Addr} {lc : Nat} (ha : RefAt w' B { r with fs := r.fs.eraseIdx k, la := la, lc := lc }) (ht : Turn (fun x => x = r.d) w w') (hl : ∀ ad, la = some ad → w.heap.size ≤ ad.block) : RStep B w r w' { r with fs := r.fs.eraseIdx k, la := la, lc := lc } := by
  refine ⟨ht.mono fun x hx => .inl hx, ha, ?_, rfl⟩
  rintro x (hx | ⟨ad, h3, rfl⟩ | ⟨q, hq, ad, h3, rfl⟩ | hx)
  · exact .inl (.inl hx)
  · exact .inr (hl ad h3)
  · exact .inl (.inr (.inr (.inl ⟨q, (List.eraseIdx_sublist _ _).subset hq, ad, h3, rfl⟩)))
  · exact .inl (.inr (.inr (.inr hx)))
theorem SortedN.erase {r : RefR} {k : Nat} {la : Option Addr} {lc : Nat} (h : SortedN r.names) : SortedN (RefR.names { r with fs := r.fs.eraseIdx k, la := la, lc := lc }) :=
  List.Pairwise.sublist ((List.eraseIdx_sublist _ _).map _) h
/-- What is done to the document's disk, up to the order of the files. -/
def RDone (B : Nat) (w : World) (r : RefR) (p : DiskP) (w' : World) : Prop := ∃ r', Like r'.p p ∧ RStep B w r w' r' ∧ (SortedN r.names → SortedN r'.names)
theorem RDone.refl {B : Nat} {w : World} {r : RefR} {p : DiskP} (h : RefAt w B r) (hp : p = r.p) : RDone B w r p w := ⟨r, hp ▸ Like.refl _, RStep.refl h, id⟩
theorem find_iff (r : RefR) (nm : Name) : ((findP r.p nm).isSome = true ∧ decide ((0 : Int) ≤ placeI r.fs nm) = true) ∨ ((findP r.p nm).isSome = false ∧ decide ((0 : Int) ≤ placeI r.fs nm) = false ∧ ∀ f ∈ r.fs, f.nm ≠ nm) := by
  rcases place_cases r.fs nm with ⟨k, hk, h1, h2, h3⟩ | ⟨h1, h2, h3⟩
  · refine .inl ⟨?_, by rw [h2]; simp⟩
    show ((r.fs.map FileQ.p).find? _).isSome = true
    have e : (r.fs.map FileQ.p).find? (fun f => f.name = nm) = some r.fs[k].p := h3
    rw [e]; rfl
  · refine .inr ⟨?_, by rw [h2]; rfl, h1⟩
    show ((r.fs.map FileQ.p).find? _).isSome = false
    have e : (r.fs.map FileQ.p).find? (fun f => f.name = nm) = none := h3
    rw [e]; rfl
theorem put_ok {r : RefR} {f : FileQ} (h : DiskOk r.p) (hn : ∀ q ∈ r.fs, q.nm ≠ f.nm) (hk : okName f.nm = true) (hs : f.sure ≤ f.b.length) (hb : f.b.length ≤ maxFileN) (hc : r.fs.length < 64) : DiskOk (RefR.p { r with fs := r.fs ++ [f] }) := by
  have hall : ∀ q ∈ (r.fs ++ [f]).map FileQ.p, q ∈ r.p.fs ∨ q = f.p := fun q hq => by
    rw [List.map_append] at hq
    rcases List.mem_append.1 hq with hq | hq
    · exact .inl hq
    · exact .inr (by simpa using hq)
  refine ⟨?_, fun q hq => ?_, fun q hq => ?_, fun q hq => ?_, ?_, h.left⟩
  · show (((r.fs ++ [f]).map FileQ.p).map (·.name)).Nodup
    rw [List.map_append, List.map_append, List.nodup_append]
    refine ⟨h.names, by simp, ?_⟩
    intro a ha b hb' e
    obtain ⟨q, hq, rfl⟩ := List.mem_map.1 ha
    obtain ⟨q0, hq0, rfl⟩ := List.mem_map.1 hq
    simp only [List.map_cons, List.map_nil, List.mem_singleton] at hb'
    exact hn q0 hq0 (e.trans hb')
  · rcases hall q hq with hq | rfl
    · exact h.named q hq
    · exact hk
  · rcases hall q hq with hq | rfl
    · exact h.sure q hq
    · exact hs
  · rcases hall q hq with hq | rfl
    · exact h.size q hq
    · exact hb
  · show ((r.fs ++ [f]).map FileQ.p).length ≤ 64
    simp; omega
set_option maxHeartbeats 1000000 in
theorem rmake_any (w : World) (B : Nat) (r : RefR) (nm : Name) (h : RefAt w B r) (hB : B ≤ w.heap.size) :
    Calls Try.prog 42 #[.pointer (some ⟨r.d, 0, none⟩), .string nm] w fun e w' => e = .returned (.int .i64 (makeP r.p nm).2) ∧ RDone B w r (makeP r.p nm).1 w' := by
  have hb := h.blk.rule
  unfold refHead at hb
  have hlen : r.p.fs.length = r.fs.length := by simp [RefR.p]
  cases hdn : r.down with
  | true =>
    rw [hdn] at hb
    have HR := Lib.hid (show makeP r.p nm = (r.p, 5) by unfold makeP; rw [if_pos (show r.p.down = true from hdn)])
    go_enter Try.func42, Try.ntmps42
    go_wp2_with fail
    go_ret
    exact ⟨by rw [HR.out]; first | rfl | simp, by rw [HR.out]; exact RDone.refl h rfl⟩
  | false =>
    rw [hdn] at hb
    have hd : ¬ r.p.down = true := by simp [RefR.p, hdn]
    cases hok : okName nm with
    | false =>
      have HR := Lib.hid (show makeP r.p nm = (r.p, 2) by unfold makeP; rw [if_neg hd, if_pos hok])
      have hnm := rnamed_any nm w
      rw [hok] at hnm
      clear hd hok hdn
      go_enter Try.func42, Try.ntmps42
      go_wp2_with fail
      refine hnm.mono ?_
      rintro e w' ⟨rfl, rfl⟩
      go_wp2_with fail
      go_ret
      exact ⟨by rw [HR.out]; first | rfl | simp, by rw [HR.out]; exact RDone.refl h rfl⟩
    | true =>
      have hnm := rnamed_any nm w
      rw [hok] at hnm
      have hfi := rfind_any w B r nm h
      rcases find_iff r nm with ⟨h1, h2⟩ | ⟨h1, h2, h3⟩
      · have HR := Lib.hid (show makeP r.p nm = (r.p, 101) by unfold makeP; rw [if_neg hd, if_neg (by rw [hok]; decide), if_pos h1])
        clear hd hok hdn h1
        go_enter Try.func42, Try.ntmps42
        go_wp2_with fail
        refine hnm.mono ?_
        rintro e w' ⟨rfl, rfl⟩
        go_wp2_with fail
        refine hfi.mono ?_
        rintro e w'' ⟨rfl, rfl⟩
        go_wp2_with fail
        go_ret
        exact ⟨by rw [HR.out]; first | rfl | simp, by rw [HR.out]; exact RDone.refl h rfl⟩
      · by_cases hfull : 64 ≤ r.fs.length
        · have HR := Lib.hid (show makeP r.p nm = (r.p, 100) by unfold makeP; rw [if_neg hd, if_neg (by rw [hok]; decide), if_neg (by rw [h1]; decide), if_pos (by rw [hlen]; exact hfull)])
          have t0 : decide ((64 : Int) ≤ (r.fs.length : Int)) = true := by simp; omega
          clear hd hok hdn h1 h3 hlen
          go_enter Try.func42, Try.ntmps42
          go_wp2_with fail
          refine hnm.mono ?_
          rintro e w' ⟨rfl, rfl⟩
          go_wp2_with fail
          refine hfi.mono ?_
          rintro e w'' ⟨rfl, rfl⟩
          go_wp2_with fail
          go_ret
          exact ⟨by rw [HR.out]; first | rfl | simp, by rw [HR.out]; exact RDone.refl h rfl⟩
        · have HR := Lib.hid (show makeP r.p nm = ({ r.p with fs := r.p.fs ++ [⟨nm, [], 0⟩] }, 0) by unfold makeP; rw [if_neg hd, if_neg (by rw [hok]; decide), if_neg (by rw [h1]; decide), if_neg (by rw [hlen]; exact hfull)])
          have hput := rput_any w B r ⟨nm, none, 0, [], 0⟩ h hB (Own.nil _ _ _ _) (put_ok h.ok h3 hok (Nat.le_refl _) (Nat.zero_le _) (by omega))
          have t0 : decide ((64 : Int) ≤ (r.fs.length : Int)) = false := by simp; omega
          clear hd hok hdn h1 h3 hlen
          go_enter Try.func42, Try.ntmps42
          go_wp2_with fail
          refine hnm.mono ?_
          rintro e w' ⟨rfl, rfl⟩
          go_wp2_with fail
          refine hfi.mono ?_
          rintro e w'' ⟨rfl, rfl⟩
          go_wp2_with fail
          refine hput.mono ?_
          rintro e w1 ⟨rfl, hp⟩
          go_wp2_with fail
          go_ret
          refine ⟨by rw [HR.out]; first | rfl | simp, ?_⟩
          rw [HR.out]
          obtain ⟨r', q1, q2, q3⟩ := PutPost.step (RStep.refl h) hp (fun ad ha => by cases ha)
          exact ⟨r', q2, q1, q3⟩
theorem erase_p {r : RefR} {k : Nat} (hk : k < r.fs.length) (hn : (r.fs.map (·.nm)).Nodup) : (r.fs.eraseIdx k).map FileQ.p = r.p.fs.filter (fun f => f.name ≠ r.fs[k].nm) := by
  rw [erase_filter hk hn]
  show _ = (r.fs.map FileQ.p).filter _
  rw [List.filter_map]
  rfl
set_option maxHeartbeats 1000000 in
theorem rremove_any (w : World) (B : Nat) (r : RefR) (nm : Name) (h : RefAt w B r) (hB : B ≤ w.heap.size) :
    Calls Try.prog 48 #[.pointer (some ⟨r.d, 0, none⟩), .string nm] w fun e w' => e = .returned (.int .i64 (removeP r.p nm).2) ∧ RDone B w r (removeP r.p nm).1 w' := by
  have hat := rat_any w B r nm h
  rcases at_cases r nm with ⟨hd, h1, h2⟩ | ⟨hd, h0, h1, h2, h3⟩ | ⟨k, hk, hd, h0, h1, h2, h3⟩
  · rw [h1, h2] at hat
    have HR := Lib.hid (show removeP r.p nm = (r.p, 5) by unfold removeP mayP; rw [if_pos (show r.p.down = true from hd)])
    clear h1 h2 hd
    go_enter Try.func48, Try.ntmps48
    go_wp2_with fail
    refine hat.mono ?_
    rintro e w' ⟨rfl, rfl⟩
    go_wp2_with fail
    go_ret
    exact ⟨by rw [HR.out]; first | rfl | simp, by rw [HR.out]; exact RDone.refl h rfl⟩
  · rw [h1, h2] at hat
    have HR := Lib.hid (show removeP r.p nm = (r.p, 4) by unfold removeP mayP; rw [if_neg (by simp [RefR.p, hd]), h3])
    clear h0 h1 h2 h3 hd
    go_enter Try.func48, Try.ntmps48
    go_wp2_with fail
    refine hat.mono ?_
    rintro e w' ⟨rfl, rfl⟩
    go_wp2_with fail
    go_ret
    exact ⟨by rw [HR.out]; first | rfl | simp, by rw [HR.out]; exact RDone.refl h rfl⟩
  · rw [h1, h2] at hat
    have HR := Lib.hid (show removeP r.p nm = ({ r.p with fs := r.p.fs.filter fun f => f.name ≠ nm }, 0) by unfold removeP; rw [mayP_at hd h3])
    have HE := Lib.hid (show (r.fs.eraseIdx k).map FileQ.p = r.p.fs.filter (fun f => f.name ≠ nm) by have := erase_p hk h.nd; rw [h0] at this; exact this)
    have hdr := rdrop_any w B r k hk h hB
    clear h0 h1 h2 h3 hd
    go_enter Try.func48, Try.ntmps48
    go_wp2_with fail
    refine hat.mono ?_
    rintro e w' ⟨rfl, rfl⟩
    go_wp2_with fail
    refine hdr.mono ?_
    rintro e w1 ⟨rfl, la, lc, ha, ht, hl⟩
    go_wp2_with fail
    go_ret
    refine ⟨by rw [HR.out]; first | rfl | simp, ?_⟩
    rw [HR.out]
    refine ⟨{ r with fs := r.fs.eraseIdx k, la := la, lc := lc }, ⟨?_, rfl, rfl, rfl, rfl⟩, drop_step ha ht hl, fun hs => hs.erase⟩
    show ((r.fs.eraseIdx k).map FileQ.p).Perm _
    rw [HE.out]
theorem rsure_any (w : World) (B : Nat) (r : RefR) (nm : Name) (h : RefAt w B r) :
    Calls Try.prog 46 #[.pointer (some ⟨r.d, 0, none⟩), .string nm] w fun e w' => e = .returned (.tuple #[.int .i64 ((sureP r.p nm).1 : Int), .int .i64 (sureP r.p nm).2]) ∧ w' = w := by
  have hat := rat_any w B r nm h
  have hb := h.blk.rule
  unfold refHead at hb
  have hcnt : r.fs.length ≤ 64 := by have := h.ok.count; simpa [RefR.p] using this
  rcases at_cases r nm with ⟨hd, h1, h2⟩ | ⟨hd, h0, h1, h2, h3⟩ | ⟨k, hk, hd, h0, h1, h2, h3⟩
  · rw [h1, h2] at hat
    have HR := Lib.hid (show sureP r.p nm = (0, 5) by unfold sureP; rw [if_pos (show r.p.down = true from hd)])
    clear h1 h2 hd
    go_enter Try.func46, Try.ntmps46
    go_wp2_with fail
    refine hat.mono ?_
    rintro e w' ⟨rfl, rfl⟩
    go_wp2_with fail
    go_ret2
    exact ⟨by rw [HR.out]; first | rfl | simp, rfl⟩
  · rw [h1, h2] at hat
    have HR := Lib.hid (show sureP r.p nm = (0, 4) by unfold sureP; rw [if_neg (by simp [RefR.p, hd]), h3])
    clear h0 h1 h2 h3 hd
    go_enter Try.func46, Try.ntmps46
    go_wp2_with fail
    refine hat.mono ?_
    rintro e w' ⟨rfl, rfl⟩
    go_wp2_with fail
    go_ret2
    exact ⟨by rw [HR.out]; first | rfl | simp, rfl⟩
  · rw [h1, h2] at hat
    have HR := Lib.hid (show sureP r.p nm = (r.fs[k].sure, 0) by unfold sureP; rw [if_neg (by simp [RefR.p, hd]), h3]; rfl)
    obtain ⟨g, hg, c0, c1, c2⟩ := h.elem k hk
    generalize r.fs[k] = f at *
    rw [hg] at hb
    clear h0 h1 h2 h3 hd c0 c1 hg
    go_enter Try.func46, Try.ntmps46
    go_wp2_with fail
    refine hat.mono ?_
    rintro e w' ⟨rfl, rfl⟩
    go_wp2_with fail
    go_ret2
    exact ⟨by rw [HR.out]; first | rfl | simp, rfl⟩
/-- Behind the first drop: what the second does, if it is done. -/
theorem filter_two (l : List FileP) (a b : Name) : (l.filter (fun f : FileP => f.name ≠ a)).filter (fun f : FileP => f.name ≠ b) = l.filter (fun f : FileP => f.name ≠ a ∧ f.name ≠ b) := by
  rw [List.filter_filter]
  congr 1
  funext f
  simp [Bool.and_comm]
theorem erase_perm {α : Type} : ∀ (l : List α) (k : Nat) (hk : k < l.length), (l.eraseIdx k ++ [l[k]]).Perm l
  | x :: l, 0, _ => by
    rw [List.eraseIdx_cons_zero, List.getElem_cons_zero]
    exact List.perm_append_comm (l₁ := l) (l₂ := [x])
  | x :: l, k + 1, hk => by
    rw [List.eraseIdx_cons_succ, List.getElem_cons_succ, List.cons_append]
    exact (erase_perm l k (by simpa using hk)).cons x
theorem rename_same {r : RefR} {k : Nat} (hk : k < r.fs.length) (hn : (r.fs.map (·.nm)).Nodup) : ((r.p.fs.filter fun f : FileP => f.name ≠ r.fs[k].nm ∧ f.name ≠ r.fs[k].nm) ++ [{ r.fs[k].p with name := r.fs[k].nm }]).Perm r.p.fs := by
  have e : (r.p.fs.filter fun f : FileP => f.name ≠ r.fs[k].nm ∧ f.name ≠ r.fs[k].nm) = (r.fs.eraseIdx k).map FileQ.p := by
    rw [erase_p hk hn]
    congr 1
    funext f
    simp
  rw [e]
  have := (erase_perm r.fs k hk).map FileQ.p
  rw [List.map_append] at this
  exact this
theorem rename_end {B : Nat} {w w3 w4 : World} {r r3 : RefR} {f : FileQ} {P : DiskP} (h0 : RStep B w r w3 r3) (hr : Like { r3.p with fs := r3.p.fs ++ [f.p] } P) (hs : SortedN r.names → SortedN r3.names) (hp : PutPost B w3 r3 f w4) (hf : ∀ ad, f.a = some ad → rfoot r ad.block) : RDone B w r P w4 := by
  obtain ⟨r', q1, q2, q3⟩ := PutPost.step h0 hp (fun ad ha => .inl (hf ad ha))
  exact ⟨r', q2.trans hr, q1, fun h => q3 (hs h)⟩
theorem filter_none (l : List FileQ) (nw : Name) (h : ∀ f ∈ l, f.nm ≠ nw) : (l.map FileQ.p).filter (fun f : FileP => f.name ≠ nw) = l.map FileQ.p := by
  rw [List.filter_eq_self]
  intro a ha
  obtain ⟨q, hq, rfl⟩ := List.mem_map.1 ha
  exact decide_eq_true (show q.p.name ≠ nw from h q hq)
set_option maxHeartbeats 4000000 in
set_option maxRecDepth 20000 in
theorem rrename_any (w : World) (B : Nat) (r : RefR) (nm nw : Name) (h : RefAt w B r) (hB : B ≤ w.heap.size) :
    Calls Try.prog 49 #[.pointer (some ⟨r.d, 0, none⟩), .string nm, .string nw] w fun e w' => e = .returned (.int .i64 (renameP r.p nm nw).2) ∧ RDone B w r (renameP r.p nm nw).1 w' := by
  have hat := rat_any w B r nm h
  have hb := h.blk.rule
  unfold refHead at hb
  have hcnt : r.fs.length ≤ 64 := by have := h.ok.count; simpa [RefR.p] using this
  rcases at_cases r nm with ⟨hd, h1, h2⟩ | ⟨hd, h0, h1, h2, h3⟩ | ⟨k, hk, hd, h0, h1, h2, h3⟩
  · rw [h1, h2] at hat
    have HR := Lib.hid (show renameP r.p nm nw = (r.p, 5) by unfold renameP mayP; rw [if_pos (show r.p.down = true from hd)])
    clear h1 h2 hd
    go_enter Try.func49, Try.ntmps49
    go_wp2_with fail
    refine hat.mono ?_
    rintro e w' ⟨rfl, rfl⟩
    go_wp2_with fail
    go_ret
    exact ⟨by rw [HR.out]; first | rfl | simp, by rw [HR.out]; exact RDone.refl h rfl⟩
  · rw [h1, h2] at hat
    have HR := Lib.hid (show renameP r.p nm nw = (r.p, 4) by unfold renameP mayP; rw [if_neg (by simp [RefR.p, hd]), h3])
    clear h0 h1 h2 h3 hd
    go_enter Try.func49, Try.ntmps49
    go_wp2_with fail
    refine hat.mono ?_
    rintro e w' ⟨rfl, rfl⟩
    go_wp2_with fail
    go_ret
    exact ⟨by rw [HR.out]; first | rfl | simp, by rw [HR.out]; exact RDone.refl h rfl⟩
  · rw [h1, h2] at hat
    have HR := Lib.hid (show renameP r.p nm nw = if okName nw = false then (r.p, 2) else ({ r.p with fs := (r.p.fs.filter fun f : FileP => f.name ≠ nm ∧ f.name ≠ nw) ++ [{ r.fs[k].p with name := nw }] }, 0) by unfold renameP; rw [mayP_at hd h3])
    have hnn := rnamed_any nw w
    cases hok : okName nw with
    | false =>
      rw [hok] at hnn
      have HR2 := Lib.hid (HR.out.trans (if_pos hok))
      clear h0 h1 h2 h3 hd HR hok
      go_enter Try.func49, Try.ntmps49
      go_wp2_with fail
      refine hat.mono ?_
      rintro e w' ⟨rfl, rfl⟩
      go_wp2_with fail
      refine hnn.mono ?_
      rintro e w'' ⟨rfl, rfl⟩
      go_wp2_with fail
      go_ret
      exact ⟨by rw [HR2.out]; first | rfl | simp, by rw [HR2.out]; exact RDone.refl h rfl⟩
    | true =>
      rw [hok] at hnn
      have HR2 := Lib.hid (HR.out.trans (if_neg (by rw [hok]; decide)))
      clear HR
      by_cases he : nm = nw
      · have t0 : (nm.toList == nw.toList) = true := by rw [beq_name]; simpa using he
        have HL := Lib.hid (show Like r.p { r.p with fs := (r.p.fs.filter fun f : FileP => f.name ≠ nm ∧ f.name ≠ nw) ++ [{ r.fs[k].p with name := nw }] } by
          have := rename_same hk h.nd
          rw [h0] at this
          refine ⟨?_, rfl, rfl, rfl, rfl⟩
          rw [← he]
          exact this.symm)
        clear h0 h1 h2 h3 hd hok he
        go_enter Try.func49, Try.ntmps49
        go_wp2_with fail
        refine hat.mono ?_
        rintro e w' ⟨rfl, rfl⟩
        go_wp2_with fail
        refine hnn.mono ?_
        rintro e w'' ⟨rfl, rfl⟩
        go_wp2_with fail
        go_ret
        refine ⟨by rw [HR2.out]; first | rfl | simp, ?_⟩
        rw [HR2.out]
        exact ⟨r, HL.out, RStep.refl h, id⟩
      · have t0 : (nm.toList == nw.toList) = false := by rw [beq_name]; simpa using he
        obtain ⟨g, hg, c0, c1, c2⟩ := h.elem k hk
        have hfo := h.files _ (List.getElem_mem hk)
        have hfi := h.ok.sure r.fs[k].p (List.mem_map.2 ⟨_, List.getElem_mem hk, rfl⟩)
        have hfz := h.ok.size r.fs[k].p (List.mem_map.2 ⟨_, List.getElem_mem hk, rfl⟩)
        have HE := Lib.hid (show (r.fs.eraseIdx k).map FileQ.p = r.p.fs.filter (fun f : FileP => f.name ≠ nm) by have := erase_p hk h.nd; rw [h0] at this; exact this)
        have HF := Lib.hid (show ∀ ad, r.fs[k].a = some ad → rfoot r ad.block from fun ad ha => .inr (.inr (.inl ⟨_, List.getElem_mem hk, ad, ha, rfl⟩)))
        obtain ⟨f, hf⟩ : ∃ f, f = r.fs[k] := ⟨_, rfl⟩
        rw [← hf] at c0 c1 c2 hfo hfi hfz HF HR2
        have HC := Lib.hid (file_cells c0 c1 c2)
        have HOK := Lib.hid hok
        rw [hg] at hb
        clear h0 h1 h2 h3 hd hok he hf c0 c1 c2
        go_enter Try.func49, Try.ntmps49
        go_wp2_with fail
        refine hat.mono ?_
        rintro e w' ⟨rfl, rfl⟩
        go_wp2_with fail
        refine hnn.mono ?_
        rintro e w'' ⟨rfl, rfl⟩
        go_upto_region 9 with (first | refine wpList_load_as rfl 72 fileT (.tmp 31) rfl rfl (v := .agg #[.string f.nm, .slice f.a f.b.length f.c, .int .i64 (f.sure : Int)]) rfl HC.out rfl ?_ | refine wpList_store_blk rfl 72 fileT (.tmp 9) _ rfl rfl rfl (Blk.new _ _ _) rfl rfl rfl ?_)
        refine wp_forget (fun W0 => Blk W0 w''.heap.size (fileCells f).toArray 72 ∧ Below w''.heap.size w'' W0) ⟨(Blk.new _ _ _).setRow _, by (try unfold Kept); repeat (first | assumption | exact Below.refl _ _ | exact below_undrew (Below.refl _ _) | exact Below.mono (by assumption) (by first | (simp; done) | (simp; omega) | omega) | refine below_setRow ?_ (by first | (simp; done) | (simp; omega) | omega) _ | refine Below.setCell ?_ (by first | (simp; done) | (simp; omega) | omega) _ | refine Below.alloc ?_ (by first | (simp; done) | (simp; omega) | omega) _ | refine below_drewN ?_ _ | refine Below.drew ?_ | refine below_undrew ?_ | refine below_step ?_ (by assumption))⟩ ?_
        rintro w1 ⟨hx1, hb1⟩
        have hxf := hx1.free
        have hxr := hx1.rule
        have x0 : w1.cell? ⟨w''.heap.size, 0, none⟩ = some (.string f.nm) := hxr 0
        go_upto_region 10 with (fail)
        refine wp_forget (fun W0 => Blk W0 w''.heap.size #[.string nw, .slice f.a f.b.length f.c, .int .i64 (f.sure : Int)] 72 ∧ Below w''.heap.size w'' W0) ⟨?_, ?_⟩ ?_
        · simpa [fileCells] using hx1.set 0 (.string nw)
        · exact hb1.setCell (Nat.le_refl _) _
        rintro w2 ⟨hx2, hb2⟩
        clear hxf hxr x0 hx1 hb1 hb hg HC
        have h2 := h.old hb2
        have hB2 : B ≤ w2.heap.size := Nat.le_trans hB hb2.size
        have hdr := rdrop_any w2 B r k hk h2 hB2
        have hrx : w''.heap.size ≠ r.d := Nat.ne_of_gt h.blk.lt
        have HS2 := Lib.hid (RStep.old h hb2)
        have HRD := Lib.hid hrx
        clear hrx
        go_wp2_with fail
        refine hdr.mono ?_
        clear hdr
        rintro e w3 ⟨rfl, la, lc, ha, ht, hl⟩
        have HS3 := Lib.hid (HS2.out.trans (drop_step ha ht hl))
        have hx3 : Blk w3 w''.heap.size #[.string nw, .slice f.a f.b.length f.c, .int .i64 (f.sure : Int)] 72 := (ht.block _ hx2.lt HRD.out).trans hx2
        have hfo2 := hfo.old hb2
        have hfo3 : Own w3 B 5 1 f.a f.b.length f.c (f.b.map bv) := hfo2.keepAt fun x hx => by
          obtain ⟨_, _, _, hc⟩ := hfo2.block_lt hx
          exact ht.block _ hc.lt (Blk.ne hc h2.blk (by decide))
        have hB3 : B ≤ w3.heap.size := Nat.le_trans hB2 ht.size
        have hlen1 : (r.fs.eraseIdx k).length < 64 := by rw [List.length_eraseIdx]; rw [if_pos hk]; omega
        have hfi2 := rfind_any w3 B _ nw ha
        rcases place_cases (r.fs.eraseIdx k) nw with ⟨j, hj, e1, e2, e3⟩ | ⟨n1, n2, n3⟩
        · rw [show placeI (RefR.fs { r with fs := r.fs.eraseIdx k, la := la, lc := lc }) nw = (j : Int) from e2] at hfi2
          have hnone : ∀ q ∈ (r.fs.eraseIdx k).eraseIdx j, q.nm ≠ nw := fun q hq => by
            rw [erase_filter hj ha.nd, e1] at hq
            simpa using (List.mem_filter.1 hq).2
          have HLK := Lib.hid (show Like { r.p with fs := ((r.fs.eraseIdx k).eraseIdx j).map FileQ.p ++ [FileQ.p ⟨nw, f.a, f.c, f.b, f.sure⟩] } { r.p with fs := (r.p.fs.filter fun f : FileP => f.name ≠ nm ∧ f.name ≠ nw) ++ [{ f.p with name := nw }] } by
            have e := erase_p (r := { r with fs := r.fs.eraseIdx k, la := la, lc := lc }) hj ha.nd
            rw [show (RefR.fs { r with fs := r.fs.eraseIdx k, la := la, lc := lc })[j].nm = nw from e1] at e
            rw [show RefR.p { r with fs := r.fs.eraseIdx k, la := la, lc := lc } = { r.p with fs := (r.fs.eraseIdx k).map FileQ.p } from rfl, HE.out] at e
            dsimp only at e
            rw [filter_two] at e
            rw [e]
            exact Like.refl _)
          have hdr2 := rdrop_any w3 B _ j hj ha hB3
          have hlen2 : ((r.fs.eraseIdx k).eraseIdx j).length < 64 := by rw [List.length_eraseIdx]; split <;> omega
          clear e1 e2 e3
          go_wp2_with fail
          refine hfi2.mono ?_
          rintro e w4 ⟨rfl, rfl⟩
          go_wp2_with fail
          refine hdr2.mono ?_
          rintro e w5 ⟨rfl, la2, lc2, ha2, ht2, hl2⟩
          have HS5 := Lib.hid (HS3.out.trans (drop_step ha2 ht2 hl2))
          have hx5 : Blk w5 w''.heap.size #[.string nw, .slice f.a f.b.length f.c, .int .i64 (f.sure : Int)] 72 := (ht2.block _ hx3.lt HRD.out).trans hx3
          have hfo5 : Own w5 B 5 1 f.a f.b.length f.c (f.b.map bv) := hfo3.keepAt fun x hx => by
            obtain ⟨_, _, _, hc⟩ := hfo3.block_lt hx
            exact ht2.block _ hc.lt (Blk.ne hc ha.blk (by decide))
          have hput := rput_any w5 B _ ⟨nw, f.a, f.c, f.b, f.sure⟩ ha2 (Nat.le_trans hB3 ht2.size) hfo5 (put_ok ha2.ok hnone HOK.out hfi hfz hlen2)
          go_wp2_with (refine wpList_load_blk rfl 72 fileT (.tmp 9) rfl rfl hx5 rfl ?_)
          refine hput.mono ?_
          rintro e w6 ⟨rfl, hp⟩
          go_wp2_with fail
          go_ret
          refine ⟨by rw [HR2.out]; first | rfl | simp, ?_⟩
          rw [HR2.out]
          exact rename_end HS5.out HLK.out (fun hs => SortedN.erase (r := { r with fs := r.fs.eraseIdx k, la := la, lc := lc }) hs.erase) hp HF.out
        · rw [show placeI (RefR.fs { r with fs := r.fs.eraseIdx k, la := la, lc := lc }) nw = -1 from n2] at hfi2
          have HLK := Lib.hid (show Like { r.p with fs := (r.fs.eraseIdx k).map FileQ.p ++ [FileQ.p ⟨nw, f.a, f.c, f.b, f.sure⟩] } { r.p with fs := (r.p.fs.filter fun f : FileP => f.name ≠ nm ∧ f.name ≠ nw) ++ [{ f.p with name := nw }] } by
            have e := filter_none _ nw n1
            rw [HE.out, filter_two] at e
            rw [HE.out, ← e]
            exact Like.refl _)
          have hput := rput_any w3 B _ ⟨nw, f.a, f.c, f.b, f.sure⟩ ha hB3 hfo3 (put_ok ha.ok n1 HOK.out hfi hfz hlen1)
          clear n1 n2 n3
          go_wp2_with fail
          refine hfi2.mono ?_
          rintro e w4 ⟨rfl, rfl⟩
          go_wp2_with (refine wpList_load_blk rfl 72 fileT (.tmp 9) rfl rfl hx3 rfl ?_)
          refine hput.mono ?_
          rintro e w5 ⟨rfl, hp⟩
          go_wp2_with fail
          go_ret
          refine ⟨by rw [HR2.out]; first | rfl | simp, ?_⟩
          rw [HR2.out]
          exact rename_end HS3.out HLK.out (fun hs => hs.erase) hp HF.out
/-- Names, as cells. -/
def strV (s : Name) : Value := .string s
theorem stringsT : RowType Try.prog 54 9 1 16 := RowType.mk (z := .string ⟨#[]⟩) Try.underlying54 (by kernel_rfl) rfl (by omega)
def namesR (r : RefR) : List Name := if r.down then [] else r.names
set_option maxHeartbeats 1000000 in
theorem rnames_any (w : World) (B : Nat) (r : RefR) (h : RefAt w B r) :
    Calls Try.prog 23 #[.pointer (some ⟨r.d, 0, none⟩)] w fun e w' => ∃ a n c, e = .returned (.slice a n c) ∧ (namesR r).length = n ∧ Own w' w.heap.size 9 1 a n c ((namesR r).map strV) ∧ Below w.heap.size w w' := by
  have hb := h.blk.rule
  unfold refHead at hb
  have hcnt : r.fs.length ≤ 64 := by have := h.ok.count; simpa [RefR.p] using this
  cases hdn : r.down with
  | true =>
    rw [hdn] at hb
    have HR := Lib.hid (show namesR r = [] by unfold namesR; rw [hdn]; rfl)
    go_enter Try.func23, Try.ntmps23
    go_wp2_with fail
    go_loopg [3, 4] 0 (fun fu v3 v4 wr => v4 = .int .i64 ((0 : Nat) : Int) ∧ v3 = .slice none 0 0 ∧ wr = w)
    case atStart => exact ⟨rfl, rfl, rfl⟩
    case round =>
      obtain ⟨rfl, rfl, rfl⟩ := hrel
      by_cases hz : 0 < r.fs.length
      · go_wp2_with fail
        go_ret
        exact ⟨none, 0, 0, rfl, by rw [HR.out]; rfl, by rw [HR.out]; exact Own.nil _ _ _ _, Below.refl _ _⟩
      · go_wp2_with fail
        go_ret
        exact ⟨none, 0, 0, rfl, by rw [HR.out]; rfl, by rw [HR.out]; exact Own.nil _ _ _ _, Below.refl _ _⟩
  | false =>
    rw [hdn] at hb
    have HR := Lib.hid (show namesR r = r.names by unfold namesR; rw [hdn]; rfl)
    go_enter Try.func23, Try.ntmps23
    go_wp2_with fail
    go_loopg [3, 4] r.fs.length (fun fu v3 v4 wr => ∃ (j : Nat) (a : Option Addr) (c : Nat), j + fu = r.fs.length ∧ v4 = .int .i64 (j : Int) ∧ v3 = .slice a j c ∧ Own wr w.heap.size 9 1 a j c (((r.fs.take j).map FileQ.nm).map strV) ∧ Below w.heap.size w wr)
    case atStart => exact ⟨0, none, 0, by omega, rfl, rfl, Own.nil _ _ _ _, Below.refl _ _⟩
    case round =>
      obtain ⟨j, a, c, hj, rfl, rfl, hown, hb1⟩ := hrel
      have hr := h.old hb1
      have hblk := hr.blk.rule
      unfold refHead at hblk
      rw [hdn] at hblk
      by_cases hlt : j < r.fs.length
      · obtain ⟨g, hg, c0, c1, c2⟩ := hr.elem j hlt
        have HT := Lib.hid (List.take_succ_eq_append_getElem hlt)
        obtain ⟨f, hf⟩ : ∃ f, f = r.fs[j] := ⟨_, rfl⟩
        rw [← hf] at c0 HT
        rw [hg] at hblk
        have hz := hb1.size
        have hA := hown.alloc (.cells #[.string f.nm] 9)
        clear hf c1 c2 hg
        go_wp2_with (at_builtin; refine wpList_append_row rfl _ _ 54 rfl stringsT rfl hA rfl (RowAt.new' _ _ _ _ (by simp)) (by rfl) (by exact all_one _ rfl) (by unfold maxLen; omega) (by omega) (by simp; omega) ?_)
        intro a2 c2 w2 hown2 hg2
        have hb2 : Below w.heap.size w w2 := hA.grown (hb1.alloc hz _) (Nat.le_refl _) hg2 (by simp; omega)
        go_wp2_with fail
        go_roundg (gk - 1)
        case measure => omega
        case rel =>
          refine ⟨j + 1, a2, c2, by omega, by go_num, rfl, ?_, hb2⟩
          rw [HT.out, List.map_append, List.map_append]
          simpa [List.map_take, strV] using hown2
      · have hjl : j = r.fs.length := by omega
        subst hjl
        rw [List.take_length] at hown
        go_wp2_with fail
        go_ret
        exact ⟨a, r.fs.length, c, rfl, by rw [HR.out]; simp [RefR.names], by rw [HR.out]; exact hown, hb1⟩
end Go.Proofs.Ytojmffpkaihmmaa
