/- The walks through the document's disk, on: Make, Remove, Rename, Sure, Names. -/
import Derived.Test.YtnojeiklgjhkgaaRDMake
namespace Go.Proofs.Ytnojeiklgjhkgaa
open Go.RowKit Go.Maps
set_option linter.unusedVariables false
set_option linter.unusedSimpArgs false

/-! ### Names in order -/
theorem less_lists : ∀ (x y : List UInt8), Op.bytesLess x y = decide (x < y)
  | [], [] => by simp [Op.bytesLess]
  | _ :: _, [] => by simp [Op.bytesLess]
  | [], _ :: _ => by simp [Op.bytesLess]
  | a :: x, b :: y => by
    rw [Op.bytesLess, less_lists x y]
    simp only [List.cons_lt_cons_iff]
    by_cases h1 : a < b <;> by_cases h2 : a = b <;> by_cases h3 : x < y <;> simp [h1, h2, h3]
/-- Not behind the other. -/
def leN (x y : Name) : Prop := lessN y x = false
theorem leN_iff (x y : Name) : leN x y ↔ x.toList ≤ y.toList := by
  unfold leN lessN
  rw [less_lists, decide_eq_false_iff_not, List.not_lt]
theorem leN_of_less {x y : Name} (h : lessN x y = true) : leN x y := by
  rw [leN_iff]
  unfold lessN at h
  rw [less_lists, decide_eq_true_eq] at h
  exact List.not_lt.1 (List.lt_asymm h)
theorem leN_trans {x y z : Name} (h : leN x y) (h' : leN y z) : leN x z := by
  rw [leN_iff] at *
  exact List.le_trans h h'
theorem leN_antisymm {x y : Name} (h : leN x y) (h' : leN y x) : x = y := by
  rw [leN_iff] at *
  have e := List.le_antisymm h h'
  have := beq_name x y
  rw [e] at this
  simpa using this
def SortedN (l : List Name) : Prop := l.Pairwise leN
theorem SortedN.ins {l : List Name} (h : SortedN l) (f : Name) {i : Nat} (hi : i ≤ l.length) (h1 : i = 0 ∨ ∃ hq : i - 1 < l.length, lessN f l[i - 1] = false) (h2 : ∀ j (hj : j < l.length), i ≤ j → lessN f l[j] = true) : SortedN (insAt l f i) := by
  unfold SortedN insAt
  rw [List.pairwise_append, List.pairwise_cons]
  have hd : (l.take i ++ l.drop i).Pairwise leN := by rw [List.take_append_drop]; exact h
  rw [List.pairwise_append] at hd
  have hb : ∀ a ∈ l.take i, leN a f := by
    intro a ha
    obtain ⟨j, hj, rfl⟩ := List.getElem_of_mem ha
    have hj2 : j < i ∧ j < l.length := by rw [List.length_take] at hj; omega
    rcases h1 with h1 | ⟨hq, h1⟩
    · omega
    · rw [List.getElem_take]
      have hl : leN l[i - 1] f := h1
      by_cases e : j = i - 1
      · subst e; exact hl
      · exact leN_trans (List.pairwise_iff_getElem.1 h j (i - 1) hj2.2 hq (by omega)) hl
  refine ⟨hd.1, ⟨fun a ha => ?_, hd.2.1⟩, fun a ha b hb' => ?_⟩
  · obtain ⟨j, hj, rfl⟩ := List.getElem_of_mem ha
    rw [List.getElem_drop]
    exact leN_of_less (h2 _ _ (by omega))
  · rcases List.mem_cons.1 hb' with rfl | hb'
    · exact hb a ha
    · exact hd.2.2 a ha b hb'
/-- Two disks that differ in the order of the files alone. -/
structure Like (p q : DiskP) : Prop where
  fs : p.fs.Perm q.fs
  rest : p.down = q.down ∧ p.armed = q.armed ∧ p.left = q.left ∧ p.plan = q.plan
theorem Like.refl (p : DiskP) : Like p p := ⟨List.Perm.refl _, rfl, rfl, rfl, rfl⟩
theorem Like.trans {p q s : DiskP} (h : Like p q) (h' : Like q s) : Like p s := ⟨h.fs.trans h'.fs, h.rest.1.trans h'.rest.1, h.rest.2.1.trans h'.rest.2.1, h.rest.2.2.1.trans h'.rest.2.2.1, h.rest.2.2.2.trans h'.rest.2.2.2⟩
theorem Like.symm {p q : DiskP} (h : Like p q) : Like q p := ⟨h.fs.symm, h.rest.1.symm, h.rest.2.1.symm, h.rest.2.2.1.symm, h.rest.2.2.2.symm⟩
def RefR.names (r : RefR) : List Name := r.fs.map (·.nm)
/-- A file is dropped, by its name. -/
theorem erase_filter {fs : List FileQ} {k : Nat} (hk : k < fs.length) (hn : (fs.map (·.nm)).Nodup) : fs.eraseIdx k = fs.filter (fun f => f.nm ≠ fs[k].nm) := by
  induction fs generalizing k with
  | nil => simp at hk
  | cons x l ih =>
    simp only [List.map_cons, List.nodup_cons] at hn
    cases k with
    | zero =>
      rw [List.eraseIdx_cons_zero, List.getElem_cons_zero, List.filter_cons_of_neg (by simp)]
      symm
      rw [List.filter_eq_self]
      intro a ha
      simp only [ne_eq, decide_eq_true_eq]
      exact fun e => hn.1 (e ▸ List.mem_map_of_mem (f := fun x : FileQ => x.nm) ha)
    | succ k =>
      have hk' : k < l.length := by simpa using hk
      rw [List.eraseIdx_cons_succ, List.getElem_cons_succ, List.filter_cons_of_pos, ih hk' hn.2]
      simp only [ne_eq, decide_eq_true_eq]
      exact fun e => hn.1 (e ▸ List.mem_map_of_mem (f := fun x : FileQ => x.nm) (List.getElem_mem hk'))
theorem PutPost.step {B : Nat} {w0 w w' : World} {r0 r : RefR} {f : FileQ} (h0 : RStep B w0 r0 w r) (hp : PutPost B w r f w') (hf : ∀ ad, f.a = some ad → rfoot r0 ad.block ∨ w0.heap.size ≤ ad.block) :
    ∃ r', RStep B w0 r0 w' r' ∧ Like r'.p { r.p with fs := r.p.fs ++ [f.p] } ∧ (SortedN r.names → SortedN r'.names) := by
  obtain ⟨i, la, lc, hi, h1, h2, ha, ht, hl⟩ := hp
  have hperm := insAt_perm r.fs f i
  have hz := h0.turn.size
  refine ⟨_, ⟨h0.turn.trans (ht.mono (G := rfoot r) fun x hx => ?_) h0.foot', ha, ?_, h0.d⟩, ⟨?_, rfl, rfl, rfl, rfl⟩, fun hs => ?_⟩
  · rcases hx with hx | hx
    · exact .inl hx
    · exact .inr (.inl hx)
  · rintro x (hx | ⟨ad, h3, rfl⟩ | ⟨q, hq, ad, h3, rfl⟩ | hx)
    · exact h0.foot' _ (.inl hx)
    · rcases hl ad h3 with ⟨ad', h4, h5⟩ | h4
      · exact h0.foot' _ (.inr (.inl ⟨ad', h4, h5⟩))
      · exact .inr (Nat.le_trans hz h4)
    · have hq' := hperm.mem_iff.1 hq
      rcases List.mem_append.1 hq' with hq' | hq'
      · exact h0.foot' _ (.inr (.inr (.inl ⟨q, hq', ad, h3, rfl⟩)))
      · rw [List.mem_singleton.1 hq'] at h3
        exact hf ad h3
    · exact h0.foot' _ (.inr (.inr (.inr hx)))
  · have := hperm.map FileQ.p
    simpa [RefR.p] using this
  · have e : (insAt r.fs f i).map (·.nm) = insAt (r.fs.map (·.nm)) f.nm i := by
      unfold insAt
      simp [List.map_take, List.map_drop]
    show SortedN ((insAt r.fs f i).map (·.nm))
    rw [e]
    refine SortedN.ins (l := r.fs.map FileQ.nm) hs f.nm (by simpa using hi) ?_ ?_
    · rcases h1 with h1 | ⟨hq, h1⟩
      · exact .inl h1
      · exact .inr ⟨by simpa using hq, by simpa using h1⟩
    · intro j hj hij
      have := h2 j (by simpa using hj) hij
      simpa using this
theorem drop_step {B : Nat} {w w' : World} {r : RefR} {k : Nat} {la : Option Addr} {lc : Nat} (ha : RefAt w' B { r with fs := r.fs.eraseIdx k, la := la, lc := lc }) (ht : Turn (fun x => x = r.d) w w') (hl : ∀ ad, la = some ad → w.heap.size ≤ ad.block) : RStep B w r w' { r with fs := r.fs.eraseIdx k, la := la, lc := lc } := by
  refine ⟨ht.mono fun x hx => .inl hx, ha, ?_, rfl⟩
  rintro x (hx | ⟨ad, h3, rfl⟩ | ⟨q, hq, ad, h3, rfl⟩ | hx)
  · exact .inl (.inl hx)
  · exact .inr (hl ad h3)
  · exact .inl (.inr (.inr (.inl ⟨q, (List.eraseIdx_sublist _ _).subset hq, ad, h3, rfl⟩)))
  · exact .inl (.inr (.inr (.inr hx)))
theorem SortedN.erase {r : RefR} {k : Nat} {la : Option Addr} {lc : Nat} (h : SortedN r.names) : SortedN (RefR.names { r with fs := r.fs.eraseIdx k, la := la, lc := lc }) :=
  List.Pairwise.sublist ((List.eraseIdx_sublist _ _).map _) h
/-- What is done to the document's disk, up to the order of the files. -/
def RDone (B : Nat) (w : World) (r : RefR) (p : DiskP) (w' : World) : Prop := ∃ r', Like r'.p p ∧ RStep B w r w' r' ∧ (SortedN r.names → SortedN r'.names)
theorem RDone.refl {B : Nat} {w : World} {r : RefR} {p : DiskP} (h : RefAt w B r) (hp : p = r.p) : RDone B w r p w := ⟨r, hp ▸ Like.refl _, RStep.refl h, id⟩
theorem find_iff (r : RefR) (nm : Name) : ((findP r.p nm).isSome = true ∧ decide ((0 : Int) ≤ placeI r.fs nm) = true) ∨ ((findP r.p nm).isSome = false ∧ decide ((0 : Int) ≤ placeI r.fs nm) = false ∧ ∀ f ∈ r.fs, f.nm ≠ nm) := by
  rcases place_cases r.fs nm with ⟨k, hk, h1, h2, h3⟩ | ⟨h1, h2, h3⟩
  · refine .inl ⟨?_, by rw [h2]; simp⟩
    show ((r.fs.map FileQ.p).find? _).isSome = true
    have e : (r.fs.map FileQ.p).find? (fun f => f.name = nm) = some r.fs[k].p := h3
    rw [e]; rfl
  · refine .inr ⟨?_, by rw [h2]; rfl, h1⟩
    show ((r.fs.map FileQ.p).find? _).isSome = false
    have e : (r.fs.map FileQ.p).find? (fun f => f.name = nm) = none := h3
    rw [e]; rfl
theorem put_ok {r : RefR} {f : FileQ} (h : DiskOk r.p) (hn : ∀ q ∈ r.fs, q.nm ≠ f.nm) (hk : okName f.nm = true) (hs : f.sure ≤ f.b.length) (hb : f.b.length ≤ maxFileN) (hc : r.fs.length < 64) : DiskOk (RefR.p { r with fs := r.fs ++ [f] }) := by
  have hall : ∀ q ∈ (r.fs ++ [f]).map FileQ.p, q ∈ r.p.fs ∨ q = f.p := fun q hq => by
    rw [List.map_append] at hq
    rcases List.mem_append.1 hq with hq | hq
    · exact .inl hq
    · exact .inr (by simpa using hq)
  refine ⟨?_, fun q hq => ?_, fun q hq => ?_, fun q hq => ?_, ?_, h.left⟩
  · show (((r.fs ++ [f]).map FileQ.p).map (·.name)).Nodup
    rw [List.map_append, List.map_append, List.nodup_append]
    refine ⟨h.names, by simp, ?_⟩
    intro a ha b hb' e
    obtain ⟨q, hq, rfl⟩ := List.mem_map.1 ha
    obtain ⟨q0, hq0, rfl⟩ := List.mem_map.1 hq
    simp only [List.map_cons, List.map_nil, List.mem_singleton] at hb'
    exact hn q0 hq0 (e.trans hb')
  · rcases hall q hq with hq | rfl
    · exact h.named q hq
    · exact hk
  · rcases hall q hq with hq | rfl
    · exact h.sure q hq
    · exact hs
  · rcases hall q hq with hq | rfl
    · exact h.size q hq
    · exact hb
  · show ((r.fs ++ [f]).map FileQ.p).length ≤ 64
    simp; omega
set_option maxHeartbeats 1000000 in
theorem rmake_any (w : World) (B : Nat) (r : RefR) (nm : Name) (h : RefAt w B r) (hB : B ≤ w.heap.size) :
    Calls Try.prog 61 #[.pointer (some ⟨r.d, 0, none⟩), .string nm] w fun e w' => e = .returned (.int .i64 (makeP r.p nm).2) ∧ RDone B w r (makeP r.p nm).1 w' := by
  have hb := h.blk.rule
  unfold refHead at hb
  have hlen : r.p.fs.length = r.fs.length := by simp [RefR.p]
  cases hdn : r.down with
  | true =>
    rw [hdn] at hb
    have HR := Lib.hid (show makeP r.p nm = (r.p, 5) by unfold makeP; rw [if_pos (show r.p.down = true from hdn)])
    go_enter Try.func61, Try.ntmps61
    go_wp2_with fail
    go_ret
    exact ⟨by rw [HR.out]; first | rfl | simp, by rw [HR.out]; exact RDone.refl h rfl⟩
  | false =>
    rw [hdn] at hb
    have hd : ¬ r.p.down = true := by simp [RefR.p, hdn]
    cases hok : okName nm with
    | false =>
      have HR := Lib.hid (show makeP r.p nm = (r.p, 2) by unfold makeP; rw [if_neg hd, if_pos hok])
      have hnm := rnamed_any nm w
      rw [hok] at hnm
      clear hd hok hdn
      go_enter Try.func61, Try.ntmps61
      go_wp2_with fail
      refine hnm.mono ?_
      rintro e w' ⟨rfl, rfl⟩
      go_wp2_with fail
      go_ret
      exact ⟨by rw [HR.out]; first | rfl | simp, by rw [HR.out]; exact RDone.refl h rfl⟩
    | true =>
      have hnm := rnamed_any nm w
      rw [hok] at hnm
      have hfi := rfind_any w B r nm h
      rcases find_iff r nm with ⟨h1, h2⟩ | ⟨h1, h2, h3⟩
      · have HR := Lib.hid (show makeP r.p nm = (r.p, 101) by unfold makeP; rw [if_neg hd, if_neg (by rw [hok]; decide), if_pos h1])
        clear hd hok hdn h1
        go_enter Try.func61, Try.ntmps61
        go_wp2_with fail
        refine hnm.mono ?_
        rintro e w' ⟨rfl, rfl⟩
        go_wp2_with fail
        refine hfi.mono ?_
        rintro e w'' ⟨rfl, rfl⟩
        go_wp2_with fail
        go_ret
        exact ⟨by rw [HR.out]; first | rfl | simp, by rw [HR.out]; exact RDone.refl h rfl⟩
      · by_cases hfull : 64 ≤ r.fs.length
        · have HR := Lib.hid (show makeP r.p nm = (r.p, 100) by unfold makeP; rw [if_neg hd, if_neg (by rw [hok]; decide), if_neg (by rw [h1]; decide), if_pos (by rw [hlen]; exact hfull)])
          have t0 : decide ((64 : Int) ≤ (r.fs.length : Int)) = true := by simp; omega
          clear hd hok hdn h1 h3 hlen
          go_enter Try.func61, Try.ntmps61
          go_wp2_with fail
          refine hnm.mono ?_
          rintro e w' ⟨rfl, rfl⟩
          go_wp2_with fail
          refine hfi.mono ?_
          rintro e w'' ⟨rfl, rfl⟩
          go_wp2_with fail
          go_ret
          exact ⟨by rw [HR.out]; first | rfl | simp, by rw [HR.out]; exact RDone.refl h rfl⟩
        · have HR := Lib.hid (show makeP r.p nm = ({ r.p with fs := r.p.fs ++ [⟨nm, [], 0⟩] }, 0) by unfold makeP; rw [if_neg hd, if_neg (by rw [hok]; decide), if_neg (by rw [h1]; decide), if_neg (by rw [hlen]; exact hfull)])
          have hput := rput_any w B r ⟨nm, none, 0, [], 0⟩ h hB (Own.nil _ _ _ _) (put_ok h.ok h3 hok (Nat.le_refl _) (Nat.zero_le _) (by omega))
          have t0 : decide ((64 : Int) ≤ (r.fs.length : Int)) = false := by simp; omega
          clear hd hok hdn h1 h3 hlen
          go_enter Try.func61, Try.ntmps61
          go_wp2_with fail
          refine hnm.mono ?_
          rintro e w' ⟨rfl, rfl⟩
          go_wp2_with fail
          refine hfi.mono ?_
          rintro e w'' ⟨rfl, rfl⟩
          go_wp2_with fail
          refine hput.mono ?_
          rintro e w1 ⟨rfl, hp⟩
          go_wp2_with fail
          go_ret
          refine ⟨by rw [HR.out]; first | rfl | simp, ?_⟩
          rw [HR.out]
          obtain ⟨r', q1, q2, q3⟩ := PutPost.step (RStep.refl h) hp (fun ad ha => by cases ha)
          exact ⟨r', q2, q1, q3⟩
theorem erase_p {r : RefR} {k : Nat} (hk : k < r.fs.length) (hn : (r.fs.map (·.nm)).Nodup) : (r.fs.eraseIdx k).map FileQ.p = r.p.fs.filter (fun f => f.name ≠ r.fs[k].nm) := by
  rw [erase_filter hk hn]
  show _ = (r.fs.map FileQ.p).filter _
  rw [List.filter_map]
  rfl
end Go.Proofs.Ytnojeiklgjhkgaa
