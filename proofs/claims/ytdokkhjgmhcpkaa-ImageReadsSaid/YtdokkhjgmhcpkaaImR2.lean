/- Package image, reading: numbers, a small number, a truth. -/
import Derived.Test.YtdokkhjgmhcpkaaImR
namespace Go.Proofs.Ytdokkhjgmhcpkaa
open Go.RowKit
set_option linter.unusedVariables false
set_option linter.unusedSimpArgs false
set_option maxRecDepth 20000

/-- Values written one behind the other. -/
def putRow (cs : Array Value) (i : Nat) : List Value → Array Value
  | [] => cs
  | v :: l => putRow (cs.setIfInBounds i v) (i + 1) l
theorem putRow_append : ∀ (l m : List Value) (cs : Array Value) (i : Nat), putRow cs i (l ++ m) = putRow (putRow cs i l) (i + l.length) m
  | [], m, cs, i => rfl
  | v :: l, m, cs, i => by
    rw [List.cons_append, putRow, putRow, putRow_append l m, List.length_cons, Nat.add_assoc, Nat.add_comm 1]
theorem putRow_size : ∀ (l : List Value) (cs : Array Value) (i : Nat), (putRow cs i l).size = cs.size
  | [], cs, i => rfl
  | v :: l, cs, i => by rw [putRow, putRow_size l]; simp
theorem putRow_other : ∀ (l : List Value) (cs : Array Value) (i j : Nat), j < i ∨ i + l.length ≤ j → (putRow cs i l)[j]? = cs[j]?
  | [], cs, i, j, _ => rfl
  | v :: l, cs, i, j, h => by
    rw [putRow, putRow_other l _ _ _ (by simp at h; omega)]
    rw [Array.getElem?_setIfInBounds]
    rw [if_neg (by simp at h; omega)]
theorem putRow_get : ∀ (l : List Value) (cs : Array Value) (i j : Nat), i + l.length ≤ cs.size → ∀ hj : j < l.length, (putRow cs i l)[i + j]? = some l[j]
  | v :: l, cs, i, 0, h, _ => by
    rw [putRow, putRow_other l _ _ _ (by omega)]
    rw [List.length_cons] at h
    rw [Array.getElem?_setIfInBounds]
    simp
    omega
  | v :: l, cs, i, j + 1, h, hj => by
    rw [List.length_cons] at h
    have := putRow_get l (cs.setIfInBounds i v) (i + 1) j (by simp; omega) (by simpa using hj)
    rw [putRow, show i + (j + 1) = i + 1 + j by omega, this]
    rfl
theorem putRow_all {cs : Array Value} {l : List Value} (h : cs.size = l.length) : putRow cs 0 l = l.toArray := by
  apply Array.ext_getElem?
  intro j
  by_cases hj : j < l.length
  · have := putRow_get l cs 0 j (by omega) hj
    rw [Nat.zero_add] at this
    rw [this]
    simp [hj]
  · rw [Array.getElem?_eq_none (by rw [putRow_size]; omega), Array.getElem?_eq_none (by simpa using hj)]
def HasRow (cs : Array Value) (i : Nat) (l : List Value) : Prop := ∀ j (hj : j < l.length), cs[i + j]? = some l[j]
theorem HasRow.put {cs : Array Value} {i k : Nat} {l m : List Value} (h : HasRow cs i l) (hd : i + l.length ≤ k ∨ k + m.length ≤ i) : HasRow (putRow cs k m) i l := fun j hj => by
  rw [putRow_other _ _ _ _ (by omega)]
  exact h j hj
theorem HasRow.part {cs : Array Value} {i : Nat} {l : List Value} (h : HasRow cs i l) (k n : Nat) : HasRow cs (i + k) ((l.drop k).take n) := fun j hj => by
  have h1 : j < l.length - k ∧ j < n := by rw [List.length_take, List.length_drop] at hj; omega
  have := h (k + j) (by omega)
  rw [← Nat.add_assoc] at this
  rw [this]
  simp
def numAt (bs : List UInt8) (a : Nat) : Int := (rdB ((bs.drop a).take 8)).toInt
/-- The result of reading. -/
def RRes {α : Type} (B : Nat) (w : World) (q : RC) (r : Rd α) (f : α → Array Value) (xb : Nat) (t : TypeId) (e : Ending) (w' : World) : Prop := match r with
  | .error p => e = .panicked (wrongP p) ∧ RBad w q w' xb t
  | .ok (v, a) => e = .returned (.tuple #[]) ∧ RGot B w q w' (q.to a) xb (f v) t
abbrev numsV (bs : List UInt8) (a m : Nat) : List Value := (List.range m).map fun j => .int .i64 (numAt bs (a + 8 * j))
def NumsR (w : World) (B : Nat) (q : RC) (xb i : Nat) (cs : Array Value) (t : TypeId) (m : Nat) (f : Nat) (v8 : Value) (wr : World) : Prop :=
  ∃ k : Nat, k + f = m ∧ v8 = .int .i64 (k : Int) ∧ q.at_ + 8 * k ≤ q.bs.length ∧ RGot B w q wr (q.to (q.at_ + 8 * k)) xb (putRow cs i (numsV q.bs q.at_ k)) t
set_option maxHeartbeats 2000000 in
theorem nums_r (w : World) (B : Nat) (q : RC) (g m xb i : Nat) (cs : Array Value) (t : TypeId) (hq : RAt w B q) (hB : B ≤ w.heap.size) (hg : Blk w g ((List.range m).map fun j => Value.pointer (some ⟨xb, i + j, none⟩)).toArray 80) (hgc : g ≠ q.c) (hgx : g ≠ xb) (hx : Blk w xb cs t) (hi : ∀ j, j < m → ∃ v, cs[i + j]? = some (.int .i64 v)) (hxB : B ≤ xb) (hxc : xb ≠ q.c) (hm : m ≤ 8) :
    Calls Try.prog 42 #[.pointer (some ⟨q.c, 0, none⟩), .slice (some ⟨g, 0, none⟩) m m] w fun e w' => (q.bs.length < q.at_ + 8 * m → e = .panicked (wrongP q.bs.length) ∧ RBad w q w' xb t) ∧
      (q.at_ + 8 * m ≤ q.bs.length → e = .returned (.tuple #[]) ∧ RGot B w q w' (q.to (q.at_ + 8 * m)) xb (putRow cs i (numsV q.bs q.at_ m)) t) := by
  have hmx := hq.max
  go_enter Try.func42, Try.ntmps42
  go_wp2_with fail
  go_loopg [8] m (NumsR w B q xb i cs t m)
  case atStart => exact ⟨0, by omega, rfl, hq.le, hq, Turn.refl _ _, hx⟩
  case round =>
    obtain ⟨k, hk, rfl, hle, hr⟩ := hrel
    by_cases hlt : k < m
    · have t0 : decide ((k : Int) < (m : Int)) = true := by simp; omega
      have hgr : Blk wr g _ _ := (hr.turn.block g hg.lt (by rintro (h | h); exact hgc h; exact hgx h)).trans hg
      have cg : wr.cell? ⟨g, k, none⟩ = some (.pointer (some ⟨xb, i + k, none⟩)) := by rw [hgr.rule]; simp [hlt]
      obtain ⟨v, hv⟩ := hi k hlt
      have hv2 : (putRow cs i (numsV q.bs q.at_ k))[i + k]? = some (.int .i64 v) := by rw [putRow_other _ _ _ _ (by simp)]; exact hv
      have cb := num_r wr B (q.to (q.at_ + 8 * k)) xb (i + k) _ t v hr.at' (Nat.le_trans hB hr.turn.size) hr.blk hv2 hxB hxc
      have hcc : (q.to (q.at_ + 8 * k)).c = q.c := rfl
      rw [hcc] at cb
      clear hgr hv hv2
      go_wp2_with fail
      refine cb.mono ?_
      clear cb
      rintro e w2 ⟨h1, h2⟩
      by_cases hmore : q.at_ + 8 * k + 8 ≤ q.bs.length
      · obtain ⟨rfl, hg2⟩ := h2 hmore
        have hr2 : RGot B w q w2 (q.to (q.at_ + 8 * (k + 1))) xb (putRow cs i (numsV q.bs q.at_ (k + 1))) t := by
          have e1 : putRow cs i (numsV q.bs q.at_ (k + 1)) = (putRow cs i (numsV q.bs q.at_ k)).setIfInBounds (i + k) (.int .i64 (numAt q.bs (q.at_ + 8 * k))) := by
            unfold numsV
            rw [List.range_succ, List.map_append, putRow_append]
            simp [putRow]
          rw [e1]
          exact ⟨hg2.at', (hr.chain (q'' := q.to (q.at_ + 8 * k + 8)) hg2 rfl).turn, hg2.blk⟩
        clear h1 h2 hg2
        go_wp2_with fail
        go_roundg (gk - 1)
        case measure => omega
        case rel => exact ⟨k + 1, by omega, by go_num, by omega, hr2⟩
      · obtain ⟨rfl, hb2⟩ := h1 (by show q.bs.length < q.at_ + 8 * k + 8; omega)
        have hb3 : RBad w q w2 xb t := RBad.after hr hx (putRow_size _ _ _) hb2 rfl
        clear h1 h2
        go_wp2_with fail
        exact ⟨rfl, fun _ => ⟨rfl, hb3⟩, fun h => by omega⟩
    · have hkm : k = m := by omega
      subst hkm
      have t0 : decide ((k : Int) < (k : Int)) = false := by simp
      go_wp2_with fail
      refine bodyPost_end (v := .tuple #[]) (results_none rfl _ _ _) rfl ⟨fun h => by omega, fun _ => ⟨rfl, hr⟩⟩
set_option maxHeartbeats 2000000 in
theorem small_r (w : World) (B : Nat) (q : RC) (xb i : Nat) (cs : Array Value) (t : TypeId) (z : Int) (hq : RAt w B q) (hB : B ≤ w.heap.size) (hx : Blk w xb cs t) (hi : cs[i]? = some (.int .i8 z)) (hxB : B ≤ xb) (hxc : xb ≠ q.c) :
    Calls Try.prog 43 #[.pointer (some ⟨q.c, 0, none⟩), .pointer (some ⟨xb, i, none⟩)] w (RRes B w q (rdSmall q.bs q.at_) (fun n => cs.setIfInBounds i (.int .i8 n)) xb t) := by
  have hxl := hx.lt
  have hcl := hq.blk.lt
  go_enter Try.func43, Try.ntmps43
  go_wp2_with fail
  have r1 : ∀ W, Old w.drew W → W.cell? ⟨q.c, 1, none⟩ = some (.int .i64 (q.at_ : Int)) := fun W hW => by rw [hW.cell (p := ⟨q.c, 1, none⟩) hcl]; exact hq.blk.rule 1
  have r2 : ∀ W, Old w.drew W → W.cell? ⟨xb, i, none⟩ = some (.int .i8 z) := fun W hW => by rw [hW.cell (p := ⟨xb, i, none⟩) hxl]; exact (hx.rule i).trans hi
  refine wp_region_treeR true Old Old.refl Old.trans (.step 0 (.step 1 (.step 2 (.step 3 (.step 4 (.step 5 (.step 6 (.step 7 (.step 8 (.step 9 (.step 10 .done))))))))))) (by kernel_rfl) (by kernel_rfl) (fun c a d v w h => by cases d <;> exact h) ?_
  repeat (first | (refine tree_skip rfl (by rfl) ?_; simp only [Act.put, List.setIfInBounds_toArray, List.set]) | (refine tree_quiet (v := ?_) rfl rfl (by rfl) ?_ ?_; rotate_left; (intro W hW; go_simp); (try with_reducible rfl); simp only [Act.put, List.setIfInBounds_toArray, List.set]))
  refine tree_loud rfl rfl (by rfl) (fun K hK => ?_); go_wp2_with fail
  refine hK _ _ ((Below.refl _ _).alloc (Nat.le_refl _) _) ?_
  clear hK K r1 r2
  repeat (first | (refine tree_skip rfl (by rfl) ?_; simp only [Act.put, List.setIfInBounds_toArray, List.set]) | (refine tree_quiet (v := ?_) rfl rfl (by rfl) ?_ ?_; rotate_left; (intro W hW; go_simp); (try with_reducible rfl); simp only [Act.put, List.setIfInBounds_toArray, List.set]))
  refine tree_store rfl rfl (by rfl) (fun K hK => ?_); go_wp2_with fail; refine tree_done ?_
  go_upto_region 1 with (fail)
  obtain ⟨Y, hY⟩ : ∃ Y, Y = w.heap.size := ⟨_, rfl⟩
  rw [← hY]
  refine wp_forget (fun W => (∃ y : Int, Blk W Y #[.int .i64 y] 3) ∧ Below w.heap.size w W) ⟨⟨_, by rw [hY]; exact (Blk.new w _ _).drew⟩, by (try unfold Kept); repeat (first | assumption | exact Below.refl _ _ | exact below_undrew (Below.refl _ _) | exact Below.mono (by assumption) (by first | (simp; done) | (simp; omega) | omega) | refine below_setRow ?_ (by first | (simp; done) | (simp; omega) | omega) _ | refine Below.setCell ?_ (by first | (simp; done) | (simp; omega) | omega) _ | refine Below.alloc ?_ (by first | (simp; done) | (simp; omega) | omega) _ | refine below_drewN ?_ _ | refine Below.drew ?_ | refine below_undrew ?_ | refine below_step ?_ (by assumption))⟩ ?_
  rintro W1 ⟨⟨y0, hn1⟩, hb1⟩
  have hYB : B ≤ Y := by omega
  have hYc : Y ≠ q.c := by omega
  have hYx : xb ≠ Y := by omega
  have hB1 := Nat.le_trans hB hb1.size
  have hq1 := hq.old hb1 hB
  have cb := num_r W1 B q Y 0 _ _ _ hq1 hB1 hn1 rfl hYB hYc
  have hx1 := hx.old hb1
  have HY := Lib.hid hY
  clear hY
  go_wp2_with fail
  refine cb.mono ?_
  clear cb
  rintro e w2 ⟨h1, h2⟩
  by_cases hmore : q.at_ + 8 ≤ q.bs.length
  · obtain ⟨rfl, hg⟩ := h2 hmore
    clear h1 h2
    have e0 : rdNum q.bs q.at_ = .ok (numAt q.bs q.at_, q.at_ + 8) := by unfold rdNum; rw [if_neg (by omega)]; rfl
    have cn := hg.blk.rule
    obtain ⟨n, hn⟩ : ∃ n, n = numAt q.bs q.at_ := ⟨_, rfl⟩
    have cn2 : w2.cell? ⟨Y, 0, none⟩ = some (.int .i64 n) := by rw [hn]; exact cn 0
    rw [← hn] at e0
    have hbel2 : RBad w q w2 xb t := RGot.loc hb1 hg (Nat.le_of_eq HY.out.symm) rfl hxc hxl
    clear cn hn hn1
    by_cases ho : n < -128 ∨ 127 < n
    · have HR := Lib.hid (show rdSmall q.bs q.at_ = .error q.at_ by unfold rdSmall; rw [e0]; dsimp only; rw [if_pos ho])
      have HB2 := Lib.hid hbel2
      by_cases o1 : n < -128
      · have d1 : decide (n < -128) = true := by simp; omega
        clear ho
        go_wp2_with fail
        refine ⟨rfl, ?_⟩
        rw [HR.out]
        exact ⟨rfl, HB2.out⟩
      · have d1 : decide (n < -128) = false := by simp; omega
        have d2 : decide (127 < n) = true := by simp; omega
        clear ho o1
        go_wp2_with fail
        refine ⟨rfl, ?_⟩
        rw [HR.out]
        exact ⟨rfl, HB2.out⟩
    · have HR := Lib.hid (show rdSmall q.bs q.at_ = .ok (n, q.at_ + 8) by unfold rdSmall; rw [e0]; dsimp only; rw [if_neg ho])
      have d1 : decide (n < -128) = false := by simp; omega
      have d2 : decide (127 < n) = false := by simp; omega
      have e2 : IntKind.i8.wrap n = n := by simp only [IntKind.wrap, IntKind.bits, IntKind.signed]; simp; omega
      have hx2 : Blk w2 xb cs t := (hg.turn.block xb (Nat.lt_of_lt_of_le hxl hb1.size) (by rintro (h | h); exact hxc h; exact hYx h)).trans hx1
      have cx := hx2.rule i
      rw [hi] at cx
      have fx := hx2.free
      have ht : Turn (fun x => x = q.c ∨ x = xb) w w2 := (Turn.of_below (F := fun x => x = q.c ∨ x = xb) hb1).trans hg.turn fun x hx => by
        rcases hx with rfl | rfl
        · exact .inl (.inl rfl)
        · exact .inr (by have := HY.out; omega)
      have hat := hg.at'
      clear hg ho e0
      go_wp2_with fail
      refine bodyPost_end (v := .tuple #[]) (results_none rfl _ _ _) rfl ?_
      rw [HR.out]
      refine ⟨rfl, hat.keep (heap_setCell_other _ _ _ _ (Ne.symm hxc)) ((Below.refl _ _).setCell hxB _), ht.setCell (.inl (.inr rfl)) _, ?_⟩
      exact hx2.set i (.int .i8 n)
  · obtain ⟨rfl, hb2⟩ := h1 (by omega)
    have hbel2 : RBad w q w2 xb t := RBad.loc hb1 hb2 (Nat.le_of_eq HY.out.symm) rfl hxc hxl
    have HR := Lib.hid (show rdSmall q.bs q.at_ = .error q.bs.length by unfold rdSmall rdNum; rw [if_pos (by omega)])
    clear h1 h2
    go_wp2_with fail
    refine ⟨rfl, ?_⟩
    rw [HR.out]
    exact ⟨rfl, hbel2⟩
set_option maxHeartbeats 2000000 in
theorem truth_r (w : World) (B : Nat) (q : RC) (xb i : Nat) (cs : Array Value) (t : TypeId) (z : Bool) (hq : RAt w B q) (hB : B ≤ w.heap.size) (hx : Blk w xb cs t) (hi : cs[i]? = some (.bool z)) (hxB : B ≤ xb) (hxc : xb ≠ q.c) :
    Calls Try.prog 44 #[.pointer (some ⟨q.c, 0, none⟩), .pointer (some ⟨xb, i, none⟩)] w (RRes B w q (rdTruth q.bs q.at_) (fun n => cs.setIfInBounds i (.bool n)) xb t) := by
  have hxl := hx.lt
  have hcl := hq.blk.lt
  have hc := hq.blk.rule
  unfold rcells at hc
  have cx0 := (hx.rule i).trans hi
  cases z with
  | false =>
    go_enter Try.func44, Try.ntmps44
    go_upto_region 3 with (fail)
    obtain ⟨Y, hY⟩ : ∃ Y, Y = w.heap.size := ⟨_, rfl⟩
    rw [← hY]
    refine wp_forget (fun W => (∃ y : Int, Blk W Y #[.int .u8 y] 5) ∧ Below w.heap.size w W) ⟨⟨_, by rw [hY]; first | exact Blk.new w _ _ | exact (Blk.new w _ _).set 0 _⟩, by (try unfold Kept); repeat (first | assumption | exact Below.refl _ _ | exact below_undrew (Below.refl _ _) | exact Below.mono (by assumption) (by first | (simp; done) | (simp; omega) | omega) | refine below_setRow ?_ (by first | (simp; done) | (simp; omega) | omega) _ | refine Below.setCell ?_ (by first | (simp; done) | (simp; omega) | omega) _ | refine Below.alloc ?_ (by first | (simp; done) | (simp; omega) | omega) _ | refine below_drewN ?_ _ | refine Below.drew ?_ | refine below_undrew ?_ | refine below_step ?_ (by assumption))⟩ ?_
    rintro W1 ⟨⟨y0, hn1⟩, hb1⟩
    have HY := Lib.hid hY
    have hYB : B ≤ Y := by omega
    have hYc : Y ≠ q.c := by omega
    have hYx : xb ≠ Y := by omega
    have hB1 := Nat.le_trans hB hb1.size
    have hq1 := hq.old hb1 hB
    have cb := byte_r W1 B q Y _ hq1 hB1 hn1 hYB
    have hx1 := hx.old hb1
    clear hY hc cx0
    go_wp2_with fail
    refine cb.mono ?_
    clear cb
    rintro e w2 ⟨h1, h2⟩
    by_cases hmore : q.at_ < q.bs.length
    · obtain ⟨rfl, hg⟩ := h2 hmore
      clear h1 h2
      have e0 : q.bs[q.at_]? = some q.bs[q.at_] := by simp [hmore]
      have cn := hg.blk.rule
      obtain ⟨y, hn⟩ : ∃ y, y = q.bs[q.at_] := ⟨_, rfl⟩
      have cn2 : w2.cell? ⟨Y, 0, none⟩ = some (.int .u8 (U8 y)) := by rw [hn]; exact cn 0
      rw [← hn] at e0
      have hbel2 : RBad w q w2 xb t := RGot.loc hb1 hg (Nat.le_of_eq HY.out.symm) rfl hxc hxl
      clear cn hn hn1
      have hu : U8 y = (y.toNat : Int) := rfl
      by_cases ho : 1 < y.toNat
      · have HR := Lib.hid (show rdTruth q.bs q.at_ = .error q.at_ by unfold rdTruth; rw [e0]; dsimp only; rw [if_pos ho])
        have HB2 := Lib.hid hbel2
        have d1 : decide (1 < U8 y) = true := by rw [hu]; simp; omega
        clear ho hu
        go_wp2_with fail
        refine ⟨rfl, ?_⟩
        rw [HR.out]
        exact ⟨rfl, HB2.out⟩
      · have HR := Lib.hid (show rdTruth q.bs q.at_ = .ok (decide (y = 1), q.at_ + 1) by unfold rdTruth; rw [e0]; dsimp only; rw [if_neg ho])
        have d1 : decide (1 < U8 y) = false := by rw [hu]; simp; omega
        have d2 : (U8 y == 1) = decide (y = 1) := by
          have := U8_beq y 1
          rw [show U8 1 = 1 from rfl] at this
          rw [this]
          rw [Bool.eq_iff_iff, beq_iff_eq, decide_eq_true_iff]
        have hx2 : Blk w2 xb cs t := (hg.turn.block xb (Nat.lt_of_lt_of_le hxl hb1.size) (by rintro (h | h); exact hxc h; exact hYx h)).trans hx1
        have cx := hx2.rule i
        rw [hi] at cx
        have fx := hx2.free
        have ht : Turn (fun x => x = q.c ∨ x = xb) w w2 := (Turn.of_below (F := fun x => x = q.c ∨ x = xb) hb1).trans hg.turn fun x hx => by
          rcases hx with rfl | rfl
          · exact .inl (.inl rfl)
          · exact .inr (by have := HY.out; omega)
        have hat := hg.at'
        clear hg ho e0 hu
        go_wp2_with fail
        refine bodyPost_end (v := .tuple #[]) (results_none rfl _ _ _) rfl ?_
        rw [HR.out]
        refine ⟨rfl, hat.keep (heap_setCell_other _ _ _ _ (Ne.symm hxc)) ((Below.refl _ _).setCell hxB _), ht.setCell (.inl (.inr rfl)) _, ?_⟩
        exact hx2.set i (.bool (decide (y = 1)))
    · have hle := hq.le
      obtain ⟨rfl, hb2⟩ := h1 (by omega)
      have hbel2 : RBad w q w2 xb t := RBad.loc hb1 hb2 (Nat.le_of_eq HY.out.symm) rfl hxc hxl
      have HR := Lib.hid (show rdTruth q.bs q.at_ = .error q.at_ by unfold rdTruth; rw [List.getElem?_eq_none (by omega)])
      clear h1 h2
      go_wp2_with fail
      refine ⟨rfl, ?_⟩
      rw [HR.out]
      exact ⟨rfl, hbel2⟩
  | true =>
    go_enter Try.func44, Try.ntmps44
    go_upto_region 3 with (fail)
    obtain ⟨Y, hY⟩ : ∃ Y, Y = w.heap.size := ⟨_, rfl⟩
    rw [← hY]
    refine wp_forget (fun W => (∃ y : Int, Blk W Y #[.int .u8 y] 5) ∧ Below w.heap.size w W) ⟨⟨_, by rw [hY]; first | exact Blk.new w _ _ | exact (Blk.new w _ _).set 0 _⟩, by (try unfold Kept); repeat (first | assumption | exact Below.refl _ _ | exact below_undrew (Below.refl _ _) | exact Below.mono (by assumption) (by first | (simp; done) | (simp; omega) | omega) | refine below_setRow ?_ (by first | (simp; done) | (simp; omega) | omega) _ | refine Below.setCell ?_ (by first | (simp; done) | (simp; omega) | omega) _ | refine Below.alloc ?_ (by first | (simp; done) | (simp; omega) | omega) _ | refine below_drewN ?_ _ | refine Below.drew ?_ | refine below_undrew ?_ | refine below_step ?_ (by assumption))⟩ ?_
    rintro W1 ⟨⟨y0, hn1⟩, hb1⟩
    have HY := Lib.hid hY
    have hYB : B ≤ Y := by omega
    have hYc : Y ≠ q.c := by omega
    have hYx : xb ≠ Y := by omega
    have hB1 := Nat.le_trans hB hb1.size
    have hq1 := hq.old hb1 hB
    have cb := byte_r W1 B q Y _ hq1 hB1 hn1 hYB
    have hx1 := hx.old hb1
    clear hY hc cx0
    go_wp2_with fail
    refine cb.mono ?_
    clear cb
    rintro e w2 ⟨h1, h2⟩
    by_cases hmore : q.at_ < q.bs.length
    · obtain ⟨rfl, hg⟩ := h2 hmore
      clear h1 h2
      have e0 : q.bs[q.at_]? = some q.bs[q.at_] := by simp [hmore]
      have cn := hg.blk.rule
      obtain ⟨y, hn⟩ : ∃ y, y = q.bs[q.at_] := ⟨_, rfl⟩
      have cn2 : w2.cell? ⟨Y, 0, none⟩ = some (.int .u8 (U8 y)) := by rw [hn]; exact cn 0
      rw [← hn] at e0
      have hbel2 : RBad w q w2 xb t := RGot.loc hb1 hg (Nat.le_of_eq HY.out.symm) rfl hxc hxl
      clear cn hn hn1
      have hu : U8 y = (y.toNat : Int) := rfl
      by_cases ho : 1 < y.toNat
      · have HR := Lib.hid (show rdTruth q.bs q.at_ = .error q.at_ by unfold rdTruth; rw [e0]; dsimp only; rw [if_pos ho])
        have HB2 := Lib.hid hbel2
        have d1 : decide (1 < U8 y) = true := by rw [hu]; simp; omega
        clear ho hu
        go_wp2_with fail
        refine ⟨rfl, ?_⟩
        rw [HR.out]
        exact ⟨rfl, HB2.out⟩
      · have HR := Lib.hid (show rdTruth q.bs q.at_ = .ok (decide (y = 1), q.at_ + 1) by unfold rdTruth; rw [e0]; dsimp only; rw [if_neg ho])
        have d1 : decide (1 < U8 y) = false := by rw [hu]; simp; omega
        have d2 : (U8 y == 1) = decide (y = 1) := by
          have := U8_beq y 1
          rw [show U8 1 = 1 from rfl] at this
          rw [this]
          rw [Bool.eq_iff_iff, beq_iff_eq, decide_eq_true_iff]
        have hx2 : Blk w2 xb cs t := (hg.turn.block xb (Nat.lt_of_lt_of_le hxl hb1.size) (by rintro (h | h); exact hxc h; exact hYx h)).trans hx1
        have cx := hx2.rule i
        rw [hi] at cx
        have fx := hx2.free
        have ht : Turn (fun x => x = q.c ∨ x = xb) w w2 := (Turn.of_below (F := fun x => x = q.c ∨ x = xb) hb1).trans hg.turn fun x hx => by
          rcases hx with rfl | rfl
          · exact .inl (.inl rfl)
          · exact .inr (by have := HY.out; omega)
        have hat := hg.at'
        clear hg ho e0 hu
        go_wp2_with fail
        refine bodyPost_end (v := .tuple #[]) (results_none rfl _ _ _) rfl ?_
        rw [HR.out]
        refine ⟨rfl, hat.keep (heap_setCell_other _ _ _ _ (Ne.symm hxc)) ((Below.refl _ _).setCell hxB _), ht.setCell (.inl (.inr rfl)) _, ?_⟩
        exact hx2.set i (.bool (decide (y = 1)))
    · have hle := hq.le
      obtain ⟨rfl, hb2⟩ := h1 (by omega)
      have hbel2 : RBad w q w2 xb t := RBad.loc hb1 hb2 (Nat.le_of_eq HY.out.symm) rfl hxc hxl
      have HR := Lib.hid (show rdTruth q.bs q.at_ = .error q.at_ by unfold rdTruth; rw [List.getElem?_eq_none (by omega)])
      clear h1 h2
      go_wp2_with fail
      refine ⟨rfl, ?_⟩
      rw [HR.out]
      exact ⟨rfl, hbel2⟩
end Go.Proofs.Ytdokkhjgmhcpkaa
