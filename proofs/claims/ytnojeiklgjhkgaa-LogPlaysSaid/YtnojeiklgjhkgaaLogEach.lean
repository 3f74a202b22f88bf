/- The loads of a log, one by one: Each, and whoever ranges over it. -/
import Derived.Test.YtnojeiklgjhkgaaLogMem
import Derived.Test.YtnojeiklgjhkgaaRangeM
import Derived.Test.YtnojeiklgjhkgaaRoundIn
import Derived.Test.YtnojeiklgjhkgaaLogLaws
import Derived.Sort.QuietIn
import Derived.Sort.CutIn
import Derived.Shelf.Abstract
import Derived.WalkKit
import Derived.OwnWalkIn
import Derived.TacticsInMore
import Derived.LoopNIn
import Derived.LoopIn
namespace Go.Proofs.Ytnojeiklgjhkgaa
open Go.RowKit Go.Shelf
attribute [local go_sem] Oper.semAt_some
set_option linter.unusedVariables false
set_option linter.unusedSimpArgs false

theorem len_any (w : World) (B d : Nat) (R : LogR) (h : LogAt w B d R) : Calls Try.prog 17 #[.pointer (some ⟨R.l, 0, none⟩)] w fun e w' => e = .returned (.int .i64 (R.ls.length : Int)) ∧ w' = w := by
  have hb := h.blk.rule
  go_enter Try.func17, Try.ntmps17
  go_wp2_with fail
  go_ret
  exact ⟨rfl, rfl⟩
theorem each_any (w : World) (l : Nat) : Calls Try.prog 35 #[.pointer (some ⟨l, 0, none⟩)] w fun e w' => e = .returned (.func (.func 56) #[] #[.pointer (some ⟨w.heap.size, 0, none⟩)]) ∧ w' = w.alloc (.cells #[.pointer (some ⟨l, 0, none⟩)] 34) := by
  have hmf : ∀ (fn : Fn) (first cap : Array Value) (w : World), (Instr.makeFunc fn first cap).run Try.prog w = .ok (.func fn first cap) w := fun _ _ _ _ => rfl
  go_enter Try.func35, Try.ntmps35
  go_wp2_with fail
  go_ret
  exact ⟨rfl, rfl⟩
/-- What a round is told: the place and the load there. -/
def LoadAt (ls : List (List UInt8)) (pre : List (Nat × Value)) (x : Nat × Value) (W : World) : Prop :=
  x.1 = pre.length ∧ ∃ (h : x.1 < ls.length) (a : Option Addr) (c : Nat), x.2 = .slice a ls[x.1].length c ∧ BytesAt W a ls[x.1] ∧ ls[x.1].length ≤ c
def encLoad (x : Nat × Value) : Array Value := #[.int .i64 (x.1 : Int), x.2]
theorem grown_of_below {W W' : World} (h : Below W.heap.size W W') : W.grownBy W' none := ⟨h.os, h.tape, h.output, h.size, fun k hk _ => h.block k hk⟩
theorem KeepAt.putObj {S : Nat → Prop} {W : World} {l : Nat} (o' : Obj) (hS : ∀ x, S x → x ≠ l) : KeepAt S W (W.putObj l o') := ⟨(grownBy_putObj' W l o').size, fun x hx => World.putObj_heap_other (hS x hx)⟩
set_option maxRecDepth 100000 in
set_option maxHeartbeats 4000000 in
theorem each1_any (n : Nat) (h1 : 1 ≤ n) (B d : Nat) (R : LogR) (bx : Nat) (w : World) (h : LogAt w B d R) (hbx : w.cell? ⟨bx, 0, none⟩ = some (.pointer (some ⟨R.l, 0, none⟩))) :
    SeqStopsM Fence.wide n Try.prog 56 #[.pointer (some ⟨bx, 0, none⟩)] encLoad (LoadAt R.ls) (KeepAt fun x => lfoot R x ∨ x = bx) (fun xs => xs.length = R.ls.length) (fun _ => True) w := fun l J Jx W hW hJ _ hY h0 => by
  have hbl := World.block_lt_of_cell? w _ hbx
  have hcnt := h.cnt
  have hlog : ∀ W', KeepAt (fun x => lfoot R x ∨ x = bx) w W' → LogAt W' B d R := fun W' hk => h.keep fun x hx => hk.2 x (.inl hx)
  have hS : ∀ x, (lfoot R x ∨ x = bx) → x < w.heap.size := fun x hx => hx.elim (fun hx => (h.lt hx).2) (fun hx => hx ▸ hbl)
  have hbox : ∀ W', KeepAt (fun x => lfoot R x ∨ x = bx) w W' → W'.cell? ⟨bx, 0, none⟩ = some (.pointer (some ⟨R.l, 0, none⟩)) := fun W' hk => (World.cell?_of_block (a := ⟨bx, 0, none⟩) (hk.2 bx (.inr rfl))).trans hbx
  refine callsIn_of_wp Try.func56 rfl trivial ?_ rfl
  simp only [Try.ntmps56, List.size_toArray, List.length_cons, List.length_nil, Nat.reduceAdd, Nat.reduceSub, Array.replicate_succ, Array.replicate_zero, List.push_toArray, List.append_toArray, List.nil_append, List.cons_append]
  have hB' : W.cell? ⟨bx, 0, none⟩ = some (.pointer (some ⟨R.l, 0, none⟩)) := (hW.cell (p := ⟨bx, 0, none⟩) hbl).trans hbx
  have hlen := len_any W B d R (h.old hW)
  gi_wp2_with (refine ⟨trivial, ?_⟩; gi_at_call 17; refine (callsIn_wide.2 hlen).mono ?_; rintro e w' ⟨rfl, rfl⟩)
  clear hlen hB'
  gi_loopw [6] (fun p wr => ∃ (k : Nat) (pre : List (Nat × Value)), k ≤ R.ls.length ∧ p = .int .i64 k ∧ pre.length = k ∧ J pre wr ∧ KeepAt (fun x => lfoot R x ∨ x = bx) w wr) (fun p _ => R.ls.length - (intOf p).toNat)
  case atStart => exact ⟨0, [], Nat.zero_le _, rfl, rfl, h0, KeepAt.below hW hS⟩
  case round =>
    obtain ⟨k, pre, hk, rfl, hpre, hJs, hbw⟩ := hrel
    by_cases hlt : k < R.ls.length
    · have hp : wr.cell? ⟨bx, 0, none⟩ = some (.pointer (some ⟨R.l, 0, none⟩)) := hbox _ hbw
      have hr := hlog _ hbw
      have hb := hr.blk.rule
      obtain ⟨A, C, e1, hown⟩ := hr.rows.2.2 k hlt
      have hvl : k < R.vs.length := by rw [hr.rows.2.1]; exact hlt
      obtain ⟨rb, ro, e2, hcell⟩ := hr.rows.1.row k hvl
      have hcell' : wr.cell? ⟨rb, ro + k, none⟩ = some (.slice A R.ls[k].length C) := by rw [hcell, ← e1, List.getElem?_eq_getElem hvl]
      rw [e2] at hb
      have hlk : R.ls[k].length ≤ 65536 := h.lens _ (List.getElem_mem hlt)
      have HK := Lib.hid (show R.ls[k].length = R.ls[k].length from rfl)
      clear hcell e1 e2
      gi_wp2_with (refine ⟨trivial, ?_⟩; gi_at_call 29; refine (callsIn_wide.2 (clone_any A _ C R.ls[k] wr hown.row rfl (by omega))).mono ?_; rintro e w1 ⟨a', c', rfl, hown1, hb1⟩)
      have hJ1 : J pre w1 := hJ pre wr w1 none hJs (grown_of_below hb1) (fun r e => by cases e)
      have hm1 : LoadAt R.ls pre (k, .slice a' R.ls[k].length c') w1 := ⟨hpre.symm, hlt, a', c', rfl, hown1.row, hown1.le⟩
      obtain ⟨fn, tmps, assign, body, hy, hR⟩ := hY pre (k, .slice a' R.ls[k].length c') w1 hJ1 hm1
      have hb01 : KeepAt (fun x => lfoot R x ∨ x = bx) w w1 := hbw.trans (KeepAt.below hb1 fun x hx => Nat.lt_of_lt_of_le (hS x hx) hbw.1)
      clear hm1 hown1 hb1 hJ1 hJs
      unfold encLoad at hy
      dsimp only at hy
      gi_wp2
      rw [hy, Oper.uponIn_round]
      refine ⟨fun _ => h1, hR.mono ?_⟩
      rintro e W3 (⟨rfl, hJ3, hk3⟩ | ⟨rfl, hJx3⟩)
      · gi_wp2
        go_roundw
        case rel => exact ⟨k + 1, pre ++ [(k, .slice a' R.ls[k].length c')], by omega, by go_num, by simp [hpre], hJ3, hb01.trans hk3⟩
        case measure => simp [intOf]; omega
      · gi_wp2
        refine bodyPost_ret (results_none rfl _ _ _) rfl ?_
        exact ⟨⟨_, rfl⟩, .inr ⟨_, trivial, hJx3⟩⟩
    · obtain rfl : k = R.ls.length := by omega
      gi_wp2
      go_end0
      exact ⟨⟨_, rfl⟩, .inl ⟨_, hpre, hJs⟩⟩

/-- Where the loop of told stands. -/
structure ToldIn (w0 : World) (b : Nat) (aw : Option Addr) (nw cw : Nat) (k : Int) (n : Nat) (W : World) : Prop where
  want : W.cell? ⟨b, 0, none⟩ = some (.slice aw nw cw)
  leave : W.cell? ⟨b + 1, 0, none⟩ = some (.int .i64 k)
  res : W.cell? ⟨b + 1 + 1, 0, none⟩ = some (.bool false)
  resF : W.frozen? ⟨b + 1 + 1, 0, none⟩ = false
  cnt : W.cell? ⟨b + 1 + 1 + 1, 0, none⟩ = some (.int .i64 (n : Int))
  cntF : W.frozen? ⟨b + 1 + 1 + 1, 0, none⟩ = false
  below : Below w0.heap.size w0 W
theorem ToldIn.own (w0 : World) (b : Nat) (hb : w0.heap.size ≤ b) (aw : Option Addr) (nw cw : Nat) (k : Int) {B : Nat} (hB : w0.heap.size ≤ B) {α : Type} (f : α → Nat) : OwnFrom B (fun (s : α) W => ToldIn w0 b aw nw cw k (f s) W) :=
  fun s X Y row hs hg hr => by
    have hr' : ∀ r, row = some r → ∃ o : Obj, X.heap[r]? = some o ∧ o.isCells = false := fun r e => (hr r e).2
    exact ⟨cell_kept hs.want hg hr', cell_kept hs.leave hg hr', cell_kept hs.res hg hr', (frozen_kept hs.res hg hr').trans hs.resF, cell_kept hs.cnt hg hr', (frozen_kept hs.cnt hg hr').trans hs.cntF,
      hs.below.grown hg (by have := hs.below.size; omega) (fun r e => by have := (hr r e).1; omega)⟩
theorem ToldIn.step {w0 : World} {b : Nat} {aw : Option Addr} {nw cw : Nat} {k : Int} {n : Nat} {W : World} (h : ToldIn w0 b aw nw cw k n W) (hb : w0.heap.size ≤ b) (v : Int) (hv : v = ((n + 1 : Nat) : Int)) : ToldIn w0 b aw nw cw k (n + 1) (W.setCell ⟨b + 1 + 1 + 1, 0, none⟩ (.int .i64 v)).drew := by
  subst hv
  obtain ⟨t1, t2, t3, t3f, t4, t4f, tb⟩ := h
  have o1 : ∀ c, c ≠ b + 1 + 1 + 1 → (W.setCell ⟨b + 1 + 1 + 1, 0, none⟩ (.int .i64 ((n + 1 : Nat) : Int))).drew.heap[c]? = W.heap[c]? := fun c hc => heap_setCell_other W ⟨b + 1 + 1 + 1, 0, none⟩ c _ hc
  refine ⟨?_, ?_, ?_, ?_, ?_, ?_, ?_⟩
  · exact (World.cell?_of_block (a := ⟨b, 0, none⟩) (o1 b (by omega))).trans t1
  · exact (World.cell?_of_block (a := ⟨b + 1, 0, none⟩) (o1 (b + 1) (by omega))).trans t2
  · exact (World.cell?_of_block (a := ⟨b + 1 + 1, 0, none⟩) (o1 (b + 1 + 1) (by omega))).trans t3
  · simpa using t3f
  · exact World.cell?_setCell_same' W ⟨b + 1 + 1 + 1, 0, none⟩ _ (by rw [t4]; rfl)
  · simpa using t4f
  · exact (tb.setCell (by simp; omega) _).drew
theorem below_putObj {B : Nat} {W : World} {l : Nat} (o' : Obj) (hB : B ≤ l) : Below B W (W.putObj l o') := by
  by_cases h : B ≤ W.heap.size
  · exact (Below.refl _ _).grown (grownBy_putObj' W l o') h (fun k e => by cases e; exact hB)
  · exact ⟨rfl, rfl, rfl, (grownBy_putObj' W l o').size, fun k hk => World.putObj_heap_other (by omega)⟩
set_option maxRecDepth 100000 in
set_option maxHeartbeats 8000000 in
theorem told_any (w : World) (B d : Nat) (R : LogR) (h : LogAt w B d R) (aw : Option Addr) (nw cw : Nat) (k : Int) (hw : PiecesAt w aw R.ls) (hn : R.ls.length = nw) :
    Calls Try.prog 19 #[.pointer (some ⟨R.l, 0, none⟩), .slice aw nw cw, .int .i64 k] w fun e w' => e = .returned (.bool true) ∧ Below w.heap.size w w' := by
  have hnw : nw ≤ 4096 := by have := h.cnt; omega
  have HN := Lib.hid hn
  clear hn
  have hcnt := h.cnt
  refine (callsIn_wide (n := 3)).1 ?_
  have h1 : 1 ≤ 3 := by omega
  refine callsIn_of_wp_marks Try.func19 rfl trivial ?_ rfl
  simp only [Try.ntmps19, List.size_toArray, List.length_cons, List.length_nil, Nat.reduceAdd, Nat.reduceSub, Array.replicate_succ, Array.replicate_zero, List.push_toArray, List.append_toArray, List.nil_append, List.cons_append]
  have heq : ∀ (fn : Fn) (first cap : Array Value) (w : World), (binOp .eql 77 (.func fn first cap) .nilFunc).run Try.prog w = .ok (.bool false) w := fun fn first cap w => by rfl
  gi_wp2_with (refine ⟨trivial, ?_⟩; gi_at_call 35; refine (callsIn_wide.2 (each_any _ _)).mono ?_; rintro e w' ⟨rfl, rfl⟩)
  have b := (((((Below.refl _ w).alloc (Nat.le_refl _) (.cells #[.slice aw nw cw] 24)).alloc (by simp) (.cells #[.int .i64 k] 3)).alloc (by simp; omega) (.cells #[.bool false] 4)).alloc (by simp; omega) (.cells #[.int .i64 0] 3)).alloc (by simp; omega) (.cells #[.pointer (some ⟨R.l, 0, none⟩)] 34)
  refine wpIn_rangeFunc_ownM rfl h1 (gf := 56) (lb := #[.pointer (some ⟨w.heap.size + 1 + 1 + 1 + 1, 0, none⟩)]) rfl trivial (enters_of Try.func56 (by kernel_rfl) rfl)
    (each1_any 2 (by omega) B d R (w.heap.size + 1 + 1 + 1 + 1) _ (h.old b) (by go_simp)) ?hM (fun h h' => h.trans h') (fun W l o o' hl _ _ _ => KeepAt.putObj o' fun x hx => by
      rcases hx with hx | hx
      · have := (h.lt hx).2; simp at hl; omega
      · simp at hl; omega) (Below.refl _ _) (fun _ => rfl)
    (fun pre W => ToldIn w w.heap.size aw nw cw k pre.length W)
    (fun c pre W => c = .exit 0 ∧ (pre.length : Int) = k ∧ ToldIn w w.heap.size aw nw cw k pre.length W)
    (ToldIn.own w w.heap.size (Nat.le_refl _) aw nw cw k (by simp; omega) List.length)
    (fun c s X Y row hs hg hr => ⟨hs.1, hs.2.1, ToldIn.own w w.heap.size (Nat.le_refl _) aw nw cw k (B := (((((w.alloc (.cells #[.slice aw nw cw] 24)).alloc (.cells #[.int .i64 k] 3)).alloc (.cells #[.bool false] 4)).alloc (.cells #[.int .i64 0] 3)).alloc (.cells #[.pointer (some ⟨R.l, 0, none⟩)] 34)).heap.size) (by simp; omega) List.length s X Y row hs.2.2 hg hr⟩) ?start
    ?a1 ?assign ?body ?done ?stop
  case start =>
    refine ⟨?_, ?_, ?_, ?_, ?_, ?_, b⟩
    all_goals go_simp
  case hM =>
    rintro ⟨pre, x⟩ X Y row ⟨e, hx, a, c, e2, hb, hc⟩ hg hr
    refine ⟨e, hx, a, c, e2, fun i hi => ?_, hc⟩
    obtain ⟨b1, o1, e3, hcl⟩ := hb i hi
    exact ⟨b1, o1, e3, cell_kept hcl hg (fun r e => (hr r e).2)⟩
  case assign =>
    intro l x W K hK
    unfold encLoad
    gi_wp2
    exact hK
  case body =>
    rintro l pre ⟨i, v⟩ W hT ⟨ei, hi, a, c, ev, hb, hc⟩
    dsimp only at ei hi ev hb hc
    subst ev ei
    have hi' : pre.length < R.ls.length := hi
    obtain ⟨rb, ro, A, C, eaw, hcell, hrow, hle, hmx⟩ := hw pre.length hi
    have hbig : rb < w.heap.size := World.block_lt_of_cell? w _ hcell
    have hcell' : W.cell? ⟨rb, ro + pre.length, none⟩ = some (.slice A R.ls[pre.length].length C) := (hT.below.cell (p := ⟨rb, ro + pre.length, none⟩) hbig).trans hcell
    have hrow' : BytesAt W A R.ls[pre.length] := hrow.below hT.below
    clear hcell hrow
    have s1 := string_of W.drew a _ c R.ls[pre.length] (show BytesAt W.drew a _ from hb) rfl
    have s2 := string_of W.drew A _ C R.ls[pre.length] (show BytesAt W.drew A _ from hrow') rfl
    obtain ⟨t1, t2, t3, t3f, t4, t4f, tb⟩ := hT
    generalize R.ls[pre.length] = y at *
    rw [eaw] at t1
    have HNw : pre.length < nw := by rw [← HN.out]; exact hi
    have HI := Lib.hid hi
    clear hi hi' hb hrow' hc hle hmx
    generalize hm : pre.length = m at *
    have HM := Lib.hid hm
    clear hm
    have g1 : decide (nw ≤ m) = false := by simp; omega
    have lift : ∀ (b' o' : Nat) (v : Value), W.cell? ⟨b', o', none⟩ = some v → ∀ W', Old W.drew W' → W'.cell? ⟨b', o', none⟩ = some v := fun b' o' v hv W' hW' =>
      ((hW' : Below W.drew.heap.size W.drew W').cell (p := ⟨b', o', none⟩) (show b' < W.drew.heap.size from World.block_lt_of_cell? W _ hv)).trans hv
    have T1 := lift _ _ _ t1
    have T4 := lift _ _ _ t4
    have T5 := lift _ _ _ hcell'
    clear lift
    gi_wp2
    refine wp_region_round (0 :: 1 :: 2 :: 3 :: 4 :: 5 :: 6 :: 7 :: 8 :: 9 :: 10 :: 11 :: 12 :: 13 :: 14 :: 15 :: 16 :: 17 :: 18 :: []) (by kernel_rfl) (by kernel_rfl) (by repeat (first | exact letsOut_own | refine letsOut_then ?_ | refine letsOut_block ?_)) (by kernel_rfl) (fun c a d v w h => by cases d <;> exact h) ?_
    repeat (first | (refine lex_skip rfl (by rfl) ?_; simp only [Act.put, List.setIfInBounds_toArray, List.set]) | (refine lex_quiet (v := ?_) rfl rfl (by rfl) ?_ ?_; rotate_left; (intro W hW; go_simp); (try with_reducible rfl); simp only [Act.put, List.setIfInBounds_toArray, List.set]))
    refine lex_nil ?_
    clear T1 T4 T5 s1 s2
    have e1 : wrap64 ((m : Int) + 1) = ((m + 1 : Nat) : Int) := by unfold wrap64; omega
    have HT : ToldIn w w.heap.size aw nw cw k m W := ⟨by rw [eaw]; exact t1, t2, t3, t3f, t4, t4f, tb⟩
    have HT' := Lib.hid (HT.step (Nat.le_refl _) ((m : Int) + 1) (by omega))
    have HKp : KeepAt (fun x => lfoot R x ∨ x = w.heap.size + 1 + 1 + 1 + 1) W (W.setCell ⟨w.heap.size + 1 + 1 + 1, 0, none⟩ (.int .i64 ((m : Int) + 1))).drew := ⟨by simp [World.setCell], fun x hx => heap_setCell_other W ⟨w.heap.size + 1 + 1 + 1, 0, none⟩ x _ (by
      rcases hx with hx | hx
      · have := (h.lt hx).2; show x ≠ w.heap.size + 1 + 1 + 1; omega
      · show x ≠ w.heap.size + 1 + 1 + 1; omega)⟩
    have HKp := Lib.hid HKp
    have HKf := Lib.hid (((KeepsOthers.setCell W ⟨w.heap.size + 1 + 1 + 1, 0, none⟩ (.int .i64 ((m : Int) + 1))).from (w.heap.size + 1 + 1 + 1 + 1 + 1)))
    by_cases hk : (m : Int) + 1 = k
    · have g2 : ((m : Int) + 1 == k) = true := by simpa using hk
      have HK := Lib.hid hk
      clear hk HT
      gi_wp2
      refine ⟨?_, rfl, ?_, ?_⟩
      · refine ⟨HKf.out.size, fun x o hx h1 h2 => HKf.out.same x o ?_ h1 h2⟩
        simpa using hx
      · (try dsimp only); rw [List.length_append, HM.out]
        exact HK.out
      · (try dsimp only); rw [List.length_append, HM.out]
        exact HT'.out
    · have g2 : ((m : Int) + 1 == k) = false := by simpa using hk
      have HK := Lib.hid hk
      clear hk HT
      gi_wp2
      refine ⟨?_, HKp.out, ?_⟩
      · refine ⟨HKf.out.size, fun x o hx h1 h2 => HKf.out.same x o ?_ h1 h2⟩
        simpa using hx
      · (try dsimp only); rw [List.length_append, HM.out]
        exact HT'.out
  case done =>
    rintro D ys W hD hlen ⟨t1, t2, hs3, hs4, t4, t4f, hB⟩ hK
    rw [hlen, HN.out] at t4
    gi_wp2
    refine ⟨by simp, .inl ⟨_, _, rfl, run_takeDeferred ((KeepsOthers.setCell _ _ _).same D _ hK rfl), ?_⟩⟩
    have hc := cell_kept (World.cell?_setCell_same' W ⟨w.heap.size + 1 + 1, 0, none⟩ (.bool true) (by rw [hs3]; rfl)) (grownBy_putObj' _ D (.deferred none)) (fun r e => by cases e; exact ⟨_, (KeepsOthers.setCell _ _ _).same D _ hK rfl, rfl⟩)
    refine ⟨.bool true, ?_, rfl, ?_⟩
    · simp [results, Try.f19, go_sem, hc]
    · exact (hB.setCell (by simp; omega) _).grown (grownBy_putObj' _ D (.deferred none)) (by have := hB.size; simpa [World.setCell] using this) (fun k e => by cases e; simp at hD; omega)
  case stop =>
    rintro D c pre W hD - ⟨rfl, hk, t1, t2, hs3, hs4, t4, t4f, hB⟩ hK
    rw [hk] at t4
    by_cases hq : k = (nw : Int)
    · have q1 : (k == (nw : Int)) = true := by simpa using hq
      have HQ := Lib.hid hq
      clear hq
      gi_wp2
      refine ⟨by simp, .inl ⟨_, _, rfl, run_takeDeferred ((KeepsOthers.setCell _ _ _).same D _ hK rfl), ?_⟩⟩
      have hc := cell_kept (World.cell?_setCell_same' W ⟨w.heap.size + 1 + 1, 0, none⟩ (.bool true) (by rw [hs3]; rfl)) (grownBy_putObj' _ D (.deferred none)) (fun r e => by cases e; exact ⟨_, (KeepsOthers.setCell _ _ _).same D _ hK rfl, rfl⟩)
      refine ⟨.bool true, ?_, rfl, ?_⟩
      · simp [results, Try.f19, go_sem, hc]
      · exact (hB.setCell (by simp; omega) _).grown (grownBy_putObj' _ D (.deferred none)) (by have := hB.size; simpa [World.setCell] using this) (fun k e => by cases e; simp at hD; omega)
    · have q1 : (k == (nw : Int)) = false := by simpa using hq
      have HQ := Lib.hid hq
      clear hq
      gi_wp2
      refine ⟨by simp, .inl ⟨_, _, rfl, run_takeDeferred ((KeepsOthers.setCell _ _ _).same D _ hK rfl), ?_⟩⟩
      have hc := cell_kept (World.cell?_setCell_same' W ⟨w.heap.size + 1 + 1, 0, none⟩ (.bool true) (by rw [hs3]; rfl)) (grownBy_putObj' _ D (.deferred none)) (fun r e => by cases e; exact ⟨_, (KeepsOthers.setCell _ _ _).same D _ hK rfl, rfl⟩)
      refine ⟨.bool true, ?_, rfl, ?_⟩
      · simp [results, Try.f19, go_sem, hc]
      · exact (hB.setCell (by simp; omega) _).grown (grownBy_putObj' _ D (.deferred none)) (by have := hB.size; simpa [World.setCell] using this) (fun k e => by cases e; simp at hD; omega)
end Go.Proofs.Ytnojeiklgjhkgaa
