/- States: whether two are the same (the document's answer). -/
import Derived.Test.YtdokkhjgmhcpkaaThings
import Derived.Test.YtdokkhjgmhcpkaaImWhole
import Derived.RegionTactic
import Derived.ChangeAlike
namespace Go.Proofs.Ytdokkhjgmhcpkaa
open Go.RowKit

def idx : Nat → Value
  | 0 => .int .i64 0
  | 1 => .int .i64 1
  | _ => .int .i64 2
theorem sideT : AggT Try.prog 26 8 := ⟨⟨_, Try.underlying26, rfl⟩, by kernel_rfl⟩
theorem sidesT : AggT Try.prog 27 16 := ⟨⟨_, Try.underlying27, rfl⟩, by kernel_rfl⟩
theorem Blk.part {w : World} {g : Nat} {cs : Array Value} {t : TypeId} (h : Blk w g cs t) (o n : Nat) (l : List Value) (hl : (cs.toList.drop o).take n = l) : ∀ j (hj : j < l.length), w.cell? ⟨g, o + j, none⟩ = some l[j] := fun j hj => by
  subst hl
  rw [h.rule]
  rw [List.length_take, List.length_drop] at hj
  simp [List.getElem_take, List.getElem_drop]
def SameStRel (w : World) (p q : StateP) (cs ds : Array Value) (f : Nat) (i : Value) (w' : World) : Prop :=
  ∃ k : Nat, k + f = 2 ∧ i = idx k ∧ (1 ≤ k → p.x = q.x) ∧ (2 ≤ k → p.y = q.y) ∧ Blk w' w.heap.size cs 29 ∧ Blk w' (w.heap.size + 1) ds 29 ∧ Below w.heap.size w w'
set_option maxRecDepth 100000 in
set_option maxHeartbeats 4000000 in
theorem sameState_any (p q : StateP) (h g : StateH) (w : World) (ha : StateAt w p h) (hb : StateAt w q g) :
    Calls Try.prog 11 #[stateVal p h, stateVal q g] w fun e w' => e = .returned (.bool (decide (p = q))) ∧ Below w.heap.size w w' := by
  obtain ⟨turn, mover, phase, struck, result, attack, next, ⟨xl, xm, xt, xd, xh, xg, xu, xo⟩, ⟨yl, ym, yt, yd, yh, yg, yu, yo⟩⟩ := p
  obtain ⟨turn', mover', phase', struck', result', attack', next', ⟨zl, zm, zt, zd, zh, zg, zu, zo⟩, ⟨vl, vm, vt, vd, vh, vg, vu, vo⟩⟩ := q
  obtain ⟨⟨aa, an, ac⟩, ⟨⟨xda, xdn, xdc⟩, ⟨xha, xhn, xhc⟩, ⟨xga, xgn, xgc⟩, ⟨xua, xun, xuc⟩, ⟨xoa, xon, xoc⟩⟩, ⟨⟨yda, ydn, ydc⟩, ⟨yha, yhn, yhc⟩, ⟨yga, ygn, ygc⟩, ⟨yua, yun, yuc⟩, ⟨yoa, yon, yoc⟩⟩⟩ := h
  obtain ⟨⟨ba, bn, bc⟩, ⟨⟨zda, zdn, zdc⟩, ⟨zha, zhn, zhc⟩, ⟨zga, zgn, zgc⟩, ⟨zua, zun, zuc⟩, ⟨zoa, zon, zoc⟩⟩, ⟨⟨vda, vdn, vdc⟩, ⟨vha, vhn, vhc⟩, ⟨vga, vgn, vgc⟩, ⟨vua, vun, vuc⟩, ⟨voa, von, voc⟩⟩⟩ := g
  obtain ⟨ans, hans⟩ : ∃ b, decide ((⟨turn, mover, phase, struck, result, attack, next, ⟨xl, xm, xt, xd, xh, xg, xu, xo⟩, ⟨yl, ym, yt, yd, yh, yg, yu, yo⟩⟩ : StateP) = ⟨turn', mover', phase', struck', result', attack', next', ⟨zl, zm, zt, zd, zh, zg, zu, zo⟩, ⟨vl, vm, vt, vd, vh, vg, vu, vo⟩⟩) = b := ⟨_, rfl⟩
  rw [hans]
  have HANS := Lib.hid hans
  clear hans
  unfold stateVal
  dsimp only
  rcases (show struck = struck' ∨ struck' = !struck by cases struck <;> cases struck' <;> simp) with rfl | rfl
  rotate_left
  · rcases chainF3 (turn != turn') (mover != mover') (phase != phase') with t0 | ⟨t0, t1⟩ | ⟨t0, t1, t2⟩ | ⟨t0, t1, t2⟩
    all_goals
      have HNE := Lib.hid (HANS.out.symm.trans (decide_eq_false (fun e : (⟨turn, mover, phase, struck, result, attack, next, ⟨xl, xm, xt, xd, xh, xg, xu, xo⟩, ⟨yl, ym, yt, yd, yh, yg, yu, yo⟩⟩ : StateP) = ⟨turn', mover', phase', !struck, result', attack', next', ⟨zl, zm, zt, zd, zh, zg, zu, zo⟩, ⟨vl, vm, vt, vd, vh, vg, vu, vo⟩⟩ => by have h : struck = !struck := congrArg StateP.struck e; cases struck <;> cases h)))
      go_enter Try.func11, Try.ntmps11
      go_wp2_with fail
      go_ret
      exact ⟨by rw [HNE.out]; rfl, by (try unfold Kept); repeat (first | assumption | exact Below.refl _ _ | exact below_undrew (Below.refl _ _) | exact Below.mono (by assumption) (by first | (simp; done) | (simp; omega) | omega) | refine below_setRow ?_ (by first | (simp; done) | (simp; omega) | omega) _ | refine Below.setCell ?_ (by first | (simp; done) | (simp; omega) | omega) _ | refine Below.alloc ?_ (by first | (simp; done) | (simp; omega) | omega) _ | refine below_drewN ?_ _ | refine Below.drew ?_ | refine below_undrew ?_ | refine below_step ?_ (by assumption))⟩
  rcases chainF5 (turn != turn') (mover != mover') (phase != phase') (result != result') (next != next') with t0 | ⟨t0, t1⟩ | ⟨t0, t1, t2⟩ | ⟨t0, t1, t2, t3⟩ | ⟨t0, t1, t2, t3, t4⟩ | ⟨t0, t1, t2, t3, t4⟩
  · have HNE := Lib.hid (HANS.out.symm.trans (decide_eq_false (fun e : (⟨turn, mover, phase, struck, result, attack, next, ⟨xl, xm, xt, xd, xh, xg, xu, xo⟩, ⟨yl, ym, yt, yd, yh, yg, yu, yo⟩⟩ : StateP) = ⟨turn', mover', phase', struck, result', attack', next', ⟨zl, zm, zt, zd, zh, zg, zu, zo⟩, ⟨vl, vm, vt, vd, vh, vg, vu, vo⟩⟩ => by have h := congrArg StateP.turn e; simp at t0; exact t0 h)))
    go_enter Try.func11, Try.ntmps11
    go_wp2_with fail
    go_ret
    exact ⟨by rw [HNE.out]; rfl, by (try unfold Kept); repeat (first | assumption | exact Below.refl _ _ | exact below_undrew (Below.refl _ _) | exact Below.mono (by assumption) (by first | (simp; done) | (simp; omega) | omega) | refine below_setRow ?_ (by first | (simp; done) | (simp; omega) | omega) _ | refine Below.setCell ?_ (by first | (simp; done) | (simp; omega) | omega) _ | refine Below.alloc ?_ (by first | (simp; done) | (simp; omega) | omega) _ | refine below_drewN ?_ _ | refine Below.drew ?_ | refine below_undrew ?_ | refine below_step ?_ (by assumption))⟩
  · have HNE := Lib.hid (HANS.out.symm.trans (decide_eq_false (fun e : (⟨turn, mover, phase, struck, result, attack, next, ⟨xl, xm, xt, xd, xh, xg, xu, xo⟩, ⟨yl, ym, yt, yd, yh, yg, yu, yo⟩⟩ : StateP) = ⟨turn', mover', phase', struck, result', attack', next', ⟨zl, zm, zt, zd, zh, zg, zu, zo⟩, ⟨vl, vm, vt, vd, vh, vg, vu, vo⟩⟩ => by have h := congrArg StateP.mover e; simp at t1; exact t1 h)))
    go_enter Try.func11, Try.ntmps11
    go_wp2_with fail
    go_ret
    exact ⟨by rw [HNE.out]; rfl, by (try unfold Kept); repeat (first | assumption | exact Below.refl _ _ | exact below_undrew (Below.refl _ _) | exact Below.mono (by assumption) (by first | (simp; done) | (simp; omega) | omega) | refine below_setRow ?_ (by first | (simp; done) | (simp; omega) | omega) _ | refine Below.setCell ?_ (by first | (simp; done) | (simp; omega) | omega) _ | refine Below.alloc ?_ (by first | (simp; done) | (simp; omega) | omega) _ | refine below_drewN ?_ _ | refine Below.drew ?_ | refine below_undrew ?_ | refine below_step ?_ (by assumption))⟩
  · have HNE := Lib.hid (HANS.out.symm.trans (decide_eq_false (fun e : (⟨turn, mover, phase, struck, result, attack, next, ⟨xl, xm, xt, xd, xh, xg, xu, xo⟩, ⟨yl, ym, yt, yd, yh, yg, yu, yo⟩⟩ : StateP) = ⟨turn', mover', phase', struck, result', attack', next', ⟨zl, zm, zt, zd, zh, zg, zu, zo⟩, ⟨vl, vm, vt, vd, vh, vg, vu, vo⟩⟩ => by have h := congrArg StateP.phase e; simp at t2; exact t2 h)))
    go_enter Try.func11, Try.ntmps11
    go_wp2_with fail
    go_ret
    exact ⟨by rw [HNE.out]; rfl, by (try unfold Kept); repeat (first | assumption | exact Below.refl _ _ | exact below_undrew (Below.refl _ _) | exact Below.mono (by assumption) (by first | (simp; done) | (simp; omega) | omega) | refine below_setRow ?_ (by first | (simp; done) | (simp; omega) | omega) _ | refine Below.setCell ?_ (by first | (simp; done) | (simp; omega) | omega) _ | refine Below.alloc ?_ (by first | (simp; done) | (simp; omega) | omega) _ | refine below_drewN ?_ _ | refine Below.drew ?_ | refine below_undrew ?_ | refine below_step ?_ (by assumption))⟩
  · have HNE := Lib.hid (HANS.out.symm.trans (decide_eq_false (fun e : (⟨turn, mover, phase, struck, result, attack, next, ⟨xl, xm, xt, xd, xh, xg, xu, xo⟩, ⟨yl, ym, yt, yd, yh, yg, yu, yo⟩⟩ : StateP) = ⟨turn', mover', phase', struck, result', attack', next', ⟨zl, zm, zt, zd, zh, zg, zu, zo⟩, ⟨vl, vm, vt, vd, vh, vg, vu, vo⟩⟩ => by have h := congrArg StateP.result e; simp at t3; exact t3 h)))
    go_enter Try.func11, Try.ntmps11
    go_wp2_with fail
    go_ret
    exact ⟨by rw [HNE.out]; rfl, by (try unfold Kept); repeat (first | assumption | exact Below.refl _ _ | exact below_undrew (Below.refl _ _) | exact Below.mono (by assumption) (by first | (simp; done) | (simp; omega) | omega) | refine below_setRow ?_ (by first | (simp; done) | (simp; omega) | omega) _ | refine Below.setCell ?_ (by first | (simp; done) | (simp; omega) | omega) _ | refine Below.alloc ?_ (by first | (simp; done) | (simp; omega) | omega) _ | refine below_drewN ?_ _ | refine Below.drew ?_ | refine below_undrew ?_ | refine below_step ?_ (by assumption))⟩
  · have HNE := Lib.hid (HANS.out.symm.trans (decide_eq_false (fun e : (⟨turn, mover, phase, struck, result, attack, next, ⟨xl, xm, xt, xd, xh, xg, xu, xo⟩, ⟨yl, ym, yt, yd, yh, yg, yu, yo⟩⟩ : StateP) = ⟨turn', mover', phase', struck, result', attack', next', ⟨zl, zm, zt, zd, zh, zg, zu, zo⟩, ⟨vl, vm, vt, vd, vh, vg, vu, vo⟩⟩ => by have h := congrArg StateP.next e; simp at t4; exact t4 h)))
    go_enter Try.func11, Try.ntmps11
    go_wp2_with fail
    go_ret
    exact ⟨by rw [HNE.out]; rfl, by (try unfold Kept); repeat (first | assumption | exact Below.refl _ _ | exact below_undrew (Below.refl _ _) | exact Below.mono (by assumption) (by first | (simp; done) | (simp; omega) | omega) | refine below_setRow ?_ (by first | (simp; done) | (simp; omega) | omega) _ | refine Below.setCell ?_ (by first | (simp; done) | (simp; omega) | omega) _ | refine Below.alloc ?_ (by first | (simp; done) | (simp; omega) | omega) _ | refine below_drewN ?_ _ | refine Below.drew ?_ | refine below_undrew ?_ | refine below_step ?_ (by assumption))⟩
  · have hq : ∀ b : Bool, decide (attack = attack') = b → (b = false → decide ((⟨turn, mover, phase, struck, result, attack, next, ⟨xl, xm, xt, xd, xh, xg, xu, xo⟩, ⟨yl, ym, yt, yd, yh, yg, yu, yo⟩⟩ : StateP) = ⟨turn', mover', phase', struck, result', attack', next', ⟨zl, zm, zt, zd, zh, zg, zu, zo⟩, ⟨vl, vm, vt, vd, vh, vg, vu, vo⟩⟩) = false) := fun b hb hf => decide_eq_false (fun e => by subst hf; exact of_decide_eq_false hb (congrArg StateP.attack e))
    have hd : attack = attack' → decide ((⟨turn, mover, phase, struck, result, attack, next, ⟨xl, xm, xt, xd, xh, xg, xu, xo⟩, ⟨yl, ym, yt, yd, yh, yg, yu, yo⟩⟩ : StateP) = ⟨turn', mover', phase', struck, result', attack', next', ⟨zl, zm, zt, zd, zh, zg, zu, zo⟩, ⟨vl, vm, vt, vd, vh, vg, vu, vo⟩⟩) = decide ((⟨xl, xm, xt, xd, xh, xg, xu, xo⟩ : SideP) = ⟨zl, zm, zt, zd, zh, zg, zu, zo⟩ ∧ (⟨yl, ym, yt, yd, yh, yg, yu, yo⟩ : SideP) = ⟨vl, vm, vt, vd, vh, vg, vu, vo⟩) := fun e => by
      rw [decide_eq_decide]
      have q0 : turn = turn' := by simpa using t0
      have q1 : mover = mover' := by simpa using t1
      have q2 : phase = phase' := by simpa using t2
      have q3 : result = result' := by simpa using t3
      have q4 : next = next' := by simpa using t4
      rw [q0, q1, q2, q3, q4, e]
      exact ⟨fun h => ⟨congrArg StateP.x h, congrArg StateP.y h⟩, fun ⟨h1, h2⟩ => by rw [h1, h2]⟩
    have HQ := Lib.hid hq
    have HD := Lib.hid hd
    clear hq hd
    go_enter Try.func11, Try.ntmps11
    go_wp2_with fail
    refine (same_row_any aa ba an ac bn bc attack attack' _ (ha.attack.old (by (try unfold Kept); repeat (first | assumption | exact Below.refl _ _ | exact below_undrew (Below.refl _ _) | exact Below.mono (by assumption) (by first | (simp; done) | (simp; omega) | omega) | refine below_setRow ?_ (by first | (simp; done) | (simp; omega) | omega) _ | refine Below.setCell ?_ (by first | (simp; done) | (simp; omega) | omega) _ | refine Below.alloc ?_ (by first | (simp; done) | (simp; omega) | omega) _ | refine below_drewN ?_ _ | refine Below.drew ?_ | refine below_undrew ?_ | refine below_step ?_ (by assumption)))) (hb.attack.old (by (try unfold Kept); repeat (first | assumption | exact Below.refl _ _ | exact below_undrew (Below.refl _ _) | exact Below.mono (by assumption) (by first | (simp; done) | (simp; omega) | omega) | refine below_setRow ?_ (by first | (simp; done) | (simp; omega) | omega) _ | refine Below.setCell ?_ (by first | (simp; done) | (simp; omega) | omega) _ | refine Below.alloc ?_ (by first | (simp; done) | (simp; omega) | omega) _ | refine below_drewN ?_ _ | refine Below.drew ?_ | refine below_undrew ?_ | refine below_step ?_ (by assumption))))).mono ?_
    rintro e w1 ⟨rfl, hb1⟩
    have hA := (Blk.new2 _ _ _ _).old hb1
    have hB := (Blk.new2' _ _ _ _).old hb1
    have hbw1 : Below w.heap.size w w1 := by (try unfold Kept); repeat (first | assumption | exact Below.refl _ _ | exact below_undrew (Below.refl _ _) | exact Below.mono (by assumption) (by first | (simp; done) | (simp; omega) | omega) | refine below_setRow ?_ (by first | (simp; done) | (simp; omega) | omega) _ | refine Below.setCell ?_ (by first | (simp; done) | (simp; omega) | omega) _ | refine Below.alloc ?_ (by first | (simp; done) | (simp; omega) | omega) _ | refine below_drewN ?_ _ | refine Below.drew ?_ | refine below_undrew ?_ | refine below_step ?_ (by assumption))
    clear hb1
    generalize hda : decide (attack = attack') = b
    have HDA := Lib.hid hda
    clear hda
    cases b
    · go_wp2_with fail
      go_ret
      exact ⟨by rw [HANS.out.symm.trans (HQ.out _ HDA.out rfl)]; rfl, hbw1⟩
    have HDD := Lib.hid (HD.out (of_decide_eq_true HDA.out))
    go_wp2_with fail
    go_loopg [5] 2 (SameStRel w ⟨turn, mover, phase, struck, result, attack, next, ⟨xl, xm, xt, xd, xh, xg, xu, xo⟩, ⟨yl, ym, yt, yd, yh, yg, yu, yo⟩⟩ ⟨turn', mover', phase', struck, result', attack', next', ⟨zl, zm, zt, zd, zh, zg, zu, zo⟩, ⟨vl, vm, vt, vd, vh, vg, vu, vo⟩⟩ _ _)
    case atStart => exact ⟨0, rfl, rfl, fun h => by omega, fun h => by omega, hA, hB, hbw1⟩
    case round =>
    obtain ⟨k, hk, rfl, hx, hy, hA, hB, hbr⟩ := hrel
    have HX := Lib.hid hx
    have HY := Lib.hid hy
    clear hx hy
    rcases (show k = 0 ∨ k = 1 ∨ k = 2 by omega) with rfl | rfl | rfl
    · simp only [idx]
      go_wp2_with fail
      go_cut [6, 7] (fun v6 v7 wx => ∃ g1 g2 : Nat, v6 = .pointer (some ⟨g1, 0, none⟩) ∧ v7 = .pointer (some ⟨g2, 0, none⟩) ∧ Blk wx g1 #[.int .i64 xl, .int .i64 xm, .int .i64 xt, .slice xda xdn xdc, .slice xha xhn xhc, .slice xga xgn xgc, .slice xua xun xuc, .slice xoa xon xoc] 26 ∧ Blk wx g2 #[.int .i64 zl, .int .i64 zm, .int .i64 zt, .slice zda zdn zdc, .slice zha zhn zhc, .slice zga zgn zgc, .slice zua zun zuc, .slice zoa zon zoc] 26 ∧ Below wr.heap.size wr wx)
      case first =>
        have L1 := fun W (hW : Kept wr.heap.size wr.drew W) => (hA.drew.below hW hA.lt).part 7 8 [.int .i64 xl, .int .i64 xm, .int .i64 xt, .slice xda xdn xdc, .slice xha xhn xhc, .slice xga xgn xgc, .slice xua xun xuc, .slice xoa xon xoc] rfl
        have L2 := fun W (hW : Kept wr.heap.size wr.drew W) => (hB.drew.below hW hB.lt).part 7 8 [.int .i64 zl, .int .i64 zm, .int .i64 zt, .slice zda zdn zdc, .slice zha zhn zhc, .slice zga zgn zgc, .slice zua zun zuc, .slice zoa zon zoc] rfl
        refine wp_region_tree wr.heap.size (.step 0 (.step 1 (.step 2 (.step 3 (.step 4 (.step 5 (.step 6 (.step 7 (.fork [(8, (.step 9 (.step 10 (.step 11 .done)))), (9, (.step 8 (.step 10 (.step 11 .done))))]))))))))) (by kernel_rfl) (by kernel_rfl) (fun c a d v w h => by cases d <;> exact h) ?_
        repeat (first | (refine tree_skip rfl (by rfl) ?_; simp only [Act.put, List.setIfInBounds_toArray, List.set]) | (refine tree_quiet (v := ?_) rfl rfl (by rfl) ?_ ?_; rotate_left; (intro W hW; go_simp); (try with_reducible rfl); simp only [Act.put, List.setIfInBounds_toArray, List.set]))
        refine tree_quiet (v := .agg #[.int .i64 xl, .int .i64 xm, .int .i64 xt, .slice xda xdn xdc, .slice xha xhn xhc, .slice xga xgn xgc, .slice xua xun xuc, .slice xoa xon xoc]) rfl rfl (by rfl) (fun W hW => exec_load_as 26 sideT (.tmp 62) rfl rfl rfl (L1 W hW) rfl) ?_
        simp only [Act.put, List.setIfInBounds_toArray, List.set]
        repeat (first | (refine tree_skip rfl (by rfl) ?_; simp only [Act.put, List.setIfInBounds_toArray, List.set]) | (refine tree_quiet (v := ?_) rfl rfl (by rfl) ?_ ?_; rotate_left; (intro W hW; go_simp); (try with_reducible rfl); simp only [Act.put, List.setIfInBounds_toArray, List.set]))
        refine tree_quiet (v := .agg #[.int .i64 zl, .int .i64 zm, .int .i64 zt, .slice zda zdn zdc, .slice zha zhn zhc, .slice zga zgn zgc, .slice zua zun zuc, .slice zoa zon zoc]) rfl rfl (by rfl) (fun W hW => exec_load_as 26 sideT (.tmp 66) rfl rfl rfl (L2 W hW) rfl) ?_
        simp only [Act.put, List.setIfInBounds_toArray, List.set]
        refine tree_fork ?_
        refine tree_arm rfl (by rfl) (fun K hK => ?_) ?_
        · go_wp2_with fail
          refine hK _ _ (by (try unfold Kept); repeat (first | assumption | exact Below.refl _ _ | exact below_undrew (Below.refl _ _) | exact Below.mono (by assumption) (by first | (simp; done) | (simp; omega) | omega) | refine below_setRow ?_ (by first | (simp; done) | (simp; omega) | omega) _ | refine Below.setCell ?_ (by first | (simp; done) | (simp; omega) | omega) _ | refine Below.alloc ?_ (by first | (simp; done) | (simp; omega) | omega) _ | refine below_drewN ?_ _ | refine Below.drew ?_ | refine below_undrew ?_ | refine below_step ?_ (by assumption))) ?_
          clear hK K
          refine tree_loud rfl rfl (by rfl) (fun K hK => ?_); go_wp2_with fail
          refine hK _ _ (by (try unfold Kept); repeat (first | assumption | exact Below.refl _ _ | exact below_undrew (Below.refl _ _) | exact Below.mono (by assumption) (by first | (simp; done) | (simp; omega) | omega) | refine below_setRow ?_ (by first | (simp; done) | (simp; omega) | omega) _ | refine Below.setCell ?_ (by first | (simp; done) | (simp; omega) | omega) _ | refine Below.alloc ?_ (by first | (simp; done) | (simp; omega) | omega) _ | refine below_drewN ?_ _ | refine Below.drew ?_ | refine below_undrew ?_ | refine below_step ?_ (by assumption))) ?_
          clear hK K
          refine tree_loud rfl rfl (by rfl) (fun K hK => ?_)
          refine wp_store_at 26 sideT (.tmp 6) (.tmp 63) rfl rfl rfl (Blk.new2 _ _ _ _).drew rfl (by decide) rfl ?_
          refine hK _ _ (by (try unfold Kept); repeat (first | assumption | exact Below.refl _ _ | exact below_undrew (Below.refl _ _) | exact Below.mono (by assumption) (by first | (simp; done) | (simp; omega) | omega) | refine below_setRow ?_ (by first | (simp; done) | (simp; omega) | omega) _ | refine Below.setCell ?_ (by first | (simp; done) | (simp; omega) | omega) _ | refine Below.alloc ?_ (by first | (simp; done) | (simp; omega) | omega) _ | refine below_drewN ?_ _ | refine Below.drew ?_ | refine below_undrew ?_ | refine below_step ?_ (by assumption))) ?_
          clear hK K
          refine tree_loud rfl rfl (by rfl) (fun K hK => ?_)
          refine wp_store_at 26 sideT (.tmp 7) (.tmp 67) rfl rfl rfl ((Blk.new2' _ _ _ _).drew.setRow_other _ _ (by simp)) rfl (by decide) rfl ?_
          refine hK _ _ (by (try unfold Kept); repeat (first | assumption | exact Below.refl _ _ | exact below_undrew (Below.refl _ _) | exact Below.mono (by assumption) (by first | (simp; done) | (simp; omega) | omega) | refine below_setRow ?_ (by first | (simp; done) | (simp; omega) | omega) _ | refine Below.setCell ?_ (by first | (simp; done) | (simp; omega) | omega) _ | refine Below.alloc ?_ (by first | (simp; done) | (simp; omega) | omega) _ | refine below_drewN ?_ _ | refine Below.drew ?_ | refine below_undrew ?_ | refine below_step ?_ (by assumption))) ?_
          clear hK K
          refine tree_done ?_
          go_wp2_with fail
          go_meet
          exact ⟨wr.heap.size, wr.heap.size + 1, rfl, rfl, ((Blk.new2 _ _ _ _).drew.setRow _).setRow_other _ _ (by simp), ((Blk.new2' _ _ _ _).drew.setRow_other _ _ (by simp)).setRow _, by (try unfold Kept); repeat (first | assumption | exact Below.refl _ _ | exact below_undrew (Below.refl _ _) | exact Below.mono (by assumption) (by first | (simp; done) | (simp; omega) | omega) | refine below_setRow ?_ (by first | (simp; done) | (simp; omega) | omega) _ | refine Below.setCell ?_ (by first | (simp; done) | (simp; omega) | omega) _ | refine Below.alloc ?_ (by first | (simp; done) | (simp; omega) | omega) _ | refine below_drewN ?_ _ | refine Below.drew ?_ | refine below_undrew ?_ | refine below_step ?_ (by assumption))⟩
        · refine tree_arm rfl (by rfl) (fun K hK => ?_) ?_
          · go_wp2_with fail
            refine hK _ _ (by (try unfold Kept); repeat (first | assumption | exact Below.refl _ _ | exact below_undrew (Below.refl _ _) | exact Below.mono (by assumption) (by first | (simp; done) | (simp; omega) | omega) | refine below_setRow ?_ (by first | (simp; done) | (simp; omega) | omega) _ | refine Below.setCell ?_ (by first | (simp; done) | (simp; omega) | omega) _ | refine Below.alloc ?_ (by first | (simp; done) | (simp; omega) | omega) _ | refine below_drewN ?_ _ | refine Below.drew ?_ | refine below_undrew ?_ | refine below_step ?_ (by assumption))) ?_
            clear hK K
            refine tree_loud rfl rfl (by rfl) (fun K hK => ?_); go_wp2_with fail
            refine hK _ _ (by (try unfold Kept); repeat (first | assumption | exact Below.refl _ _ | exact below_undrew (Below.refl _ _) | exact Below.mono (by assumption) (by first | (simp; done) | (simp; omega) | omega) | refine below_setRow ?_ (by first | (simp; done) | (simp; omega) | omega) _ | refine Below.setCell ?_ (by first | (simp; done) | (simp; omega) | omega) _ | refine Below.alloc ?_ (by first | (simp; done) | (simp; omega) | omega) _ | refine below_drewN ?_ _ | refine Below.drew ?_ | refine below_undrew ?_ | refine below_step ?_ (by assumption))) ?_
            clear hK K
            refine tree_loud rfl rfl (by rfl) (fun K hK => ?_)
            refine wp_store_at 26 sideT (.tmp 6) (.tmp 63) rfl rfl rfl (Blk.new2' _ _ _ _).drew rfl (by decide) rfl ?_
            refine hK _ _ (by (try unfold Kept); repeat (first | assumption | exact Below.refl _ _ | exact below_undrew (Below.refl _ _) | exact Below.mono (by assumption) (by first | (simp; done) | (simp; omega) | omega) | refine below_setRow ?_ (by first | (simp; done) | (simp; omega) | omega) _ | refine Below.setCell ?_ (by first | (simp; done) | (simp; omega) | omega) _ | refine Below.alloc ?_ (by first | (simp; done) | (simp; omega) | omega) _ | refine below_drewN ?_ _ | refine Below.drew ?_ | refine below_undrew ?_ | refine below_step ?_ (by assumption))) ?_
            clear hK K
            refine tree_loud rfl rfl (by rfl) (fun K hK => ?_)
            refine wp_store_at 26 sideT (.tmp 7) (.tmp 67) rfl rfl rfl ((Blk.new2 _ _ _ _).drew.setRow_other _ _ (by simp)) rfl (by decide) rfl ?_
            refine hK _ _ (by (try unfold Kept); repeat (first | assumption | exact Below.refl _ _ | exact below_undrew (Below.refl _ _) | exact Below.mono (by assumption) (by first | (simp; done) | (simp; omega) | omega) | refine below_setRow ?_ (by first | (simp; done) | (simp; omega) | omega) _ | refine Below.setCell ?_ (by first | (simp; done) | (simp; omega) | omega) _ | refine Below.alloc ?_ (by first | (simp; done) | (simp; omega) | omega) _ | refine below_drewN ?_ _ | refine Below.drew ?_ | refine below_undrew ?_ | refine below_step ?_ (by assumption))) ?_
            clear hK K
            refine tree_done ?_
            go_wp2_with fail
            go_meet
            exact ⟨wr.heap.size + 1, wr.heap.size, rfl, rfl, ((Blk.new2' _ _ _ _).drew.setRow _).setRow_other _ _ (by simp), ((Blk.new2 _ _ _ _).drew.setRow_other _ _ (by simp)).setRow _, by (try unfold Kept); repeat (first | assumption | exact Below.refl _ _ | exact below_undrew (Below.refl _ _) | exact Below.mono (by assumption) (by first | (simp; done) | (simp; omega) | omega) | refine below_setRow ?_ (by first | (simp; done) | (simp; omega) | omega) _ | refine Below.setCell ?_ (by first | (simp; done) | (simp; omega) | omega) _ | refine Below.alloc ?_ (by first | (simp; done) | (simp; omega) | omega) _ | refine below_drewN ?_ _ | refine Below.drew ?_ | refine below_undrew ?_ | refine below_step ?_ (by assumption))⟩
          · exact tree_nil
      case rest =>
        obtain ⟨g1, g2, rfl, rfl, hE, hF, hbc⟩ := hcut
        have hAc := hA.old hbc
        have hBc := hB.old hbc
        have hbw : Below w.heap.size w wc := below_step hbr hbc
        have r1 := hE.rule
        have r2 := hF.rule
        clear hA hB hbc hbr
        rcases chainF3 (xl != zl) (xm != zm) (xt != zt) with t0 | ⟨t0, t1⟩ | ⟨t0, t1, t2⟩ | ⟨t0, t1, t2⟩
        · have hsd : (⟨xl, xm, xt, xd, xh, xg, xu, xo⟩ : SideP) ≠ (⟨zl, zm, zt, zd, zh, zg, zu, zo⟩ : SideP) := fun e => by have h := congrArg SideP.life e; simp at t0; exact t0 h
          have HF := Lib.hid (HANS.out.symm.trans (HDD.out.trans (decide_eq_false (fun h => hsd h.1))))
          clear hsd
          go_wp2_with fail
          go_ret
          exact ⟨by rw [HF.out]; rfl, hbw⟩
        · have hsd : (⟨xl, xm, xt, xd, xh, xg, xu, xo⟩ : SideP) ≠ (⟨zl, zm, zt, zd, zh, zg, zu, zo⟩ : SideP) := fun e => by have h := congrArg SideP.mana e; simp at t1; exact t1 h
          have HF := Lib.hid (HANS.out.symm.trans (HDD.out.trans (decide_eq_false (fun h => hsd h.1))))
          clear hsd
          go_wp2_with fail
          go_ret
          exact ⟨by rw [HF.out]; rfl, hbw⟩
        · have hsd : (⟨xl, xm, xt, xd, xh, xg, xu, xo⟩ : SideP) ≠ (⟨zl, zm, zt, zd, zh, zg, zu, zo⟩ : SideP) := fun e => by have h := congrArg SideP.most e; simp at t2; exact t2 h
          have HF := Lib.hid (HANS.out.symm.trans (HDD.out.trans (decide_eq_false (fun h => hsd h.1))))
          clear hsd
          go_wp2_with fail
          go_ret
          exact ⟨by rw [HF.out]; rfl, hbw⟩
        have hl3 : xl = zl ∧ xm = zm ∧ xt = zt := ⟨by simpa using t0, by simpa using t1, by simpa using t2⟩
        have HL3 := Lib.hid hl3
        clear hl3
        go_wp2_with fail
        refine (same_row_any xda zda xdn xdc zdn zdc xd zd _ (ha.x.deck.old hbw) (hb.x.deck.old hbw)).mono ?_
        rintro e w2 ⟨rfl, hc1⟩
        have hbw1 : Below w.heap.size w w2 := below_step hbw hc1
        have hE1 := hE.old hc1
        have hF1 := hF.old hc1
        have hA1 := hAc.old hc1
        have hB1 := hBc.old hc1
        have r1 := hE1.rule
        have r2 := hF1.rule
        clear hc1
        generalize hb1 : decide (xd = zd) = b1
        have HB1 := Lib.hid hb1
        clear hb1
        cases b1
        · have hsd : (⟨xl, xm, xt, xd, xh, xg, xu, xo⟩ : SideP) ≠ (⟨zl, zm, zt, zd, zh, zg, zu, zo⟩ : SideP) := fun e => of_decide_eq_false HB1.out (congrArg SideP.deck e)
          have HF := Lib.hid (HANS.out.symm.trans (HDD.out.trans (decide_eq_false (fun h => hsd h.1))))
          clear hsd
          go_wp2_with fail
          go_ret
          exact ⟨by rw [HF.out]; rfl, hbw1⟩
        go_wp2_with fail
        refine (same_row_any xha zha xhn xhc zhn zhc xh zh _ (ha.x.hand.old hbw1) (hb.x.hand.old hbw1)).mono ?_
        rintro e w3 ⟨rfl, hc2⟩
        have hbw2 : Below w.heap.size w w3 := below_step hbw1 hc2
        have hE2 := hE1.old hc2
        have hF2 := hF1.old hc2
        have hA2 := hA1.old hc2
        have hB2 := hB1.old hc2
        have r1 := hE2.rule
        have r2 := hF2.rule
        clear hc2
        generalize hb2 : decide (xh = zh) = b2
        have HB2 := Lib.hid hb2
        clear hb2
        cases b2
        · have hsd : (⟨xl, xm, xt, xd, xh, xg, xu, xo⟩ : SideP) ≠ (⟨zl, zm, zt, zd, zh, zg, zu, zo⟩ : SideP) := fun e => of_decide_eq_false HB2.out (congrArg SideP.hand e)
          have HF := Lib.hid (HANS.out.symm.trans (HDD.out.trans (decide_eq_false (fun h => hsd h.1))))
          clear hsd
          go_wp2_with fail
          go_ret
          exact ⟨by rw [HF.out]; rfl, hbw2⟩
        go_wp2_with fail
        refine (same_row_any xga zga xgn xgc zgn zgc xg zg _ (ha.x.grave.old hbw2) (hb.x.grave.old hbw2)).mono ?_
        rintro e w4 ⟨rfl, hc3⟩
        have hbw3 : Below w.heap.size w w4 := below_step hbw2 hc3
        have hE3 := hE2.old hc3
        have hF3 := hF2.old hc3
        have hA3 := hA2.old hc3
        have hB3 := hB2.old hc3
        have r1 := hE3.rule
        have r2 := hF3.rule
        clear hc3
        generalize hb3 : decide (xg = zg) = b3
        have HB3 := Lib.hid hb3
        clear hb3
        cases b3
        · have hsd : (⟨xl, xm, xt, xd, xh, xg, xu, xo⟩ : SideP) ≠ (⟨zl, zm, zt, zd, zh, zg, zu, zo⟩ : SideP) := fun e => of_decide_eq_false HB3.out (congrArg SideP.grave e)
          have HF := Lib.hid (HANS.out.symm.trans (HDD.out.trans (decide_eq_false (fun h => hsd h.1))))
          clear hsd
          go_wp2_with fail
          go_ret
          exact ⟨by rw [HF.out]; rfl, hbw3⟩
        go_wp2_with fail
        refine (same_row_any xoa zoa xon xoc zon zoc xo zo _ (ha.x.told.old hbw3) (hb.x.told.old hbw3)).mono ?_
        rintro e w5 ⟨rfl, hc4⟩
        have hbw4 : Below w.heap.size w w5 := below_step hbw3 hc4
        have hE4 := hE3.old hc4
        have hF4 := hF3.old hc4
        have hA4 := hA3.old hc4
        have hB4 := hB3.old hc4
        have r1 := hE4.rule
        have r2 := hF4.rule
        clear hc4
        generalize hb4 : decide (xo = zo) = b4
        have HB4 := Lib.hid hb4
        clear hb4
        cases b4
        · have hsd : (⟨xl, xm, xt, xd, xh, xg, xu, xo⟩ : SideP) ≠ (⟨zl, zm, zt, zd, zh, zg, zu, zo⟩ : SideP) := fun e => of_decide_eq_false HB4.out (congrArg SideP.told e)
          have HF := Lib.hid (HANS.out.symm.trans (HDD.out.trans (decide_eq_false (fun h => hsd h.1))))
          clear hsd
          go_wp2_with fail
          go_ret
          exact ⟨by rw [HF.out]; rfl, hbw4⟩
        go_wp2_with fail
        refine (sameThings_any xua zua xun xuc zun zuc xu zu _ (ha.x.units.old hbw4) (hb.x.units.old hbw4)).mono ?_
        rintro e w6 ⟨rfl, hc5⟩
        have hbw5 : Below w.heap.size w w6 := below_step hbw4 hc5
        have hE5 := hE4.old hc5
        have hF5 := hF4.old hc5
        have hA5 := hA4.old hc5
        have hB5 := hB4.old hc5
        have r1 := hE5.rule
        have r2 := hF5.rule
        clear hc5
        generalize hb5 : decide (xu = zu) = b5
        have HB5 := Lib.hid hb5
        clear hb5
        cases b5
        · have hsd : (⟨xl, xm, xt, xd, xh, xg, xu, xo⟩ : SideP) ≠ (⟨zl, zm, zt, zd, zh, zg, zu, zo⟩ : SideP) := fun e => of_decide_eq_false HB5.out (congrArg SideP.units e)
          have HF := Lib.hid (HANS.out.symm.trans (HDD.out.trans (decide_eq_false (fun h => hsd h.1))))
          clear hsd
          go_wp2_with fail
          go_ret
          exact ⟨by rw [HF.out]; rfl, hbw5⟩
        go_wp2_with fail
        have hsd : (⟨xl, xm, xt, xd, xh, xg, xu, xo⟩ : SideP) = (⟨zl, zm, zt, zd, zh, zg, zu, zo⟩ : SideP) := by
          obtain ⟨q1, q2, q3⟩ := HL3.out
          have p1 := of_decide_eq_true HB1.out
          have p2 := of_decide_eq_true HB2.out
          have p3 := of_decide_eq_true HB3.out
          have p4 := of_decide_eq_true HB4.out
          have p5 := of_decide_eq_true HB5.out
          rw [q1, q2, q3, p1, p2, p3, p4, p5]
        have HSD := Lib.hid hsd
        clear hsd
        go_roundg 1
        case measure => omega
        case rel => exact ⟨1, rfl, rfl, fun _ => HSD.out, fun h => by omega, hA5, hB5, hbw5⟩
    · simp only [idx]
      go_wp2_with fail
      go_cut [6, 7] (fun v6 v7 wx => ∃ g1 g2 : Nat, v6 = .pointer (some ⟨g1, 0, none⟩) ∧ v7 = .pointer (some ⟨g2, 0, none⟩) ∧ Blk wx g1 #[.int .i64 yl, .int .i64 ym, .int .i64 yt, .slice yda ydn ydc, .slice yha yhn yhc, .slice yga ygn ygc, .slice yua yun yuc, .slice yoa yon yoc] 26 ∧ Blk wx g2 #[.int .i64 vl, .int .i64 vm, .int .i64 vt, .slice vda vdn vdc, .slice vha vhn vhc, .slice vga vgn vgc, .slice vua vun vuc, .slice voa von voc] 26 ∧ Below wr.heap.size wr wx)
      case first =>
        have L1 := fun W (hW : Kept wr.heap.size wr.drew W) => (hA.drew.below hW hA.lt).part 15 8 [.int .i64 yl, .int .i64 ym, .int .i64 yt, .slice yda ydn ydc, .slice yha yhn yhc, .slice yga ygn ygc, .slice yua yun yuc, .slice yoa yon yoc] rfl
        have L2 := fun W (hW : Kept wr.heap.size wr.drew W) => (hB.drew.below hW hB.lt).part 15 8 [.int .i64 vl, .int .i64 vm, .int .i64 vt, .slice vda vdn vdc, .slice vha vhn vhc, .slice vga vgn vgc, .slice vua vun vuc, .slice voa von voc] rfl
        refine wp_region_tree wr.heap.size (.step 0 (.step 1 (.step 2 (.step 3 (.step 4 (.step 5 (.step 6 (.step 7 (.fork [(8, (.step 9 (.step 10 (.step 11 .done)))), (9, (.step 8 (.step 10 (.step 11 .done))))]))))))))) (by kernel_rfl) (by kernel_rfl) (fun c a d v w h => by cases d <;> exact h) ?_
        repeat (first | (refine tree_skip rfl (by rfl) ?_; simp only [Act.put, List.setIfInBounds_toArray, List.set]) | (refine tree_quiet (v := ?_) rfl rfl (by rfl) ?_ ?_; rotate_left; (intro W hW; go_simp); (try with_reducible rfl); simp only [Act.put, List.setIfInBounds_toArray, List.set]))
        refine tree_quiet (v := .agg #[.int .i64 yl, .int .i64 ym, .int .i64 yt, .slice yda ydn ydc, .slice yha yhn yhc, .slice yga ygn ygc, .slice yua yun yuc, .slice yoa yon yoc]) rfl rfl (by rfl) (fun W hW => exec_load_as 26 sideT (.tmp 62) rfl rfl rfl (L1 W hW) rfl) ?_
        simp only [Act.put, List.setIfInBounds_toArray, List.set]
        repeat (first | (refine tree_skip rfl (by rfl) ?_; simp only [Act.put, List.setIfInBounds_toArray, List.set]) | (refine tree_quiet (v := ?_) rfl rfl (by rfl) ?_ ?_; rotate_left; (intro W hW; go_simp); (try with_reducible rfl); simp only [Act.put, List.setIfInBounds_toArray, List.set]))
        refine tree_quiet (v := .agg #[.int .i64 vl, .int .i64 vm, .int .i64 vt, .slice vda vdn vdc, .slice vha vhn vhc, .slice vga vgn vgc, .slice vua vun vuc, .slice voa von voc]) rfl rfl (by rfl) (fun W hW => exec_load_as 26 sideT (.tmp 66) rfl rfl rfl (L2 W hW) rfl) ?_
        simp only [Act.put, List.setIfInBounds_toArray, List.set]
        refine tree_fork ?_
        refine tree_arm rfl (by rfl) (fun K hK => ?_) ?_
        · go_wp2_with fail
          refine hK _ _ (by (try unfold Kept); repeat (first | assumption | exact Below.refl _ _ | exact below_undrew (Below.refl _ _) | exact Below.mono (by assumption) (by first | (simp; done) | (simp; omega) | omega) | refine below_setRow ?_ (by first | (simp; done) | (simp; omega) | omega) _ | refine Below.setCell ?_ (by first | (simp; done) | (simp; omega) | omega) _ | refine Below.alloc ?_ (by first | (simp; done) | (simp; omega) | omega) _ | refine below_drewN ?_ _ | refine Below.drew ?_ | refine below_undrew ?_ | refine below_step ?_ (by assumption))) ?_
          clear hK K
          refine tree_loud rfl rfl (by rfl) (fun K hK => ?_); go_wp2_with fail
          refine hK _ _ (by (try unfold Kept); repeat (first | assumption | exact Below.refl _ _ | exact below_undrew (Below.refl _ _) | exact Below.mono (by assumption) (by first | (simp; done) | (simp; omega) | omega) | refine below_setRow ?_ (by first | (simp; done) | (simp; omega) | omega) _ | refine Below.setCell ?_ (by first | (simp; done) | (simp; omega) | omega) _ | refine Below.alloc ?_ (by first | (simp; done) | (simp; omega) | omega) _ | refine below_drewN ?_ _ | refine Below.drew ?_ | refine below_undrew ?_ | refine below_step ?_ (by assumption))) ?_
          clear hK K
          refine tree_loud rfl rfl (by rfl) (fun K hK => ?_)
          refine wp_store_at 26 sideT (.tmp 6) (.tmp 63) rfl rfl rfl (Blk.new2 _ _ _ _).drew rfl (by decide) rfl ?_
          refine hK _ _ (by (try unfold Kept); repeat (first | assumption | exact Below.refl _ _ | exact below_undrew (Below.refl _ _) | exact Below.mono (by assumption) (by first | (simp; done) | (simp; omega) | omega) | refine below_setRow ?_ (by first | (simp; done) | (simp; omega) | omega) _ | refine Below.setCell ?_ (by first | (simp; done) | (simp; omega) | omega) _ | refine Below.alloc ?_ (by first | (simp; done) | (simp; omega) | omega) _ | refine below_drewN ?_ _ | refine Below.drew ?_ | refine below_undrew ?_ | refine below_step ?_ (by assumption))) ?_
          clear hK K
          refine tree_loud rfl rfl (by rfl) (fun K hK => ?_)
          refine wp_store_at 26 sideT (.tmp 7) (.tmp 67) rfl rfl rfl ((Blk.new2' _ _ _ _).drew.setRow_other _ _ (by simp)) rfl (by decide) rfl ?_
          refine hK _ _ (by (try unfold Kept); repeat (first | assumption | exact Below.refl _ _ | exact below_undrew (Below.refl _ _) | exact Below.mono (by assumption) (by first | (simp; done) | (simp; omega) | omega) | refine below_setRow ?_ (by first | (simp; done) | (simp; omega) | omega) _ | refine Below.setCell ?_ (by first | (simp; done) | (simp; omega) | omega) _ | refine Below.alloc ?_ (by first | (simp; done) | (simp; omega) | omega) _ | refine below_drewN ?_ _ | refine Below.drew ?_ | refine below_undrew ?_ | refine below_step ?_ (by assumption))) ?_
          clear hK K
          refine tree_done ?_
          go_wp2_with fail
          go_meet
          exact ⟨wr.heap.size, wr.heap.size + 1, rfl, rfl, ((Blk.new2 _ _ _ _).drew.setRow _).setRow_other _ _ (by simp), ((Blk.new2' _ _ _ _).drew.setRow_other _ _ (by simp)).setRow _, by (try unfold Kept); repeat (first | assumption | exact Below.refl _ _ | exact below_undrew (Below.refl _ _) | exact Below.mono (by assumption) (by first | (simp; done) | (simp; omega) | omega) | refine below_setRow ?_ (by first | (simp; done) | (simp; omega) | omega) _ | refine Below.setCell ?_ (by first | (simp; done) | (simp; omega) | omega) _ | refine Below.alloc ?_ (by first | (simp; done) | (simp; omega) | omega) _ | refine below_drewN ?_ _ | refine Below.drew ?_ | refine below_undrew ?_ | refine below_step ?_ (by assumption))⟩
        · refine tree_arm rfl (by rfl) (fun K hK => ?_) ?_
          · go_wp2_with fail
            refine hK _ _ (by (try unfold Kept); repeat (first | assumption | exact Below.refl _ _ | exact below_undrew (Below.refl _ _) | exact Below.mono (by assumption) (by first | (simp; done) | (simp; omega) | omega) | refine below_setRow ?_ (by first | (simp; done) | (simp; omega) | omega) _ | refine Below.setCell ?_ (by first | (simp; done) | (simp; omega) | omega) _ | refine Below.alloc ?_ (by first | (simp; done) | (simp; omega) | omega) _ | refine below_drewN ?_ _ | refine Below.drew ?_ | refine below_undrew ?_ | refine below_step ?_ (by assumption))) ?_
            clear hK K
            refine tree_loud rfl rfl (by rfl) (fun K hK => ?_); go_wp2_with fail
            refine hK _ _ (by (try unfold Kept); repeat (first | assumption | exact Below.refl _ _ | exact below_undrew (Below.refl _ _) | exact Below.mono (by assumption) (by first | (simp; done) | (simp; omega) | omega) | refine below_setRow ?_ (by first | (simp; done) | (simp; omega) | omega) _ | refine Below.setCell ?_ (by first | (simp; done) | (simp; omega) | omega) _ | refine Below.alloc ?_ (by first | (simp; done) | (simp; omega) | omega) _ | refine below_drewN ?_ _ | refine Below.drew ?_ | refine below_undrew ?_ | refine below_step ?_ (by assumption))) ?_
            clear hK K
            refine tree_loud rfl rfl (by rfl) (fun K hK => ?_)
            refine wp_store_at 26 sideT (.tmp 6) (.tmp 63) rfl rfl rfl (Blk.new2' _ _ _ _).drew rfl (by decide) rfl ?_
            refine hK _ _ (by (try unfold Kept); repeat (first | assumption | exact Below.refl _ _ | exact below_undrew (Below.refl _ _) | exact Below.mono (by assumption) (by first | (simp; done) | (simp; omega) | omega) | refine below_setRow ?_ (by first | (simp; done) | (simp; omega) | omega) _ | refine Below.setCell ?_ (by first | (simp; done) | (simp; omega) | omega) _ | refine Below.alloc ?_ (by first | (simp; done) | (simp; omega) | omega) _ | refine below_drewN ?_ _ | refine Below.drew ?_ | refine below_undrew ?_ | refine below_step ?_ (by assumption))) ?_
            clear hK K
            refine tree_loud rfl rfl (by rfl) (fun K hK => ?_)
            refine wp_store_at 26 sideT (.tmp 7) (.tmp 67) rfl rfl rfl ((Blk.new2 _ _ _ _).drew.setRow_other _ _ (by simp)) rfl (by decide) rfl ?_
            refine hK _ _ (by (try unfold Kept); repeat (first | assumption | exact Below.refl _ _ | exact below_undrew (Below.refl _ _) | exact Below.mono (by assumption) (by first | (simp; done) | (simp; omega) | omega) | refine below_setRow ?_ (by first | (simp; done) | (simp; omega) | omega) _ | refine Below.setCell ?_ (by first | (simp; done) | (simp; omega) | omega) _ | refine Below.alloc ?_ (by first | (simp; done) | (simp; omega) | omega) _ | refine below_drewN ?_ _ | refine Below.drew ?_ | refine below_undrew ?_ | refine below_step ?_ (by assumption))) ?_
            clear hK K
            refine tree_done ?_
            go_wp2_with fail
            go_meet
            exact ⟨wr.heap.size + 1, wr.heap.size, rfl, rfl, ((Blk.new2' _ _ _ _).drew.setRow _).setRow_other _ _ (by simp), ((Blk.new2 _ _ _ _).drew.setRow_other _ _ (by simp)).setRow _, by (try unfold Kept); repeat (first | assumption | exact Below.refl _ _ | exact below_undrew (Below.refl _ _) | exact Below.mono (by assumption) (by first | (simp; done) | (simp; omega) | omega) | refine below_setRow ?_ (by first | (simp; done) | (simp; omega) | omega) _ | refine Below.setCell ?_ (by first | (simp; done) | (simp; omega) | omega) _ | refine Below.alloc ?_ (by first | (simp; done) | (simp; omega) | omega) _ | refine below_drewN ?_ _ | refine Below.drew ?_ | refine below_undrew ?_ | refine below_step ?_ (by assumption))⟩
          · exact tree_nil
      case rest =>
        obtain ⟨g1, g2, rfl, rfl, hE, hF, hbc⟩ := hcut
        have hAc := hA.old hbc
        have hBc := hB.old hbc
        have hbw : Below w.heap.size w wc := below_step hbr hbc
        have r1 := hE.rule
        have r2 := hF.rule
        clear hA hB hbc hbr
        rcases chainF3 (yl != vl) (ym != vm) (yt != vt) with t0 | ⟨t0, t1⟩ | ⟨t0, t1, t2⟩ | ⟨t0, t1, t2⟩
        · have hsd : (⟨yl, ym, yt, yd, yh, yg, yu, yo⟩ : SideP) ≠ (⟨vl, vm, vt, vd, vh, vg, vu, vo⟩ : SideP) := fun e => by have h := congrArg SideP.life e; simp at t0; exact t0 h
          have HF := Lib.hid (HANS.out.symm.trans (HDD.out.trans (decide_eq_false (fun h => hsd h.2))))
          clear hsd
          go_wp2_with fail
          go_ret
          exact ⟨by rw [HF.out]; rfl, hbw⟩
        · have hsd : (⟨yl, ym, yt, yd, yh, yg, yu, yo⟩ : SideP) ≠ (⟨vl, vm, vt, vd, vh, vg, vu, vo⟩ : SideP) := fun e => by have h := congrArg SideP.mana e; simp at t1; exact t1 h
          have HF := Lib.hid (HANS.out.symm.trans (HDD.out.trans (decide_eq_false (fun h => hsd h.2))))
          clear hsd
          go_wp2_with fail
          go_ret
          exact ⟨by rw [HF.out]; rfl, hbw⟩
        · have hsd : (⟨yl, ym, yt, yd, yh, yg, yu, yo⟩ : SideP) ≠ (⟨vl, vm, vt, vd, vh, vg, vu, vo⟩ : SideP) := fun e => by have h := congrArg SideP.most e; simp at t2; exact t2 h
          have HF := Lib.hid (HANS.out.symm.trans (HDD.out.trans (decide_eq_false (fun h => hsd h.2))))
          clear hsd
          go_wp2_with fail
          go_ret
          exact ⟨by rw [HF.out]; rfl, hbw⟩
        have hl3 : yl = vl ∧ ym = vm ∧ yt = vt := ⟨by simpa using t0, by simpa using t1, by simpa using t2⟩
        have HL3 := Lib.hid hl3
        clear hl3
        go_wp2_with fail
        refine (same_row_any yda vda ydn ydc vdn vdc yd vd _ (ha.y.deck.old hbw) (hb.y.deck.old hbw)).mono ?_
        rintro e w2 ⟨rfl, hc1⟩
        have hbw1 : Below w.heap.size w w2 := below_step hbw hc1
        have hE1 := hE.old hc1
        have hF1 := hF.old hc1
        have hA1 := hAc.old hc1
        have hB1 := hBc.old hc1
        have r1 := hE1.rule
        have r2 := hF1.rule
        clear hc1
        generalize hb1 : decide (yd = vd) = b1
        have HB1 := Lib.hid hb1
        clear hb1
        cases b1
        · have hsd : (⟨yl, ym, yt, yd, yh, yg, yu, yo⟩ : SideP) ≠ (⟨vl, vm, vt, vd, vh, vg, vu, vo⟩ : SideP) := fun e => of_decide_eq_false HB1.out (congrArg SideP.deck e)
          have HF := Lib.hid (HANS.out.symm.trans (HDD.out.trans (decide_eq_false (fun h => hsd h.2))))
          clear hsd
          go_wp2_with fail
          go_ret
          exact ⟨by rw [HF.out]; rfl, hbw1⟩
        go_wp2_with fail
        refine (same_row_any yha vha yhn yhc vhn vhc yh vh _ (ha.y.hand.old hbw1) (hb.y.hand.old hbw1)).mono ?_
        rintro e w3 ⟨rfl, hc2⟩
        have hbw2 : Below w.heap.size w w3 := below_step hbw1 hc2
        have hE2 := hE1.old hc2
        have hF2 := hF1.old hc2
        have hA2 := hA1.old hc2
        have hB2 := hB1.old hc2
        have r1 := hE2.rule
        have r2 := hF2.rule
        clear hc2
        generalize hb2 : decide (yh = vh) = b2
        have HB2 := Lib.hid hb2
        clear hb2
        cases b2
        · have hsd : (⟨yl, ym, yt, yd, yh, yg, yu, yo⟩ : SideP) ≠ (⟨vl, vm, vt, vd, vh, vg, vu, vo⟩ : SideP) := fun e => of_decide_eq_false HB2.out (congrArg SideP.hand e)
          have HF := Lib.hid (HANS.out.symm.trans (HDD.out.trans (decide_eq_false (fun h => hsd h.2))))
          clear hsd
          go_wp2_with fail
          go_ret
          exact ⟨by rw [HF.out]; rfl, hbw2⟩
        go_wp2_with fail
        refine (same_row_any yga vga ygn ygc vgn vgc yg vg _ (ha.y.grave.old hbw2) (hb.y.grave.old hbw2)).mono ?_
        rintro e w4 ⟨rfl, hc3⟩
        have hbw3 : Below w.heap.size w w4 := below_step hbw2 hc3
        have hE3 := hE2.old hc3
        have hF3 := hF2.old hc3
        have hA3 := hA2.old hc3
        have hB3 := hB2.old hc3
        have r1 := hE3.rule
        have r2 := hF3.rule
        clear hc3
        generalize hb3 : decide (yg = vg) = b3
        have HB3 := Lib.hid hb3
        clear hb3
        cases b3
        · have hsd : (⟨yl, ym, yt, yd, yh, yg, yu, yo⟩ : SideP) ≠ (⟨vl, vm, vt, vd, vh, vg, vu, vo⟩ : SideP) := fun e => of_decide_eq_false HB3.out (congrArg SideP.grave e)
          have HF := Lib.hid (HANS.out.symm.trans (HDD.out.trans (decide_eq_false (fun h => hsd h.2))))
          clear hsd
          go_wp2_with fail
          go_ret
          exact ⟨by rw [HF.out]; rfl, hbw3⟩
        go_wp2_with fail
        refine (same_row_any yoa voa yon yoc von voc yo vo _ (ha.y.told.old hbw3) (hb.y.told.old hbw3)).mono ?_
        rintro e w5 ⟨rfl, hc4⟩
        have hbw4 : Below w.heap.size w w5 := below_step hbw3 hc4
        have hE4 := hE3.old hc4
        have hF4 := hF3.old hc4
        have hA4 := hA3.old hc4
        have hB4 := hB3.old hc4
        have r1 := hE4.rule
        have r2 := hF4.rule
        clear hc4
        generalize hb4 : decide (yo = vo) = b4
        have HB4 := Lib.hid hb4
        clear hb4
        cases b4
        · have hsd : (⟨yl, ym, yt, yd, yh, yg, yu, yo⟩ : SideP) ≠ (⟨vl, vm, vt, vd, vh, vg, vu, vo⟩ : SideP) := fun e => of_decide_eq_false HB4.out (congrArg SideP.told e)
          have HF := Lib.hid (HANS.out.symm.trans (HDD.out.trans (decide_eq_false (fun h => hsd h.2))))
          clear hsd
          go_wp2_with fail
          go_ret
          exact ⟨by rw [HF.out]; rfl, hbw4⟩
        go_wp2_with fail
        refine (sameThings_any yua vua yun yuc vun vuc yu vu _ (ha.y.units.old hbw4) (hb.y.units.old hbw4)).mono ?_
        rintro e w6 ⟨rfl, hc5⟩
        have hbw5 : Below w.heap.size w w6 := below_step hbw4 hc5
        have hE5 := hE4.old hc5
        have hF5 := hF4.old hc5
        have hA5 := hA4.old hc5
        have hB5 := hB4.old hc5
        have r1 := hE5.rule
        have r2 := hF5.rule
        clear hc5
        generalize hb5 : decide (yu = vu) = b5
        have HB5 := Lib.hid hb5
        clear hb5
        cases b5
        · have hsd : (⟨yl, ym, yt, yd, yh, yg, yu, yo⟩ : SideP) ≠ (⟨vl, vm, vt, vd, vh, vg, vu, vo⟩ : SideP) := fun e => of_decide_eq_false HB5.out (congrArg SideP.units e)
          have HF := Lib.hid (HANS.out.symm.trans (HDD.out.trans (decide_eq_false (fun h => hsd h.2))))
          clear hsd
          go_wp2_with fail
          go_ret
          exact ⟨by rw [HF.out]; rfl, hbw5⟩
        go_wp2_with fail
        have hsd : (⟨yl, ym, yt, yd, yh, yg, yu, yo⟩ : SideP) = (⟨vl, vm, vt, vd, vh, vg, vu, vo⟩ : SideP) := by
          obtain ⟨q1, q2, q3⟩ := HL3.out
          have p1 := of_decide_eq_true HB1.out
          have p2 := of_decide_eq_true HB2.out
          have p3 := of_decide_eq_true HB3.out
          have p4 := of_decide_eq_true HB4.out
          have p5 := of_decide_eq_true HB5.out
          rw [q1, q2, q3, p1, p2, p3, p4, p5]
        have HSD := Lib.hid hsd
        clear hsd
        go_roundg 0
        case measure => omega
        case rel => exact ⟨2, rfl, rfl, fun _ => HX.out (by omega), fun _ => HSD.out, hA5, hB5, hbw5⟩
    · simp only [idx]
      have e1 := HX.out (by omega)
      have e2 := HY.out (by omega)
      have HE := Lib.hid (show decide ((⟨xl, xm, xt, xd, xh, xg, xu, xo⟩ : SideP) = ⟨zl, zm, zt, zd, zh, zg, zu, zo⟩ ∧ (⟨yl, ym, yt, yd, yh, yg, yu, yo⟩ : SideP) = ⟨vl, vm, vt, vd, vh, vg, vu, vo⟩) = true from decide_eq_true ⟨e1, e2⟩)
      clear e1 e2
      go_wp2_with fail
      go_ret
      exact ⟨by rw [HANS.out.symm.trans (HDD.out.trans HE.out)]; rfl, hbr⟩

end Go.Proofs.Ytdokkhjgmhcpkaa
