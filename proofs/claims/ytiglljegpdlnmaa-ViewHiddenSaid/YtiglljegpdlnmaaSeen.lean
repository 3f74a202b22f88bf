/- A state as anybody sees it: the document's answer. -/
import Derived.Test.YtiglljegpdlnmaaSameV
import Derived.Test.YtiglljegpdlnmaaSameS
namespace Go.Proofs.Ytiglljegpdlnmaa
open Go.RowKit
set_option linter.unusedSimpArgs false

theorem row_own (a : Option Addr) (n c : Nat) (l : List Int) (w : World) (hl : IntRow w a n c l) :
    Calls Try.prog 39 #[.slice a n c] w fun e w' => ∃ s : Sl, e = .returned (.slice s.a s.n s.c) ∧ OwnInts w' w.heap.size s l ∧ Below w.heap.size w w' :=
  (row_any a n c l w hl).mono fun _ _ ⟨a', c', he, ho, hb⟩ => ⟨⟨a', n, c'⟩, he, OwnInts.mk' (s := ⟨a', n, c'⟩) (s0 := ⟨a, n, c⟩) ho hl rfl, hb⟩
theorem things_own (a : Option Addr) (n c : Nat) (l : List ThingL) (w : World) (hl : ThingRow w a n c l) :
    Calls Try.prog 40 #[.slice a n c] w fun e w' => ∃ s : Sl, e = .returned (.slice s.a s.n s.c) ∧ OwnThings w' w.heap.size s l ∧ Below w.heap.size w w' :=
  (things_any a n c l w hl).mono fun _ _ ⟨a', c', he, ho, hb⟩ => ⟨⟨a', n, c'⟩, he, OwnThings.mk' (s := ⟨a', n, c'⟩) (s0 := ⟨a, n, c⟩) ho hl rfl, hb⟩
set_option maxRecDepth 100000 in
set_option maxHeartbeats 4000000 in
theorem seen_any (who : Int) (w : World) (p : StateP) (h : StateH) (ha : StateAt w p h) (hw : 0 ≤ who ∧ who < 4) :
    Calls Try.prog 38 #[stateVal p h, .int .i64 who] w (ViewSeen w (seen p who) 0) := by
  obtain ⟨turn, mover, phase, struck, result, attack, next, ⟨xl, xm, xt, xd, xh, xg, xu, xo⟩, ⟨yl, ym, yt, yd, yh, yg, yu, yo⟩⟩ := p
  obtain ⟨⟨aa, an, ac⟩, ⟨⟨xda, xdn, xdc⟩, ⟨xha, xhn, xhc⟩, ⟨xga, xgn, xgc⟩, ⟨xua, xun, xuc⟩, ⟨xoa, xon, xoc⟩⟩, ⟨⟨yda, ydn, ydc⟩, ⟨yha, yhn, yhc⟩, ⟨yga, ygn, ygc⟩, ⟨yua, yun, yuc⟩, ⟨yoa, yon, yoc⟩⟩⟩ := h
  obtain rfl : xd.length = xdn := ha.x.deck.2.1
  obtain rfl : xh.length = xhn := ha.x.hand.2.1
  obtain rfl : yd.length = ydn := ha.y.deck.2.1
  obtain rfl : yh.length = yhn := ha.y.hand.2.1
  obtain ⟨n, rfl⟩ := Int.eq_ofNat_of_zero_le hw.1
  have hn4' : n < 4 := by omega
  have t0 : decide ((n : Int) < 0) = false := by simp
  have t1 : decide (3 < (n : Int)) = false := by simp; omega
  clear hw
  unfold stateVal
  dsimp only
  go_enter Try.func38, Try.ntmps38
  go_wp2_with fail
  refine wp_forget (fun W0 => Blk W0 w.heap.size _ _ ∧ Blk W0 (w.heap.size + 1) _ _ ∧ Below w.heap.size w W0 ∧ w.heap.size + 2 ≤ W0.heap.size)
    ⟨Blk.new2 _ _ _ _, Blk.new2' _ _ _ _, by (try unfold Kept); repeat (first | assumption | exact Below.refl _ _ | exact below_undrew (Below.refl _ _) | exact Below.mono (by assumption) (by first | (simp; done) | (simp; omega) | omega) | refine below_setRow ?_ (by first | (simp; done) | (simp; omega) | omega) _ | refine Below.setCell ?_ (by first | (simp; done) | (simp; omega) | omega) _ | refine Below.alloc ?_ (by first | (simp; done) | (simp; omega) | omega) _ | refine below_drewN ?_ _ | refine Below.drew ?_ | refine below_undrew ?_ | refine below_step ?_ (by assumption)), by simp⟩ ?_
  rintro W0 ⟨hC2, hC4, hbW, hzW⟩
  go_cut [6] (fun v8 wx => ∃ (g : Nat) (vh : ViewH), v8 = .pointer (some ⟨g, 0, none⟩) ∧ Blk wx g (viewCells (headV ⟨turn, mover, phase, struck, result, attack, next, ⟨xl, xm, xt, xd, xh, xg, xu, xo⟩, ⟨yl, ym, yt, yd, yh, yg, yu, yo⟩⟩) vh).toArray 41 ∧ ViewOwn wx w.heap.size (headV ⟨turn, mover, phase, struck, result, attack, next, ⟨xl, xm, xt, xd, xh, xg, xu, xo⟩, ⟨yl, ym, yt, yd, yh, yg, yu, yo⟩⟩) vh ∧ Below W0.heap.size W0 wx ∧ W0.heap.size ≤ g)
  case first =>
    have r2 := fun W (hW : Kept W0.heap.size W0.drew W) => (hC2.drew.below hW hC2.lt).rule
    refine wp_region_tree W0.heap.size (.step 0 (.step 1 (.step 2 (.step 3 (.step 4 (.step 5 (.step 6 (.step 7 (.step 8 (.step 9 (.step 10 (.step 11 (.step 13 (.step 14 (.fork [(12, (.step 15 (.step 16 (.step 17 .done)))), (16, (.step 12 (.step 15 (.step 17 .done))))]))))))))))))))) (by kernel_rfl) (by kernel_rfl) (fun c a d v w h => by cases d <;> exact h) ?_
    repeat (first | (refine tree_skip rfl (by rfl) ?_; simp only [Act.put, List.setIfInBounds_toArray, List.set]) | (refine tree_quiet (v := ?_) rfl rfl (by rfl) ?_ ?_; rotate_left; (intro W hW; go_simp); (try with_reducible rfl); simp only [Act.put, List.setIfInBounds_toArray, List.set]))
    refine tree_fork ?_
    refine tree_arm rfl (by rfl) (fun K hK => ?_) ?_
    · go_wp2_with fail
      refine (row_any aa an ac attack _ ((ha.attack.old hbW).old (Below.refl _ _).drew)).mono ?_
      rintro e w2 ⟨a', c', rfl, hown, hb2⟩
      have hz2 := hb2.size
      simp at hz2
      go_wp2_with fail
      refine hK _ _ hb2 ?_
      clear hK K
      repeat (first | (refine tree_skip rfl (by rfl) ?_; simp only [Act.put, List.setIfInBounds_toArray, List.set]) | (refine tree_quiet (v := ?_) rfl rfl (by rfl) ?_ ?_; rotate_left; (intro W hW; go_simp); (try with_reducible rfl); simp only [Act.put, List.setIfInBounds_toArray, List.set]))
      refine tree_loud rfl rfl (by rfl) (fun K hK => ?_); go_wp2_with fail
      refine hK _ _ (by (try unfold Kept); repeat (first | assumption | exact Below.refl _ _ | exact below_undrew (Below.refl _ _) | exact Below.mono (by assumption) (by first | (simp; done) | (simp; omega) | omega) | refine below_setRow ?_ (by first | (simp; done) | (simp; omega) | omega) _ | refine Below.setCell ?_ (by first | (simp; done) | (simp; omega) | omega) _ | refine Below.alloc ?_ (by first | (simp; done) | (simp; omega) | omega) _ | refine below_drewN ?_ _ | refine Below.drew ?_ | refine below_undrew ?_ | refine below_step ?_ (by assumption))) ?_
      clear hK K
      refine tree_loud rfl rfl (by rfl) (fun K hK => ?_)
      refine wp_store_at 41 viewT (.tmp 6) (.tmp 32) rfl rfl rfl (Blk.new _ _ _) rfl (by decide) rfl ?_
      refine hK _ _ (by (try unfold Kept); repeat (first | assumption | exact Below.refl _ _ | exact below_undrew (Below.refl _ _) | exact Below.mono (by assumption) (by first | (simp; done) | (simp; omega) | omega) | refine below_setRow ?_ (by first | (simp; done) | (simp; omega) | omega) _ | refine Below.setCell ?_ (by first | (simp; done) | (simp; omega) | omega) _ | refine Below.alloc ?_ (by first | (simp; done) | (simp; omega) | omega) _ | refine below_drewN ?_ _ | refine Below.drew ?_ | refine below_undrew ?_ | refine below_step ?_ (by assumption))) ?_
      clear hK K
      refine tree_done ?_
      go_wp2_with fail
      go_meet
      refine ⟨w2.heap.size, ⟨⟨a', an, c'⟩, noSVH, noSVH⟩, rfl, (Blk.new _ _ _).setRow _, ⟨ha.turn, ha.mover, ha.phase, ha.result, ?_, ha.next, zeroSV_own _ _, zeroSV_own _ _⟩, by (try unfold Kept); repeat (first | assumption | exact Below.refl _ _ | exact below_undrew (Below.refl _ _) | exact Below.mono (by assumption) (by first | (simp; done) | (simp; omega) | omega) | refine below_setRow ?_ (by first | (simp; done) | (simp; omega) | omega) _ | refine Below.setCell ?_ (by first | (simp; done) | (simp; omega) | omega) _ | refine Below.alloc ?_ (by first | (simp; done) | (simp; omega) | omega) _ | refine below_drewN ?_ _ | refine Below.drew ?_ | refine below_undrew ?_ | refine below_step ?_ (by assumption)), hz2⟩
      exact ((OwnInts.mk' (s := ⟨a', an, c'⟩) (s0 := ⟨aa, an, ac⟩) hown ha.attack rfl).old (by (try unfold Kept); repeat (first | assumption | exact Below.refl _ _ | exact below_undrew (Below.refl _ _) | exact Below.mono (by assumption) (by first | (simp; done) | (simp; omega) | omega) | refine below_setRow ?_ (by first | (simp; done) | (simp; omega) | omega) _ | refine Below.setCell ?_ (by first | (simp; done) | (simp; omega) | omega) _ | refine Below.alloc ?_ (by first | (simp; done) | (simp; omega) | omega) _ | refine below_drewN ?_ _ | refine Below.drew ?_ | refine below_undrew ?_ | refine below_step ?_ (by assumption)))).lower (by first | (simp; done) | (simp; omega) | omega)
    · refine tree_arm rfl (by rfl) (fun K hK => ?_) ?_
      · go_wp2_with fail
        refine hK _ _ (by (try unfold Kept); repeat (first | assumption | exact Below.refl _ _ | exact below_undrew (Below.refl _ _) | exact Below.mono (by assumption) (by first | (simp; done) | (simp; omega) | omega) | refine below_setRow ?_ (by first | (simp; done) | (simp; omega) | omega) _ | refine Below.setCell ?_ (by first | (simp; done) | (simp; omega) | omega) _ | refine Below.alloc ?_ (by first | (simp; done) | (simp; omega) | omega) _ | refine below_drewN ?_ _ | refine Below.drew ?_ | refine below_undrew ?_ | refine below_step ?_ (by assumption))) ?_
        clear hK K
        refine tree_loud rfl rfl (by rfl) (fun K hK => ?_); go_wp2_with fail
        refine (row_any aa an ac attack _ (((ha.attack.old hbW).old (Below.refl _ _).drew).old (by (try unfold Kept); repeat (first | assumption | exact Below.refl _ _ | exact below_undrew (Below.refl _ _) | exact Below.mono (by assumption) (by first | (simp; done) | (simp; omega) | omega) | refine below_setRow ?_ (by first | (simp; done) | (simp; omega) | omega) _ | refine Below.setCell ?_ (by first | (simp; done) | (simp; omega) | omega) _ | refine Below.alloc ?_ (by first | (simp; done) | (simp; omega) | omega) _ | refine below_drewN ?_ _ | refine Below.drew ?_ | refine below_undrew ?_ | refine below_step ?_ (by assumption))))).mono ?_
        rintro e w2 ⟨a', c', rfl, hown, hb2⟩
        have hz2 := hb2.size
        simp at hz2
        go_wp2_with fail
        refine hK _ _ (by (try unfold Kept); repeat (first | assumption | exact Below.refl _ _ | exact below_undrew (Below.refl _ _) | exact Below.mono (by assumption) (by first | (simp; done) | (simp; omega) | omega) | refine below_setRow ?_ (by first | (simp; done) | (simp; omega) | omega) _ | refine Below.setCell ?_ (by first | (simp; done) | (simp; omega) | omega) _ | refine Below.alloc ?_ (by first | (simp; done) | (simp; omega) | omega) _ | refine below_drewN ?_ _ | refine Below.drew ?_ | refine below_undrew ?_ | refine below_step ?_ (by assumption))) ?_
        clear hK K
        repeat (first | (refine tree_skip rfl (by rfl) ?_; simp only [Act.put, List.setIfInBounds_toArray, List.set]) | (refine tree_quiet (v := ?_) rfl rfl (by rfl) ?_ ?_; rotate_left; (intro W hW; go_simp); (try with_reducible rfl); simp only [Act.put, List.setIfInBounds_toArray, List.set]))
        have hV := (Blk.new W0 #[.int .i64 0, .int .i64 0, .int .i8 0, .bool false, .int .i8 0, .slice none 0 0, .int .i64 0, .int .i64 0, .int .i64 0, .int .i64 0, .int .i64 0, .int .i64 0, .slice none 0 0, .slice none 0 0, .slice none 0 0, .slice none 0 0, .slice none 0 0, .int .i64 0, .int .i64 0, .int .i64 0, .int .i64 0, .int .i64 0, .slice none 0 0, .slice none 0 0, .slice none 0 0, .slice none 0 0, .slice none 0 0] 41).drew.old hb2
        refine tree_loud rfl rfl (by rfl) (fun K hK => ?_)
        refine wp_store_at 41 viewT (.tmp 6) (.tmp 32) rfl rfl rfl hV rfl (by decide) rfl ?_
        refine hK _ _ (by (try unfold Kept); repeat (first | assumption | exact Below.refl _ _ | exact below_undrew (Below.refl _ _) | exact Below.mono (by assumption) (by first | (simp; done) | (simp; omega) | omega) | refine below_setRow ?_ (by first | (simp; done) | (simp; omega) | omega) _ | refine Below.setCell ?_ (by first | (simp; done) | (simp; omega) | omega) _ | refine Below.alloc ?_ (by first | (simp; done) | (simp; omega) | omega) _ | refine below_drewN ?_ _ | refine Below.drew ?_ | refine below_undrew ?_ | refine below_step ?_ (by assumption))) ?_
        clear hK K
        refine tree_done ?_
        go_wp2_with fail
        go_meet
        refine ⟨W0.heap.size, ⟨⟨a', an, c'⟩, noSVH, noSVH⟩, rfl, hV.setRow _, ⟨ha.turn, ha.mover, ha.phase, ha.result, ?_, ha.next, zeroSV_own _ _, zeroSV_own _ _⟩, by (try unfold Kept); repeat (first | assumption | exact Below.refl _ _ | exact below_undrew (Below.refl _ _) | exact Below.mono (by assumption) (by first | (simp; done) | (simp; omega) | omega) | refine below_setRow ?_ (by first | (simp; done) | (simp; omega) | omega) _ | refine Below.setCell ?_ (by first | (simp; done) | (simp; omega) | omega) _ | refine Below.alloc ?_ (by first | (simp; done) | (simp; omega) | omega) _ | refine below_drewN ?_ _ | refine Below.drew ?_ | refine below_undrew ?_ | refine below_step ?_ (by assumption)), Nat.le_refl _⟩
        exact ((OwnInts.mk' (s := ⟨a', an, c'⟩) (s0 := ⟨aa, an, ac⟩) hown ha.attack rfl).setRow _ _ (by first | (simp; done) | (simp; omega) | omega)).lower (by first | (simp; done) | (simp; omega) | omega)
      · exact tree_nil
  case rest =>
    obtain ⟨g, vh, rfl, hC8, hvo, hbc, hgz⟩ := hcut
    have hgz' := hC8.lt
    have hne4 : w.heap.size + 1 ≠ g := by omega
    have hgw : w.heap.size ≤ g := by omega
    have hD2 := hC2.old hbc
    have hD4 := hC4.old hbc
    have hbv : Below w.heap.size w wc := below_step hbW hbc
    clear hC2 hC4 hbc
    go_wp2_with fail
    go_loopg [7] 2 (OfRel w ⟨turn, mover, phase, struck, result, attack, next, ⟨xl, xm, xt, xd, xh, xg, xu, xo⟩, ⟨yl, ym, yt, yd, yh, yg, yu, yo⟩⟩ (n : Int) g [(w.heap.size, _, 50), (w.heap.size + 1, _, 41)])
    case atStart => exact ⟨0, vh, rfl, rfl, hC8, hvo, by simp only [List.forall_mem_cons]; exact ⟨hD2, hD4, fun x hx => by simp at hx⟩, hbv, hgz'⟩
    case round =>
      obtain ⟨k, vh, hk, rfl, hC8, hvo, hbs, hbr, hgz'⟩ := hrel
      simp only [List.forall_mem_cons] at hbs
      obtain ⟨hD2, hD4, -⟩ := hbs
      have hrz := hbr.size
      rcases (show k = 0 ∨ k = 1 ∨ k = 2 by omega) with rfl | rfl | rfl
      · simp only [idx]
        obtain ⟨wo, rfl⟩ : ∃ wo : World, wo = wr := ⟨_, rfl⟩
        go_wp2_with (first | refine wpList_load_part rfl 47 sideT (.tmp 39) rfl rfl hD2 rfl rfl ?_ | refine wpList_store_blk rfl 47 sideT (.tmp 8) _ rfl rfl rfl (Blk.new _ _ _) rfl rfl rfl ?_)
        (try simp only [Act.put])
        refine wp_forget (fun W0 => Blk W0 wo.heap.size #[.int .i64 xl, .int .i64 xm, .int .i64 xt, .slice xda xd.length xdc, .slice xha xh.length xhc, .slice xga xgn xgc, .slice xua xun xuc, .slice xoa xon xoc] 47 ∧ Blk W0 g _ _ ∧ Blk W0 w.heap.size _ _ ∧ Blk W0 (w.heap.size + 1) _ _ ∧ Below w.heap.size w W0 ∧ Below wo.heap.size wo W0) ⟨(Blk.new _ _ _).setRow _, hC8.old (by (try unfold Kept); repeat (first | assumption | exact Below.refl _ _ | exact below_undrew (Below.refl _ _) | exact Below.mono (by assumption) (by first | (simp; done) | (simp; omega) | omega) | refine below_setRow ?_ (by first | (simp; done) | (simp; omega) | omega) _ | refine Below.setCell ?_ (by first | (simp; done) | (simp; omega) | omega) _ | refine Below.alloc ?_ (by first | (simp; done) | (simp; omega) | omega) _ | refine below_drewN ?_ _ | refine Below.drew ?_ | refine below_undrew ?_ | refine below_step ?_ (by assumption))), hD2.old (by (try unfold Kept); repeat (first | assumption | exact Below.refl _ _ | exact below_undrew (Below.refl _ _) | exact Below.mono (by assumption) (by first | (simp; done) | (simp; omega) | omega) | refine below_setRow ?_ (by first | (simp; done) | (simp; omega) | omega) _ | refine Below.setCell ?_ (by first | (simp; done) | (simp; omega) | omega) _ | refine Below.alloc ?_ (by first | (simp; done) | (simp; omega) | omega) _ | refine below_drewN ?_ _ | refine Below.drew ?_ | refine below_undrew ?_ | refine below_step ?_ (by assumption))), hD4.old (by (try unfold Kept); repeat (first | assumption | exact Below.refl _ _ | exact below_undrew (Below.refl _ _) | exact Below.mono (by assumption) (by first | (simp; done) | (simp; omega) | omega) | refine below_setRow ?_ (by first | (simp; done) | (simp; omega) | omega) _ | refine Below.setCell ?_ (by first | (simp; done) | (simp; omega) | omega) _ | refine Below.alloc ?_ (by first | (simp; done) | (simp; omega) | omega) _ | refine below_drewN ?_ _ | refine Below.drew ?_ | refine below_undrew ?_ | refine below_step ?_ (by assumption))), by (try unfold Kept); repeat (first | assumption | exact Below.refl _ _ | exact below_undrew (Below.refl _ _) | exact Below.mono (by assumption) (by first | (simp; done) | (simp; omega) | omega) | refine below_setRow ?_ (by first | (simp; done) | (simp; omega) | omega) _ | refine Below.setCell ?_ (by first | (simp; done) | (simp; omega) | omega) _ | refine Below.alloc ?_ (by first | (simp; done) | (simp; omega) | omega) _ | refine below_drewN ?_ _ | refine Below.drew ?_ | refine below_undrew ?_ | refine below_step ?_ (by assumption)), by (try unfold Kept); repeat (first | assumption | exact Below.refl _ _ | exact below_undrew (Below.refl _ _) | exact Below.mono (by assumption) (by first | (simp; done) | (simp; omega) | omega) | refine below_setRow ?_ (by first | (simp; done) | (simp; omega) | omega) _ | refine Below.setCell ?_ (by first | (simp; done) | (simp; omega) | omega) _ | refine Below.alloc ?_ (by first | (simp; done) | (simp; omega) | omega) _ | refine below_drewN ?_ _ | refine Below.drew ?_ | refine below_undrew ?_ | refine below_step ?_ (by assumption))⟩ ?_
        rintro W2 ⟨hE, hE8, hE2, hE4, hbw2, hbr2⟩
        have hbz2 := hbr2.size
        have hwz2 := hbw2.size
        go_cut [9] (fun v9 wx => ∃ (g9 : Nat) (sh : SideVH), v9 = .pointer (some ⟨g9, 0, none⟩) ∧ Blk wx g9 (sideVCells ⟨xl, xm, xt, xd.length, xh.length, [], [], xg, xu, []⟩ sh).toArray 38 ∧ w.heap.size ≤ g9 ∧ SideVOwn wx w.heap.size ⟨xl, xm, xt, xd.length, xh.length, [], [], xg, xu, []⟩ sh ∧ Below W2.heap.size W2 wx)
        case first =>
          have r8 := fun W (hW : Kept W2.heap.size W2.drew W) => (hE.drew.below hW hE.lt).rule
          refine wp_region_tree W2.heap.size (.step 0 (.step 1 (.step 2 (.step 3 (.step 4 (.step 5 (.step 6 (.step 7 (.step 8 (.step 9 (.step 10 (.step 11 (.step 12 (.step 13 (.step 15 (.step 16 (.fork [(14, (.fork [(17, (.step 18 (.step 19 (.step 20 .done)))), (19, (.step 17 (.step 18 (.step 20 .done))))])), (19, (.step 14 (.step 17 (.step 18 (.step 20 .done)))))]))))))))))))))))) (by kernel_rfl) (by kernel_rfl) (fun c a d v w h => by cases d <;> exact h) ?_
          repeat (first | (refine tree_skip rfl (by rfl) ?_; simp only [Act.put, List.setIfInBounds_toArray, List.set]) | (refine tree_quiet (v := ?_) rfl rfl (by rfl) ?_ ?_; rotate_left; (intro W hW; go_simp); (try with_reducible rfl); simp only [Act.put, List.setIfInBounds_toArray, List.set]))
          refine tree_fork ?_
          refine tree_arm rfl (by rfl) (fun K hK => ?_) ?_
          · go_wp2_with fail
            refine (row_own xga xgn xgc xg _ (ha.x.grave.old hbw2.drew)).mono ?_
            rintro e z1 ⟨s1, rfl, ho1, hb1⟩
            have hWz1 : Below W2.heap.size W2 z1 := by (try unfold Kept); repeat (first | assumption | exact Below.refl _ _ | exact below_undrew (Below.refl _ _) | exact Below.mono (by assumption) (by first | (simp; done) | (simp; omega) | omega) | refine below_setRow ?_ (by first | (simp; done) | (simp; omega) | omega) _ | refine Below.setCell ?_ (by first | (simp; done) | (simp; omega) | omega) _ | refine Below.alloc ?_ (by first | (simp; done) | (simp; omega) | omega) _ | refine below_drewN ?_ _ | refine Below.drew ?_ | refine below_undrew ?_ | refine below_step ?_ (by assumption))
            have hz1 := hb1.size
            (try simp at hz1)
            go_wp2_with fail
            refine hK _ _ (by (try unfold Kept); repeat (first | assumption | exact Below.refl _ _ | exact below_undrew (Below.refl _ _) | exact Below.mono (by assumption) (by first | (simp; done) | (simp; omega) | omega) | refine below_setRow ?_ (by first | (simp; done) | (simp; omega) | omega) _ | refine Below.setCell ?_ (by first | (simp; done) | (simp; omega) | omega) _ | refine Below.alloc ?_ (by first | (simp; done) | (simp; omega) | omega) _ | refine below_drewN ?_ _ | refine Below.drew ?_ | refine below_undrew ?_ | refine below_step ?_ (by assumption))) ?_
            clear hK K
            repeat (first | (refine tree_skip rfl (by rfl) ?_; simp only [Act.put, List.setIfInBounds_toArray, List.set]) | (refine tree_quiet (v := ?_) rfl rfl (by rfl) ?_ ?_; rotate_left; (intro W hW; go_simp); (try with_reducible rfl); simp only [Act.put, List.setIfInBounds_toArray, List.set]))
            have hbz1 : Below w.heap.size w z1 := below_step hbw2.drew hb1
            refine tree_fork ?_
            refine tree_arm rfl (by rfl) (fun K hK => ?_) ?_
            · go_wp2_with fail
              refine (things_own xua xun xuc xu _ (ha.x.units.old hbz1)).mono ?_
              rintro e z2 ⟨s2, rfl, ho2, hb2⟩
              have hWz2 : Below W2.heap.size W2 z2 := below_step hWz1 hb2
              have hz2 := hb2.size
              (try simp at hz2)
              go_wp2_with fail
              refine hK _ _ (by (try unfold Kept); repeat (first | assumption | exact Below.refl _ _ | exact below_undrew (Below.refl _ _) | exact Below.mono (by assumption) (by first | (simp; done) | (simp; omega) | omega) | refine below_setRow ?_ (by first | (simp; done) | (simp; omega) | omega) _ | refine Below.setCell ?_ (by first | (simp; done) | (simp; omega) | omega) _ | refine Below.alloc ?_ (by first | (simp; done) | (simp; omega) | omega) _ | refine below_drewN ?_ _ | refine Below.drew ?_ | refine below_undrew ?_ | refine below_step ?_ (by assumption))) ?_
              clear hK K
              repeat (first | (refine tree_skip rfl (by rfl) ?_; simp only [Act.put, List.setIfInBounds_toArray, List.set]) | (refine tree_quiet (v := ?_) rfl rfl (by rfl) ?_ ?_; rotate_left; (intro W hW; go_simp); (try with_reducible rfl); simp only [Act.put, List.setIfInBounds_toArray, List.set]))
              have hbz12 : Below z1.heap.size z1 z2 := hb2
              refine tree_loud rfl rfl (by rfl) (fun K hK => ?_); go_wp2_with fail
              refine hK _ _ (by (try unfold Kept); repeat (first | assumption | exact Below.refl _ _ | exact below_undrew (Below.refl _ _) | exact Below.mono (by assumption) (by first | (simp; done) | (simp; omega) | omega) | refine below_setRow ?_ (by first | (simp; done) | (simp; omega) | omega) _ | refine Below.setCell ?_ (by first | (simp; done) | (simp; omega) | omega) _ | refine Below.alloc ?_ (by first | (simp; done) | (simp; omega) | omega) _ | refine below_drewN ?_ _ | refine Below.drew ?_ | refine below_undrew ?_ | refine below_step ?_ (by assumption))) ?_
              clear hK K
              repeat (first | (refine tree_skip rfl (by rfl) ?_; simp only [Act.put, List.setIfInBounds_toArray, List.set]) | (refine tree_quiet (v := ?_) rfl rfl (by rfl) ?_ ?_; rotate_left; (intro W hW; go_simp); (try with_reducible rfl); simp only [Act.put, List.setIfInBounds_toArray, List.set]))
              refine tree_loud rfl rfl (by rfl) (fun K hK => ?_)
              refine wp_store_at 38 sideVT (.tmp 9) (.tmp 59) rfl rfl rfl (Blk.new _ _ _) rfl (by decide) rfl ?_
              refine hK _ _ (by (try unfold Kept); repeat (first | assumption | exact Below.refl _ _ | exact below_undrew (Below.refl _ _) | exact Below.mono (by assumption) (by first | (simp; done) | (simp; omega) | omega) | refine below_setRow ?_ (by first | (simp; done) | (simp; omega) | omega) _ | refine Below.setCell ?_ (by first | (simp; done) | (simp; omega) | omega) _ | refine Below.alloc ?_ (by first | (simp; done) | (simp; omega) | omega) _ | refine below_drewN ?_ _ | refine Below.drew ?_ | refine below_undrew ?_ | refine below_step ?_ (by assumption))) ?_
              clear hK K
              refine tree_done ?_
              go_wp2_with fail
              go_meet
              refine ⟨z2.heap.size, ⟨⟨none, 0, 0⟩, ⟨none, 0, 0⟩, s1, s2, ⟨none, 0, 0⟩⟩, rfl, (Blk.new _ _ _).setRow _, by omega, ⟨ha.x.life, ha.x.mana, ha.x.most, wf_len ha.x.deck, wf_len ha.x.hand, OwnInts.nil _ _, OwnInts.nil _ _, ?_, ?_, OwnInts.nil _ _⟩, by (try unfold Kept); repeat (first | assumption | exact Below.refl _ _ | exact below_undrew (Below.refl _ _) | exact Below.mono (by assumption) (by first | (simp; done) | (simp; omega) | omega) | refine below_setRow ?_ (by first | (simp; done) | (simp; omega) | omega) _ | refine Below.setCell ?_ (by first | (simp; done) | (simp; omega) | omega) _ | refine Below.alloc ?_ (by first | (simp; done) | (simp; omega) | omega) _ | refine below_drewN ?_ _ | refine Below.drew ?_ | refine below_undrew ?_ | refine below_step ?_ (by assumption))⟩
              · exact (ho1.old (by (try unfold Kept); repeat (first | assumption | exact Below.refl _ _ | exact below_undrew (Below.refl _ _) | exact Below.mono (by assumption) (by first | (simp; done) | (simp; omega) | omega) | refine below_setRow ?_ (by first | (simp; done) | (simp; omega) | omega) _ | refine Below.setCell ?_ (by first | (simp; done) | (simp; omega) | omega) _ | refine Below.alloc ?_ (by first | (simp; done) | (simp; omega) | omega) _ | refine below_drewN ?_ _ | refine Below.drew ?_ | refine below_undrew ?_ | refine below_step ?_ (by assumption)))).lower (by first | (simp; done) | (simp; omega) | omega)
              · exact (ho2.old (by (try unfold Kept); repeat (first | assumption | exact Below.refl _ _ | exact below_undrew (Below.refl _ _) | exact Below.mono (by assumption) (by first | (simp; done) | (simp; omega) | omega) | refine below_setRow ?_ (by first | (simp; done) | (simp; omega) | omega) _ | refine Below.setCell ?_ (by first | (simp; done) | (simp; omega) | omega) _ | refine Below.alloc ?_ (by first | (simp; done) | (simp; omega) | omega) _ | refine below_drewN ?_ _ | refine Below.drew ?_ | refine below_undrew ?_ | refine below_step ?_ (by assumption)))).lower (by first | (simp; done) | (simp; omega) | omega)
            · refine tree_arm rfl (by rfl) (fun K hK => ?_) ?_
              · go_wp2_with fail
                refine hK _ _ (by (try unfold Kept); repeat (first | assumption | exact Below.refl _ _ | exact below_undrew (Below.refl _ _) | exact Below.mono (by assumption) (by first | (simp; done) | (simp; omega) | omega) | refine below_setRow ?_ (by first | (simp; done) | (simp; omega) | omega) _ | refine Below.setCell ?_ (by first | (simp; done) | (simp; omega) | omega) _ | refine Below.alloc ?_ (by first | (simp; done) | (simp; omega) | omega) _ | refine below_drewN ?_ _ | refine Below.drew ?_ | refine below_undrew ?_ | refine below_step ?_ (by assumption))) ?_
                clear hK K
                refine tree_loud rfl rfl (by rfl) (fun K hK => ?_); go_wp2_with fail
                refine (things_own xua xun xuc xu _ (ha.x.units.old (below_step hbz1 ((Below.refl _ _).alloc (Nat.le_refl _) _)))).mono ?_
                rintro e z2 ⟨s2, rfl, ho2, hb2⟩
                have hWz2 : Below W2.heap.size W2 z2 := below_step hWz1 (below_step ((Below.refl _ _).alloc (Nat.le_refl _) _) hb2)
                have hz2 := hb2.size
                (try simp at hz2)
                go_wp2_with fail
                refine hK _ _ (by (try unfold Kept); repeat (first | assumption | exact Below.refl _ _ | exact below_undrew (Below.refl _ _) | exact Below.mono (by assumption) (by first | (simp; done) | (simp; omega) | omega) | refine below_setRow ?_ (by first | (simp; done) | (simp; omega) | omega) _ | refine Below.setCell ?_ (by first | (simp; done) | (simp; omega) | omega) _ | refine Below.alloc ?_ (by first | (simp; done) | (simp; omega) | omega) _ | refine below_drewN ?_ _ | refine Below.drew ?_ | refine below_undrew ?_ | refine below_step ?_ (by assumption))) ?_
                clear hK K
                repeat (first | (refine tree_skip rfl (by rfl) ?_; simp only [Act.put, List.setIfInBounds_toArray, List.set]) | (refine tree_quiet (v := ?_) rfl rfl (by rfl) ?_ ?_; rotate_left; (intro W hW; go_simp); (try with_reducible rfl); simp only [Act.put, List.setIfInBounds_toArray, List.set]))
                have hbz12 : Below z1.heap.size z1 z2 := below_step ((Below.refl _ _).alloc (Nat.le_refl _) _) hb2
                have hV := (Blk.new z1 #[.int .i64 0, .int .i64 0, .int .i64 0, .int .i64 0, .int .i64 0, .slice none 0 0, .slice none 0 0, .slice none 0 0, .slice none 0 0, .slice none 0 0] 38).old hb2
                refine tree_loud rfl rfl (by rfl) (fun K hK => ?_)
                refine wp_store_at 38 sideVT (.tmp 9) (.tmp 59) rfl rfl rfl hV rfl (by decide) rfl ?_
                refine hK _ _ (by (try unfold Kept); repeat (first | assumption | exact Below.refl _ _ | exact below_undrew (Below.refl _ _) | exact Below.mono (by assumption) (by first | (simp; done) | (simp; omega) | omega) | refine below_setRow ?_ (by first | (simp; done) | (simp; omega) | omega) _ | refine Below.setCell ?_ (by first | (simp; done) | (simp; omega) | omega) _ | refine Below.alloc ?_ (by first | (simp; done) | (simp; omega) | omega) _ | refine below_drewN ?_ _ | refine Below.drew ?_ | refine below_undrew ?_ | refine below_step ?_ (by assumption))) ?_
                clear hK K
                refine tree_done ?_
                go_wp2_with fail
                go_meet
                refine ⟨z1.heap.size, ⟨⟨none, 0, 0⟩, ⟨none, 0, 0⟩, s1, s2, ⟨none, 0, 0⟩⟩, rfl, hV.setRow _, by omega, ⟨ha.x.life, ha.x.mana, ha.x.most, wf_len ha.x.deck, wf_len ha.x.hand, OwnInts.nil _ _, OwnInts.nil _ _, ?_, ?_, OwnInts.nil _ _⟩, by (try unfold Kept); repeat (first | assumption | exact Below.refl _ _ | exact below_undrew (Below.refl _ _) | exact Below.mono (by assumption) (by first | (simp; done) | (simp; omega) | omega) | refine below_setRow ?_ (by first | (simp; done) | (simp; omega) | omega) _ | refine Below.setCell ?_ (by first | (simp; done) | (simp; omega) | omega) _ | refine Below.alloc ?_ (by first | (simp; done) | (simp; omega) | omega) _ | refine below_drewN ?_ _ | refine Below.drew ?_ | refine below_undrew ?_ | refine below_step ?_ (by assumption))⟩
                · exact ((ho1.old hbz12).put hV (by decide) (by decide) _).lower (by first | (simp; done) | (simp; omega) | omega)
                · exact (ho2.put hV (by decide) (by decide) _).lower (by first | (simp; done) | (simp; omega) | omega)
              · exact tree_nil
          · refine tree_arm rfl (by rfl) (fun K hK => ?_) ?_
            · go_wp2_with fail
              refine hK _ _ (by (try unfold Kept); repeat (first | assumption | exact Below.refl _ _ | exact below_undrew (Below.refl _ _) | exact Below.mono (by assumption) (by first | (simp; done) | (simp; omega) | omega) | refine below_setRow ?_ (by first | (simp; done) | (simp; omega) | omega) _ | refine Below.setCell ?_ (by first | (simp; done) | (simp; omega) | omega) _ | refine Below.alloc ?_ (by first | (simp; done) | (simp; omega) | omega) _ | refine below_drewN ?_ _ | refine Below.drew ?_ | refine below_undrew ?_ | refine below_step ?_ (by assumption))) ?_
              clear hK K
              refine tree_loud rfl rfl (by rfl) (fun K hK => ?_); go_wp2_with fail
              refine (row_own xga xgn xgc xg _ (ha.x.grave.old (below_step hbw2 (((Below.refl _ _).alloc (Nat.le_refl _) _).drew)))).mono ?_
              rintro e z1 ⟨s1, rfl, ho1, hb1⟩
              have hWz1 : Below W2.heap.size W2 z1 := by (try unfold Kept); repeat (first | assumption | exact Below.refl _ _ | exact below_undrew (Below.refl _ _) | exact Below.mono (by assumption) (by first | (simp; done) | (simp; omega) | omega) | refine below_setRow ?_ (by first | (simp; done) | (simp; omega) | omega) _ | refine Below.setCell ?_ (by first | (simp; done) | (simp; omega) | omega) _ | refine Below.alloc ?_ (by first | (simp; done) | (simp; omega) | omega) _ | refine below_drewN ?_ _ | refine Below.drew ?_ | refine below_undrew ?_ | refine below_step ?_ (by assumption))
              have hz1 := hb1.size
              (try simp at hz1)
              go_wp2_with fail
              refine hK _ _ (by (try unfold Kept); repeat (first | assumption | exact Below.refl _ _ | exact below_undrew (Below.refl _ _) | exact Below.mono (by assumption) (by first | (simp; done) | (simp; omega) | omega) | refine below_setRow ?_ (by first | (simp; done) | (simp; omega) | omega) _ | refine Below.setCell ?_ (by first | (simp; done) | (simp; omega) | omega) _ | refine Below.alloc ?_ (by first | (simp; done) | (simp; omega) | omega) _ | refine below_drewN ?_ _ | refine Below.drew ?_ | refine below_undrew ?_ | refine below_step ?_ (by assumption))) ?_
              clear hK K
              repeat (first | (refine tree_skip rfl (by rfl) ?_; simp only [Act.put, List.setIfInBounds_toArray, List.set]) | (refine tree_quiet (v := ?_) rfl rfl (by rfl) ?_ ?_; rotate_left; (intro W hW; go_simp); (try with_reducible rfl); simp only [Act.put, List.setIfInBounds_toArray, List.set]))
              have hbz1 : Below w.heap.size w z1 := below_step (below_step hbw2 (((Below.refl _ _).alloc (Nat.le_refl _) _).drew)) hb1
              have hV1 := (Blk.new W2 #[.int .i64 0, .int .i64 0, .int .i64 0, .int .i64 0, .int .i64 0, .slice none 0 0, .slice none 0 0, .slice none 0 0, .slice none 0 0, .slice none 0 0] 38).drew.old hb1
              refine tree_loud rfl rfl (by rfl) (fun K hK => ?_); go_wp2_with fail
              refine (things_own xua xun xuc xu _ (ha.x.units.old hbz1)).mono ?_
              rintro e z2 ⟨s2, rfl, ho2, hb2⟩
              have hWz2 : Below W2.heap.size W2 z2 := below_step hWz1 hb2
              have hz2 := hb2.size
              (try simp at hz2)
              go_wp2_with fail
              refine hK _ _ (by (try unfold Kept); repeat (first | assumption | exact Below.refl _ _ | exact below_undrew (Below.refl _ _) | exact Below.mono (by assumption) (by first | (simp; done) | (simp; omega) | omega) | refine below_setRow ?_ (by first | (simp; done) | (simp; omega) | omega) _ | refine Below.setCell ?_ (by first | (simp; done) | (simp; omega) | omega) _ | refine Below.alloc ?_ (by first | (simp; done) | (simp; omega) | omega) _ | refine below_drewN ?_ _ | refine Below.drew ?_ | refine below_undrew ?_ | refine below_step ?_ (by assumption))) ?_
              clear hK K
              repeat (first | (refine tree_skip rfl (by rfl) ?_; simp only [Act.put, List.setIfInBounds_toArray, List.set]) | (refine tree_quiet (v := ?_) rfl rfl (by rfl) ?_ ?_; rotate_left; (intro W hW; go_simp); (try with_reducible rfl); simp only [Act.put, List.setIfInBounds_toArray, List.set]))
              have hbz12 : Below z1.heap.size z1 z2 := hb2
              have hV := hV1.old hb2
              refine tree_loud rfl rfl (by rfl) (fun K hK => ?_)
              refine wp_store_at 38 sideVT (.tmp 9) (.tmp 59) rfl rfl rfl hV rfl (by decide) rfl ?_
              refine hK _ _ (by (try unfold Kept); repeat (first | assumption | exact Below.refl _ _ | exact below_undrew (Below.refl _ _) | exact Below.mono (by assumption) (by first | (simp; done) | (simp; omega) | omega) | refine below_setRow ?_ (by first | (simp; done) | (simp; omega) | omega) _ | refine Below.setCell ?_ (by first | (simp; done) | (simp; omega) | omega) _ | refine Below.alloc ?_ (by first | (simp; done) | (simp; omega) | omega) _ | refine below_drewN ?_ _ | refine Below.drew ?_ | refine below_undrew ?_ | refine below_step ?_ (by assumption))) ?_
              clear hK K
              refine tree_done ?_
              go_wp2_with fail
              go_meet
              refine ⟨W2.heap.size, ⟨⟨none, 0, 0⟩, ⟨none, 0, 0⟩, s1, s2, ⟨none, 0, 0⟩⟩, rfl, hV.setRow _, by omega, ⟨ha.x.life, ha.x.mana, ha.x.most, wf_len ha.x.deck, wf_len ha.x.hand, OwnInts.nil _ _, OwnInts.nil _ _, ?_, ?_, OwnInts.nil _ _⟩, by (try unfold Kept); repeat (first | assumption | exact Below.refl _ _ | exact below_undrew (Below.refl _ _) | exact Below.mono (by assumption) (by first | (simp; done) | (simp; omega) | omega) | refine below_setRow ?_ (by first | (simp; done) | (simp; omega) | omega) _ | refine Below.setCell ?_ (by first | (simp; done) | (simp; omega) | omega) _ | refine Below.alloc ?_ (by first | (simp; done) | (simp; omega) | omega) _ | refine below_drewN ?_ _ | refine Below.drew ?_ | refine below_undrew ?_ | refine below_step ?_ (by assumption))⟩
              · exact ((ho1.old hbz12).put hV (by decide) (by decide) _).lower (by first | (simp; done) | (simp; omega) | omega)
              · exact (ho2.put hV (by decide) (by decide) _).lower (by first | (simp; done) | (simp; omega) | omega)
            · exact tree_nil
        case rest =>
          obtain ⟨g9, sh, rfl, hS, hlow9, hso, hbc⟩ := hcut
          have hE := hE.old hbc
          have hE8 := hE8.old hbc
          have hE2 := hE2.old hbc
          have hE4 := hE4.old hbc
          have hvo := (hvo.old hbr2).old hbc
          have hbw := below_step hbw2 hbc
          have hn9 : g9 ≠ wo.heap.size := hS.ne hE (by decide)
          have hn98 : g9 ≠ g := hS.ne hE8 (by decide)
          have hn92 : g9 ≠ w.heap.size := hS.ne hE2 (by decide)
          have hn94 : g9 ≠ w.heap.size + 1 := hS.ne hE4 (by decide)
          clear hC8 hD2 hD4 hbr hbw2 hbr2 hbc
          rcases (show n = 3 ∨ n = 0 ∨ n ≠ 3 ∧ n ≠ 0 by omega) with hn | hn | ⟨hn, hn'⟩
          · have u1 : ((n : Int) == 0) = false := by simp; omega
            have u2 : ((n : Int) == 3) = true := by simp; omega
            have HN := Lib.hid hn
            clear hn
            have r8 := hE.rule
            go_wp2_with fail
            refine (row_own xha _ xhc xh _ (ha.x.hand.old hbw)).mono ?_
            rintro e y0 ⟨t0, rfl, ho0, hb0⟩
            have hS := hS.old hb0
            have hE := hE.old hb0
            have hE8 := hE8.old hb0
            have hE2 := hE2.old hb0
            have hE4 := hE4.old hb0
            have hvo := hvo.old hb0
            have hso := hso.old hb0
            have ho0 := ho0.lower hbw.size
            have hbw := below_step hbw hb0
            have f9 := hS.free
            have r9 := hS.rule 6
            have r8 := hE.rule
            clear hb0
            go_upto_region 11 with fail
            refine wp_forget (fun W0 => Blk W0 g9 (sideVCells ⟨xl, xm, xt, xd.length, xh.length, [], xh, xg, xu, []⟩ { sh with hand := t0 }).toArray 38 ∧ SideVOwn W0 w.heap.size ⟨xl, xm, xt, xd.length, xh.length, [], xh, xg, xu, []⟩ { sh with hand := t0 } ∧ Blk W0 wo.heap.size _ _ ∧ Blk W0 g _ _ ∧ Blk W0 w.heap.size _ _ ∧ Blk W0 (w.heap.size + 1) _ _ ∧ ViewOwn W0 w.heap.size (vpart ⟨turn, mover, phase, struck, result, attack, next, ⟨xl, xm, xt, xd, xh, xg, xu, xo⟩, ⟨yl, ym, yt, yd, yh, yg, yu, yo⟩⟩ n 0) vh ∧ Below w.heap.size w W0)
              ⟨hS.set 6 _, by rw [setCell_eq_setRow _ _ _ _ _ (0, 0) _ hS]; exact (show SideVOwn y0 w.heap.size ⟨xl, xm, xt, xd.length, xh.length, [], xh, xg, xu, []⟩ { sh with hand := t0 } from { hso with hand := ho0 }).put hS (by decide) (by decide) _, hE.other _ _ hn9.symm, hE8.other _ _ hn98.symm, hE2.other _ _ hn92.symm, hE4.other _ _ hn94.symm, by rw [setCell_eq_setRow _ _ _ _ _ (0, 0) _ hS]; exact hvo.put hS (by decide) (by decide) _, hbw.setCell hlow9 _⟩ ?_
            rintro V0 ⟨hS, hso, hE, hE8, hE2, hE4, hvo, hbw⟩
            have r8 := hE.rule
            clear f9 r9
            go_wp2_with fail
            refine (row_own xoa _ xoc xo _ (ha.x.told.old hbw)).mono ?_
            rintro e y1 ⟨t1, rfl, ho1, hb1⟩
            have hS := hS.old hb1
            have hE := hE.old hb1
            have hE8 := hE8.old hb1
            have hE2 := hE2.old hb1
            have hE4 := hE4.old hb1
            have hvo := hvo.old hb1
            have hso := hso.old hb1
            have ho1 := ho1.lower hbw.size
            have hbw := below_step hbw hb1
            have f9 := hS.free
            have r9 := hS.rule 9
            have r8 := hE.rule
            clear hb1
            go_upto_region 12 with fail
            refine wp_forget (fun W0 => Blk W0 g9 (sideVCells ⟨xl, xm, xt, xd.length, xh.length, [], xh, xg, xu, xo⟩ { { sh with hand := t0 } with told := t1 }).toArray 38 ∧ SideVOwn W0 w.heap.size ⟨xl, xm, xt, xd.length, xh.length, [], xh, xg, xu, xo⟩ { { sh with hand := t0 } with told := t1 } ∧ Blk W0 wo.heap.size _ _ ∧ Blk W0 g _ _ ∧ Blk W0 w.heap.size _ _ ∧ Blk W0 (w.heap.size + 1) _ _ ∧ ViewOwn W0 w.heap.size (vpart ⟨turn, mover, phase, struck, result, attack, next, ⟨xl, xm, xt, xd, xh, xg, xu, xo⟩, ⟨yl, ym, yt, yd, yh, yg, yu, yo⟩⟩ n 0) vh ∧ Below w.heap.size w W0)
              ⟨hS.set 9 _, by rw [setCell_eq_setRow _ _ _ _ _ (0, 0) _ hS]; exact (show SideVOwn y1 w.heap.size ⟨xl, xm, xt, xd.length, xh.length, [], xh, xg, xu, xo⟩ { { sh with hand := t0 } with told := t1 } from { hso with told := ho1 }).put hS (by decide) (by decide) _, hE.other _ _ hn9.symm, hE8.other _ _ hn98.symm, hE2.other _ _ hn92.symm, hE4.other _ _ hn94.symm, by rw [setCell_eq_setRow _ _ _ _ _ (0, 0) _ hS]; exact hvo.put hS (by decide) (by decide) _, hbw.setCell hlow9 _⟩ ?_
            rintro V1 ⟨hS, hso, hE, hE8, hE2, hE4, hvo, hbw⟩
            have r8 := hE.rule
            clear f9 r9
            go_wp2_with fail
            refine (row_own xda _ xdc xd _ (ha.x.deck.old hbw)).mono ?_
            rintro e y2 ⟨t2, rfl, ho2, hb2⟩
            have hS := hS.old hb2
            have hE := hE.old hb2
            have hE8 := hE8.old hb2
            have hE2 := hE2.old hb2
            have hE4 := hE4.old hb2
            have hvo := hvo.old hb2
            have hso := hso.old hb2
            have ho2 := ho2.lower hbw.size
            have hbw := below_step hbw hb2
            have f9 := hS.free
            have r9 := hS.rule 5
            have r8 := hE.rule
            clear hb2
            go_upto_region 14 with fail
            refine wp_forget (fun W0 => Blk W0 g9 (sideVCells ⟨xl, xm, xt, xd.length, xh.length, xd, xh, xg, xu, xo⟩ { { { sh with hand := t0 } with told := t1 } with deck := t2 }).toArray 38 ∧ SideVOwn W0 w.heap.size ⟨xl, xm, xt, xd.length, xh.length, xd, xh, xg, xu, xo⟩ { { { sh with hand := t0 } with told := t1 } with deck := t2 } ∧ Blk W0 wo.heap.size _ _ ∧ Blk W0 g _ _ ∧ Blk W0 w.heap.size _ _ ∧ Blk W0 (w.heap.size + 1) _ _ ∧ ViewOwn W0 w.heap.size (vpart ⟨turn, mover, phase, struck, result, attack, next, ⟨xl, xm, xt, xd, xh, xg, xu, xo⟩, ⟨yl, ym, yt, yd, yh, yg, yu, yo⟩⟩ n 0) vh ∧ Below w.heap.size w W0)
              ⟨hS.set 5 _, by rw [setCell_eq_setRow _ _ _ _ _ (0, 0) _ hS]; exact (show SideVOwn y2 w.heap.size ⟨xl, xm, xt, xd.length, xh.length, xd, xh, xg, xu, xo⟩ { { { sh with hand := t0 } with told := t1 } with deck := t2 } from { hso with deck := ho2 }).put hS (by decide) (by decide) _, hE.other _ _ hn9.symm, hE8.other _ _ hn98.symm, hE2.other _ _ hn92.symm, hE4.other _ _ hn94.symm, by rw [setCell_eq_setRow _ _ _ _ _ (0, 0) _ hS]; exact hvo.put hS (by decide) (by decide) _, hbw.setCell hlow9 _⟩ ?_
            rintro V2 ⟨hS, hso, hE, hE8, hE2, hE4, hvo, hbw⟩
            have r8 := hE.rule
            clear f9 r9
            go_wp2_with (first | refine wpList_load_blk rfl 38 sideVT (.tmp 9) rfl rfl hS rfl ?_ | refine wpList_store_at rfl 38 sideVT (.tmp 84) _ rfl rfl rfl hE8 rfl (by show 7 + 10 ≤ 27; omega) rfl ?_)
            go_roundg 1
            case measure => omega
            case rel =>
              have hn := HN.out
              have hP : (⟨xl, xm, xt, xd.length, xh.length, xd, xh, xg, xu, xo⟩ : SideVP) = seenSide ⟨xl, xm, xt, xd, xh, xg, xu, xo⟩ (decide ((n : Int) = 0 ∨ (n : Int) = 3)) (decide ((n : Int) = 3)) := by
                have e1 : decide ((n : Int) = 0 ∨ (n : Int) = 3) = true := by simp; omega
                have e2 : decide ((n : Int) = 3) = true := by simp; omega
                rw [e1, e2]; rfl
              rw [hP] at hso ⊢
              refine ⟨1, (⟨vh.attack, ⟨t2, t0, sh.grave, sh.units, t1⟩, vh.y⟩ : ViewH), rfl, rfl, ?_, ?_, ?_, ?_, ?_⟩
              · exact hE8.setRow _
              · exact (show ViewOwn _ w.heap.size (vpart ⟨turn, mover, phase, struck, result, attack, next, ⟨xl, xm, xt, xd, xh, xg, xu, xo⟩, ⟨yl, ym, yt, yd, yh, yg, yu, yo⟩⟩ n 1) (⟨vh.attack, ⟨t2, t0, sh.grave, sh.units, t1⟩, vh.y⟩ : ViewH) from { hvo with x := hso }).put hE8 (by decide) (by decide) _
              · simp only [List.forall_mem_cons]
                exact ⟨hE2.setRow_other _ _ (hE2.ne hE8 (by decide)), (hE4.setRow_other _ _ hne4), fun x hx => by simp at hx⟩
              · exact below_setRow hbw hgw _
              · simp
                have := hE8.lt
                omega
          · have u1 : ((n : Int) == 0) = true := by simp; omega
            have u2 : ((n : Int) == 3) = false := by simp; omega
            have HN := Lib.hid hn
            clear hn
            have r8 := hE.rule
            go_wp2_with fail
            refine (row_own xha _ xhc xh _ (ha.x.hand.old hbw)).mono ?_
            rintro e y0 ⟨t0, rfl, ho0, hb0⟩
            have hS := hS.old hb0
            have hE := hE.old hb0
            have hE8 := hE8.old hb0
            have hE2 := hE2.old hb0
            have hE4 := hE4.old hb0
            have hvo := hvo.old hb0
            have hso := hso.old hb0
            have ho0 := ho0.lower hbw.size
            have hbw := below_step hbw hb0
            have f9 := hS.free
            have r9 := hS.rule 6
            have r8 := hE.rule
            clear hb0
            go_upto_region 11 with fail
            refine wp_forget (fun W0 => Blk W0 g9 (sideVCells ⟨xl, xm, xt, xd.length, xh.length, [], xh, xg, xu, []⟩ { sh with hand := t0 }).toArray 38 ∧ SideVOwn W0 w.heap.size ⟨xl, xm, xt, xd.length, xh.length, [], xh, xg, xu, []⟩ { sh with hand := t0 } ∧ Blk W0 wo.heap.size _ _ ∧ Blk W0 g _ _ ∧ Blk W0 w.heap.size _ _ ∧ Blk W0 (w.heap.size + 1) _ _ ∧ ViewOwn W0 w.heap.size (vpart ⟨turn, mover, phase, struck, result, attack, next, ⟨xl, xm, xt, xd, xh, xg, xu, xo⟩, ⟨yl, ym, yt, yd, yh, yg, yu, yo⟩⟩ n 0) vh ∧ Below w.heap.size w W0)
              ⟨hS.set 6 _, by rw [setCell_eq_setRow _ _ _ _ _ (0, 0) _ hS]; exact (show SideVOwn y0 w.heap.size ⟨xl, xm, xt, xd.length, xh.length, [], xh, xg, xu, []⟩ { sh with hand := t0 } from { hso with hand := ho0 }).put hS (by decide) (by decide) _, hE.other _ _ hn9.symm, hE8.other _ _ hn98.symm, hE2.other _ _ hn92.symm, hE4.other _ _ hn94.symm, by rw [setCell_eq_setRow _ _ _ _ _ (0, 0) _ hS]; exact hvo.put hS (by decide) (by decide) _, hbw.setCell hlow9 _⟩ ?_
            rintro V0 ⟨hS, hso, hE, hE8, hE2, hE4, hvo, hbw⟩
            have r8 := hE.rule
            clear f9 r9
            go_wp2_with fail
            refine (row_own xoa _ xoc xo _ (ha.x.told.old hbw)).mono ?_
            rintro e y1 ⟨t1, rfl, ho1, hb1⟩
            have hS := hS.old hb1
            have hE := hE.old hb1
            have hE8 := hE8.old hb1
            have hE2 := hE2.old hb1
            have hE4 := hE4.old hb1
            have hvo := hvo.old hb1
            have hso := hso.old hb1
            have ho1 := ho1.lower hbw.size
            have hbw := below_step hbw hb1
            have f9 := hS.free
            have r9 := hS.rule 9
            have r8 := hE.rule
            clear hb1
            go_upto_region 12 with fail
            refine wp_forget (fun W0 => Blk W0 g9 (sideVCells ⟨xl, xm, xt, xd.length, xh.length, [], xh, xg, xu, xo⟩ { { sh with hand := t0 } with told := t1 }).toArray 38 ∧ SideVOwn W0 w.heap.size ⟨xl, xm, xt, xd.length, xh.length, [], xh, xg, xu, xo⟩ { { sh with hand := t0 } with told := t1 } ∧ Blk W0 wo.heap.size _ _ ∧ Blk W0 g _ _ ∧ Blk W0 w.heap.size _ _ ∧ Blk W0 (w.heap.size + 1) _ _ ∧ ViewOwn W0 w.heap.size (vpart ⟨turn, mover, phase, struck, result, attack, next, ⟨xl, xm, xt, xd, xh, xg, xu, xo⟩, ⟨yl, ym, yt, yd, yh, yg, yu, yo⟩⟩ n 0) vh ∧ Below w.heap.size w W0)
              ⟨hS.set 9 _, by rw [setCell_eq_setRow _ _ _ _ _ (0, 0) _ hS]; exact (show SideVOwn y1 w.heap.size ⟨xl, xm, xt, xd.length, xh.length, [], xh, xg, xu, xo⟩ { { sh with hand := t0 } with told := t1 } from { hso with told := ho1 }).put hS (by decide) (by decide) _, hE.other _ _ hn9.symm, hE8.other _ _ hn98.symm, hE2.other _ _ hn92.symm, hE4.other _ _ hn94.symm, by rw [setCell_eq_setRow _ _ _ _ _ (0, 0) _ hS]; exact hvo.put hS (by decide) (by decide) _, hbw.setCell hlow9 _⟩ ?_
            rintro V1 ⟨hS, hso, hE, hE8, hE2, hE4, hvo, hbw⟩
            have r8 := hE.rule
            clear f9 r9
            go_wp2_with (first | refine wpList_load_blk rfl 38 sideVT (.tmp 9) rfl rfl hS rfl ?_ | refine wpList_store_at rfl 38 sideVT (.tmp 84) _ rfl rfl rfl hE8 rfl (by show 7 + 10 ≤ 27; omega) rfl ?_)
            go_roundg 1
            case measure => omega
            case rel =>
              have hn := HN.out
              have hP : (⟨xl, xm, xt, xd.length, xh.length, [], xh, xg, xu, xo⟩ : SideVP) = seenSide ⟨xl, xm, xt, xd, xh, xg, xu, xo⟩ (decide ((n : Int) = 0 ∨ (n : Int) = 3)) (decide ((n : Int) = 3)) := by
                have e1 : decide ((n : Int) = 0 ∨ (n : Int) = 3) = true := by simp; omega
                have e2 : decide ((n : Int) = 3) = false := by simp; omega
                rw [e1, e2]; rfl
              rw [hP] at hso ⊢
              refine ⟨1, (⟨vh.attack, ⟨sh.deck, t0, sh.grave, sh.units, t1⟩, vh.y⟩ : ViewH), rfl, rfl, ?_, ?_, ?_, ?_, ?_⟩
              · exact hE8.setRow _
              · exact (show ViewOwn _ w.heap.size (vpart ⟨turn, mover, phase, struck, result, attack, next, ⟨xl, xm, xt, xd, xh, xg, xu, xo⟩, ⟨yl, ym, yt, yd, yh, yg, yu, yo⟩⟩ n 1) (⟨vh.attack, ⟨sh.deck, t0, sh.grave, sh.units, t1⟩, vh.y⟩ : ViewH) from { hvo with x := hso }).put hE8 (by decide) (by decide) _
              · simp only [List.forall_mem_cons]
                exact ⟨hE2.setRow_other _ _ (hE2.ne hE8 (by decide)), (hE4.setRow_other _ _ hne4), fun x hx => by simp at hx⟩
              · exact below_setRow hbw hgw _
              · simp
                have := hE8.lt
                omega
          · have u1 : ((n : Int) == 0) = false := by simp; omega
            have u2 : ((n : Int) == 3) = false := by simp; omega
            have HN := Lib.hid hn
            clear hn
            have r8 := hE.rule
            go_wp2_with (first | refine wpList_load_blk rfl 38 sideVT (.tmp 9) rfl rfl hS rfl ?_ | refine wpList_store_at rfl 38 sideVT (.tmp 84) _ rfl rfl rfl hE8 rfl (by show 7 + 10 ≤ 27; omega) rfl ?_)
            go_roundg 1
            case measure => omega
            case rel =>
              have hn := HN.out
              have hP : (⟨xl, xm, xt, xd.length, xh.length, [], [], xg, xu, []⟩ : SideVP) = seenSide ⟨xl, xm, xt, xd, xh, xg, xu, xo⟩ (decide ((n : Int) = 0 ∨ (n : Int) = 3)) (decide ((n : Int) = 3)) := by
                have e1 : decide ((n : Int) = 0 ∨ (n : Int) = 3) = false := by simp; omega
                have e2 : decide ((n : Int) = 3) = false := by simp; omega
                rw [e1, e2]; rfl
              rw [hP] at hso ⊢
              refine ⟨1, { vh with x := sh }, rfl, rfl, ?_, ?_, ?_, ?_, ?_⟩
              · exact hE8.setRow _
              · exact (show ViewOwn _ w.heap.size (vpart ⟨turn, mover, phase, struck, result, attack, next, ⟨xl, xm, xt, xd, xh, xg, xu, xo⟩, ⟨yl, ym, yt, yd, yh, yg, yu, yo⟩⟩ n 1) { vh with x := sh } from { hvo with x := hso }).put hE8 (by decide) (by decide) _
              · simp only [List.forall_mem_cons]
                exact ⟨hE2.setRow_other _ _ (hE2.ne hE8 (by decide)), (hE4.setRow_other _ _ hne4), fun x hx => by simp at hx⟩
              · exact below_setRow hbw hgw _
              · simp
                have := hE8.lt
                omega
      · simp only [idx]
        obtain ⟨wo, rfl⟩ : ∃ wo : World, wo = wr := ⟨_, rfl⟩
        go_wp2_with (first | refine wpList_load_part rfl 47 sideT (.tmp 39) rfl rfl hD2 rfl rfl ?_ | refine wpList_store_blk rfl 47 sideT (.tmp 8) _ rfl rfl rfl (Blk.new _ _ _) rfl rfl rfl ?_)
        (try simp only [Act.put])
        refine wp_forget (fun W0 => Blk W0 wo.heap.size #[.int .i64 yl, .int .i64 ym, .int .i64 yt, .slice yda yd.length ydc, .slice yha yh.length yhc, .slice yga ygn ygc, .slice yua yun yuc, .slice yoa yon yoc] 47 ∧ Blk W0 g _ _ ∧ Blk W0 w.heap.size _ _ ∧ Blk W0 (w.heap.size + 1) _ _ ∧ Below w.heap.size w W0 ∧ Below wo.heap.size wo W0) ⟨(Blk.new _ _ _).setRow _, hC8.old (by (try unfold Kept); repeat (first | assumption | exact Below.refl _ _ | exact below_undrew (Below.refl _ _) | exact Below.mono (by assumption) (by first | (simp; done) | (simp; omega) | omega) | refine below_setRow ?_ (by first | (simp; done) | (simp; omega) | omega) _ | refine Below.setCell ?_ (by first | (simp; done) | (simp; omega) | omega) _ | refine Below.alloc ?_ (by first | (simp; done) | (simp; omega) | omega) _ | refine below_drewN ?_ _ | refine Below.drew ?_ | refine below_undrew ?_ | refine below_step ?_ (by assumption))), hD2.old (by (try unfold Kept); repeat (first | assumption | exact Below.refl _ _ | exact below_undrew (Below.refl _ _) | exact Below.mono (by assumption) (by first | (simp; done) | (simp; omega) | omega) | refine below_setRow ?_ (by first | (simp; done) | (simp; omega) | omega) _ | refine Below.setCell ?_ (by first | (simp; done) | (simp; omega) | omega) _ | refine Below.alloc ?_ (by first | (simp; done) | (simp; omega) | omega) _ | refine below_drewN ?_ _ | refine Below.drew ?_ | refine below_undrew ?_ | refine below_step ?_ (by assumption))), hD4.old (by (try unfold Kept); repeat (first | assumption | exact Below.refl _ _ | exact below_undrew (Below.refl _ _) | exact Below.mono (by assumption) (by first | (simp; done) | (simp; omega) | omega) | refine below_setRow ?_ (by first | (simp; done) | (simp; omega) | omega) _ | refine Below.setCell ?_ (by first | (simp; done) | (simp; omega) | omega) _ | refine Below.alloc ?_ (by first | (simp; done) | (simp; omega) | omega) _ | refine below_drewN ?_ _ | refine Below.drew ?_ | refine below_undrew ?_ | refine below_step ?_ (by assumption))), by (try unfold Kept); repeat (first | assumption | exact Below.refl _ _ | exact below_undrew (Below.refl _ _) | exact Below.mono (by assumption) (by first | (simp; done) | (simp; omega) | omega) | refine below_setRow ?_ (by first | (simp; done) | (simp; omega) | omega) _ | refine Below.setCell ?_ (by first | (simp; done) | (simp; omega) | omega) _ | refine Below.alloc ?_ (by first | (simp; done) | (simp; omega) | omega) _ | refine below_drewN ?_ _ | refine Below.drew ?_ | refine below_undrew ?_ | refine below_step ?_ (by assumption)), by (try unfold Kept); repeat (first | assumption | exact Below.refl _ _ | exact below_undrew (Below.refl _ _) | exact Below.mono (by assumption) (by first | (simp; done) | (simp; omega) | omega) | refine below_setRow ?_ (by first | (simp; done) | (simp; omega) | omega) _ | refine Below.setCell ?_ (by first | (simp; done) | (simp; omega) | omega) _ | refine Below.alloc ?_ (by first | (simp; done) | (simp; omega) | omega) _ | refine below_drewN ?_ _ | refine Below.drew ?_ | refine below_undrew ?_ | refine below_step ?_ (by assumption))⟩ ?_
        rintro W2 ⟨hE, hE8, hE2, hE4, hbw2, hbr2⟩
        have hbz2 := hbr2.size
        have hwz2 := hbw2.size
        go_cut [9] (fun v9 wx => ∃ (g9 : Nat) (sh : SideVH), v9 = .pointer (some ⟨g9, 0, none⟩) ∧ Blk wx g9 (sideVCells ⟨yl, ym, yt, yd.length, yh.length, [], [], yg, yu, []⟩ sh).toArray 38 ∧ w.heap.size ≤ g9 ∧ SideVOwn wx w.heap.size ⟨yl, ym, yt, yd.length, yh.length, [], [], yg, yu, []⟩ sh ∧ Below W2.heap.size W2 wx)
        case first =>
          have r8 := fun W (hW : Kept W2.heap.size W2.drew W) => (hE.drew.below hW hE.lt).rule
          refine wp_region_tree W2.heap.size (.step 0 (.step 1 (.step 2 (.step 3 (.step 4 (.step 5 (.step 6 (.step 7 (.step 8 (.step 9 (.step 10 (.step 11 (.step 12 (.step 13 (.step 15 (.step 16 (.fork [(14, (.fork [(17, (.step 18 (.step 19 (.step 20 .done)))), (19, (.step 17 (.step 18 (.step 20 .done))))])), (19, (.step 14 (.step 17 (.step 18 (.step 20 .done)))))]))))))))))))))))) (by kernel_rfl) (by kernel_rfl) (fun c a d v w h => by cases d <;> exact h) ?_
          repeat (first | (refine tree_skip rfl (by rfl) ?_; simp only [Act.put, List.setIfInBounds_toArray, List.set]) | (refine tree_quiet (v := ?_) rfl rfl (by rfl) ?_ ?_; rotate_left; (intro W hW; go_simp); (try with_reducible rfl); simp only [Act.put, List.setIfInBounds_toArray, List.set]))
          refine tree_fork ?_
          refine tree_arm rfl (by rfl) (fun K hK => ?_) ?_
          · go_wp2_with fail
            refine (row_own yga ygn ygc yg _ (ha.y.grave.old hbw2.drew)).mono ?_
            rintro e z1 ⟨s1, rfl, ho1, hb1⟩
            have hWz1 : Below W2.heap.size W2 z1 := by (try unfold Kept); repeat (first | assumption | exact Below.refl _ _ | exact below_undrew (Below.refl _ _) | exact Below.mono (by assumption) (by first | (simp; done) | (simp; omega) | omega) | refine below_setRow ?_ (by first | (simp; done) | (simp; omega) | omega) _ | refine Below.setCell ?_ (by first | (simp; done) | (simp; omega) | omega) _ | refine Below.alloc ?_ (by first | (simp; done) | (simp; omega) | omega) _ | refine below_drewN ?_ _ | refine Below.drew ?_ | refine below_undrew ?_ | refine below_step ?_ (by assumption))
            have hz1 := hb1.size
            (try simp at hz1)
            go_wp2_with fail
            refine hK _ _ (by (try unfold Kept); repeat (first | assumption | exact Below.refl _ _ | exact below_undrew (Below.refl _ _) | exact Below.mono (by assumption) (by first | (simp; done) | (simp; omega) | omega) | refine below_setRow ?_ (by first | (simp; done) | (simp; omega) | omega) _ | refine Below.setCell ?_ (by first | (simp; done) | (simp; omega) | omega) _ | refine Below.alloc ?_ (by first | (simp; done) | (simp; omega) | omega) _ | refine below_drewN ?_ _ | refine Below.drew ?_ | refine below_undrew ?_ | refine below_step ?_ (by assumption))) ?_
            clear hK K
            repeat (first | (refine tree_skip rfl (by rfl) ?_; simp only [Act.put, List.setIfInBounds_toArray, List.set]) | (refine tree_quiet (v := ?_) rfl rfl (by rfl) ?_ ?_; rotate_left; (intro W hW; go_simp); (try with_reducible rfl); simp only [Act.put, List.setIfInBounds_toArray, List.set]))
            have hbz1 : Below w.heap.size w z1 := below_step hbw2.drew hb1
            refine tree_fork ?_
            refine tree_arm rfl (by rfl) (fun K hK => ?_) ?_
            · go_wp2_with fail
              refine (things_own yua yun yuc yu _ (ha.y.units.old hbz1)).mono ?_
              rintro e z2 ⟨s2, rfl, ho2, hb2⟩
              have hWz2 : Below W2.heap.size W2 z2 := below_step hWz1 hb2
              have hz2 := hb2.size
              (try simp at hz2)
              go_wp2_with fail
              refine hK _ _ (by (try unfold Kept); repeat (first | assumption | exact Below.refl _ _ | exact below_undrew (Below.refl _ _) | exact Below.mono (by assumption) (by first | (simp; done) | (simp; omega) | omega) | refine below_setRow ?_ (by first | (simp; done) | (simp; omega) | omega) _ | refine Below.setCell ?_ (by first | (simp; done) | (simp; omega) | omega) _ | refine Below.alloc ?_ (by first | (simp; done) | (simp; omega) | omega) _ | refine below_drewN ?_ _ | refine Below.drew ?_ | refine below_undrew ?_ | refine below_step ?_ (by assumption))) ?_
              clear hK K
              repeat (first | (refine tree_skip rfl (by rfl) ?_; simp only [Act.put, List.setIfInBounds_toArray, List.set]) | (refine tree_quiet (v := ?_) rfl rfl (by rfl) ?_ ?_; rotate_left; (intro W hW; go_simp); (try with_reducible rfl); simp only [Act.put, List.setIfInBounds_toArray, List.set]))
              have hbz12 : Below z1.heap.size z1 z2 := hb2
              refine tree_loud rfl rfl (by rfl) (fun K hK => ?_); go_wp2_with fail
              refine hK _ _ (by (try unfold Kept); repeat (first | assumption | exact Below.refl _ _ | exact below_undrew (Below.refl _ _) | exact Below.mono (by assumption) (by first | (simp; done) | (simp; omega) | omega) | refine below_setRow ?_ (by first | (simp; done) | (simp; omega) | omega) _ | refine Below.setCell ?_ (by first | (simp; done) | (simp; omega) | omega) _ | refine Below.alloc ?_ (by first | (simp; done) | (simp; omega) | omega) _ | refine below_drewN ?_ _ | refine Below.drew ?_ | refine below_undrew ?_ | refine below_step ?_ (by assumption))) ?_
              clear hK K
              repeat (first | (refine tree_skip rfl (by rfl) ?_; simp only [Act.put, List.setIfInBounds_toArray, List.set]) | (refine tree_quiet (v := ?_) rfl rfl (by rfl) ?_ ?_; rotate_left; (intro W hW; go_simp); (try with_reducible rfl); simp only [Act.put, List.setIfInBounds_toArray, List.set]))
              refine tree_loud rfl rfl (by rfl) (fun K hK => ?_)
              refine wp_store_at 38 sideVT (.tmp 9) (.tmp 59) rfl rfl rfl (Blk.new _ _ _) rfl (by decide) rfl ?_
              refine hK _ _ (by (try unfold Kept); repeat (first | assumption | exact Below.refl _ _ | exact below_undrew (Below.refl _ _) | exact Below.mono (by assumption) (by first | (simp; done) | (simp; omega) | omega) | refine below_setRow ?_ (by first | (simp; done) | (simp; omega) | omega) _ | refine Below.setCell ?_ (by first | (simp; done) | (simp; omega) | omega) _ | refine Below.alloc ?_ (by first | (simp; done) | (simp; omega) | omega) _ | refine below_drewN ?_ _ | refine Below.drew ?_ | refine below_undrew ?_ | refine below_step ?_ (by assumption))) ?_
              clear hK K
              refine tree_done ?_
              go_wp2_with fail
              go_meet
              refine ⟨z2.heap.size, ⟨⟨none, 0, 0⟩, ⟨none, 0, 0⟩, s1, s2, ⟨none, 0, 0⟩⟩, rfl, (Blk.new _ _ _).setRow _, by omega, ⟨ha.y.life, ha.y.mana, ha.y.most, wf_len ha.y.deck, wf_len ha.y.hand, OwnInts.nil _ _, OwnInts.nil _ _, ?_, ?_, OwnInts.nil _ _⟩, by (try unfold Kept); repeat (first | assumption | exact Below.refl _ _ | exact below_undrew (Below.refl _ _) | exact Below.mono (by assumption) (by first | (simp; done) | (simp; omega) | omega) | refine below_setRow ?_ (by first | (simp; done) | (simp; omega) | omega) _ | refine Below.setCell ?_ (by first | (simp; done) | (simp; omega) | omega) _ | refine Below.alloc ?_ (by first | (simp; done) | (simp; omega) | omega) _ | refine below_drewN ?_ _ | refine Below.drew ?_ | refine below_undrew ?_ | refine below_step ?_ (by assumption))⟩
              · exact (ho1.old (by (try unfold Kept); repeat (first | assumption | exact Below.refl _ _ | exact below_undrew (Below.refl _ _) | exact Below.mono (by assumption) (by first | (simp; done) | (simp; omega) | omega) | refine below_setRow ?_ (by first | (simp; done) | (simp; omega) | omega) _ | refine Below.setCell ?_ (by first | (simp; done) | (simp; omega) | omega) _ | refine Below.alloc ?_ (by first | (simp; done) | (simp; omega) | omega) _ | refine below_drewN ?_ _ | refine Below.drew ?_ | refine below_undrew ?_ | refine below_step ?_ (by assumption)))).lower (by first | (simp; done) | (simp; omega) | omega)
              · exact (ho2.old (by (try unfold Kept); repeat (first | assumption | exact Below.refl _ _ | exact below_undrew (Below.refl _ _) | exact Below.mono (by assumption) (by first | (simp; done) | (simp; omega) | omega) | refine below_setRow ?_ (by first | (simp; done) | (simp; omega) | omega) _ | refine Below.setCell ?_ (by first | (simp; done) | (simp; omega) | omega) _ | refine Below.alloc ?_ (by first | (simp; done) | (simp; omega) | omega) _ | refine below_drewN ?_ _ | refine Below.drew ?_ | refine below_undrew ?_ | refine below_step ?_ (by assumption)))).lower (by first | (simp; done) | (simp; omega) | omega)
            · refine tree_arm rfl (by rfl) (fun K hK => ?_) ?_
              · go_wp2_with fail
                refine hK _ _ (by (try unfold Kept); repeat (first | assumption | exact Below.refl _ _ | exact below_undrew (Below.refl _ _) | exact Below.mono (by assumption) (by first | (simp; done) | (simp; omega) | omega) | refine below_setRow ?_ (by first | (simp; done) | (simp; omega) | omega) _ | refine Below.setCell ?_ (by first | (simp; done) | (simp; omega) | omega) _ | refine Below.alloc ?_ (by first | (simp; done) | (simp; omega) | omega) _ | refine below_drewN ?_ _ | refine Below.drew ?_ | refine below_undrew ?_ | refine below_step ?_ (by assumption))) ?_
                clear hK K
                refine tree_loud rfl rfl (by rfl) (fun K hK => ?_); go_wp2_with fail
                refine (things_own yua yun yuc yu _ (ha.y.units.old (below_step hbz1 ((Below.refl _ _).alloc (Nat.le_refl _) _)))).mono ?_
                rintro e z2 ⟨s2, rfl, ho2, hb2⟩
                have hWz2 : Below W2.heap.size W2 z2 := below_step hWz1 (below_step ((Below.refl _ _).alloc (Nat.le_refl _) _) hb2)
                have hz2 := hb2.size
                (try simp at hz2)
                go_wp2_with fail
                refine hK _ _ (by (try unfold Kept); repeat (first | assumption | exact Below.refl _ _ | exact below_undrew (Below.refl _ _) | exact Below.mono (by assumption) (by first | (simp; done) | (simp; omega) | omega) | refine below_setRow ?_ (by first | (simp; done) | (simp; omega) | omega) _ | refine Below.setCell ?_ (by first | (simp; done) | (simp; omega) | omega) _ | refine Below.alloc ?_ (by first | (simp; done) | (simp; omega) | omega) _ | refine below_drewN ?_ _ | refine Below.drew ?_ | refine below_undrew ?_ | refine below_step ?_ (by assumption))) ?_
                clear hK K
                repeat (first | (refine tree_skip rfl (by rfl) ?_; simp only [Act.put, List.setIfInBounds_toArray, List.set]) | (refine tree_quiet (v := ?_) rfl rfl (by rfl) ?_ ?_; rotate_left; (intro W hW; go_simp); (try with_reducible rfl); simp only [Act.put, List.setIfInBounds_toArray, List.set]))
                have hbz12 : Below z1.heap.size z1 z2 := below_step ((Below.refl _ _).alloc (Nat.le_refl _) _) hb2
                have hV := (Blk.new z1 #[.int .i64 0, .int .i64 0, .int .i64 0, .int .i64 0, .int .i64 0, .slice none 0 0, .slice none 0 0, .slice none 0 0, .slice none 0 0, .slice none 0 0] 38).old hb2
                refine tree_loud rfl rfl (by rfl) (fun K hK => ?_)
                refine wp_store_at 38 sideVT (.tmp 9) (.tmp 59) rfl rfl rfl hV rfl (by decide) rfl ?_
                refine hK _ _ (by (try unfold Kept); repeat (first | assumption | exact Below.refl _ _ | exact below_undrew (Below.refl _ _) | exact Below.mono (by assumption) (by first | (simp; done) | (simp; omega) | omega) | refine below_setRow ?_ (by first | (simp; done) | (simp; omega) | omega) _ | refine Below.setCell ?_ (by first | (simp; done) | (simp; omega) | omega) _ | refine Below.alloc ?_ (by first | (simp; done) | (simp; omega) | omega) _ | refine below_drewN ?_ _ | refine Below.drew ?_ | refine below_undrew ?_ | refine below_step ?_ (by assumption))) ?_
                clear hK K
                refine tree_done ?_
                go_wp2_with fail
                go_meet
                refine ⟨z1.heap.size, ⟨⟨none, 0, 0⟩, ⟨none, 0, 0⟩, s1, s2, ⟨none, 0, 0⟩⟩, rfl, hV.setRow _, by omega, ⟨ha.y.life, ha.y.mana, ha.y.most, wf_len ha.y.deck, wf_len ha.y.hand, OwnInts.nil _ _, OwnInts.nil _ _, ?_, ?_, OwnInts.nil _ _⟩, by (try unfold Kept); repeat (first | assumption | exact Below.refl _ _ | exact below_undrew (Below.refl _ _) | exact Below.mono (by assumption) (by first | (simp; done) | (simp; omega) | omega) | refine below_setRow ?_ (by first | (simp; done) | (simp; omega) | omega) _ | refine Below.setCell ?_ (by first | (simp; done) | (simp; omega) | omega) _ | refine Below.alloc ?_ (by first | (simp; done) | (simp; omega) | omega) _ | refine below_drewN ?_ _ | refine Below.drew ?_ | refine below_undrew ?_ | refine below_step ?_ (by assumption))⟩
                · exact ((ho1.old hbz12).put hV (by decide) (by decide) _).lower (by first | (simp; done) | (simp; omega) | omega)
                · exact (ho2.put hV (by decide) (by decide) _).lower (by first | (simp; done) | (simp; omega) | omega)
              · exact tree_nil
          · refine tree_arm rfl (by rfl) (fun K hK => ?_) ?_
            · go_wp2_with fail
              refine hK _ _ (by (try unfold Kept); repeat (first | assumption | exact Below.refl _ _ | exact below_undrew (Below.refl _ _) | exact Below.mono (by assumption) (by first | (simp; done) | (simp; omega) | omega) | refine below_setRow ?_ (by first | (simp; done) | (simp; omega) | omega) _ | refine Below.setCell ?_ (by first | (simp; done) | (simp; omega) | omega) _ | refine Below.alloc ?_ (by first | (simp; done) | (simp; omega) | omega) _ | refine below_drewN ?_ _ | refine Below.drew ?_ | refine below_undrew ?_ | refine below_step ?_ (by assumption))) ?_
              clear hK K
              refine tree_loud rfl rfl (by rfl) (fun K hK => ?_); go_wp2_with fail
              refine (row_own yga ygn ygc yg _ (ha.y.grave.old (below_step hbw2 (((Below.refl _ _).alloc (Nat.le_refl _) _).drew)))).mono ?_
              rintro e z1 ⟨s1, rfl, ho1, hb1⟩
              have hWz1 : Below W2.heap.size W2 z1 := by (try unfold Kept); repeat (first | assumption | exact Below.refl _ _ | exact below_undrew (Below.refl _ _) | exact Below.mono (by assumption) (by first | (simp; done) | (simp; omega) | omega) | refine below_setRow ?_ (by first | (simp; done) | (simp; omega) | omega) _ | refine Below.setCell ?_ (by first | (simp; done) | (simp; omega) | omega) _ | refine Below.alloc ?_ (by first | (simp; done) | (simp; omega) | omega) _ | refine below_drewN ?_ _ | refine Below.drew ?_ | refine below_undrew ?_ | refine below_step ?_ (by assumption))
              have hz1 := hb1.size
              (try simp at hz1)
              go_wp2_with fail
              refine hK _ _ (by (try unfold Kept); repeat (first | assumption | exact Below.refl _ _ | exact below_undrew (Below.refl _ _) | exact Below.mono (by assumption) (by first | (simp; done) | (simp; omega) | omega) | refine below_setRow ?_ (by first | (simp; done) | (simp; omega) | omega) _ | refine Below.setCell ?_ (by first | (simp; done) | (simp; omega) | omega) _ | refine Below.alloc ?_ (by first | (simp; done) | (simp; omega) | omega) _ | refine below_drewN ?_ _ | refine Below.drew ?_ | refine below_undrew ?_ | refine below_step ?_ (by assumption))) ?_
              clear hK K
              repeat (first | (refine tree_skip rfl (by rfl) ?_; simp only [Act.put, List.setIfInBounds_toArray, List.set]) | (refine tree_quiet (v := ?_) rfl rfl (by rfl) ?_ ?_; rotate_left; (intro W hW; go_simp); (try with_reducible rfl); simp only [Act.put, List.setIfInBounds_toArray, List.set]))
              have hbz1 : Below w.heap.size w z1 := below_step (below_step hbw2 (((Below.refl _ _).alloc (Nat.le_refl _) _).drew)) hb1
              have hV1 := (Blk.new W2 #[.int .i64 0, .int .i64 0, .int .i64 0, .int .i64 0, .int .i64 0, .slice none 0 0, .slice none 0 0, .slice none 0 0, .slice none 0 0, .slice none 0 0] 38).drew.old hb1
              refine tree_loud rfl rfl (by rfl) (fun K hK => ?_); go_wp2_with fail
              refine (things_own yua yun yuc yu _ (ha.y.units.old hbz1)).mono ?_
              rintro e z2 ⟨s2, rfl, ho2, hb2⟩
              have hWz2 : Below W2.heap.size W2 z2 := below_step hWz1 hb2
              have hz2 := hb2.size
              (try simp at hz2)
              go_wp2_with fail
              refine hK _ _ (by (try unfold Kept); repeat (first | assumption | exact Below.refl _ _ | exact below_undrew (Below.refl _ _) | exact Below.mono (by assumption) (by first | (simp; done) | (simp; omega) | omega) | refine below_setRow ?_ (by first | (simp; done) | (simp; omega) | omega) _ | refine Below.setCell ?_ (by first | (simp; done) | (simp; omega) | omega) _ | refine Below.alloc ?_ (by first | (simp; done) | (simp; omega) | omega) _ | refine below_drewN ?_ _ | refine Below.drew ?_ | refine below_undrew ?_ | refine below_step ?_ (by assumption))) ?_
              clear hK K
              repeat (first | (refine tree_skip rfl (by rfl) ?_; simp only [Act.put, List.setIfInBounds_toArray, List.set]) | (refine tree_quiet (v := ?_) rfl rfl (by rfl) ?_ ?_; rotate_left; (intro W hW; go_simp); (try with_reducible rfl); simp only [Act.put, List.setIfInBounds_toArray, List.set]))
              have hbz12 : Below z1.heap.size z1 z2 := hb2
              have hV := hV1.old hb2
              refine tree_loud rfl rfl (by rfl) (fun K hK => ?_)
              refine wp_store_at 38 sideVT (.tmp 9) (.tmp 59) rfl rfl rfl hV rfl (by decide) rfl ?_
              refine hK _ _ (by (try unfold Kept); repeat (first | assumption | exact Below.refl _ _ | exact below_undrew (Below.refl _ _) | exact Below.mono (by assumption) (by first | (simp; done) | (simp; omega) | omega) | refine below_setRow ?_ (by first | (simp; done) | (simp; omega) | omega) _ | refine Below.setCell ?_ (by first | (simp; done) | (simp; omega) | omega) _ | refine Below.alloc ?_ (by first | (simp; done) | (simp; omega) | omega) _ | refine below_drewN ?_ _ | refine Below.drew ?_ | refine below_undrew ?_ | refine below_step ?_ (by assumption))) ?_
              clear hK K
              refine tree_done ?_
              go_wp2_with fail
              go_meet
              refine ⟨W2.heap.size, ⟨⟨none, 0, 0⟩, ⟨none, 0, 0⟩, s1, s2, ⟨none, 0, 0⟩⟩, rfl, hV.setRow _, by omega, ⟨ha.y.life, ha.y.mana, ha.y.most, wf_len ha.y.deck, wf_len ha.y.hand, OwnInts.nil _ _, OwnInts.nil _ _, ?_, ?_, OwnInts.nil _ _⟩, by (try unfold Kept); repeat (first | assumption | exact Below.refl _ _ | exact below_undrew (Below.refl _ _) | exact Below.mono (by assumption) (by first | (simp; done) | (simp; omega) | omega) | refine below_setRow ?_ (by first | (simp; done) | (simp; omega) | omega) _ | refine Below.setCell ?_ (by first | (simp; done) | (simp; omega) | omega) _ | refine Below.alloc ?_ (by first | (simp; done) | (simp; omega) | omega) _ | refine below_drewN ?_ _ | refine Below.drew ?_ | refine below_undrew ?_ | refine below_step ?_ (by assumption))⟩
              · exact ((ho1.old hbz12).put hV (by decide) (by decide) _).lower (by first | (simp; done) | (simp; omega) | omega)
              · exact (ho2.put hV (by decide) (by decide) _).lower (by first | (simp; done) | (simp; omega) | omega)
            · exact tree_nil
        case rest =>
          obtain ⟨g9, sh, rfl, hS, hlow9, hso, hbc⟩ := hcut
          have hE := hE.old hbc
          have hE8 := hE8.old hbc
          have hE2 := hE2.old hbc
          have hE4 := hE4.old hbc
          have hvo := (hvo.old hbr2).old hbc
          have hbw := below_step hbw2 hbc
          have hn9 : g9 ≠ wo.heap.size := hS.ne hE (by decide)
          have hn98 : g9 ≠ g := hS.ne hE8 (by decide)
          have hn92 : g9 ≠ w.heap.size := hS.ne hE2 (by decide)
          have hn94 : g9 ≠ w.heap.size + 1 := hS.ne hE4 (by decide)
          clear hC8 hD2 hD4 hbr hbw2 hbr2 hbc
          rcases (show n = 3 ∨ n = 1 ∨ n ≠ 3 ∧ n ≠ 1 by omega) with hn | hn | ⟨hn, hn'⟩
          · have u1 : ((n : Int) == 1) = false := by simp; omega
            have u2 : ((n : Int) == 3) = true := by simp; omega
            have HN := Lib.hid hn
            clear hn
            have r8 := hE.rule
            go_wp2_with fail
            refine (row_own yha _ yhc yh _ (ha.y.hand.old hbw)).mono ?_
            rintro e y0 ⟨t0, rfl, ho0, hb0⟩
            have hS := hS.old hb0
            have hE := hE.old hb0
            have hE8 := hE8.old hb0
            have hE2 := hE2.old hb0
            have hE4 := hE4.old hb0
            have hvo := hvo.old hb0
            have hso := hso.old hb0
            have ho0 := ho0.lower hbw.size
            have hbw := below_step hbw hb0
            have f9 := hS.free
            have r9 := hS.rule 6
            have r8 := hE.rule
            clear hb0
            go_upto_region 11 with fail
            refine wp_forget (fun W0 => Blk W0 g9 (sideVCells ⟨yl, ym, yt, yd.length, yh.length, [], yh, yg, yu, []⟩ { sh with hand := t0 }).toArray 38 ∧ SideVOwn W0 w.heap.size ⟨yl, ym, yt, yd.length, yh.length, [], yh, yg, yu, []⟩ { sh with hand := t0 } ∧ Blk W0 wo.heap.size _ _ ∧ Blk W0 g _ _ ∧ Blk W0 w.heap.size _ _ ∧ Blk W0 (w.heap.size + 1) _ _ ∧ ViewOwn W0 w.heap.size (vpart ⟨turn, mover, phase, struck, result, attack, next, ⟨xl, xm, xt, xd, xh, xg, xu, xo⟩, ⟨yl, ym, yt, yd, yh, yg, yu, yo⟩⟩ n 1) vh ∧ Below w.heap.size w W0)
              ⟨hS.set 6 _, by rw [setCell_eq_setRow _ _ _ _ _ (0, 0) _ hS]; exact (show SideVOwn y0 w.heap.size ⟨yl, ym, yt, yd.length, yh.length, [], yh, yg, yu, []⟩ { sh with hand := t0 } from { hso with hand := ho0 }).put hS (by decide) (by decide) _, hE.other _ _ hn9.symm, hE8.other _ _ hn98.symm, hE2.other _ _ hn92.symm, hE4.other _ _ hn94.symm, by rw [setCell_eq_setRow _ _ _ _ _ (0, 0) _ hS]; exact hvo.put hS (by decide) (by decide) _, hbw.setCell hlow9 _⟩ ?_
            rintro V0 ⟨hS, hso, hE, hE8, hE2, hE4, hvo, hbw⟩
            have r8 := hE.rule
            clear f9 r9
            go_wp2_with fail
            refine (row_own yoa _ yoc yo _ (ha.y.told.old hbw)).mono ?_
            rintro e y1 ⟨t1, rfl, ho1, hb1⟩
            have hS := hS.old hb1
            have hE := hE.old hb1
            have hE8 := hE8.old hb1
            have hE2 := hE2.old hb1
            have hE4 := hE4.old hb1
            have hvo := hvo.old hb1
            have hso := hso.old hb1
            have ho1 := ho1.lower hbw.size
            have hbw := below_step hbw hb1
            have f9 := hS.free
            have r9 := hS.rule 9
            have r8 := hE.rule
            clear hb1
            go_upto_region 12 with fail
            refine wp_forget (fun W0 => Blk W0 g9 (sideVCells ⟨yl, ym, yt, yd.length, yh.length, [], yh, yg, yu, yo⟩ { { sh with hand := t0 } with told := t1 }).toArray 38 ∧ SideVOwn W0 w.heap.size ⟨yl, ym, yt, yd.length, yh.length, [], yh, yg, yu, yo⟩ { { sh with hand := t0 } with told := t1 } ∧ Blk W0 wo.heap.size _ _ ∧ Blk W0 g _ _ ∧ Blk W0 w.heap.size _ _ ∧ Blk W0 (w.heap.size + 1) _ _ ∧ ViewOwn W0 w.heap.size (vpart ⟨turn, mover, phase, struck, result, attack, next, ⟨xl, xm, xt, xd, xh, xg, xu, xo⟩, ⟨yl, ym, yt, yd, yh, yg, yu, yo⟩⟩ n 1) vh ∧ Below w.heap.size w W0)
              ⟨hS.set 9 _, by rw [setCell_eq_setRow _ _ _ _ _ (0, 0) _ hS]; exact (show SideVOwn y1 w.heap.size ⟨yl, ym, yt, yd.length, yh.length, [], yh, yg, yu, yo⟩ { { sh with hand := t0 } with told := t1 } from { hso with told := ho1 }).put hS (by decide) (by decide) _, hE.other _ _ hn9.symm, hE8.other _ _ hn98.symm, hE2.other _ _ hn92.symm, hE4.other _ _ hn94.symm, by rw [setCell_eq_setRow _ _ _ _ _ (0, 0) _ hS]; exact hvo.put hS (by decide) (by decide) _, hbw.setCell hlow9 _⟩ ?_
            rintro V1 ⟨hS, hso, hE, hE8, hE2, hE4, hvo, hbw⟩
            have r8 := hE.rule
            clear f9 r9
            go_wp2_with fail
            refine (row_own yda _ ydc yd _ (ha.y.deck.old hbw)).mono ?_
            rintro e y2 ⟨t2, rfl, ho2, hb2⟩
            have hS := hS.old hb2
            have hE := hE.old hb2
            have hE8 := hE8.old hb2
            have hE2 := hE2.old hb2
            have hE4 := hE4.old hb2
            have hvo := hvo.old hb2
            have hso := hso.old hb2
            have ho2 := ho2.lower hbw.size
            have hbw := below_step hbw hb2
            have f9 := hS.free
            have r9 := hS.rule 5
            have r8 := hE.rule
            clear hb2
            go_upto_region 14 with fail
            refine wp_forget (fun W0 => Blk W0 g9 (sideVCells ⟨yl, ym, yt, yd.length, yh.length, yd, yh, yg, yu, yo⟩ { { { sh with hand := t0 } with told := t1 } with deck := t2 }).toArray 38 ∧ SideVOwn W0 w.heap.size ⟨yl, ym, yt, yd.length, yh.length, yd, yh, yg, yu, yo⟩ { { { sh with hand := t0 } with told := t1 } with deck := t2 } ∧ Blk W0 wo.heap.size _ _ ∧ Blk W0 g _ _ ∧ Blk W0 w.heap.size _ _ ∧ Blk W0 (w.heap.size + 1) _ _ ∧ ViewOwn W0 w.heap.size (vpart ⟨turn, mover, phase, struck, result, attack, next, ⟨xl, xm, xt, xd, xh, xg, xu, xo⟩, ⟨yl, ym, yt, yd, yh, yg, yu, yo⟩⟩ n 1) vh ∧ Below w.heap.size w W0)
              ⟨hS.set 5 _, by rw [setCell_eq_setRow _ _ _ _ _ (0, 0) _ hS]; exact (show SideVOwn y2 w.heap.size ⟨yl, ym, yt, yd.length, yh.length, yd, yh, yg, yu, yo⟩ { { { sh with hand := t0 } with told := t1 } with deck := t2 } from { hso with deck := ho2 }).put hS (by decide) (by decide) _, hE.other _ _ hn9.symm, hE8.other _ _ hn98.symm, hE2.other _ _ hn92.symm, hE4.other _ _ hn94.symm, by rw [setCell_eq_setRow _ _ _ _ _ (0, 0) _ hS]; exact hvo.put hS (by decide) (by decide) _, hbw.setCell hlow9 _⟩ ?_
            rintro V2 ⟨hS, hso, hE, hE8, hE2, hE4, hvo, hbw⟩
            have r8 := hE.rule
            clear f9 r9
            go_wp2_with (first | refine wpList_load_blk rfl 38 sideVT (.tmp 9) rfl rfl hS rfl ?_ | refine wpList_store_at rfl 38 sideVT (.tmp 84) _ rfl rfl rfl hE8 rfl (by show 17 + 10 ≤ 27; omega) rfl ?_)
            go_roundg 0
            case measure => omega
            case rel =>
              have hn := HN.out
              have hP : (⟨yl, ym, yt, yd.length, yh.length, yd, yh, yg, yu, yo⟩ : SideVP) = seenSide ⟨yl, ym, yt, yd, yh, yg, yu, yo⟩ (decide ((n : Int) = 1 ∨ (n : Int) = 3)) (decide ((n : Int) = 3)) := by
                have e1 : decide ((n : Int) = 1 ∨ (n : Int) = 3) = true := by simp; omega
                have e2 : decide ((n : Int) = 3) = true := by simp; omega
                rw [e1, e2]; rfl
              rw [hP] at hso ⊢
              refine ⟨2, (⟨vh.attack, vh.x, ⟨t2, t0, sh.grave, sh.units, t1⟩⟩ : ViewH), rfl, rfl, ?_, ?_, ?_, ?_, ?_⟩
              · exact hE8.setRow _
              · exact (show ViewOwn _ w.heap.size (vpart ⟨turn, mover, phase, struck, result, attack, next, ⟨xl, xm, xt, xd, xh, xg, xu, xo⟩, ⟨yl, ym, yt, yd, yh, yg, yu, yo⟩⟩ n 2) (⟨vh.attack, vh.x, ⟨t2, t0, sh.grave, sh.units, t1⟩⟩ : ViewH) from { hvo with y := hso }).put hE8 (by decide) (by decide) _
              · simp only [List.forall_mem_cons]
                exact ⟨hE2.setRow_other _ _ (hE2.ne hE8 (by decide)), (hE4.setRow_other _ _ hne4), fun x hx => by simp at hx⟩
              · exact below_setRow hbw hgw _
              · simp
                have := hE8.lt
                omega
          · have u1 : ((n : Int) == 1) = true := by simp; omega
            have u2 : ((n : Int) == 3) = false := by simp; omega
            have HN := Lib.hid hn
            clear hn
            have r8 := hE.rule
            go_wp2_with fail
            refine (row_own yha _ yhc yh _ (ha.y.hand.old hbw)).mono ?_
            rintro e y0 ⟨t0, rfl, ho0, hb0⟩
            have hS := hS.old hb0
            have hE := hE.old hb0
            have hE8 := hE8.old hb0
            have hE2 := hE2.old hb0
            have hE4 := hE4.old hb0
            have hvo := hvo.old hb0
            have hso := hso.old hb0
            have ho0 := ho0.lower hbw.size
            have hbw := below_step hbw hb0
            have f9 := hS.free
            have r9 := hS.rule 6
            have r8 := hE.rule
            clear hb0
            go_upto_region 11 with fail
            refine wp_forget (fun W0 => Blk W0 g9 (sideVCells ⟨yl, ym, yt, yd.length, yh.length, [], yh, yg, yu, []⟩ { sh with hand := t0 }).toArray 38 ∧ SideVOwn W0 w.heap.size ⟨yl, ym, yt, yd.length, yh.length, [], yh, yg, yu, []⟩ { sh with hand := t0 } ∧ Blk W0 wo.heap.size _ _ ∧ Blk W0 g _ _ ∧ Blk W0 w.heap.size _ _ ∧ Blk W0 (w.heap.size + 1) _ _ ∧ ViewOwn W0 w.heap.size (vpart ⟨turn, mover, phase, struck, result, attack, next, ⟨xl, xm, xt, xd, xh, xg, xu, xo⟩, ⟨yl, ym, yt, yd, yh, yg, yu, yo⟩⟩ n 1) vh ∧ Below w.heap.size w W0)
              ⟨hS.set 6 _, by rw [setCell_eq_setRow _ _ _ _ _ (0, 0) _ hS]; exact (show SideVOwn y0 w.heap.size ⟨yl, ym, yt, yd.length, yh.length, [], yh, yg, yu, []⟩ { sh with hand := t0 } from { hso with hand := ho0 }).put hS (by decide) (by decide) _, hE.other _ _ hn9.symm, hE8.other _ _ hn98.symm, hE2.other _ _ hn92.symm, hE4.other _ _ hn94.symm, by rw [setCell_eq_setRow _ _ _ _ _ (0, 0) _ hS]; exact hvo.put hS (by decide) (by decide) _, hbw.setCell hlow9 _⟩ ?_
            rintro V0 ⟨hS, hso, hE, hE8, hE2, hE4, hvo, hbw⟩
            have r8 := hE.rule
            clear f9 r9
            go_wp2_with fail
            refine (row_own yoa _ yoc yo _ (ha.y.told.old hbw)).mono ?_
            rintro e y1 ⟨t1, rfl, ho1, hb1⟩
            have hS := hS.old hb1
            have hE := hE.old hb1
            have hE8 := hE8.old hb1
            have hE2 := hE2.old hb1
            have hE4 := hE4.old hb1
            have hvo := hvo.old hb1
            have hso := hso.old hb1
            have ho1 := ho1.lower hbw.size
            have hbw := below_step hbw hb1
            have f9 := hS.free
            have r9 := hS.rule 9
            have r8 := hE.rule
            clear hb1
            go_upto_region 12 with fail
            refine wp_forget (fun W0 => Blk W0 g9 (sideVCells ⟨yl, ym, yt, yd.length, yh.length, [], yh, yg, yu, yo⟩ { { sh with hand := t0 } with told := t1 }).toArray 38 ∧ SideVOwn W0 w.heap.size ⟨yl, ym, yt, yd.length, yh.length, [], yh, yg, yu, yo⟩ { { sh with hand := t0 } with told := t1 } ∧ Blk W0 wo.heap.size _ _ ∧ Blk W0 g _ _ ∧ Blk W0 w.heap.size _ _ ∧ Blk W0 (w.heap.size + 1) _ _ ∧ ViewOwn W0 w.heap.size (vpart ⟨turn, mover, phase, struck, result, attack, next, ⟨xl, xm, xt, xd, xh, xg, xu, xo⟩, ⟨yl, ym, yt, yd, yh, yg, yu, yo⟩⟩ n 1) vh ∧ Below w.heap.size w W0)
              ⟨hS.set 9 _, by rw [setCell_eq_setRow _ _ _ _ _ (0, 0) _ hS]; exact (show SideVOwn y1 w.heap.size ⟨yl, ym, yt, yd.length, yh.length, [], yh, yg, yu, yo⟩ { { sh with hand := t0 } with told := t1 } from { hso with told := ho1 }).put hS (by decide) (by decide) _, hE.other _ _ hn9.symm, hE8.other _ _ hn98.symm, hE2.other _ _ hn92.symm, hE4.other _ _ hn94.symm, by rw [setCell_eq_setRow _ _ _ _ _ (0, 0) _ hS]; exact hvo.put hS (by decide) (by decide) _, hbw.setCell hlow9 _⟩ ?_
            rintro V1 ⟨hS, hso, hE, hE8, hE2, hE4, hvo, hbw⟩
            have r8 := hE.rule
            clear f9 r9
            go_wp2_with (first | refine wpList_load_blk rfl 38 sideVT (.tmp 9) rfl rfl hS rfl ?_ | refine wpList_store_at rfl 38 sideVT (.tmp 84) _ rfl rfl rfl hE8 rfl (by show 17 + 10 ≤ 27; omega) rfl ?_)
            go_roundg 0
            case measure => omega
            case rel =>
              have hn := HN.out
              have hP : (⟨yl, ym, yt, yd.length, yh.length, [], yh, yg, yu, yo⟩ : SideVP) = seenSide ⟨yl, ym, yt, yd, yh, yg, yu, yo⟩ (decide ((n : Int) = 1 ∨ (n : Int) = 3)) (decide ((n : Int) = 3)) := by
                have e1 : decide ((n : Int) = 1 ∨ (n : Int) = 3) = true := by simp; omega
                have e2 : decide ((n : Int) = 3) = false := by simp; omega
                rw [e1, e2]; rfl
              rw [hP] at hso ⊢
              refine ⟨2, (⟨vh.attack, vh.x, ⟨sh.deck, t0, sh.grave, sh.units, t1⟩⟩ : ViewH), rfl, rfl, ?_, ?_, ?_, ?_, ?_⟩
              · exact hE8.setRow _
              · exact (show ViewOwn _ w.heap.size (vpart ⟨turn, mover, phase, struck, result, attack, next, ⟨xl, xm, xt, xd, xh, xg, xu, xo⟩, ⟨yl, ym, yt, yd, yh, yg, yu, yo⟩⟩ n 2) (⟨vh.attack, vh.x, ⟨sh.deck, t0, sh.grave, sh.units, t1⟩⟩ : ViewH) from { hvo with y := hso }).put hE8 (by decide) (by decide) _
              · simp only [List.forall_mem_cons]
                exact ⟨hE2.setRow_other _ _ (hE2.ne hE8 (by decide)), (hE4.setRow_other _ _ hne4), fun x hx => by simp at hx⟩
              · exact below_setRow hbw hgw _
              · simp
                have := hE8.lt
                omega
          · have u1 : ((n : Int) == 1) = false := by simp; omega
            have u2 : ((n : Int) == 3) = false := by simp; omega
            have HN := Lib.hid hn
            clear hn
            have r8 := hE.rule
            go_wp2_with (first | refine wpList_load_blk rfl 38 sideVT (.tmp 9) rfl rfl hS rfl ?_ | refine wpList_store_at rfl 38 sideVT (.tmp 84) _ rfl rfl rfl hE8 rfl (by show 17 + 10 ≤ 27; omega) rfl ?_)
            go_roundg 0
            case measure => omega
            case rel =>
              have hn := HN.out
              have hP : (⟨yl, ym, yt, yd.length, yh.length, [], [], yg, yu, []⟩ : SideVP) = seenSide ⟨yl, ym, yt, yd, yh, yg, yu, yo⟩ (decide ((n : Int) = 1 ∨ (n : Int) = 3)) (decide ((n : Int) = 3)) := by
                have e1 : decide ((n : Int) = 1 ∨ (n : Int) = 3) = false := by simp; omega
                have e2 : decide ((n : Int) = 3) = false := by simp; omega
                rw [e1, e2]; rfl
              rw [hP] at hso ⊢
              refine ⟨2, { vh with y := sh }, rfl, rfl, ?_, ?_, ?_, ?_, ?_⟩
              · exact hE8.setRow _
              · exact (show ViewOwn _ w.heap.size (vpart ⟨turn, mover, phase, struck, result, attack, next, ⟨xl, xm, xt, xd, xh, xg, xu, xo⟩, ⟨yl, ym, yt, yd, yh, yg, yu, yo⟩⟩ n 2) { vh with y := sh } from { hvo with y := hso }).put hE8 (by decide) (by decide) _
              · simp only [List.forall_mem_cons]
                exact ⟨hE2.setRow_other _ _ (hE2.ne hE8 (by decide)), (hE4.setRow_other _ _ hne4), fun x hx => by simp at hx⟩
              · exact below_setRow hbw hgw _
              · simp
                have := hE8.lt
                omega
      · simp only [idx]
        go_wp2_with (first | refine wpList_load_blk rfl 41 viewT (.tmp 6) rfl rfl hC8 rfl ?_ | refine wpList_store_blk rfl 41 viewT (.tmp 4) _ rfl rfl rfl hD4 rfl rfl rfl ?_)
        refine post_blk_tmp rfl viewT rfl (hD4.setRow _) rfl rfl rfl ?_
        exact ⟨vh, rfl, hvo.put hD4 (by decide) (by decide) _, by (try unfold Kept); repeat (first | assumption | exact Below.refl _ _ | exact below_undrew (Below.refl _ _) | exact Below.mono (by assumption) (by first | (simp; done) | (simp; omega) | omega) | refine below_setRow ?_ (by first | (simp; done) | (simp; omega) | omega) _ | refine Below.setCell ?_ (by first | (simp; done) | (simp; omega) | omega) _ | refine Below.alloc ?_ (by first | (simp; done) | (simp; omega) | omega) _ | refine below_drewN ?_ _ | refine Below.drew ?_ | refine below_undrew ?_ | refine below_step ?_ (by assumption))⟩
end Go.Proofs.Ytiglljegpdlnmaa
