/- A state as anybody sees it: the program's and the document's answer. -/
import Derived.Test.YtiglljegpdlnmaaThings
import Derived.RegionTactic
import Derived.ChangeAlike
namespace Go.Proofs.Ytiglljegpdlnmaa
open Go.RowKit

theorem some_ints (b : Bool) (a : Option Addr) (n c : Nat) (l : List Int) (w : World) (hl : IntRow w a n c l) :
    Calls Try.prog 36 #[.bool b, .slice a n c] w fun e w' => ∃ s : Sl, e = .returned (.slice s.a s.n s.c) ∧ OwnInts w' w.heap.size s (if b then l else []) ∧ Below w.heap.size w w' := by
  cases b
  · go_enter Try.func36, Try.ntmps36
    go_wp2_with fail
    go_ret
    exact ⟨⟨none, 0, 0⟩, rfl, OwnInts.nil _ _, Below.refl _ _⟩
  · go_enter Try.func36, Try.ntmps36
    go_wp2_with fail
    refine (clone_ints a n c l _ hl).mono ?_
    rintro e w1 ⟨a', c', rfl, hown, hb⟩
    go_wp2_with fail
    go_ret
    exact ⟨⟨a', n, c'⟩, rfl, OwnInts.mk' (s := ⟨a', n, c'⟩) (s0 := ⟨a, n, c⟩) hown hl rfl, hb⟩
theorem some_things (a : Option Addr) (n c : Nat) (l : List ThingL) (w : World) (hl : ThingRow w a n c l) :
    Calls Try.prog 37 #[.bool true, .slice a n c] w fun e w' => ∃ s : Sl, e = .returned (.slice s.a s.n s.c) ∧ OwnThings w' w.heap.size s l ∧ Below w.heap.size w w' := by
  go_enter Try.func37, Try.ntmps37
  go_wp2_with fail
  refine (clone_things a n c l _ hl).mono ?_
  rintro e w1 ⟨a', c', rfl, hown, hb⟩
  go_wp2_with fail
  go_ret
  exact ⟨⟨a', n, c'⟩, rfl, OwnThings.mk' (s := ⟨a', n, c'⟩) (s0 := ⟨a, n, c⟩) hown hl rfl, hb⟩
theorem tableT : AggT Try.prog 71 8 := ⟨⟨_, Try.underlying71, rfl⟩, by kernel_rfl⟩
theorem pairT2 : AggT Try.prog 70 2 := ⟨⟨_, Try.underlying70, rfl⟩, by kernel_rfl⟩
theorem sees_any (w : World) : Calls Try.prog 35 #[] w fun e w' => e = .returned (.tuple #[.agg #[.bool true, .bool false, .bool false, .bool true, .bool false, .bool false, .bool true, .bool true], .agg #[.bool false, .bool false, .bool false, .bool false, .bool false, .bool false, .bool true, .bool true]]) ∧ Below w.heap.size w w' := by
  go_enter Try.func35, Try.ntmps35
  go_wp2_with fail
  go_region
  go_wp2_with fail
  refine post_blk2 rfl tableT tableT rfl ((Blk.new2 _ _ _ _).drew) rfl rfl ((Blk.new2' _ _ _ _).drew) rfl rfl ?_
  exact ⟨rfl, by (try unfold Kept); repeat (first | assumption | exact Below.refl _ _ | exact below_undrew (Below.refl _ _) | exact Below.mono (by assumption) (by first | (simp; done) | (simp; omega) | omega) | refine below_setRow ?_ (by first | (simp; done) | (simp; omega) | omega) _ | refine Below.setCell ?_ (by first | (simp; done) | (simp; omega) | omega) _ | refine Below.alloc ?_ (by first | (simp; done) | (simp; omega) | omega) _ | refine below_drewN ?_ _ | refine Below.drew ?_ | refine below_undrew ?_ | refine below_step ?_ (by assumption))⟩

def zeroSV : SideVP := ⟨0, 0, 0, 0, 0, [], [], [], [], []⟩
def noSVH : SideVH := ⟨⟨none, 0, 0⟩, ⟨none, 0, 0⟩, ⟨none, 0, 0⟩, ⟨none, 0, 0⟩, ⟨none, 0, 0⟩⟩
theorem zeroSV_own (w : World) (B : Nat) : SideVOwn w B zeroSV noSVH := ⟨rfl, rfl, rfl, rfl, rfl, OwnInts.nil _ _, OwnInts.nil _ _, OwnInts.nil _ _, ⟨Own.nil _ _ _ _, RowAt.nil _ _, rfl, Nat.le_refl _, by unfold maxLen; simp [noSVH], by simp [noSVH], fun x hx => by simp [zeroSV] at hx⟩, OwnInts.nil _ _⟩
def zeroV : ViewP := ⟨0, 0, 0, false, 0, [], 0, zeroSV, zeroSV⟩
def noVH : ViewH := ⟨⟨none, 0, 0⟩, noSVH, noSVH⟩
theorem zeroV_own (w : World) (B : Nat) : ViewOwn w B zeroV noVH := ⟨rfl, rfl, rfl, rfl, OwnInts.nil _ _, rfl, zeroSV_own _ _, zeroSV_own _ _⟩
def seenSide (x : SideP) (hand deck : Bool) : SideVP := ⟨x.life, x.mana, x.most, x.deck.length, x.hand.length, if deck then x.deck else [], if hand then x.hand else [], x.grave, x.units, if hand then x.told else []⟩
def seen (p : StateP) (who : Int) : ViewP := ⟨p.turn, p.mover, p.phase, p.struck, p.result, p.attack, p.next, seenSide p.x (decide (who = 0 ∨ who = 3)) (decide (who = 3)), seenSide p.y (decide (who = 1 ∨ who = 3)) (decide (who = 3))⟩
def headV (p : StateP) : ViewP := ⟨p.turn, p.mover, p.phase, p.struck, p.result, p.attack, p.next, zeroSV, zeroSV⟩
def vpart (p : StateP) (who : Int) : Nat → ViewP
  | 0 => headV p
  | 1 => { headV p with x := seenSide p.x (decide (who = 0 ∨ who = 3)) (decide (who = 3)) }
  | _ => seen p who
theorem stateT : AggT Try.prog 50 23 := ⟨⟨_, Try.underlying50, rfl⟩, by kernel_rfl⟩
theorem viewT : AggT Try.prog 41 27 := ⟨⟨_, Try.underlying41, rfl⟩, by kernel_rfl⟩
theorem sideT : AggT Try.prog 47 8 := ⟨⟨_, Try.underlying47, rfl⟩, by kernel_rfl⟩
theorem sideVT : AggT Try.prog 38 10 := ⟨⟨_, Try.underlying38, rfl⟩, by kernel_rfl⟩
theorem sidesT : AggT Try.prog 48 16 := ⟨⟨_, Try.underlying48, rfl⟩, by kernel_rfl⟩

def ViewSeen (w : World) (v : ViewP) (n : Int) (e : Ending) (w' : World) : Prop :=
  ∃ h' : ViewH, e = .returned (.tuple #[viewVal v h', .int .i64 n]) ∧ ViewOwn w' w.heap.size v h' ∧ Below w.heap.size w w'

def idx : Nat → Value
  | 0 => .int .i64 0
  | 1 => .int .i64 1
  | _ => .int .i64 2
def OfRel (w : World) (p : StateP) (who : Int) (g : Nat) (bs : List (Nat × Array Value × TypeId)) (f : Nat) (i : Value) (w' : World) : Prop :=
  ∃ (k : Nat) (vh : ViewH), k + f = 2 ∧ i = idx k ∧ Blk w' g (viewCells (vpart p who k) vh).toArray 41 ∧ ViewOwn w' w.heap.size (vpart p who k) vh ∧ (∀ x ∈ bs, Blk w' x.1 x.2.1 x.2.2) ∧ Below w.heap.size w w' ∧ g < w'.heap.size
set_option maxRecDepth 100000 in
set_option maxHeartbeats 1000000 in
theorem of_any (who : Int) (w : World) (p : StateP) (h : StateH) (ha : StateAt w p h) (hw : 0 ≤ who ∧ who < 4) :
    Calls Try.prog 20 #[stateVal p h, .int .i64 who] w (ViewSeen w (seen p who) 0) := by
  obtain ⟨turn, mover, phase, struck, result, attack, next, ⟨xl, xm, xt, xd, xh, xg, xu, xo⟩, ⟨yl, ym, yt, yd, yh, yg, yu, yo⟩⟩ := p
  obtain ⟨⟨aa, an, ac⟩, ⟨⟨xda, xdn, xdc⟩, ⟨xha, xhn, xhc⟩, ⟨xga, xgn, xgc⟩, ⟨xua, xun, xuc⟩, ⟨xoa, xon, xoc⟩⟩, ⟨⟨yda, ydn, ydc⟩, ⟨yha, yhn, yhc⟩, ⟨yga, ygn, ygc⟩, ⟨yua, yun, yuc⟩, ⟨yoa, yon, yoc⟩⟩⟩ := h
  obtain rfl : xd.length = xdn := ha.x.deck.2.1
  obtain rfl : xh.length = xhn := ha.x.hand.2.1
  obtain rfl : yd.length = ydn := ha.y.deck.2.1
  obtain rfl : yh.length = yhn := ha.y.hand.2.1
  obtain ⟨n, rfl⟩ := Int.eq_ofNat_of_zero_le hw.1
  have hn4 : (n : Int) < 4 := hw.2
  have hn4' : n < 4 := by omega
  have t0 : decide ((n : Int) < 0) = false := by simp
  have t1 : decide (3 < (n : Int)) = false := by simp; omega
  clear hw
  unfold stateVal
  dsimp only
  go_enter Try.func20, Try.ntmps20
  go_wp2_with fail
  refine (sees_any _).mono ?_
  rintro e w1 ⟨rfl, hb⟩
  have hsz1 := hb.size
  simp at hsz1
  have hB2 := (Blk.new2 _ _ _ _).old hb
  have hB4 := (Blk.new2' _ _ _ _).old hb
  go_wp2_with (first | refine wpList_store_blk rfl 71 tableT (.tmp 6) _ rfl rfl rfl (Blk.new2 _ _ _ _) rfl rfl rfl ?_ | refine wpList_store_blk rfl 71 tableT (.tmp 7) _ rfl rfl rfl (((Blk.new2' _ _ _ _)).setRow_other _ _ (by simp)) rfl rfl rfl ?_)
  refine wp_forget (fun W0 => Blk W0 w.heap.size _ _ ∧ Blk W0 (w.heap.size + 1) _ _ ∧ Blk W0 w1.heap.size _ _ ∧ Blk W0 (w1.heap.size + 1) _ _ ∧ Below w.heap.size w W0 ∧ w1.heap.size + 2 ≤ W0.heap.size)
    ⟨hB2.old (by (try unfold Kept); repeat (first | assumption | exact Below.refl _ _ | exact below_undrew (Below.refl _ _) | exact Below.mono (by assumption) (by first | (simp; done) | (simp; omega) | omega) | refine below_setRow ?_ (by first | (simp; done) | (simp; omega) | omega) _ | refine Below.setCell ?_ (by first | (simp; done) | (simp; omega) | omega) _ | refine Below.alloc ?_ (by first | (simp; done) | (simp; omega) | omega) _ | refine below_drewN ?_ _ | refine Below.drew ?_ | refine below_undrew ?_ | refine below_step ?_ (by assumption))), hB4.old (by (try unfold Kept); repeat (first | assumption | exact Below.refl _ _ | exact below_undrew (Below.refl _ _) | exact Below.mono (by assumption) (by first | (simp; done) | (simp; omega) | omega) | refine below_setRow ?_ (by first | (simp; done) | (simp; omega) | omega) _ | refine Below.setCell ?_ (by first | (simp; done) | (simp; omega) | omega) _ | refine Below.alloc ?_ (by first | (simp; done) | (simp; omega) | omega) _ | refine below_drewN ?_ _ | refine Below.drew ?_ | refine below_undrew ?_ | refine below_step ?_ (by assumption))), ((Blk.new2 _ _ _ _).setRow _).setRow_other _ _ (by simp), ((Blk.new2' _ _ _ _).setRow_other _ _ (by simp)).setRow _, by (try unfold Kept); repeat (first | assumption | exact Below.refl _ _ | exact below_undrew (Below.refl _ _) | exact Below.mono (by assumption) (by first | (simp; done) | (simp; omega) | omega) | refine below_setRow ?_ (by first | (simp; done) | (simp; omega) | omega) _ | refine Below.setCell ?_ (by first | (simp; done) | (simp; omega) | omega) _ | refine Below.alloc ?_ (by first | (simp; done) | (simp; omega) | omega) _ | refine below_drewN ?_ _ | refine Below.drew ?_ | refine below_undrew ?_ | refine below_step ?_ (by assumption)), by simp⟩ ?_
  rintro W0 ⟨hC2, hC4, hC6, hC7, hbW, hzW⟩
  clear hB2 hB4 hb
  simp only [Act.put]
  go_cut [8] (fun v8 wx => ∃ (g : Nat) (vh : ViewH), v8 = .pointer (some ⟨g, 0, none⟩) ∧ Blk wx g (viewCells (headV ⟨turn, mover, phase, struck, result, attack, next, ⟨xl, xm, xt, xd, xh, xg, xu, xo⟩, ⟨yl, ym, yt, yd, yh, yg, yu, yo⟩⟩) vh).toArray 41 ∧ ViewOwn wx w.heap.size (headV ⟨turn, mover, phase, struck, result, attack, next, ⟨xl, xm, xt, xd, xh, xg, xu, xo⟩, ⟨yl, ym, yt, yd, yh, yg, yu, yo⟩⟩) vh ∧ Below W0.heap.size W0 wx ∧ W0.heap.size ≤ g)
  case first =>
    have r2 := fun W (hW : Kept W0.heap.size W0.drew W) => (hC2.drew.below hW hC2.lt).rule
    refine wp_region_tree W0.heap.size (.step 0 (.step 1 (.step 2 (.step 3 (.step 4 (.step 5 (.step 6 (.step 7 (.step 8 (.step 9 (.step 10 (.step 11 (.step 13 (.step 14 (.fork [(12, (.step 15 (.step 16 (.step 17 .done)))), (16, (.step 12 (.step 15 (.step 17 .done))))]))))))))))))))) (by kernel_rfl) (by kernel_rfl) (fun c a d v w h => by cases d <;> exact h) ?_
    repeat (first | (refine tree_skip rfl (by rfl) ?_; simp only [Act.put, List.setIfInBounds_toArray, List.set]) | (refine tree_quiet (v := ?_) rfl rfl (by rfl) ?_ ?_; rotate_left; (intro W hW; go_simp); (try with_reducible rfl); simp only [Act.put, List.setIfInBounds_toArray, List.set]))
    refine tree_fork ?_
    refine tree_arm rfl (by rfl) (fun K hK => ?_) ?_
    · go_wp2_with fail
      refine (clone_ints aa an ac attack _ ((ha.attack.old hbW).old (Below.refl _ _).drew)).mono ?_
      rintro e w2 ⟨a', c', rfl, hown, hb2⟩
      have hz2 := hb2.size
      simp at hz2
      go_wp2_with fail
      refine hK _ _ hb2 ?_
      clear hK K
      repeat (first | (refine tree_skip rfl (by rfl) ?_; simp only [Act.put, List.setIfInBounds_toArray, List.set]) | (refine tree_quiet (v := ?_) rfl rfl (by rfl) ?_ ?_; rotate_left; (intro W hW; go_simp); (try with_reducible rfl); simp only [Act.put, List.setIfInBounds_toArray, List.set]))
      refine tree_loud rfl rfl (by rfl) (fun K hK => ?_); go_wp2_with fail
      refine hK _ _ (by (try unfold Kept); repeat (first | assumption | exact Below.refl _ _ | exact below_undrew (Below.refl _ _) | exact Below.mono (by assumption) (by first | (simp; done) | (simp; omega) | omega) | refine below_setRow ?_ (by first | (simp; done) | (simp; omega) | omega) _ | refine Below.setCell ?_ (by first | (simp; done) | (simp; omega) | omega) _ | refine Below.alloc ?_ (by first | (simp; done) | (simp; omega) | omega) _ | refine below_drewN ?_ _ | refine Below.drew ?_ | refine below_undrew ?_ | refine below_step ?_ (by assumption))) ?_
      clear hK K
      refine tree_loud rfl rfl (by rfl) (fun K hK => ?_)
      refine wp_store_at 41 viewT (.tmp 8) (.tmp 37) rfl rfl rfl (Blk.new _ _ _) rfl (by decide) rfl ?_
      refine hK _ _ (by (try unfold Kept); repeat (first | assumption | exact Below.refl _ _ | exact below_undrew (Below.refl _ _) | exact Below.mono (by assumption) (by first | (simp; done) | (simp; omega) | omega) | refine below_setRow ?_ (by first | (simp; done) | (simp; omega) | omega) _ | refine Below.setCell ?_ (by first | (simp; done) | (simp; omega) | omega) _ | refine Below.alloc ?_ (by first | (simp; done) | (simp; omega) | omega) _ | refine below_drewN ?_ _ | refine Below.drew ?_ | refine below_undrew ?_ | refine below_step ?_ (by assumption))) ?_
      clear hK K
      refine tree_done ?_
      go_wp2_with fail
      go_meet
      refine ⟨w2.heap.size, ⟨⟨a', an, c'⟩, noSVH, noSVH⟩, rfl, (Blk.new _ _ _).setRow _, ⟨ha.turn, ha.mover, ha.phase, ha.result, ?_, ha.next, zeroSV_own _ _, zeroSV_own _ _⟩, by (try unfold Kept); repeat (first | assumption | exact Below.refl _ _ | exact below_undrew (Below.refl _ _) | exact Below.mono (by assumption) (by first | (simp; done) | (simp; omega) | omega) | refine below_setRow ?_ (by first | (simp; done) | (simp; omega) | omega) _ | refine Below.setCell ?_ (by first | (simp; done) | (simp; omega) | omega) _ | refine Below.alloc ?_ (by first | (simp; done) | (simp; omega) | omega) _ | refine below_drewN ?_ _ | refine Below.drew ?_ | refine below_undrew ?_ | refine below_step ?_ (by assumption)), hz2⟩
      exact ((OwnInts.mk' (s := ⟨a', an, c'⟩) (s0 := ⟨aa, an, ac⟩) hown ha.attack rfl).old (by (try unfold Kept); repeat (first | assumption | exact Below.refl _ _ | exact below_undrew (Below.refl _ _) | exact Below.mono (by assumption) (by first | (simp; done) | (simp; omega) | omega) | refine below_setRow ?_ (by first | (simp; done) | (simp; omega) | omega) _ | refine Below.setCell ?_ (by first | (simp; done) | (simp; omega) | omega) _ | refine Below.alloc ?_ (by first | (simp; done) | (simp; omega) | omega) _ | refine below_drewN ?_ _ | refine Below.drew ?_ | refine below_undrew ?_ | refine below_step ?_ (by assumption)))).lower (by first | (simp; done) | (simp; omega) | omega)
    · refine tree_arm rfl (by rfl) (fun K hK => ?_) ?_
      · go_wp2_with fail
        refine hK _ _ (by (try unfold Kept); repeat (first | assumption | exact Below.refl _ _ | exact below_undrew (Below.refl _ _) | exact Below.mono (by assumption) (by first | (simp; done) | (simp; omega) | omega) | refine below_setRow ?_ (by first | (simp; done) | (simp; omega) | omega) _ | refine Below.setCell ?_ (by first | (simp; done) | (simp; omega) | omega) _ | refine Below.alloc ?_ (by first | (simp; done) | (simp; omega) | omega) _ | refine below_drewN ?_ _ | refine Below.drew ?_ | refine below_undrew ?_ | refine below_step ?_ (by assumption))) ?_
        clear hK K
        refine tree_loud rfl rfl (by rfl) (fun K hK => ?_); go_wp2_with fail
        refine (clone_ints aa an ac attack _ (((ha.attack.old hbW).old (Below.refl _ _).drew).old (by (try unfold Kept); repeat (first | assumption | exact Below.refl _ _ | exact below_undrew (Below.refl _ _) | exact Below.mono (by assumption) (by first | (simp; done) | (simp; omega) | omega) | refine below_setRow ?_ (by first | (simp; done) | (simp; omega) | omega) _ | refine Below.setCell ?_ (by first | (simp; done) | (simp; omega) | omega) _ | refine Below.alloc ?_ (by first | (simp; done) | (simp; omega) | omega) _ | refine below_drewN ?_ _ | refine Below.drew ?_ | refine below_undrew ?_ | refine below_step ?_ (by assumption))))).mono ?_
        rintro e w2 ⟨a', c', rfl, hown, hb2⟩
        have hz2 := hb2.size
        simp at hz2
        go_wp2_with fail
        refine hK _ _ (by (try unfold Kept); repeat (first | assumption | exact Below.refl _ _ | exact below_undrew (Below.refl _ _) | exact Below.mono (by assumption) (by first | (simp; done) | (simp; omega) | omega) | refine below_setRow ?_ (by first | (simp; done) | (simp; omega) | omega) _ | refine Below.setCell ?_ (by first | (simp; done) | (simp; omega) | omega) _ | refine Below.alloc ?_ (by first | (simp; done) | (simp; omega) | omega) _ | refine below_drewN ?_ _ | refine Below.drew ?_ | refine below_undrew ?_ | refine below_step ?_ (by assumption))) ?_
        clear hK K
        repeat (first | (refine tree_skip rfl (by rfl) ?_; simp only [Act.put, List.setIfInBounds_toArray, List.set]) | (refine tree_quiet (v := ?_) rfl rfl (by rfl) ?_ ?_; rotate_left; (intro W hW; go_simp); (try with_reducible rfl); simp only [Act.put, List.setIfInBounds_toArray, List.set]))
        have hV := (Blk.new W0 #[.int .i64 0, .int .i64 0, .int .i8 0, .bool false, .int .i8 0, .slice none 0 0, .int .i64 0, .int .i64 0, .int .i64 0, .int .i64 0, .int .i64 0, .int .i64 0, .slice none 0 0, .slice none 0 0, .slice none 0 0, .slice none 0 0, .slice none 0 0, .int .i64 0, .int .i64 0, .int .i64 0, .int .i64 0, .int .i64 0, .slice none 0 0, .slice none 0 0, .slice none 0 0, .slice none 0 0, .slice none 0 0] 41).drew.old hb2
        refine tree_loud rfl rfl (by rfl) (fun K hK => ?_)
        refine wp_store_at 41 viewT (.tmp 8) (.tmp 37) rfl rfl rfl hV rfl (by decide) rfl ?_
        refine hK _ _ (by (try unfold Kept); repeat (first | assumption | exact Below.refl _ _ | exact below_undrew (Below.refl _ _) | exact Below.mono (by assumption) (by first | (simp; done) | (simp; omega) | omega) | refine below_setRow ?_ (by first | (simp; done) | (simp; omega) | omega) _ | refine Below.setCell ?_ (by first | (simp; done) | (simp; omega) | omega) _ | refine Below.alloc ?_ (by first | (simp; done) | (simp; omega) | omega) _ | refine below_drewN ?_ _ | refine Below.drew ?_ | refine below_undrew ?_ | refine below_step ?_ (by assumption))) ?_
        clear hK K
        refine tree_done ?_
        go_wp2_with fail
        go_meet
        refine ⟨W0.heap.size, ⟨⟨a', an, c'⟩, noSVH, noSVH⟩, rfl, hV.setRow _, ⟨ha.turn, ha.mover, ha.phase, ha.result, ?_, ha.next, zeroSV_own _ _, zeroSV_own _ _⟩, by (try unfold Kept); repeat (first | assumption | exact Below.refl _ _ | exact below_undrew (Below.refl _ _) | exact Below.mono (by assumption) (by first | (simp; done) | (simp; omega) | omega) | refine below_setRow ?_ (by first | (simp; done) | (simp; omega) | omega) _ | refine Below.setCell ?_ (by first | (simp; done) | (simp; omega) | omega) _ | refine Below.alloc ?_ (by first | (simp; done) | (simp; omega) | omega) _ | refine below_drewN ?_ _ | refine Below.drew ?_ | refine below_undrew ?_ | refine below_step ?_ (by assumption)), Nat.le_refl _⟩
        exact ((OwnInts.mk' (s := ⟨a', an, c'⟩) (s0 := ⟨aa, an, ac⟩) hown ha.attack rfl).setRow _ _ (by first | (simp; done) | (simp; omega) | omega)).lower (by first | (simp; done) | (simp; omega) | omega)
      · exact tree_nil
  case rest =>
    obtain ⟨g, vh, rfl, hC8, hvo, hbc, hgz⟩ := hcut
    have hgz' := hC8.lt
    have hne4 : w.heap.size + 1 ≠ g := by omega
    have hgw : w.heap.size ≤ g := by omega
    have hD2 := hC2.old hbc
    have hD4 := hC4.old hbc
    have hD6 := hC6.old hbc
    have hD7 := hC7.old hbc
    have hbv : Below w.heap.size w wc := below_step hbW hbc
    clear hC2 hC4 hC6 hC7 hbc
    go_wp2_with (refine wpList_load_part rfl 48 sidesT (.tmp 38) rfl rfl hD2 rfl rfl ?_)
    go_loopg [40] 2 (OfRel w ⟨turn, mover, phase, struck, result, attack, next, ⟨xl, xm, xt, xd, xh, xg, xu, xo⟩, ⟨yl, ym, yt, yd, yh, yg, yu, yo⟩⟩ (n : Int) g [(w.heap.size, _, 50), (w.heap.size + 1, _, 41), (w1.heap.size, _, 71), (w1.heap.size + 1, _, 71)])
    case atStart => exact ⟨0, vh, rfl, rfl, hC8, hvo, by simp only [List.forall_mem_cons]; exact ⟨hD2, hD4, hD6, hD7, fun x hx => by simp at hx⟩, hbv, hgz'⟩
    case round =>
      obtain ⟨k, vh, hk, rfl, hC8, hvo, hbs, hbr, hgz'⟩ := hrel
      simp only [List.forall_mem_cons] at hbs
      obtain ⟨hD2, hD4, hD6, hD7, -⟩ := hbs
      have hrz := hbr.size
      rcases (show k = 0 ∨ k = 1 ∨ k = 2 by omega) with rfl | rfl | rfl
      · simp only [idx]
        have hi0 : ∀ W, (Instr.index 48 (.agg #[.int .i64 xl, .int .i64 xm, .int .i64 xt, .slice xda xd.length xdc, .slice xha xh.length xhc, .slice xga xgn xgc, .slice xua xun xuc, .slice xoa xon xoc, .int .i64 yl, .int .i64 ym, .int .i64 yt, .slice yda yd.length ydc, .slice yha yh.length yhc, .slice yga ygn ygc, .slice yua yun yuc, .slice yoa yon yoc]) (.int .i64 0)).run Try.prog W = .ok (.agg #[.int .i64 xl, .int .i64 xm, .int .i64 xt, .slice xda xd.length xdc, .slice xha xh.length xhc, .slice xga xgn xgc, .slice xua xun xuc, .slice xoa xon xoc]) W := fun _ => by kernel_rfl
        have tH : #[Value.bool true, .bool false, .bool false, .bool true, .bool false, .bool false, .bool true, .bool true][n * 2]? = some (.bool (decide ((n : Int) = 0 ∨ (n : Int) = 3))) := by
          rcases (show n = 0 ∨ n = 1 ∨ n = 2 ∨ n = 3 by omega) with rfl | rfl | rfl | rfl <;> rfl
        have tD : #[Value.bool false, .bool false, .bool false, .bool false, .bool false, .bool false, .bool true, .bool true][n * 2]? = some (.bool (decide ((n : Int) = 3))) := by
          rcases (show n = 0 ∨ n = 1 ∨ n = 2 ∨ n = 3 by omega) with rfl | rfl | rfl | rfl <;> rfl
        go_wp2_with (refine wpList_store_blk rfl 47 sideT (.tmp 10) _ rfl rfl rfl (Blk.new _ _ _) rfl rfl rfl ?_)
        (try simp only [Act.put])
        refine wp_forget (fun W0 => Blk W0 wr.heap.size _ _ ∧ Blk W0 g _ _ ∧ Blk W0 w1.heap.size _ _ ∧ Blk W0 (w1.heap.size + 1) _ _ ∧ Below w.heap.size w W0 ∧ Below wr.heap.size wr W0) ⟨(Blk.new _ _ _).setRow _, hC8.old (by (try unfold Kept); repeat (first | assumption | exact Below.refl _ _ | exact below_undrew (Below.refl _ _) | exact Below.mono (by assumption) (by first | (simp; done) | (simp; omega) | omega) | refine below_setRow ?_ (by first | (simp; done) | (simp; omega) | omega) _ | refine Below.setCell ?_ (by first | (simp; done) | (simp; omega) | omega) _ | refine Below.alloc ?_ (by first | (simp; done) | (simp; omega) | omega) _ | refine below_drewN ?_ _ | refine Below.drew ?_ | refine below_undrew ?_ | refine below_step ?_ (by assumption))), hD6.old (by (try unfold Kept); repeat (first | assumption | exact Below.refl _ _ | exact below_undrew (Below.refl _ _) | exact Below.mono (by assumption) (by first | (simp; done) | (simp; omega) | omega) | refine below_setRow ?_ (by first | (simp; done) | (simp; omega) | omega) _ | refine Below.setCell ?_ (by first | (simp; done) | (simp; omega) | omega) _ | refine Below.alloc ?_ (by first | (simp; done) | (simp; omega) | omega) _ | refine below_drewN ?_ _ | refine Below.drew ?_ | refine below_undrew ?_ | refine below_step ?_ (by assumption))), hD7.old (by (try unfold Kept); repeat (first | assumption | exact Below.refl _ _ | exact below_undrew (Below.refl _ _) | exact Below.mono (by assumption) (by first | (simp; done) | (simp; omega) | omega) | refine below_setRow ?_ (by first | (simp; done) | (simp; omega) | omega) _ | refine Below.setCell ?_ (by first | (simp; done) | (simp; omega) | omega) _ | refine Below.alloc ?_ (by first | (simp; done) | (simp; omega) | omega) _ | refine below_drewN ?_ _ | refine Below.drew ?_ | refine below_undrew ?_ | refine below_step ?_ (by assumption))), by (try unfold Kept); repeat (first | assumption | exact Below.refl _ _ | exact below_undrew (Below.refl _ _) | exact Below.mono (by assumption) (by first | (simp; done) | (simp; omega) | omega) | refine below_setRow ?_ (by first | (simp; done) | (simp; omega) | omega) _ | refine Below.setCell ?_ (by first | (simp; done) | (simp; omega) | omega) _ | refine Below.alloc ?_ (by first | (simp; done) | (simp; omega) | omega) _ | refine below_drewN ?_ _ | refine Below.drew ?_ | refine below_undrew ?_ | refine below_step ?_ (by assumption)), by (try unfold Kept); repeat (first | assumption | exact Below.refl _ _ | exact below_undrew (Below.refl _ _) | exact Below.mono (by assumption) (by first | (simp; done) | (simp; omega) | omega) | refine below_setRow ?_ (by first | (simp; done) | (simp; omega) | omega) _ | refine Below.setCell ?_ (by first | (simp; done) | (simp; omega) | omega) _ | refine Below.alloc ?_ (by first | (simp; done) | (simp; omega) | omega) _ | refine below_drewN ?_ _ | refine Below.drew ?_ | refine below_undrew ?_ | refine below_step ?_ (by assumption))⟩ ?_
        rintro W2 ⟨hE10, hE8, hE6, hE7, hbw2, hbr2⟩
        have hbz2 := hbr2.size
        have hn6 : w1.heap.size ≠ g := hE6.ne hE8 (by decide)
        have hn7 : w1.heap.size + 1 ≠ g := hE7.ne hE8 (by decide)
        have hn10 : wr.heap.size ≠ g := hE10.ne hE8 (by decide)
        have r10 := fun W (hW : But g W2.drew W) => (hE10.drew.but hW hn10).rule
        have r6 := fun W (hW : But g W2.drew W) => ((hE6.drew.but hW hn6).rule (n * 2)).trans tH
        have r7 := fun W (hW : But g W2.drew W) => ((hE7.drew.but hW hn7).rule (n * 2)).trans tD
        clear tH tD hi0
        generalize hH : decide ((n : Int) = 0 ∨ (n : Int) = 3) = bH at r6
        generalize hD : decide ((n : Int) = 3) = bD at r7
        have HH := Lib.hid hH
        have HD := Lib.hid hD
        clear hH hD
        refine wp_region_treeB g (.step 0 (.step 1 (.step 2 (.step 3 (.step 4 (.step 5 (.step 6 (.step 7 (.step 8 (.step 9 (.step 10 (.step 11 (.step 12 (.step 13 (.step 14 (.step 15 (.step 16 (.step 17 (.step 18 (.step 19 (.step 21 (.step 22 (.step 23 (.step 24 (.step 25 (.step 26 (.step 27 (.step 29 (.step 30 (.step 32 (.step 33 (.step 35 (.step 36 (.step 37 (.step 38 (.step 39 (.step 40 (.step 41 (.step 44 (.step 20 (.step 28 (.step 31 (.step 34 (.step 42 (.step 43 (.step 45 (.step 46 .done))))))))))))))))))))))))))))))))))))))))))))))) (by kernel_rfl) (by kernel_rfl) (fun c a d v w h => by cases d <;> exact h) ?_
        repeat (first | (refine tree_skip rfl (by rfl) ?_; simp only [Act.put, List.setIfInBounds_toArray, List.set]) | (refine tree_quiet (v := ?_) rfl rfl (by rfl) ?_ ?_; rotate_left; (intro W hW; go_simp); (try with_reducible rfl); simp only [Act.put, List.setIfInBounds_toArray, List.set]))
        refine tree_loud rfl rfl (by rfl) (fun K hK => ?_); go_wp2_with fail
        refine (some_ints bD xda _ xdc xd _ (ha.x.deck.old hbw2.drew)).mono ?_
        rintro e v1 ⟨s1, rfl, ho1, hb1⟩
        have hbv1 : Below w.heap.size w v1 := below_step hbw2.drew hb1
        have hbu1 : Below W2.heap.size W2 v1 := below_step (Below.refl W2.heap.size W2).drew hb1
        go_wp2_with fail
        refine hK _ _ (But.of hb1) ?_
        clear hK K
        repeat (first | (refine tree_skip rfl (by rfl) ?_; simp only [Act.put, List.setIfInBounds_toArray, List.set]) | (refine tree_quiet (v := ?_) rfl rfl (by rfl) ?_ ?_; rotate_left; (intro W hW; go_simp); (try with_reducible rfl); simp only [Act.put, List.setIfInBounds_toArray, List.set]))
        refine tree_loud rfl rfl (by rfl) (fun K hK => ?_); go_wp2_with fail
        refine (some_ints bH xha _ xhc xh _ (ha.x.hand.old hbv1)).mono ?_
        rintro e v2 ⟨s2, rfl, ho2, hb2⟩
        have hbv2 : Below w.heap.size w v2 := below_step hbv1 hb2
        have hbu2 : Below W2.heap.size W2 v2 := below_step hbu1 hb2
        go_wp2_with fail
        refine hK _ _ (But.of hb2) ?_
        clear hK K
        repeat (first | (refine tree_skip rfl (by rfl) ?_; simp only [Act.put, List.setIfInBounds_toArray, List.set]) | (refine tree_quiet (v := ?_) rfl rfl (by rfl) ?_ ?_; rotate_left; (intro W hW; go_simp); (try with_reducible rfl); simp only [Act.put, List.setIfInBounds_toArray, List.set]))
        refine tree_loud rfl rfl (by rfl) (fun K hK => ?_); go_wp2_with fail
        refine (some_ints true xga _ xgc xg _ (ha.x.grave.old hbv2)).mono ?_
        rintro e v3 ⟨s3, rfl, ho3, hb3⟩
        have hbv3 : Below w.heap.size w v3 := below_step hbv2 hb3
        have hbu3 : Below W2.heap.size W2 v3 := below_step hbu2 hb3
        go_wp2_with fail
        refine hK _ _ (But.of hb3) ?_
        clear hK K
        repeat (first | (refine tree_skip rfl (by rfl) ?_; simp only [Act.put, List.setIfInBounds_toArray, List.set]) | (refine tree_quiet (v := ?_) rfl rfl (by rfl) ?_ ?_; rotate_left; (intro W hW; go_simp); (try with_reducible rfl); simp only [Act.put, List.setIfInBounds_toArray, List.set]))
        refine tree_loud rfl rfl (by rfl) (fun K hK => ?_); go_wp2_with fail
        refine (some_things xua _ xuc xu _ (ha.x.units.old hbv3)).mono ?_
        rintro e v4 ⟨s4, rfl, ho4, hb4⟩
        have hbv4 : Below w.heap.size w v4 := below_step hbv3 hb4
        have hbu4 : Below W2.heap.size W2 v4 := below_step hbu3 hb4
        go_wp2_with fail
        refine hK _ _ (But.of hb4) ?_
        clear hK K
        repeat (first | (refine tree_skip rfl (by rfl) ?_; simp only [Act.put, List.setIfInBounds_toArray, List.set]) | (refine tree_quiet (v := ?_) rfl rfl (by rfl) ?_ ?_; rotate_left; (intro W hW; go_simp); (try with_reducible rfl); simp only [Act.put, List.setIfInBounds_toArray, List.set]))
        refine tree_loud rfl rfl (by rfl) (fun K hK => ?_); go_wp2_with fail
        refine (some_ints bH xoa _ xoc xo _ (ha.x.told.old hbv4)).mono ?_
        rintro e v5 ⟨s5, rfl, ho5, hb5⟩
        have hbv5 : Below w.heap.size w v5 := below_step hbv4 hb5
        have hbu5 : Below W2.heap.size W2 v5 := below_step hbu4 hb5
        go_wp2_with fail
        refine hK _ _ (But.of hb5) ?_
        clear hK K
        repeat (first | (refine tree_skip rfl (by rfl) ?_; simp only [Act.put, List.setIfInBounds_toArray, List.set]) | (refine tree_quiet (v := ?_) rfl rfl (by rfl) ?_ ?_; rotate_left; (intro W hW; go_simp); (try with_reducible rfl); simp only [Act.put, List.setIfInBounds_toArray, List.set]))
        have hF8 := hE8.old hbu5
        have hF2 := (hD2.old hbr2).old hbu5
        have hF4 := (hD4.old hbr2).old hbu5
        have hF6 := hE6.old hbu5
        have hF7 := hE7.old hbu5
        have hb1z := hb1.size
        simp at hb1z
        have hbz3 := below_step hb2 (below_step hb3 (below_step hb4 hb5))
        have hvo5 := (hvo.old hbr2).old hbu5
        have hvz := hbv5.size
        refine tree_loud rfl rfl (by rfl) (fun K hK => ?_)
        refine wp_store_at 38 sideVT (.tmp 89) (.tmp 87) rfl rfl rfl hF8 rfl (by show 7 + 10 ≤ 27; omega) rfl ?_
        refine hK _ _ (But.setRow _ _) ?_
        clear hK K
        refine tree_done ?_
        go_wp2_with fail
        go_roundg 1
        case measure => omega
        case rel =>
          refine ⟨1, { vh with x := ⟨s1, s2, s3, s4, s5⟩ }, rfl, rfl, ?_, ?_, ?_, ?_, ?_⟩
          · have := hF8.setRow (splice (viewCells (vpart ⟨turn, mover, phase, struck, result, attack, next, ⟨xl, xm, xt, xd, xh, xg, xu, xo⟩, ⟨yl, ym, yt, yd, yh, yg, yu, yo⟩⟩ n 0) vh).toArray 7 #[.int .i64 xl, .int .i64 xm, .int .i64 xt, .int .i64 xd.length, .int .i64 xh.length, .slice s1.a s1.n s1.c, .slice s2.a s2.n s2.c, .slice s3.a s3.n s3.c, .slice s4.a s4.n s4.c, .slice s5.a s5.n s5.c])
            exact this
          · have hx : SideVOwn v5 w.heap.size (seenSide ⟨xl, xm, xt, xd, xh, xg, xu, xo⟩ bH bD) ⟨s1, s2, s3, s4, s5⟩ :=
              ⟨ha.x.life, ha.x.mana, ha.x.most, wf_len ha.x.deck, wf_len ha.x.hand, ((((ho1.old hb2).old hb3).old hb4).old hb5).lower (by have := hbw2.size; simp; omega), (((ho2.old hb3).old hb4).old hb5).lower (by have := hbv1.size; omega), ((ho3.old hb4).old hb5).lower (by have := hbv2.size; omega), (ho4.old hb5).lower (by have := hbv3.size; omega), ho5.lower (by have := hbv4.size; omega)⟩
            rw [← HH.out, ← HD.out] at hx
            exact (show ViewOwn v5 w.heap.size (vpart ⟨turn, mover, phase, struck, result, attack, next, ⟨xl, xm, xt, xd, xh, xg, xu, xo⟩, ⟨yl, ym, yt, yd, yh, yg, yu, yo⟩⟩ n 1) { vh with x := ⟨s1, s2, s3, s4, s5⟩ } from { hvo5 with x := hx }).put hF8 (by decide) (by decide) _
          · simp only [List.forall_mem_cons]
            exact ⟨hF2.setRow_other _ _ (hF2.ne hF8 (by decide)), (hF4.setRow_other _ _ hne4), hF6.setRow_other _ _ hn6, hF7.setRow_other _ _ hn7, fun x hx => by simp at hx⟩
          · exact below_setRow hbv5 hgw _
          · simp
            have := hF8.lt
            omega
      · simp only [idx]
        have hi0 : ∀ W, (Instr.index 48 (.agg #[.int .i64 xl, .int .i64 xm, .int .i64 xt, .slice xda xd.length xdc, .slice xha xh.length xhc, .slice xga xgn xgc, .slice xua xun xuc, .slice xoa xon xoc, .int .i64 yl, .int .i64 ym, .int .i64 yt, .slice yda yd.length ydc, .slice yha yh.length yhc, .slice yga ygn ygc, .slice yua yun yuc, .slice yoa yon yoc]) (.int .i64 1)).run Try.prog W = .ok (.agg #[.int .i64 yl, .int .i64 ym, .int .i64 yt, .slice yda yd.length ydc, .slice yha yh.length yhc, .slice yga ygn ygc, .slice yua yun yuc, .slice yoa yon yoc]) W := fun _ => by kernel_rfl
        have tH : #[Value.bool true, .bool false, .bool false, .bool true, .bool false, .bool false, .bool true, .bool true][n * 2 + 1]? = some (.bool (decide ((n : Int) = 1 ∨ (n : Int) = 3))) := by
          rcases (show n = 0 ∨ n = 1 ∨ n = 2 ∨ n = 3 by omega) with rfl | rfl | rfl | rfl <;> rfl
        have tD : #[Value.bool false, .bool false, .bool false, .bool false, .bool false, .bool false, .bool true, .bool true][n * 2 + 1]? = some (.bool (decide ((n : Int) = 3))) := by
          rcases (show n = 0 ∨ n = 1 ∨ n = 2 ∨ n = 3 by omega) with rfl | rfl | rfl | rfl <;> rfl
        go_wp2_with (refine wpList_store_blk rfl 47 sideT (.tmp 10) _ rfl rfl rfl (Blk.new _ _ _) rfl rfl rfl ?_)
        (try simp only [Act.put])
        refine wp_forget (fun W0 => Blk W0 wr.heap.size _ _ ∧ Blk W0 g _ _ ∧ Blk W0 w1.heap.size _ _ ∧ Blk W0 (w1.heap.size + 1) _ _ ∧ Below w.heap.size w W0 ∧ Below wr.heap.size wr W0) ⟨(Blk.new _ _ _).setRow _, hC8.old (by (try unfold Kept); repeat (first | assumption | exact Below.refl _ _ | exact below_undrew (Below.refl _ _) | exact Below.mono (by assumption) (by first | (simp; done) | (simp; omega) | omega) | refine below_setRow ?_ (by first | (simp; done) | (simp; omega) | omega) _ | refine Below.setCell ?_ (by first | (simp; done) | (simp; omega) | omega) _ | refine Below.alloc ?_ (by first | (simp; done) | (simp; omega) | omega) _ | refine below_drewN ?_ _ | refine Below.drew ?_ | refine below_undrew ?_ | refine below_step ?_ (by assumption))), hD6.old (by (try unfold Kept); repeat (first | assumption | exact Below.refl _ _ | exact below_undrew (Below.refl _ _) | exact Below.mono (by assumption) (by first | (simp; done) | (simp; omega) | omega) | refine below_setRow ?_ (by first | (simp; done) | (simp; omega) | omega) _ | refine Below.setCell ?_ (by first | (simp; done) | (simp; omega) | omega) _ | refine Below.alloc ?_ (by first | (simp; done) | (simp; omega) | omega) _ | refine below_drewN ?_ _ | refine Below.drew ?_ | refine below_undrew ?_ | refine below_step ?_ (by assumption))), hD7.old (by (try unfold Kept); repeat (first | assumption | exact Below.refl _ _ | exact below_undrew (Below.refl _ _) | exact Below.mono (by assumption) (by first | (simp; done) | (simp; omega) | omega) | refine below_setRow ?_ (by first | (simp; done) | (simp; omega) | omega) _ | refine Below.setCell ?_ (by first | (simp; done) | (simp; omega) | omega) _ | refine Below.alloc ?_ (by first | (simp; done) | (simp; omega) | omega) _ | refine below_drewN ?_ _ | refine Below.drew ?_ | refine below_undrew ?_ | refine below_step ?_ (by assumption))), by (try unfold Kept); repeat (first | assumption | exact Below.refl _ _ | exact below_undrew (Below.refl _ _) | exact Below.mono (by assumption) (by first | (simp; done) | (simp; omega) | omega) | refine below_setRow ?_ (by first | (simp; done) | (simp; omega) | omega) _ | refine Below.setCell ?_ (by first | (simp; done) | (simp; omega) | omega) _ | refine Below.alloc ?_ (by first | (simp; done) | (simp; omega) | omega) _ | refine below_drewN ?_ _ | refine Below.drew ?_ | refine below_undrew ?_ | refine below_step ?_ (by assumption)), by (try unfold Kept); repeat (first | assumption | exact Below.refl _ _ | exact below_undrew (Below.refl _ _) | exact Below.mono (by assumption) (by first | (simp; done) | (simp; omega) | omega) | refine below_setRow ?_ (by first | (simp; done) | (simp; omega) | omega) _ | refine Below.setCell ?_ (by first | (simp; done) | (simp; omega) | omega) _ | refine Below.alloc ?_ (by first | (simp; done) | (simp; omega) | omega) _ | refine below_drewN ?_ _ | refine Below.drew ?_ | refine below_undrew ?_ | refine below_step ?_ (by assumption))⟩ ?_
        rintro W2 ⟨hE10, hE8, hE6, hE7, hbw2, hbr2⟩
        have hbz2 := hbr2.size
        have hn6 : w1.heap.size ≠ g := hE6.ne hE8 (by decide)
        have hn7 : w1.heap.size + 1 ≠ g := hE7.ne hE8 (by decide)
        have hn10 : wr.heap.size ≠ g := hE10.ne hE8 (by decide)
        have r10 := fun W (hW : But g W2.drew W) => (hE10.drew.but hW hn10).rule
        have r6 := fun W (hW : But g W2.drew W) => ((hE6.drew.but hW hn6).rule (n * 2 + 1)).trans tH
        have r7 := fun W (hW : But g W2.drew W) => ((hE7.drew.but hW hn7).rule (n * 2 + 1)).trans tD
        clear tH tD hi0
        generalize hH : decide ((n : Int) = 1 ∨ (n : Int) = 3) = bH at r6
        generalize hD : decide ((n : Int) = 3) = bD at r7
        have HH := Lib.hid hH
        have HD := Lib.hid hD
        clear hH hD
        refine wp_region_treeB g (.step 0 (.step 1 (.step 2 (.step 3 (.step 4 (.step 5 (.step 6 (.step 7 (.step 8 (.step 9 (.step 10 (.step 11 (.step 12 (.step 13 (.step 14 (.step 15 (.step 16 (.step 17 (.step 18 (.step 19 (.step 21 (.step 22 (.step 23 (.step 24 (.step 25 (.step 26 (.step 27 (.step 29 (.step 30 (.step 32 (.step 33 (.step 35 (.step 36 (.step 37 (.step 38 (.step 39 (.step 40 (.step 41 (.step 44 (.step 20 (.step 28 (.step 31 (.step 34 (.step 42 (.step 43 (.step 45 (.step 46 .done))))))))))))))))))))))))))))))))))))))))))))))) (by kernel_rfl) (by kernel_rfl) (fun c a d v w h => by cases d <;> exact h) ?_
        repeat (first | (refine tree_skip rfl (by rfl) ?_; simp only [Act.put, List.setIfInBounds_toArray, List.set]) | (refine tree_quiet (v := ?_) rfl rfl (by rfl) ?_ ?_; rotate_left; (intro W hW; go_simp); (try with_reducible rfl); simp only [Act.put, List.setIfInBounds_toArray, List.set]))
        refine tree_loud rfl rfl (by rfl) (fun K hK => ?_); go_wp2_with fail
        refine (some_ints bD yda _ ydc yd _ (ha.y.deck.old hbw2.drew)).mono ?_
        rintro e v1 ⟨s1, rfl, ho1, hb1⟩
        have hbv1 : Below w.heap.size w v1 := below_step hbw2.drew hb1
        have hbu1 : Below W2.heap.size W2 v1 := below_step (Below.refl W2.heap.size W2).drew hb1
        go_wp2_with fail
        refine hK _ _ (But.of hb1) ?_
        clear hK K
        repeat (first | (refine tree_skip rfl (by rfl) ?_; simp only [Act.put, List.setIfInBounds_toArray, List.set]) | (refine tree_quiet (v := ?_) rfl rfl (by rfl) ?_ ?_; rotate_left; (intro W hW; go_simp); (try with_reducible rfl); simp only [Act.put, List.setIfInBounds_toArray, List.set]))
        refine tree_loud rfl rfl (by rfl) (fun K hK => ?_); go_wp2_with fail
        refine (some_ints bH yha _ yhc yh _ (ha.y.hand.old hbv1)).mono ?_
        rintro e v2 ⟨s2, rfl, ho2, hb2⟩
        have hbv2 : Below w.heap.size w v2 := below_step hbv1 hb2
        have hbu2 : Below W2.heap.size W2 v2 := below_step hbu1 hb2
        go_wp2_with fail
        refine hK _ _ (But.of hb2) ?_
        clear hK K
        repeat (first | (refine tree_skip rfl (by rfl) ?_; simp only [Act.put, List.setIfInBounds_toArray, List.set]) | (refine tree_quiet (v := ?_) rfl rfl (by rfl) ?_ ?_; rotate_left; (intro W hW; go_simp); (try with_reducible rfl); simp only [Act.put, List.setIfInBounds_toArray, List.set]))
        refine tree_loud rfl rfl (by rfl) (fun K hK => ?_); go_wp2_with fail
        refine (some_ints true yga _ ygc yg _ (ha.y.grave.old hbv2)).mono ?_
        rintro e v3 ⟨s3, rfl, ho3, hb3⟩
        have hbv3 : Below w.heap.size w v3 := below_step hbv2 hb3
        have hbu3 : Below W2.heap.size W2 v3 := below_step hbu2 hb3
        go_wp2_with fail
        refine hK _ _ (But.of hb3) ?_
        clear hK K
        repeat (first | (refine tree_skip rfl (by rfl) ?_; simp only [Act.put, List.setIfInBounds_toArray, List.set]) | (refine tree_quiet (v := ?_) rfl rfl (by rfl) ?_ ?_; rotate_left; (intro W hW; go_simp); (try with_reducible rfl); simp only [Act.put, List.setIfInBounds_toArray, List.set]))
        refine tree_loud rfl rfl (by rfl) (fun K hK => ?_); go_wp2_with fail
        refine (some_things yua _ yuc yu _ (ha.y.units.old hbv3)).mono ?_
        rintro e v4 ⟨s4, rfl, ho4, hb4⟩
        have hbv4 : Below w.heap.size w v4 := below_step hbv3 hb4
        have hbu4 : Below W2.heap.size W2 v4 := below_step hbu3 hb4
        go_wp2_with fail
        refine hK _ _ (But.of hb4) ?_
        clear hK K
        repeat (first | (refine tree_skip rfl (by rfl) ?_; simp only [Act.put, List.setIfInBounds_toArray, List.set]) | (refine tree_quiet (v := ?_) rfl rfl (by rfl) ?_ ?_; rotate_left; (intro W hW; go_simp); (try with_reducible rfl); simp only [Act.put, List.setIfInBounds_toArray, List.set]))
        refine tree_loud rfl rfl (by rfl) (fun K hK => ?_); go_wp2_with fail
        refine (some_ints bH yoa _ yoc yo _ (ha.y.told.old hbv4)).mono ?_
        rintro e v5 ⟨s5, rfl, ho5, hb5⟩
        have hbv5 : Below w.heap.size w v5 := below_step hbv4 hb5
        have hbu5 : Below W2.heap.size W2 v5 := below_step hbu4 hb5
        go_wp2_with fail
        refine hK _ _ (But.of hb5) ?_
        clear hK K
        repeat (first | (refine tree_skip rfl (by rfl) ?_; simp only [Act.put, List.setIfInBounds_toArray, List.set]) | (refine tree_quiet (v := ?_) rfl rfl (by rfl) ?_ ?_; rotate_left; (intro W hW; go_simp); (try with_reducible rfl); simp only [Act.put, List.setIfInBounds_toArray, List.set]))
        have hF8 := hE8.old hbu5
        have hF2 := (hD2.old hbr2).old hbu5
        have hF4 := (hD4.old hbr2).old hbu5
        have hF6 := hE6.old hbu5
        have hF7 := hE7.old hbu5
        have hb1z := hb1.size
        simp at hb1z
        have hbz3 := below_step hb2 (below_step hb3 (below_step hb4 hb5))
        have hvo5 := (hvo.old hbr2).old hbu5
        have hvz := hbv5.size
        refine tree_loud rfl rfl (by rfl) (fun K hK => ?_)
        refine wp_store_at 38 sideVT (.tmp 89) (.tmp 87) rfl rfl rfl hF8 rfl (by show 17 + 10 ≤ 27; omega) rfl ?_
        refine hK _ _ (But.setRow _ _) ?_
        clear hK K
        refine tree_done ?_
        go_wp2_with fail
        go_roundg 0
        case measure => omega
        case rel =>
          refine ⟨2, { vh with y := ⟨s1, s2, s3, s4, s5⟩ }, rfl, rfl, ?_, ?_, ?_, ?_, ?_⟩
          · have := hF8.setRow (splice (viewCells (vpart ⟨turn, mover, phase, struck, result, attack, next, ⟨xl, xm, xt, xd, xh, xg, xu, xo⟩, ⟨yl, ym, yt, yd, yh, yg, yu, yo⟩⟩ n 1) vh).toArray 17 #[.int .i64 yl, .int .i64 ym, .int .i64 yt, .int .i64 yd.length, .int .i64 yh.length, .slice s1.a s1.n s1.c, .slice s2.a s2.n s2.c, .slice s3.a s3.n s3.c, .slice s4.a s4.n s4.c, .slice s5.a s5.n s5.c])
            exact this
          · have hx : SideVOwn v5 w.heap.size (seenSide ⟨yl, ym, yt, yd, yh, yg, yu, yo⟩ bH bD) ⟨s1, s2, s3, s4, s5⟩ :=
              ⟨ha.y.life, ha.y.mana, ha.y.most, wf_len ha.y.deck, wf_len ha.y.hand, ((((ho1.old hb2).old hb3).old hb4).old hb5).lower (by have := hbw2.size; simp; omega), (((ho2.old hb3).old hb4).old hb5).lower (by have := hbv1.size; omega), ((ho3.old hb4).old hb5).lower (by have := hbv2.size; omega), (ho4.old hb5).lower (by have := hbv3.size; omega), ho5.lower (by have := hbv4.size; omega)⟩
            rw [← HH.out, ← HD.out] at hx
            exact (show ViewOwn v5 w.heap.size (vpart ⟨turn, mover, phase, struck, result, attack, next, ⟨xl, xm, xt, xd, xh, xg, xu, xo⟩, ⟨yl, ym, yt, yd, yh, yg, yu, yo⟩⟩ n 2) { vh with y := ⟨s1, s2, s3, s4, s5⟩ } from { hvo5 with y := hx }).put hF8 (by decide) (by decide) _
          · simp only [List.forall_mem_cons]
            exact ⟨hF2.setRow_other _ _ (hF2.ne hF8 (by decide)), (hF4.setRow_other _ _ hne4), hF6.setRow_other _ _ hn6, hF7.setRow_other _ _ hn7, fun x hx => by simp at hx⟩
          · exact below_setRow hbv5 hgw _
          · simp
            have := hF8.lt
            omega
      · simp only [idx]
        go_wp2_with (first | refine wpList_load_blk rfl 41 viewT (.tmp 8) rfl rfl hC8 rfl ?_ | refine wpList_store_blk rfl 41 viewT (.tmp 4) _ rfl rfl rfl hD4 rfl rfl rfl ?_)
        refine post_blk_tmp rfl viewT rfl (hD4.setRow _) rfl rfl rfl ?_
        exact ⟨vh, rfl, hvo.put hD4 (by decide) (by decide) _, by (try unfold Kept); repeat (first | assumption | exact Below.refl _ _ | exact below_undrew (Below.refl _ _) | exact Below.mono (by assumption) (by first | (simp; done) | (simp; omega) | omega) | refine below_setRow ?_ (by first | (simp; done) | (simp; omega) | omega) _ | refine Below.setCell ?_ (by first | (simp; done) | (simp; omega) | omega) _ | refine Below.alloc ?_ (by first | (simp; done) | (simp; omega) | omega) _ | refine below_drewN ?_ _ | refine Below.drew ?_ | refine below_undrew ?_ | refine below_step ?_ (by assumption))⟩
end Go.Proofs.Ytiglljegpdlnmaa
