/- The law's examples of what anybody sees. -/
import Derived.Test.YtiglljegpdlnmaaEvs
import Derived.Test.YtiglljegpdlnmaaOf
namespace Go.Proofs.Ytiglljegpdlnmaa
open Go.RowKit

def evD : EventP := ⟨3, 0, 5, 0, 0, 0, []⟩
def evL : EventP := ⟨9, 1, 0, 0, 0, 0, [4, 7]⟩
def stW : StateP := ⟨0, 0, 0, false, 0, [], 0, ⟨0, 0, 0, [], [], [], [], []⟩, ⟨0, 0, 0, [], [3, 4], [], [], []⟩⟩
theorem noH_at (w : World) (k s c i o n : Int) (h : wf8 k ∧ wf64 s ∧ wf64 c ∧ wf64 i ∧ wf64 o ∧ wf64 n) : EventAt w ⟨k, s, c, i, o, n, []⟩ noH := ⟨h.1, h.2.1, h.2.2.1, h.2.2.2.1, h.2.2.2.2.1, h.2.2.2.2.2, (OwnInts.nil w 0).2⟩
set_option maxRecDepth 100000 in
set_option maxHeartbeats 1000000 in
theorem viewWakes_any (w : World) : Calls Try.prog 8 #[] w fun e w' => e = .returned (.bool true) ∧ Below w.heap.size w w' := by
  go_enter Try.func8, Try.ntmps8
  go_wp2_with fail
  refine (event_any 1 _ evD noH (noH_at _ _ _ _ _ _ _ ⟨rfl, rfl, rfl, rfl, rfl, rfl⟩)).mono ?_
  rw [show seenEv evD 1 = (⟨3, 0, -2, 0, 0, 0, []⟩, true) from rfl]
  rintro e w1 ⟨⟨⟨h1a, h1n, h1c⟩⟩, rfl, ho1, hb1⟩
  simp only [eventVal]
  have hA1 := (Blk.new _ _ _).old hb1
  have hbw1 : Below w.heap.size w w1 := by (try unfold Kept); repeat (first | assumption | exact Below.refl _ _ | exact below_undrew (Below.refl _ _) | exact Below.mono (by assumption) (by first | (simp; done) | (simp; omega) | omega) | refine below_setRow ?_ (by first | (simp; done) | (simp; omega) | omega) _ | refine Below.setCell ?_ (by first | (simp; done) | (simp; omega) | omega) _ | refine Below.alloc ?_ (by first | (simp; done) | (simp; omega) | omega) _ | refine below_drewN ?_ _ | refine Below.drew ?_ | refine below_undrew ?_ | refine below_step ?_ (by assumption))
  have hwz1 := hbw1.size
  go_wp2_with (refine wpList_load_blk rfl 26 eventT (.tmp 1) rfl rfl (hA1.alloc _) rfl ?_)
  refine (event_any 0 _ evD noH (noH_at _ _ _ _ _ _ _ ⟨rfl, rfl, rfl, rfl, rfl, rfl⟩)).mono ?_
  rw [show seenEv evD 0 = (⟨3, 0, 5, 0, 0, 0, []⟩, true) from rfl]
  rintro e w2 ⟨⟨⟨h2a, h2n, h2c⟩⟩, rfl, ho2, hb2⟩
  simp only [eventVal]
  have hA2 := (Blk.new _ _ _).old hb2
  have hbw2 : Below w.heap.size w w2 := by (try unfold Kept); repeat (first | assumption | exact Below.refl _ _ | exact below_undrew (Below.refl _ _) | exact Below.mono (by assumption) (by first | (simp; done) | (simp; omega) | omega) | refine below_setRow ?_ (by first | (simp; done) | (simp; omega) | omega) _ | refine Below.setCell ?_ (by first | (simp; done) | (simp; omega) | omega) _ | refine Below.alloc ?_ (by first | (simp; done) | (simp; omega) | omega) _ | refine below_drewN ?_ _ | refine Below.drew ?_ | refine below_undrew ?_ | refine below_step ?_ (by assumption))
  have hwz2 := hbw2.size
  go_wp2_with fail
  have hL : IntRow (((w2.alloc (.cells #[.int .i8 3, .int .i64 0, .int .i64 5, .int .i64 0, .int .i64 0, .int .i64 0, .slice h2a h2n h2c] 26))).alloc (.cells #[.int .i64 4, .int .i64 7] 3)) (some ⟨w2.heap.size + 1, 0, none⟩) 2 2 [4, 7] :=
    ⟨RowAt.new' _ _ _ _ (by simp), rfl, Nat.le_refl _, by unfold maxLen; omega, by omega, by intro x hx; simp at hx; rcases hx with rfl | rfl <;> rfl⟩
  refine (event_any 0 _ evL ⟨⟨some ⟨w2.heap.size + 1, 0, none⟩, 2, 2⟩⟩ ⟨rfl, rfl, rfl, rfl, rfl, rfl, hL⟩).mono ?_
  rw [show seenEv evL 0 = (zeroEv, false) from rfl]
  rintro e w3 ⟨⟨⟨h3a, h3n, h3c⟩⟩, rfl, ho3, hb3⟩
  simp only [eventVal, zeroEv]
  have hbw3 : Below w.heap.size w w3 := by (try unfold Kept); repeat (first | assumption | exact Below.refl _ _ | exact below_undrew (Below.refl _ _) | exact Below.mono (by assumption) (by first | (simp; done) | (simp; omega) | omega) | refine below_setRow ?_ (by first | (simp; done) | (simp; omega) | omega) _ | refine Below.setCell ?_ (by first | (simp; done) | (simp; omega) | omega) _ | refine Below.alloc ?_ (by first | (simp; done) | (simp; omega) | omega) _ | refine below_drewN ?_ _ | refine Below.drew ?_ | refine below_undrew ?_ | refine below_step ?_ (by assumption))
  have hwz3 := hbw3.size
  have hB1 := (Blk.new _ _ _).old hb2
  have hB2 := ((Blk.new2 _ _ _ _).old hb3)
  go_upto_region 7 with fail
  refine wp_forget (fun W0 => Blk W0 (w3.heap.size + 1) _ _ ∧ IntRow W0 (some ⟨w3.heap.size + 2, 0, none⟩) 2 2 [3, 4] ∧ Blk W0 w1.heap.size _ _ ∧ Blk W0 w2.heap.size _ _ ∧ Below w.heap.size w W0 ∧ w3.heap.size + 2 < W0.heap.size)
    ⟨Blk.new3' _ _ _ _ _, ⟨RowAt.new' _ _ _ _ (by simp), rfl, Nat.le_refl _, by unfold maxLen; omega, by omega, by intro x hx; simp at hx; rcases hx with rfl | rfl <;> rfl⟩, ((hB1.alloc _).alloc _ |>.old hb3).old (by (try unfold Kept); repeat (first | assumption | exact Below.refl _ _ | exact below_undrew (Below.refl _ _) | exact Below.mono (by assumption) (by first | (simp; done) | (simp; omega) | omega) | refine below_setRow ?_ (by first | (simp; done) | (simp; omega) | omega) _ | refine Below.setCell ?_ (by first | (simp; done) | (simp; omega) | omega) _ | refine Below.alloc ?_ (by first | (simp; done) | (simp; omega) | omega) _ | refine below_drewN ?_ _ | refine Below.drew ?_ | refine below_undrew ?_ | refine below_step ?_ (by assumption))), hB2.old (by (try unfold Kept); repeat (first | assumption | exact Below.refl _ _ | exact below_undrew (Below.refl _ _) | exact Below.mono (by assumption) (by first | (simp; done) | (simp; omega) | omega) | refine below_setRow ?_ (by first | (simp; done) | (simp; omega) | omega) _ | refine Below.setCell ?_ (by first | (simp; done) | (simp; omega) | omega) _ | refine Below.alloc ?_ (by first | (simp; done) | (simp; omega) | omega) _ | refine below_drewN ?_ _ | refine Below.drew ?_ | refine below_undrew ?_ | refine below_step ?_ (by assumption))), by (try unfold Kept); repeat (first | assumption | exact Below.refl _ _ | exact below_undrew (Below.refl _ _) | exact Below.mono (by assumption) (by first | (simp; done) | (simp; omega) | omega) | refine below_setRow ?_ (by first | (simp; done) | (simp; omega) | omega) _ | refine Below.setCell ?_ (by first | (simp; done) | (simp; omega) | omega) _ | refine Below.alloc ?_ (by first | (simp; done) | (simp; omega) | omega) _ | refine below_drewN ?_ _ | refine Below.drew ?_ | refine below_undrew ?_ | refine below_step ?_ (by assumption)), by simp⟩ ?_
  rintro W0 ⟨hC8, hR, hC2, hC4, hbW, hzW⟩
  have hstA : ∀ W1, Below W0.heap.size W0 W1 → StateAt W1 stW ⟨⟨none, 0, 0⟩, ⟨⟨none, 0, 0⟩, ⟨none, 0, 0⟩, ⟨none, 0, 0⟩, ⟨none, 0, 0⟩, ⟨none, 0, 0⟩⟩, ⟨⟨none, 0, 0⟩, ⟨some ⟨w3.heap.size + 2, 0, none⟩, 2, 2⟩, ⟨none, 0, 0⟩, ⟨none, 0, 0⟩, ⟨none, 0, 0⟩⟩⟩ := fun W1 h1 =>
    ⟨rfl, rfl, rfl, rfl, (OwnInts.nil W1 0).2, rfl, ⟨rfl, rfl, rfl, (OwnInts.nil W1 0).2, (OwnInts.nil W1 0).2, (OwnInts.nil W1 0).2, (OwnThings.nil W1 0).2, (OwnInts.nil W1 0).2⟩, ⟨rfl, rfl, rfl, (OwnInts.nil W1 0).2, hR.below h1, (OwnInts.nil W1 0).2, (OwnThings.nil W1 0).2, (OwnInts.nil W1 0).2⟩⟩
  clear hb1 hb2 hb3 hbw1 hbw2 hbw3 hA1 hA2 hB1 hB2
  go_wp2_with (refine wpList_load_blk rfl 50 stateT (.tmp 8) rfl rfl hC8 rfl ?_)
  refine (of_any 0 _ stW _ (hstA _ (Below.refl _ _)) ⟨by omega, by omega⟩).mono ?_
  rw [show seen stW 0 = ⟨0, 0, 0, false, 0, [], 0, ⟨0, 0, 0, 0, 0, [], [], [], [], []⟩, ⟨0, 0, 0, 0, 2, [], [], [], [], []⟩⟩ from rfl]
  rintro e w5 ⟨⟨⟨ba, bn, bc⟩, ⟨⟨b1a, b1n, b1c⟩, ⟨b2a, b2n, b2c⟩, ⟨b3a, b3n, b3c⟩, ⟨b4a, b4n, b4c⟩, ⟨b5a, b5n, b5c⟩⟩, ⟨⟨c1a, c1n, c1c⟩, ⟨c2a, c2n, c2c⟩, ⟨c3a, c3n, c3c⟩, ⟨c4a, c4n, c4c⟩, ⟨c5a, c5n, c5c⟩⟩⟩, rfl, hv5, hb5⟩
  obtain rfl : 0 = c2n := hv5.y.hand.2.2.1
  simp only [viewVal]
  go_upto_region 8 with (refine wpList_store_blk rfl 41 viewT (.tmp 9) _ rfl rfl rfl (Blk.new _ _ _) rfl rfl rfl ?_)
  (try simp only [Act.put])
  have hbz5 := hb5.size
  refine wp_forget (fun W1 => Blk W1 w5.heap.size _ _ ∧ Blk W1 (w3.heap.size + 1) _ _ ∧ Blk W1 w1.heap.size _ _ ∧ Blk W1 w2.heap.size _ _ ∧ Below W0.heap.size W0 W1 ∧ w5.heap.size < W1.heap.size)
    ⟨(Blk.new _ _ _).setRow _, (hC8.old hb5).old (by (try unfold Kept); repeat (first | assumption | exact Below.refl _ _ | exact below_undrew (Below.refl _ _) | exact Below.mono (by assumption) (by first | (simp; done) | (simp; omega) | omega) | refine below_setRow ?_ (by first | (simp; done) | (simp; omega) | omega) _ | refine Below.setCell ?_ (by first | (simp; done) | (simp; omega) | omega) _ | refine Below.alloc ?_ (by first | (simp; done) | (simp; omega) | omega) _ | refine below_drewN ?_ _ | refine Below.drew ?_ | refine below_undrew ?_ | refine below_step ?_ (by assumption))), (hC2.old hb5).old (by (try unfold Kept); repeat (first | assumption | exact Below.refl _ _ | exact below_undrew (Below.refl _ _) | exact Below.mono (by assumption) (by first | (simp; done) | (simp; omega) | omega) | refine below_setRow ?_ (by first | (simp; done) | (simp; omega) | omega) _ | refine Below.setCell ?_ (by first | (simp; done) | (simp; omega) | omega) _ | refine Below.alloc ?_ (by first | (simp; done) | (simp; omega) | omega) _ | refine below_drewN ?_ _ | refine Below.drew ?_ | refine below_undrew ?_ | refine below_step ?_ (by assumption))), (hC4.old hb5).old (by (try unfold Kept); repeat (first | assumption | exact Below.refl _ _ | exact below_undrew (Below.refl _ _) | exact Below.mono (by assumption) (by first | (simp; done) | (simp; omega) | omega) | refine below_setRow ?_ (by first | (simp; done) | (simp; omega) | omega) _ | refine Below.setCell ?_ (by first | (simp; done) | (simp; omega) | omega) _ | refine Below.alloc ?_ (by first | (simp; done) | (simp; omega) | omega) _ | refine below_drewN ?_ _ | refine Below.drew ?_ | refine below_undrew ?_ | refine below_step ?_ (by assumption))), by (try unfold Kept); repeat (first | assumption | exact Below.refl _ _ | exact below_undrew (Below.refl _ _) | exact Below.mono (by assumption) (by first | (simp; done) | (simp; omega) | omega) | refine below_setRow ?_ (by first | (simp; done) | (simp; omega) | omega) _ | refine Below.setCell ?_ (by first | (simp; done) | (simp; omega) | omega) _ | refine Below.alloc ?_ (by first | (simp; done) | (simp; omega) | omega) _ | refine below_drewN ?_ _ | refine Below.drew ?_ | refine below_undrew ?_ | refine below_step ?_ (by assumption)), by simp⟩ ?_
  rintro W1 ⟨hD9, hD8, hD2, hD4, hbW1, hzW1⟩
  have hst1 := hstA W1 hbW1
  have hbw1 := below_step hbW hbW1
  clear hb5 hC8 hC2 hC4 hbW hstA hv5 hR ho1 ho2 ho3
  go_wp2_with (refine wpList_load_blk rfl 50 stateT (.tmp 8) rfl rfl hD8 rfl ?_)
  refine (of_any 1 _ stW _ hst1 ⟨by omega, by omega⟩).mono ?_
  rw [show seen stW 1 = ⟨0, 0, 0, false, 0, [], 0, ⟨0, 0, 0, 0, 0, [], [], [], [], []⟩, ⟨0, 0, 0, 0, 2, [], [3, 4], [], [], []⟩⟩ from rfl]
  rintro e w6 ⟨⟨⟨ea, en, ec⟩, ⟨⟨f1a, f1n, f1c⟩, ⟨f2a, f2n, f2c⟩, ⟨f3a, f3n, f3c⟩, ⟨f4a, f4n, f4c⟩, ⟨f5a, f5n, f5c⟩⟩, ⟨⟨g1a, g1n, g1c⟩, ⟨g2a, g2n, g2c⟩, ⟨g3a, g3n, g3c⟩, ⟨g4a, g4n, g4c⟩, ⟨g5a, g5n, g5c⟩⟩⟩, rfl, hv6, hb6⟩
  obtain rfl : 2 = g2n := hv6.y.hand.2.2.1
  simp only [viewVal]
  go_upto_region 9 with (refine wpList_store_blk rfl 41 viewT (.tmp 11) _ rfl rfl rfl (Blk.new _ _ _) rfl rfl rfl ?_)
  (try simp only [Act.put])
  have hbz6 := hb6.size
  refine wp_forget (fun W2 => Blk W2 w6.heap.size _ _ ∧ Blk W2 w5.heap.size _ _ ∧ Blk W2 w1.heap.size _ _ ∧ Blk W2 w2.heap.size _ _ ∧ Below w.heap.size w W2)
    ⟨(Blk.new _ _ _).setRow _, (hD9.old hb6).old (by (try unfold Kept); repeat (first | assumption | exact Below.refl _ _ | exact below_undrew (Below.refl _ _) | exact Below.mono (by assumption) (by first | (simp; done) | (simp; omega) | omega) | refine below_setRow ?_ (by first | (simp; done) | (simp; omega) | omega) _ | refine Below.setCell ?_ (by first | (simp; done) | (simp; omega) | omega) _ | refine Below.alloc ?_ (by first | (simp; done) | (simp; omega) | omega) _ | refine below_drewN ?_ _ | refine Below.drew ?_ | refine below_undrew ?_ | refine below_step ?_ (by assumption))), (hD2.old hb6).old (by (try unfold Kept); repeat (first | assumption | exact Below.refl _ _ | exact below_undrew (Below.refl _ _) | exact Below.mono (by assumption) (by first | (simp; done) | (simp; omega) | omega) | refine below_setRow ?_ (by first | (simp; done) | (simp; omega) | omega) _ | refine Below.setCell ?_ (by first | (simp; done) | (simp; omega) | omega) _ | refine Below.alloc ?_ (by first | (simp; done) | (simp; omega) | omega) _ | refine below_drewN ?_ _ | refine Below.drew ?_ | refine below_undrew ?_ | refine below_step ?_ (by assumption))), (hD4.old hb6).old (by (try unfold Kept); repeat (first | assumption | exact Below.refl _ _ | exact below_undrew (Below.refl _ _) | exact Below.mono (by assumption) (by first | (simp; done) | (simp; omega) | omega) | refine below_setRow ?_ (by first | (simp; done) | (simp; omega) | omega) _ | refine Below.setCell ?_ (by first | (simp; done) | (simp; omega) | omega) _ | refine Below.alloc ?_ (by first | (simp; done) | (simp; omega) | omega) _ | refine below_drewN ?_ _ | refine Below.drew ?_ | refine below_undrew ?_ | refine below_step ?_ (by assumption))), by (try unfold Kept); repeat (first | assumption | exact Below.refl _ _ | exact below_undrew (Below.refl _ _) | exact Below.mono (by assumption) (by first | (simp; done) | (simp; omega) | omega) | refine below_setRow ?_ (by first | (simp; done) | (simp; omega) | omega) _ | refine Below.setCell ?_ (by first | (simp; done) | (simp; omega) | omega) _ | refine Below.alloc ?_ (by first | (simp; done) | (simp; omega) | omega) _ | refine below_drewN ?_ _ | refine Below.drew ?_ | refine below_undrew ?_ | refine below_step ?_ (by assumption))⟩ ?_
  rintro W2 ⟨hE11, hE9, hE2, hE4, hbw2⟩
  have r11 := hE11.rule
  have r9 := hE9.rule
  have r2 := hE2.rule
  have r4 := hE4.rule
  clear hb6 hv6 hD9 hD8 hD2 hD4 hbW1 hst1 hbw1
  go_wp2_with fail
  go_ret
  exact ⟨rfl, hbw2⟩
end Go.Proofs.Ytiglljegpdlnmaa
