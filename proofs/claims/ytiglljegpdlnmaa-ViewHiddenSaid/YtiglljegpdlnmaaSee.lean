/- Events as anybody sees them: the program's and the document's answer. -/
import Derived.Test.YtiglljegpdlnmaaView
namespace Go.Proofs.Ytiglljegpdlnmaa
open Go.RowKit

theorem eventT : AggT Try.prog 26 7 := ⟨⟨_, Try.underlying26, rfl⟩, by kernel_rfl⟩
def zeroEv : EventP := ⟨0, 0, 0, 0, 0, 0, []⟩
def noH : EventH := ⟨⟨none, 0, 0⟩⟩
theorem zeroEv_own (w : World) (B : Nat) : EventOwn w B zeroEv noH := ⟨rfl, rfl, rfl, rfl, rfl, rfl, OwnInts.nil _ _⟩
def seenEv (p : EventP) (who : Int) : EventP × Bool :=
  if who < 0 ∨ 3 < who then (zeroEv, false) else if who = 3 ∨ p.side = who then (p, true) else if p.kind = 9 then (zeroEv, false)
  else if p.kind = 3 ∧ p.card ≠ -1 then ({ p with card := -2 }, true) else (p, true)

def EventSeen (w : World) (r : EventP × Bool) (e : Ending) (w' : World) : Prop :=
  ∃ h' : EventH, e = .returned (.tuple #[eventVal r.1 h', .bool r.2]) ∧ EventOwn w' w.heap.size r.1 h' ∧ Below w.heap.size w w'

section
variable (kind side card id other n : Int) (cards : List Int) (ca : Option Addr) (cn cc : Nat) (who : Int) (w : World)
theorem event_out (h0 : decide (who < 0) = true ∨ decide (who < 0) = false ∧ decide (3 < who) = true) :
    Calls Try.prog 9 #[eventVal ⟨kind, side, card, id, other, n, cards⟩ ⟨⟨ca, cn, cc⟩⟩, .int .i64 who] w (EventSeen w (zeroEv, false)) := by
  unfold eventVal
  dsimp only
  rcases h0 with h0 | ⟨h0, h1⟩
  all_goals
    go_enter Try.func9, Try.ntmps9
    go_wp2_with (refine wpList_store_blk rfl 26 eventT (.tmp 4) _ rfl rfl rfl (Blk.new2' _ _ _ _) rfl rfl rfl ?_)
    refine post_blk_tmp rfl eventT rfl ((Blk.new2' _ _ _ _).setRow _) rfl rfl rfl ?_
    refine ⟨noH, rfl, zeroEv_own _ _, ?_⟩
    (try unfold Kept); repeat (first | assumption | exact Below.refl _ _ | exact below_undrew (Below.refl _ _) | exact Below.mono (by assumption) (by first | (simp; done) | (simp; omega) | omega) | refine below_setRow ?_ (by first | (simp; done) | (simp; omega) | omega) _ | refine Below.setCell ?_ (by first | (simp; done) | (simp; omega) | omega) _ | refine Below.alloc ?_ (by first | (simp; done) | (simp; omega) | omega) _ | refine below_drewN ?_ _ | refine Below.drew ?_ | refine below_undrew ?_ | refine below_step ?_ (by assumption))
theorem event_in (ha : EventAt w ⟨kind, side, card, id, other, n, cards⟩ ⟨⟨ca, cn, cc⟩⟩) (h0 : decide (who < 0) = false) (h1 : decide (3 < who) = false) (h2 : (who == 3) = true ∨ (who == 3) = false ∧ (side == who) = true ∨ (who == 3) = false ∧ (side == who) = false ∧ (kind == 9) = false ∧ ((kind == 3) = false ∨ (kind == 3) = true ∧ (card != -1) = false)) :
    Calls Try.prog 9 #[eventVal ⟨kind, side, card, id, other, n, cards⟩ ⟨⟨ca, cn, cc⟩⟩, .int .i64 who] w (EventSeen w (⟨kind, side, card, id, other, n, cards⟩, true)) := by
  have hl : IntRow w ca cn cc cards := ha.cards
  unfold eventVal
  dsimp only
  rcases h2 with h2 | ⟨h2, h3⟩ | ⟨h2, h3, h4, h5 | ⟨h5, h6⟩⟩
  all_goals
    go_enter Try.func9, Try.ntmps9
    go_wp2_with fail
    refine (clone_ints ca cn cc cards _ (hl.below (by (try unfold Kept); repeat (first | assumption | exact Below.refl _ _ | exact below_undrew (Below.refl _ _) | exact Below.mono (by assumption) (by first | (simp; done) | (simp; omega) | omega) | refine below_setRow ?_ (by first | (simp; done) | (simp; omega) | omega) _ | refine Below.setCell ?_ (by first | (simp; done) | (simp; omega) | omega) _ | refine Below.alloc ?_ (by first | (simp; done) | (simp; omega) | omega) _ | refine below_drewN ?_ _ | refine Below.drew ?_ | refine below_undrew ?_ | refine below_step ?_ (by assumption))))).mono ?_
    rintro e w1 ⟨a', c', rfl, hown, hb⟩
    have hB0 := (Blk.new2 _ _ _ _).old hb
    have hB1 := (Blk.new2' _ _ _ _).old hb
    obtain ⟨hcc, hff⟩ := bcell hb
    have hz : w.heap.size + 1 < w1.heap.size := by have := hb.size; simp at this; omega
    have hS0 := hB0.set 6 (.slice a' cn c')
    have hS1 := hB1.other ⟨w.heap.size, 6, none⟩ (.slice a' cn c') (by simp)
    go_wp2_with (first | refine wpList_load_blk rfl 26 eventT (.tmp 2) rfl rfl hS0 rfl ?_ | refine wpList_store_blk rfl 26 eventT (.tmp 4) _ rfl rfl rfl hS1 rfl rfl rfl ?_)
    refine post_blk_tmp rfl eventT rfl (hS1.setRow _) rfl rfl rfl ?_
    refine ⟨⟨⟨a', cn, c'⟩⟩, rfl, ⟨ha.kind, ha.side, ha.card, ha.id, ha.other, ha.n, ?_⟩, ?_⟩
    · exact (((OwnInts.mk' (s := ⟨a', cn, c'⟩) (s0 := ⟨ca, cn, cc⟩) hown hl rfl).set _ _ (by first | (simp; done) | (simp; omega) | omega)).setRow _ _ (by first | (simp; done) | (simp; omega) | omega)).lower (by first | (simp; done) | (simp; omega) | omega)
    · (try unfold Kept); repeat (first | assumption | exact Below.refl _ _ | exact below_undrew (Below.refl _ _) | exact Below.mono (by assumption) (by first | (simp; done) | (simp; omega) | omega) | refine below_setRow ?_ (by first | (simp; done) | (simp; omega) | omega) _ | refine Below.setCell ?_ (by first | (simp; done) | (simp; omega) | omega) _ | refine Below.alloc ?_ (by first | (simp; done) | (simp; omega) | omega) _ | refine below_drewN ?_ _ | refine Below.drew ?_ | refine below_undrew ?_ | refine below_step ?_ (by assumption))
theorem event_look (ha : EventAt w ⟨kind, side, card, id, other, n, cards⟩ ⟨⟨ca, cn, cc⟩⟩) (h0 : decide (who < 0) = false) (h1 : decide (3 < who) = false) (h2 : (who == 3) = false) (h3 : (side == who) = false) (h4 : (kind == 9) = true) :
    Calls Try.prog 9 #[eventVal ⟨kind, side, card, id, other, n, cards⟩ ⟨⟨ca, cn, cc⟩⟩, .int .i64 who] w (EventSeen w (zeroEv, false)) := by
  have hl : IntRow w ca cn cc cards := ha.cards
  unfold eventVal
  dsimp only
  go_enter Try.func9, Try.ntmps9
  go_wp2_with fail
  refine (clone_ints ca cn cc cards _ (hl.below (by (try unfold Kept); repeat (first | assumption | exact Below.refl _ _ | exact below_undrew (Below.refl _ _) | exact Below.mono (by assumption) (by first | (simp; done) | (simp; omega) | omega) | refine below_setRow ?_ (by first | (simp; done) | (simp; omega) | omega) _ | refine Below.setCell ?_ (by first | (simp; done) | (simp; omega) | omega) _ | refine Below.alloc ?_ (by first | (simp; done) | (simp; omega) | omega) _ | refine below_drewN ?_ _ | refine Below.drew ?_ | refine below_undrew ?_ | refine below_step ?_ (by assumption))))).mono ?_
  rintro e w1 ⟨a', c', rfl, hown, hb⟩
  have hB0 := (Blk.new2 _ _ _ _).old hb
  have hB1 := (Blk.new2' _ _ _ _).old hb
  obtain ⟨hcc, hff⟩ := bcell hb
  have hz : w.heap.size + 1 < w1.heap.size := by have := hb.size; simp at this; omega
  have hS0 := hB0.set 6 (.slice a' cn c')
  have hS1 := hB1.other ⟨w.heap.size, 6, none⟩ (.slice a' cn c') (by simp)
  go_wp2_with (first | refine wpList_load_blk rfl 26 eventT (.tmp 2) rfl rfl hS0 rfl ?_ | refine wpList_store_blk rfl 26 eventT (.tmp 4) _ rfl rfl rfl hS1 rfl rfl rfl ?_)
  refine post_blk_tmp rfl eventT rfl (hS1.setRow _) rfl rfl rfl ?_
  refine ⟨noH, rfl, zeroEv_own _ _, ?_⟩
  (try unfold Kept); repeat (first | assumption | exact Below.refl _ _ | exact below_undrew (Below.refl _ _) | exact Below.mono (by assumption) (by first | (simp; done) | (simp; omega) | omega) | refine below_setRow ?_ (by first | (simp; done) | (simp; omega) | omega) _ | refine Below.setCell ?_ (by first | (simp; done) | (simp; omega) | omega) _ | refine Below.alloc ?_ (by first | (simp; done) | (simp; omega) | omega) _ | refine below_drewN ?_ _ | refine Below.drew ?_ | refine below_undrew ?_ | refine below_step ?_ (by assumption))
set_option maxHeartbeats 400000 in
theorem event_hid (ha : EventAt w ⟨kind, side, card, id, other, n, cards⟩ ⟨⟨ca, cn, cc⟩⟩) (h0 : decide (who < 0) = false) (h1 : decide (3 < who) = false) (h2 : (who == 3) = false) (h3 : (side == who) = false) (h4 : (kind == 9) = false) (h5 : (kind == 3) = true) (h6 : (card != -1) = true) :
    Calls Try.prog 9 #[eventVal ⟨kind, side, card, id, other, n, cards⟩ ⟨⟨ca, cn, cc⟩⟩, .int .i64 who] w (EventSeen w (⟨kind, side, -2, id, other, n, cards⟩, true)) := by
  have hl : IntRow w ca cn cc cards := ha.cards
  unfold eventVal
  dsimp only
  go_enter Try.func9, Try.ntmps9
  go_wp2_with fail
  refine (clone_ints ca cn cc cards _ (hl.below (by (try unfold Kept); repeat (first | assumption | exact Below.refl _ _ | exact below_undrew (Below.refl _ _) | exact Below.mono (by assumption) (by first | (simp; done) | (simp; omega) | omega) | refine below_setRow ?_ (by first | (simp; done) | (simp; omega) | omega) _ | refine Below.setCell ?_ (by first | (simp; done) | (simp; omega) | omega) _ | refine Below.alloc ?_ (by first | (simp; done) | (simp; omega) | omega) _ | refine below_drewN ?_ _ | refine Below.drew ?_ | refine below_undrew ?_ | refine below_step ?_ (by assumption))))).mono ?_
  rintro e w1 ⟨a', c', rfl, hown, hb⟩
  have hB0 := (Blk.new2 _ _ _ _).old hb
  have hB1 := (Blk.new2' _ _ _ _).old hb
  obtain ⟨hcc, hff⟩ := bcell hb
  have hz : w.heap.size + 1 < w1.heap.size := by have := hb.size; simp at this; omega
  have hS0 := hB0.set 6 (.slice a' cn c')
  have hS1 := hB1.other ⟨w.heap.size, 6, none⟩ (.slice a' cn c') (by simp)
  have hT0 := hS0.set 2 (.int .i64 (-2))
  have hT1 := hS1.other ⟨w.heap.size, 2, none⟩ (.int .i64 (-2)) (by simp)
  go_wp2_with (first | refine wpList_load_blk rfl 26 eventT (.tmp 2) rfl rfl hT0 rfl ?_ | refine wpList_store_blk rfl 26 eventT (.tmp 4) _ rfl rfl rfl hT1 rfl rfl rfl ?_)
  refine post_blk_tmp rfl eventT rfl (hT1.setRow _) rfl rfl rfl ?_
  refine ⟨⟨⟨a', cn, c'⟩⟩, rfl, ⟨ha.kind, ha.side, rfl, ha.id, ha.other, ha.n, ?_⟩, ?_⟩
  · exact ((((OwnInts.mk' (s := ⟨a', cn, c'⟩) (s0 := ⟨ca, cn, cc⟩) hown hl rfl).set _ _ (by first | (simp; done) | (simp; omega) | omega)).set _ _ (by first | (simp; done) | (simp; omega) | omega)).setRow _ _ (by first | (simp; done) | (simp; omega) | omega)).lower (by first | (simp; done) | (simp; omega) | omega)
  · (try unfold Kept); repeat (first | assumption | exact Below.refl _ _ | exact below_undrew (Below.refl _ _) | exact Below.mono (by assumption) (by first | (simp; done) | (simp; omega) | omega) | refine below_setRow ?_ (by first | (simp; done) | (simp; omega) | omega) _ | refine Below.setCell ?_ (by first | (simp; done) | (simp; omega) | omega) _ | refine Below.alloc ?_ (by first | (simp; done) | (simp; omega) | omega) _ | refine below_drewN ?_ _ | refine Below.drew ?_ | refine below_undrew ?_ | refine below_step ?_ (by assumption))
theorem event_any (p : EventP) (h : EventH) (ha : EventAt w p h) : Calls Try.prog 9 #[eventVal p h, .int .i64 who] w (EventSeen w (seenEv p who)) := by
  obtain ⟨kind, side, card, id, other, n, cards⟩ := p
  obtain ⟨⟨ca, cn, cc⟩⟩ := h
  unfold seenEv
  by_cases h0 : who < 0 ∨ 3 < who
  · rw [if_pos h0]
    exact event_out _ _ _ _ _ _ _ _ _ _ _ _ (by by_cases a : who < 0 <;> simp [a] <;> omega)
  · rw [if_neg h0]
    by_cases h1 : who = 3 ∨ side = who
    · rw [if_pos h1]
      exact event_in _ _ _ _ _ _ _ _ _ _ _ _ ha (by simp; omega) (by simp; omega) (by by_cases a : who = 3 <;> simp [a] <;> (rcases h1 with h | h <;> simp_all))
    · rw [if_neg h1]
      have e1 : (who == 3) = false := by simp; omega
      have e2 : (side == who) = false := by simp; omega
      by_cases h2 : kind = 9
      · rw [if_pos h2]
        exact event_look _ _ _ _ _ _ _ _ _ _ _ _ ha (by simp; omega) (by simp; omega) e1 e2 (by simp [h2])
      · rw [if_neg h2]
        by_cases h3 : kind = 3 ∧ card ≠ -1
        · rw [if_pos h3]
          exact event_hid _ _ _ _ _ _ _ _ _ _ _ _ ha (by simp; omega) (by simp; omega) e1 e2 (by simp [h2]) (by simp [h3.1]) (by simp [h3.2])
        · rw [if_neg h3]
          refine event_in _ _ _ _ _ _ _ _ _ _ _ _ ha (by simp; omega) (by simp; omega) (.inr (.inr ⟨e1, e2, by simp [h2], ?_⟩))
          by_cases a : kind = 3 <;> simp [a] <;> (first | omega | simp_all)
theorem seenEvent_out (h0 : decide (who < 0) = true ∨ decide (who < 0) = false ∧ decide (3 < who) = true) :
    Calls Try.prog 26 #[eventVal ⟨kind, side, card, id, other, n, cards⟩ ⟨⟨ca, cn, cc⟩⟩, .int .i64 who] w (EventSeen w (zeroEv, false)) := by
  unfold eventVal
  dsimp only
  rcases h0 with h0 | ⟨h0, h1⟩
  all_goals
    go_enter Try.func26, Try.ntmps26
    go_wp2_with (refine wpList_store_blk rfl 26 eventT (.tmp 4) _ rfl rfl rfl (Blk.new2' _ _ _ _) rfl rfl rfl ?_)
    refine post_blk_tmp rfl eventT rfl ((Blk.new2' _ _ _ _).setRow _) rfl rfl rfl ?_
    refine ⟨noH, rfl, zeroEv_own _ _, ?_⟩
    (try unfold Kept); repeat (first | assumption | exact Below.refl _ _ | exact below_undrew (Below.refl _ _) | exact Below.mono (by assumption) (by first | (simp; done) | (simp; omega) | omega) | refine below_setRow ?_ (by first | (simp; done) | (simp; omega) | omega) _ | refine Below.setCell ?_ (by first | (simp; done) | (simp; omega) | omega) _ | refine Below.alloc ?_ (by first | (simp; done) | (simp; omega) | omega) _ | refine below_drewN ?_ _ | refine Below.drew ?_ | refine below_undrew ?_ | refine below_step ?_ (by assumption))
theorem seenEvent_in (ha : EventAt w ⟨kind, side, card, id, other, n, cards⟩ ⟨⟨ca, cn, cc⟩⟩) (h0 : decide (who < 0) = false) (h1 : decide (3 < who) = false) (h2 : (who == 3) = true ∨ (who == 3) = false ∧ (side == who) = true ∨ (who == 3) = false ∧ (side == who) = false ∧ (kind == 9) = false ∧ ((kind == 3) = false ∨ (kind == 3) = true ∧ (card != -1) = false)) :
    Calls Try.prog 26 #[eventVal ⟨kind, side, card, id, other, n, cards⟩ ⟨⟨ca, cn, cc⟩⟩, .int .i64 who] w (EventSeen w (⟨kind, side, card, id, other, n, cards⟩, true)) := by
  have hl : IntRow w ca cn cc cards := ha.cards
  unfold eventVal
  dsimp only
  rcases h2 with h2 | ⟨h2, h3⟩ | ⟨h2, h3, h4, h5 | ⟨h5, h6⟩⟩
  all_goals
    go_enter Try.func26, Try.ntmps26
    go_wp2_with fail
    refine (row_any ca cn cc cards _ (hl.below (by (try unfold Kept); repeat (first | assumption | exact Below.refl _ _ | exact below_undrew (Below.refl _ _) | exact Below.mono (by assumption) (by first | (simp; done) | (simp; omega) | omega) | refine below_setRow ?_ (by first | (simp; done) | (simp; omega) | omega) _ | refine Below.setCell ?_ (by first | (simp; done) | (simp; omega) | omega) _ | refine Below.alloc ?_ (by first | (simp; done) | (simp; omega) | omega) _ | refine below_drewN ?_ _ | refine Below.drew ?_ | refine below_undrew ?_ | refine below_step ?_ (by assumption))))).mono ?_
    rintro e w1 ⟨a', c', rfl, hown, hb⟩
    have hB0 := (Blk.new3'' _ _ _ _ _).old hb
    have hB1 := (Blk.new3' _ _ _ _ _).old hb
    obtain ⟨hcc, hff⟩ := bcell hb
    have hz : w.heap.size + 2 < w1.heap.size := by have := hb.size; simp at this; omega
    have hS0 := hB0.set 6 (.slice a' cn c')
    have hS1 := hB1.other ⟨w.heap.size + 2, 6, none⟩ (.slice a' cn c') (by simp)
    go_wp2_with (first | refine wpList_load_blk rfl 26 eventT (.tmp 6) rfl rfl hS0 rfl ?_ | refine wpList_store_blk rfl 26 eventT (.tmp 4) _ rfl rfl rfl hS1 rfl rfl rfl ?_)
    refine post_blk_tmp rfl eventT rfl (hS1.setRow _) rfl rfl rfl ?_
    refine ⟨⟨⟨a', cn, c'⟩⟩, rfl, ⟨ha.kind, ha.side, ha.card, ha.id, ha.other, ha.n, ?_⟩, ?_⟩
    · exact (((OwnInts.mk' (s := ⟨a', cn, c'⟩) (s0 := ⟨ca, cn, cc⟩) hown hl rfl).set _ _ (by first | (simp; done) | (simp; omega) | omega)).setRow _ _ (by first | (simp; done) | (simp; omega) | omega)).lower (by first | (simp; done) | (simp; omega) | omega)
    · (try unfold Kept); repeat (first | assumption | exact Below.refl _ _ | exact below_undrew (Below.refl _ _) | exact Below.mono (by assumption) (by first | (simp; done) | (simp; omega) | omega) | refine below_setRow ?_ (by first | (simp; done) | (simp; omega) | omega) _ | refine Below.setCell ?_ (by first | (simp; done) | (simp; omega) | omega) _ | refine Below.alloc ?_ (by first | (simp; done) | (simp; omega) | omega) _ | refine below_drewN ?_ _ | refine Below.drew ?_ | refine below_undrew ?_ | refine below_step ?_ (by assumption))
theorem seenEvent_look (ha : EventAt w ⟨kind, side, card, id, other, n, cards⟩ ⟨⟨ca, cn, cc⟩⟩) (h0 : decide (who < 0) = false) (h1 : decide (3 < who) = false) (h2 : (who == 3) = false) (h3 : (side == who) = false) (h4 : (kind == 9) = true) :
    Calls Try.prog 26 #[eventVal ⟨kind, side, card, id, other, n, cards⟩ ⟨⟨ca, cn, cc⟩⟩, .int .i64 who] w (EventSeen w (zeroEv, false)) := by
  have hl : IntRow w ca cn cc cards := ha.cards
  unfold eventVal
  dsimp only
  go_enter Try.func26, Try.ntmps26
  go_wp2_with fail
  refine (row_any ca cn cc cards _ (hl.below (by (try unfold Kept); repeat (first | assumption | exact Below.refl _ _ | exact below_undrew (Below.refl _ _) | exact Below.mono (by assumption) (by first | (simp; done) | (simp; omega) | omega) | refine below_setRow ?_ (by first | (simp; done) | (simp; omega) | omega) _ | refine Below.setCell ?_ (by first | (simp; done) | (simp; omega) | omega) _ | refine Below.alloc ?_ (by first | (simp; done) | (simp; omega) | omega) _ | refine below_drewN ?_ _ | refine Below.drew ?_ | refine below_undrew ?_ | refine below_step ?_ (by assumption))))).mono ?_
  rintro e w1 ⟨a', c', rfl, hown, hb⟩
  have hB0 := (Blk.new3'' _ _ _ _ _).old hb
  have hB1 := (Blk.new3' _ _ _ _ _).old hb
  obtain ⟨hcc, hff⟩ := bcell hb
  have hz : w.heap.size + 2 < w1.heap.size := by have := hb.size; simp at this; omega
  have hS0 := hB0.set 6 (.slice a' cn c')
  have hS1 := hB1.other ⟨w.heap.size + 2, 6, none⟩ (.slice a' cn c') (by simp)
  go_wp2_with (first | refine wpList_load_blk rfl 26 eventT (.tmp 6) rfl rfl hS0 rfl ?_ | refine wpList_store_blk rfl 26 eventT (.tmp 4) _ rfl rfl rfl hS1 rfl rfl rfl ?_)
  refine post_blk_tmp rfl eventT rfl (hS1.setRow _) rfl rfl rfl ?_
  refine ⟨noH, rfl, zeroEv_own _ _, ?_⟩
  (try unfold Kept); repeat (first | assumption | exact Below.refl _ _ | exact below_undrew (Below.refl _ _) | exact Below.mono (by assumption) (by first | (simp; done) | (simp; omega) | omega) | refine below_setRow ?_ (by first | (simp; done) | (simp; omega) | omega) _ | refine Below.setCell ?_ (by first | (simp; done) | (simp; omega) | omega) _ | refine Below.alloc ?_ (by first | (simp; done) | (simp; omega) | omega) _ | refine below_drewN ?_ _ | refine Below.drew ?_ | refine below_undrew ?_ | refine below_step ?_ (by assumption))
set_option maxHeartbeats 400000 in
theorem seenEvent_hid (ha : EventAt w ⟨kind, side, card, id, other, n, cards⟩ ⟨⟨ca, cn, cc⟩⟩) (h0 : decide (who < 0) = false) (h1 : decide (3 < who) = false) (h2 : (who == 3) = false) (h3 : (side == who) = false) (h4 : (kind == 9) = false) (h5 : (kind == 3) = true) (h6 : (card != -1) = true) :
    Calls Try.prog 26 #[eventVal ⟨kind, side, card, id, other, n, cards⟩ ⟨⟨ca, cn, cc⟩⟩, .int .i64 who] w (EventSeen w (⟨kind, side, -2, id, other, n, cards⟩, true)) := by
  have hl : IntRow w ca cn cc cards := ha.cards
  unfold eventVal
  dsimp only
  go_enter Try.func26, Try.ntmps26
  go_wp2_with fail
  refine (row_any ca cn cc cards _ (hl.below (by (try unfold Kept); repeat (first | assumption | exact Below.refl _ _ | exact below_undrew (Below.refl _ _) | exact Below.mono (by assumption) (by first | (simp; done) | (simp; omega) | omega) | refine below_setRow ?_ (by first | (simp; done) | (simp; omega) | omega) _ | refine Below.setCell ?_ (by first | (simp; done) | (simp; omega) | omega) _ | refine Below.alloc ?_ (by first | (simp; done) | (simp; omega) | omega) _ | refine below_drewN ?_ _ | refine Below.drew ?_ | refine below_undrew ?_ | refine below_step ?_ (by assumption))))).mono ?_
  rintro e w1 ⟨a', c', rfl, hown, hb⟩
  have hB0 := (Blk.new3'' _ _ _ _ _).old hb
  have hB1 := (Blk.new3' _ _ _ _ _).old hb
  obtain ⟨hcc, hff⟩ := bcell hb
  have hz : w.heap.size + 2 < w1.heap.size := by have := hb.size; simp at this; omega
  have hS0 := hB0.set 6 (.slice a' cn c')
  have hS1 := hB1.other ⟨w.heap.size + 2, 6, none⟩ (.slice a' cn c') (by simp)
  have hT0 := hS0.set 2 (.int .i64 (-2))
  have hT1 := hS1.other ⟨w.heap.size + 2, 2, none⟩ (.int .i64 (-2)) (by simp)
  go_wp2_with (first | refine wpList_load_blk rfl 26 eventT (.tmp 6) rfl rfl hT0 rfl ?_ | refine wpList_store_blk rfl 26 eventT (.tmp 4) _ rfl rfl rfl hT1 rfl rfl rfl ?_)
  refine post_blk_tmp rfl eventT rfl (hT1.setRow _) rfl rfl rfl ?_
  refine ⟨⟨⟨a', cn, c'⟩⟩, rfl, ⟨ha.kind, ha.side, rfl, ha.id, ha.other, ha.n, ?_⟩, ?_⟩
  · exact ((((OwnInts.mk' (s := ⟨a', cn, c'⟩) (s0 := ⟨ca, cn, cc⟩) hown hl rfl).set _ _ (by first | (simp; done) | (simp; omega) | omega)).set _ _ (by first | (simp; done) | (simp; omega) | omega)).setRow _ _ (by first | (simp; done) | (simp; omega) | omega)).lower (by first | (simp; done) | (simp; omega) | omega)
  · (try unfold Kept); repeat (first | assumption | exact Below.refl _ _ | exact below_undrew (Below.refl _ _) | exact Below.mono (by assumption) (by first | (simp; done) | (simp; omega) | omega) | refine below_setRow ?_ (by first | (simp; done) | (simp; omega) | omega) _ | refine Below.setCell ?_ (by first | (simp; done) | (simp; omega) | omega) _ | refine Below.alloc ?_ (by first | (simp; done) | (simp; omega) | omega) _ | refine below_drewN ?_ _ | refine Below.drew ?_ | refine below_undrew ?_ | refine below_step ?_ (by assumption))
theorem seenEvent_any (p : EventP) (h : EventH) (ha : EventAt w p h) : Calls Try.prog 26 #[eventVal p h, .int .i64 who] w (EventSeen w (seenEv p who)) := by
  obtain ⟨kind, side, card, id, other, n, cards⟩ := p
  obtain ⟨⟨ca, cn, cc⟩⟩ := h
  unfold seenEv
  by_cases h0 : who < 0 ∨ 3 < who
  · rw [if_pos h0]
    exact seenEvent_out _ _ _ _ _ _ _ _ _ _ _ _ (by by_cases a : who < 0 <;> simp [a] <;> omega)
  · rw [if_neg h0]
    by_cases h1 : who = 3 ∨ side = who
    · rw [if_pos h1]
      exact seenEvent_in _ _ _ _ _ _ _ _ _ _ _ _ ha (by simp; omega) (by simp; omega) (by by_cases a : who = 3 <;> simp [a] <;> (rcases h1 with h | h <;> simp_all))
    · rw [if_neg h1]
      have e1 : (who == 3) = false := by simp; omega
      have e2 : (side == who) = false := by simp; omega
      by_cases h2 : kind = 9
      · rw [if_pos h2]
        exact seenEvent_look _ _ _ _ _ _ _ _ _ _ _ _ ha (by simp; omega) (by simp; omega) e1 e2 (by simp [h2])
      · rw [if_neg h2]
        by_cases h3 : kind = 3 ∧ card ≠ -1
        · rw [if_pos h3]
          exact seenEvent_hid _ _ _ _ _ _ _ _ _ _ _ _ ha (by simp; omega) (by simp; omega) e1 e2 (by simp [h2]) (by simp [h3.1]) (by simp [h3.2])
        · rw [if_neg h3]
          refine seenEvent_in _ _ _ _ _ _ _ _ _ _ _ _ ha (by simp; omega) (by simp; omega) (.inr (.inr ⟨e1, e2, by simp [h2], ?_⟩))
          by_cases a : kind = 3 <;> simp [a] <;> (first | omega | simp_all)
end
theorem refEvent_any (p : EventP) (h : EventH) (who : Int) (w : World) (ha : EventAt w p h) : Calls Try.prog 10 #[eventVal p h, .int .i64 who] w (EventSeen w (seenEv p who)) := by
  obtain ⟨kind, side, card, id, other, n, cards⟩ := p
  obtain ⟨⟨ca, cn, cc⟩⟩ := h
  have key := fun (w1 : World) (hb : Below w.heap.size w w1) => seenEvent_any who w1 ⟨kind, side, card, id, other, n, cards⟩ ⟨⟨ca, cn, cc⟩⟩ (ha.old hb)
  generalize seenEv ⟨kind, side, card, id, other, n, cards⟩ who = r at *
  unfold eventVal at *
  dsimp only at *
  go_enter Try.func10, Try.ntmps10
  go_wp2_with (refine wpList_load_blk rfl 26 eventT (.tmp 2) rfl rfl (Blk.new2 _ _ _ _) rfl ?_)
  refine (key _ (by (try unfold Kept); repeat (first | assumption | exact Below.refl _ _ | exact below_undrew (Below.refl _ _) | exact Below.mono (by assumption) (by first | (simp; done) | (simp; omega) | omega) | refine below_setRow ?_ (by first | (simp; done) | (simp; omega) | omega) _ | refine Below.setCell ?_ (by first | (simp; done) | (simp; omega) | omega) _ | refine Below.alloc ?_ (by first | (simp; done) | (simp; omega) | omega) _ | refine below_drewN ?_ _ | refine Below.drew ?_ | refine below_undrew ?_ | refine below_step ?_ (by assumption)))).mono ?_
  rintro e w1 ⟨h', rfl, ha', hb⟩
  have hB1 := (Blk.new2' _ _ _ _).old hb
  obtain ⟨⟨kind', side', card', id', other', n', cards'⟩, ok⟩ := r
  obtain ⟨⟨ca', cn', cc'⟩⟩ := h'
  go_wp2_with (refine wpList_store_blk rfl 26 eventT (.tmp 4) _ rfl rfl rfl hB1 rfl rfl rfl ?_)
  refine post_blk_tmp rfl eventT rfl (hB1.setRow _) rfl rfl rfl ?_
  refine ⟨⟨⟨ca', cn', cc'⟩⟩, rfl, ?_, ?_⟩
  · exact (ha'.setRow _ _ (by first | (simp; done) | (simp; omega) | omega)).lower (by first | (simp; done) | (simp; omega) | omega)
  · (try unfold Kept); repeat (first | assumption | exact Below.refl _ _ | exact below_undrew (Below.refl _ _) | exact Below.mono (by assumption) (by first | (simp; done) | (simp; omega) | omega) | refine below_setRow ?_ (by first | (simp; done) | (simp; omega) | omega) _ | refine Below.setCell ?_ (by first | (simp; done) | (simp; omega) | omega) _ | refine Below.alloc ?_ (by first | (simp; done) | (simp; omega) | omega) _ | refine below_drewN ?_ _ | refine Below.drew ?_ | refine below_undrew ?_ | refine below_step ?_ (by assumption))

theorem EventP.eq_iff (k s c i o n k' s' c' i' o' n' : Int) (l l' : List Int) : ((⟨k, s, c, i, o, n, l⟩ : EventP) = ⟨k', s', c', i', o', n', l'⟩) ↔ k = k' ∧ s = s' ∧ c = c' ∧ i = i' ∧ o = o' ∧ n = n' ∧ l = l' := by simp
set_option maxHeartbeats 800000 in
theorem sameEvent_any (p q : EventP) (h g : EventH) (w : World) (hp : EventAt w p h) (hq : EventAt w q g) :
    Calls Try.prog 27 #[eventVal p h, eventVal q g] w fun e w' => e = .returned (.bool (decide (p = q))) ∧ Below w.heap.size w w' := by
  obtain ⟨k, s, c, i, o, n, l⟩ := p
  obtain ⟨k', s', c', i', o', n', l'⟩ := q
  obtain ⟨⟨ca, cn, cc⟩⟩ := h
  obtain ⟨⟨ca', cn', cc'⟩⟩ := g
  have hl : IntRow w ca cn cc l := hp.cards
  have hl' : IntRow w ca' cn' cc' l' := hq.cards
  rw [decide_eq_decide.2 (EventP.eq_iff k s c i o n k' s' c' i' o' n' l l')]
  unfold eventVal
  dsimp only
  rcases chain6 (k == k') (s == s') (c == c') (i == i') (o == o') (n == n') with t0 | ⟨t0, t1⟩ | ⟨t0, t1, t2⟩ | ⟨t0, t1, t2, t3⟩ | ⟨t0, t1, t2, t3, t4⟩ | ⟨t0, t1, t2, t3, t4, t5⟩ | ⟨t0, t1, t2, t3, t4, t5⟩
  iterate 6
    · have hne : decide (k = k' ∧ s = s' ∧ c = c' ∧ i = i' ∧ o = o' ∧ n = n' ∧ l = l') = false := by simp_all
      rw [hne]
      go_enter Try.func27, Try.ntmps27
      go_wp2_with fail
      go_ret
      exact ⟨rfl, by (try unfold Kept); repeat (first | assumption | exact Below.refl _ _ | exact below_undrew (Below.refl _ _) | exact Below.mono (by assumption) (by first | (simp; done) | (simp; omega) | omega) | refine below_setRow ?_ (by first | (simp; done) | (simp; omega) | omega) _ | refine Below.setCell ?_ (by first | (simp; done) | (simp; omega) | omega) _ | refine Below.alloc ?_ (by first | (simp; done) | (simp; omega) | omega) _ | refine below_drewN ?_ _ | refine Below.drew ?_ | refine below_undrew ?_ | refine below_step ?_ (by assumption))⟩
  · have hne : decide (k = k' ∧ s = s' ∧ c = c' ∧ i = i' ∧ o = o' ∧ n = n' ∧ l = l') = decide (l = l') := by simp_all
    rw [hne]
    have HN := Lib.hid hne
    clear hne
    go_enter Try.func27, Try.ntmps27
    go_wp2_with fail
    refine (same_row_any ca ca' cn cc cn' cc' l l' _ (hl.below (by (try unfold Kept); repeat (first | assumption | exact Below.refl _ _ | exact below_undrew (Below.refl _ _) | exact Below.mono (by assumption) (by first | (simp; done) | (simp; omega) | omega) | refine below_setRow ?_ (by first | (simp; done) | (simp; omega) | omega) _ | refine Below.setCell ?_ (by first | (simp; done) | (simp; omega) | omega) _ | refine Below.alloc ?_ (by first | (simp; done) | (simp; omega) | omega) _ | refine below_drewN ?_ _ | refine Below.drew ?_ | refine below_undrew ?_ | refine below_step ?_ (by assumption)))) (hl'.below (by (try unfold Kept); repeat (first | assumption | exact Below.refl _ _ | exact below_undrew (Below.refl _ _) | exact Below.mono (by assumption) (by first | (simp; done) | (simp; omega) | omega) | refine below_setRow ?_ (by first | (simp; done) | (simp; omega) | omega) _ | refine Below.setCell ?_ (by first | (simp; done) | (simp; omega) | omega) _ | refine Below.alloc ?_ (by first | (simp; done) | (simp; omega) | omega) _ | refine below_drewN ?_ _ | refine Below.drew ?_ | refine below_undrew ?_ | refine below_step ?_ (by assumption))))).mono ?_
    rintro e w1 ⟨rfl, hb⟩
    go_wp2_with fail
    go_ret
    exact ⟨rfl, by (try unfold Kept); repeat (first | assumption | exact Below.refl _ _ | exact below_undrew (Below.refl _ _) | exact Below.mono (by assumption) (by first | (simp; done) | (simp; omega) | omega) | refine below_setRow ?_ (by first | (simp; done) | (simp; omega) | omega) _ | refine Below.setCell ?_ (by first | (simp; done) | (simp; omega) | omega) _ | refine Below.alloc ?_ (by first | (simp; done) | (simp; omega) | omega) _ | refine below_drewN ?_ _ | refine Below.drew ?_ | refine below_undrew ?_ | refine below_step ?_ (by assumption))⟩

end Go.Proofs.Ytiglljegpdlnmaa
