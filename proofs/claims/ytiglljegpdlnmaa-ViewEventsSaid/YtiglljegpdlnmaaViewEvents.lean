/- The law on what anybody sees of any events, walked. -/
import Derived.Test.YtiglljegpdlnmaaViewWakes
namespace Go.Proofs.Ytiglljegpdlnmaa
open Go.RowKit

theorem refSameEvent_any (p q : EventP) (h g : EventH) (w : World) (hp : EventAt w p h) (hq : EventAt w q g) :
    Calls Try.prog 11 #[eventVal p h, eventVal q g] w fun e w' => e = .returned (.bool (decide (p = q))) ∧ Below w.heap.size w w' := by
  have key := fun (w1 : World) (hb : Below w.heap.size w w1) => sameEvent_any p q h g w1 (hp.old hb) (hq.old hb)
  obtain ⟨k, s, c, i, o, n, l⟩ := p
  obtain ⟨k', s', c', i', o', n', l'⟩ := q
  obtain ⟨⟨ca, cn, cc⟩⟩ := h
  obtain ⟨⟨ca', cn', cc'⟩⟩ := g
  generalize decide ((⟨k, s, c, i, o, n, l⟩ : EventP) = ⟨k', s', c', i', o', n', l'⟩) = b at *
  unfold eventVal at *
  dsimp only at *
  go_enter Try.func11, Try.ntmps11
  go_wp2_with (first | refine wpList_load_blk rfl 26 eventT (.tmp 2) rfl rfl (Blk.new2 _ _ _ _) rfl ?_ | refine wpList_load_blk rfl 26 eventT (.tmp 3) rfl rfl (Blk.new2' _ _ _ _) rfl ?_)
  refine (key _ (by (try unfold Kept); repeat (first | assumption | exact Below.refl _ _ | exact Below.mono (by assumption) (by first | (simp; done) | (simp; omega) | omega) | refine below_setRow ?_ (by first | (simp; done) | (simp; omega) | omega) _ | refine Below.setCell ?_ (by first | (simp; done) | (simp; omega) | omega) _ | refine Below.alloc ?_ (by first | (simp; done) | (simp; omega) | omega) _ | refine below_drewN ?_ _ | refine Below.drew ?_ | refine below_undrew ?_ | refine below_step ?_ (by assumption)))).mono ?_
  rintro e w1 ⟨rfl, hb⟩
  go_wp2_with fail
  go_ret
  exact ⟨rfl, by (try unfold Kept); repeat (first | assumption | exact Below.refl _ _ | exact Below.mono (by assumption) (by first | (simp; done) | (simp; omega) | omega) | refine below_setRow ?_ (by first | (simp; done) | (simp; omega) | omega) _ | refine Below.setCell ?_ (by first | (simp; done) | (simp; omega) | omega) _ | refine Below.alloc ?_ (by first | (simp; done) | (simp; omega) | omega) _ | refine below_drewN ?_ _ | refine Below.drew ?_ | refine below_undrew ?_ | refine below_step ?_ (by assumption))⟩
theorem refSameEvents_any (a b : Option Addr) (n c n' c' : Nat) (l m : List (EventP × EventH)) (w : World) (hl : EventRow w a n c l) (hm : EventRow w b n' c' m) :
    Calls Try.prog 14 #[.slice a n c, .slice b n' c'] w fun e w' => e = .returned (.bool (decide (l.map Prod.fst = m.map Prod.fst))) ∧ Below w.heap.size w w' := by
  go_enter Try.func14, Try.ntmps14
  go_wp2_with fail
  refine (sameEvents_any a b n c n' c' l m _ hl hm).mono ?_
  rintro e w1 ⟨rfl, hb⟩
  go_wp2_with fail
  go_ret
  exact ⟨rfl, hb⟩
def VERel (w : World) (n : Nat) (f : Nat) (i : Value) (w' : World) : Prop := ∃ k : Nat, k + f = n ∧ i = .int .i64 (k : Int) ∧ Below w.heap.size w w'
set_option maxRecDepth 100000 in
set_option maxHeartbeats 2000000 in
theorem viewEvents_any (a : Option Addr) (n c : Nat) (l : List (EventP × EventH)) (who : Int) (w : World) (hl : EventRow w a n c l) :
    Calls Try.prog 3 #[.slice a n c, .int .i64 who] w fun e w' => e = .returned (.bool true) ∧ Below w.heap.size w w' := by
  have HL := Lib.hid hl.2.1
  have hsm := hl.2.2.2.2.1
  go_enter Try.func3, Try.ntmps3
  go_wp2_with fail
  go_loopg [16] n (VERel w n)
  case atStart => exact ⟨0, Nat.zero_add _, rfl, Below.refl _ _⟩
  case round =>
    obtain ⟨k, hk, rfl, hb⟩ := hrel
    have hwz := hb.size
    by_cases hlt : k < n
    · have t0 : decide ((k : Int) < (n : Int)) = true := by simp; omega
      have hkl : k < l.length := by rw [HL.out]; exact hlt
      obtain ⟨b, o, rfl, hbl, hc⟩ := hl.elem k hkl
      have hev : EventAt w l[k].1 l[k].2 := hl.2.2.2.2.2 l[k] (List.getElem_mem hkl)
      generalize l[k] = ph at *
      obtain ⟨p, h⟩ := ph
      dsimp only at hc hev
      have hcw : ∀ W, Below wr.heap.size wr W → ∀ j (hj : j < (eventCells p h).length), W.cell? ⟨b, o + k * 7 + j, none⟩ = some (eventCells p h)[j] := fun W hW j hj => by rw [(below_step hb hW).cell (show b < w.heap.size from hbl)]; exact hc j hj
      have HC := Lib.hid hcw
      have hc6 : wr.cell? ⟨b, o + k * 7 + 6, none⟩ = some (.slice h.cards.a h.cards.n h.cards.c) := hcw wr (Below.refl _ _) 6 (by simp [eventCells])
      clear hc hcw
      by_cases h200 : 200 ≤ k
      · have t1 : decide (200 ≤ (k : Int)) = true := by simp; omega
        go_wp2_with fail
        refine (viewWakes_any _).mono ?_
        rintro e w1 ⟨rfl, hb1⟩
        go_wp2_with fail
        go_ret
        exact ⟨rfl, below_step hb hb1⟩
      · have t1 : decide (200 ≤ (k : Int)) = false := by simp; omega
        by_cases h1000 : 1000 < h.cards.n
        · have t2 : decide ((1000 : Int) < (h.cards.n : Int)) = true := by simp; omega
          go_wp2_with fail
          refine (viewWakes_any _).mono ?_
          rintro e w1 ⟨rfl, hb1⟩
          go_wp2_with fail
          go_ret
          exact ⟨rfl, below_step hb hb1⟩
        · have t2 : decide ((1000 : Int) < (h.cards.n : Int)) = false := by simp; omega
          clear h200 h1000
          go_wp2_with (refine wpList_load_as rfl 26 eventT (.tmp 34) rfl rfl (v := eventVal p h) rfl (HC.out _ (Below.refl _ _)) rfl ?_)
          have key1 := refEvent_any p h who
          refine (event_any who _ p h (hev.old hb)).mono ?_
          rintro e w1 ⟨h1, rfl, ho1, hb1⟩
          have hb1z := hb1.size
          generalize seenEv p who = r at *
          obtain ⟨⟨k1, s1, c1, i1, o1, n1, l1⟩, ok⟩ := r
          obtain ⟨⟨ca1, cn1, cc1⟩⟩ := h1
          simp only [eventVal] at ho1 ⊢
          go_wp2_with (refine wpList_load_as rfl 26 eventT (.tmp 43) rfl rfl (v := eventVal p h) rfl (HC.out _ (by (try unfold Kept); repeat (first | assumption | exact Below.refl _ _ | exact Below.mono (by assumption) (by first | (simp; done) | (simp; omega) | omega) | refine below_setRow ?_ (by first | (simp; done) | (simp; omega) | omega) _ | refine Below.setCell ?_ (by first | (simp; done) | (simp; omega) | omega) _ | refine Below.alloc ?_ (by first | (simp; done) | (simp; omega) | omega) _ | refine below_drewN ?_ _ | refine Below.drew ?_ | refine below_undrew ?_ | refine below_step ?_ (by assumption)))) rfl ?_)
          refine (key1 _ ((hev.old hb).old (by (try unfold Kept); repeat (first | assumption | exact Below.refl _ _ | exact Below.mono (by assumption) (by first | (simp; done) | (simp; omega) | omega) | refine below_setRow ?_ (by first | (simp; done) | (simp; omega) | omega) _ | refine Below.setCell ?_ (by first | (simp; done) | (simp; omega) | omega) _ | refine Below.alloc ?_ (by first | (simp; done) | (simp; omega) | omega) _ | refine below_drewN ?_ _ | refine Below.drew ?_ | refine below_undrew ?_ | refine below_step ?_ (by assumption))))).mono ?_
          rintro e w2 ⟨h2, rfl, ho2, hb2⟩
          have hA6 := (Blk.new _ _ _).old hb2
          have hb12 : Below w1.heap.size w1 w2 := below_step ((Below.refl _ _).alloc (Nat.le_refl _) _) hb2
          obtain ⟨⟨ca2, cn2, cc2⟩⟩ := h2
          simp only [eventVal] at ho2 ⊢
          have hbr2 : Below wr.heap.size wr w2 := by (try unfold Kept); repeat (first | assumption | exact Below.refl _ _ | exact Below.mono (by assumption) (by first | (simp; done) | (simp; omega) | omega) | refine below_setRow ?_ (by first | (simp; done) | (simp; omega) | omega) _ | refine Below.setCell ?_ (by first | (simp; done) | (simp; omega) | omega) _ | refine Below.alloc ?_ (by first | (simp; done) | (simp; omega) | omega) _ | refine below_drewN ?_ _ | refine Below.drew ?_ | refine below_undrew ?_ | refine below_step ?_ (by assumption))
          have hb2z := hb2.size
          simp at hb2z
          have hcc2 := (bcell hb2).1
          have hz12 : w1.heap.size < w2.heap.size := by omega
          go_wp2_with fail
          refine (refSameEvent_any ⟨k1, s1, c1, i1, o1, n1, l1⟩ ⟨k1, s1, c1, i1, o1, n1, l1⟩ ⟨⟨ca1, cn1, cc1⟩⟩ ⟨⟨ca2, cn2, cc2⟩⟩ _ ?e1 ?e2).mono ?_
          case e1 => exact ho1.at.old (by (try unfold Kept); repeat (first | assumption | exact Below.refl _ _ | exact Below.mono (by assumption) (by first | (simp; done) | (simp; omega) | omega) | refine below_setRow ?_ (by first | (simp; done) | (simp; omega) | omega) _ | refine Below.setCell ?_ (by first | (simp; done) | (simp; omega) | omega) _ | refine Below.alloc ?_ (by first | (simp; done) | (simp; omega) | omega) _ | refine below_drewN ?_ _ | refine Below.drew ?_ | refine below_undrew ?_ | refine below_step ?_ (by assumption)))
          case e2 => exact ho2.at.old (by (try unfold Kept); repeat (first | assumption | exact Below.refl _ _ | exact Below.mono (by assumption) (by first | (simp; done) | (simp; omega) | omega) | refine below_setRow ?_ (by first | (simp; done) | (simp; omega) | omega) _ | refine Below.setCell ?_ (by first | (simp; done) | (simp; omega) | omega) _ | refine Below.alloc ?_ (by first | (simp; done) | (simp; omega) | omega) _ | refine below_drewN ?_ _ | refine Below.drew ?_ | refine below_undrew ?_ | refine below_step ?_ (by assumption)))
          rw [decide_eq_true rfl]
          rintro e w3 ⟨rfl, hb3⟩
          go_wp2_with fail
          go_roundg (gk - 1)
          case measure => omega
          case rel => exact ⟨k + 1, by omega, by go_num, by (try unfold Kept); repeat (first | assumption | exact Below.refl _ _ | exact Below.mono (by assumption) (by first | (simp; done) | (simp; omega) | omega) | refine below_setRow ?_ (by first | (simp; done) | (simp; omega) | omega) _ | refine Below.setCell ?_ (by first | (simp; done) | (simp; omega) | omega) _ | refine Below.alloc ?_ (by first | (simp; done) | (simp; omega) | omega) _ | refine below_drewN ?_ _ | refine Below.drew ?_ | refine below_undrew ?_ | refine below_step ?_ (by assumption))⟩
    · have t0 : decide ((k : Int) < (n : Int)) = false := by simp; omega
      by_cases hw : who < 0 ∨ 3 < who
      · have hw' : decide (who < 0) = true ∨ decide (who < 0) = false ∧ decide (3 < who) = true := by by_cases a : who < 0 <;> simp [a] <;> omega
        have HW := Lib.hid hw'
        clear hw hw'
        go_wp2_with fail
        refine (events_out a n c who _ HW.out).mono ?_
        rintro e w1 ⟨rfl, rfl⟩
        go_wp2_with fail
        refine (refEvents_out a n c who _ HW.out).mono ?_
        rintro e w1 ⟨rfl, rfl⟩
        go_wp2_with fail
        refine (refSameEvents_any none none 0 0 0 0 [] [] _ ⟨RowAt.nil _ _, rfl, Nat.le_refl _, by unfold maxLen; omega, by omega, fun x hx => by simp at hx⟩ ⟨RowAt.nil _ _, rfl, Nat.le_refl _, by unfold maxLen; omega, by omega, fun x hx => by simp at hx⟩).mono ?_
        rw [decide_eq_true rfl]
        rintro e w3 ⟨rfl, hb3⟩
        go_wp2_with fail
        refine (viewWakes_any _).mono ?_
        rintro e w4 ⟨rfl, hb4⟩
        go_wp2_with fail
        go_ret
        exact ⟨rfl, by (try unfold Kept); repeat (first | assumption | exact Below.refl _ _ | exact Below.mono (by assumption) (by first | (simp; done) | (simp; omega) | omega) | refine below_setRow ?_ (by first | (simp; done) | (simp; omega) | omega) _ | refine Below.setCell ?_ (by first | (simp; done) | (simp; omega) | omega) _ | refine Below.alloc ?_ (by first | (simp; done) | (simp; omega) | omega) _ | refine below_drewN ?_ _ | refine Below.drew ?_ | refine below_undrew ?_ | refine below_step ?_ (by assumption))⟩
      · have h0 : decide (who < 0) = false := by simp; omega
        have h1 : decide (3 < who) = false := by simp; omega
        clear hw
        go_wp2_with fail
        refine (events_any a n c l who _ (hl.old hb) h0 h1).mono ?_
        rintro e w1 ⟨a1, n1, c1, l1, rfl, hm1, hr1, hb1⟩
        go_wp2_with fail
        refine (refEvents_any a n c l who _ ((hl.old hb).old hb1) h0 h1).mono ?_
        rintro e w2 ⟨a2, n2, c2, l2, rfl, hm2, hr2, hb2⟩
        have HM1 := Lib.hid hm1
        have HM2 := Lib.hid hm2
        clear hm1 hm2
        go_wp2_with fail
        refine (refSameEvents_any a1 a2 n1 c1 n2 c2 l1 l2 _ (hr1.old hb2) hr2).mono ?_
        rw [decide_eq_true (show l1.map Prod.fst = l2.map Prod.fst by rw [HM1.out, HM2.out])]
        rintro e w3 ⟨rfl, hb3⟩
        go_wp2_with fail
        refine (viewWakes_any _).mono ?_
        rintro e w4 ⟨rfl, hb4⟩
        go_wp2_with fail
        go_ret
        exact ⟨rfl, by (try unfold Kept); repeat (first | assumption | exact Below.refl _ _ | exact Below.mono (by assumption) (by first | (simp; done) | (simp; omega) | omega) | refine below_setRow ?_ (by first | (simp; done) | (simp; omega) | omega) _ | refine Below.setCell ?_ (by first | (simp; done) | (simp; omega) | omega) _ | refine Below.alloc ?_ (by first | (simp; done) | (simp; omega) | omega) _ | refine below_drewN ?_ _ | refine Below.drew ?_ | refine below_undrew ?_ | refine below_step ?_ (by assumption))⟩

end Go.Proofs.Ytiglljegpdlnmaa
