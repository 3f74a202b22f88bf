/- Rows of events as anybody sees them. -/
import Derived.Test.YtiglljegpdlnmaaSee
namespace Go.Proofs.Ytiglljegpdlnmaa
open Go.RowKit

theorem eventsT : RowType Try.prog 22 26 7 72 := RowType.mk (z := .agg #[.int .i8 0, .int .i64 0, .int .i64 0, .int .i64 0, .int .i64 0, .int .i64 0, .slice none 0 0]) Try.underlying22 (by kernel_rfl) rfl (by omega)
def seenEvs (l : List EventP) (who : Int) : List EventP := l.filterMap fun p => if (seenEv p who).2 then some (seenEv p who).1 else none
theorem seenEvs_snoc (l : List EventP) (p : EventP) (who : Int) : seenEvs (l ++ [p]) who = seenEvs l who ++ (if (seenEv p who).2 then [(seenEv p who).1] else []) := by
  unfold seenEvs
  rw [List.filterMap_append]
  congr 1
  cases h : (seenEv p who).2 <;> simp [h]
theorem evCells_append (l m : List (EventP × EventH)) : evCells (l ++ m) = evCells l ++ evCells m := by simp [evCells]
theorem evCells_length (l : List (EventP × EventH)) : (evCells l).length = l.length * 7 := by
  unfold evCells
  induction l with
  | nil => rfl
  | cons x l ih => rw [List.flatMap_cons, List.length_append, ih, List.length_cons]; show 7 + _ = _; omega
theorem EventRow.elem {w : World} {a : Option Addr} {n c : Nat} {l : List (EventP × EventH)} (h : EventRow w a n c l) (k : Nat) (hk : k < l.length) :
    ∃ b o, a = some ⟨b, o, none⟩ ∧ b < w.heap.size ∧ ∀ j (hj : j < (eventCells l[k].1 l[k].2).length), w.cell? ⟨b, o + k * 7 + j, none⟩ = some (eventCells l[k].1 l[k].2)[j] :=
  RowAt.elem (g := fun p : EventP × EventH => eventCells p.1 p.2) (sz := 7) (fun _ => rfl) h.1 (by omega) k hk

theorem EventOwn.apart {w w' : World} {B B' : Nat} {p : EventP} {h : EventH} (e : EventOwn w B p h) {T : TypeId} {size' : Nat} {a : Option Addr} {n c : Nat} {vs : List Value} (ho : Own w B' T size' a n c vs) (hne : T ≠ 3) (hg : w.grownBy w' (Value.slice a n c).ownBlock) : EventOwn w' B p h :=
  ⟨e.kind, e.side, e.card, e.id, e.other, e.n, e.cards.apart ho hne hg⟩
def EvRel (w : World) (l : List (EventP × EventH)) (who : Int) (f : Nat) (out i : Value) (w' : World) : Prop :=
  ∃ (k : Nat) (a : Option Addr) (n c : Nat) (done : List (EventP × EventH)), k + f = l.length ∧ i = .int .i64 (k : Int) ∧ out = .slice a n c ∧ Own w' w.heap.size 26 7 a n c (evCells done) ∧ done.length = n ∧ n ≤ k ∧
    done.map Prod.fst = seenEvs ((l.take k).map Prod.fst) who ∧ (∀ x ∈ done, EventOwn w' w.heap.size x.1 x.2) ∧ Below w.heap.size w w'

set_option maxHeartbeats 1000000 in
theorem events_any (a : Option Addr) (n c : Nat) (l : List (EventP × EventH)) (who : Int) (w : World) (hl : EventRow w a n c l) (h0 : decide (who < 0) = false) (h1 : decide (3 < who) = false) :
    Calls Try.prog 12 #[.slice a n c, .int .i64 who] w fun e w' => ∃ a' n' c' l', e = .returned (.tuple #[.slice a' n' c', .int .i64 0]) ∧ l'.map Prod.fst = seenEvs (l.map Prod.fst) who ∧ EventRow w' a' n' c' l' ∧ Below w.heap.size w w' := by
  have HL := Lib.hid hl.2.1
  have hsm := hl.2.2.2.2.1
  go_enter Try.func12, Try.ntmps12
  go_wp2_with fail
  go_loopg [6, 19] n (EvRel w l who)
  case atStart => exact ⟨0, none, 0, 0, [], by rw [HL.out]; omega, rfl, rfl, Own.nil _ _ _ _, rfl, Nat.le_refl _, rfl, fun x hx => by simp at hx, Below.refl _ _⟩
  case round =>
    obtain ⟨k, a1, n1, c1, done, hk, rfl, rfl, hown, hdl, hnk, hd, hat, hb⟩ := hrel
    rw [HL.out] at hk
    have hwz := hb.size
    have HD := Lib.hid hd
    have HDL := Lib.hid hdl
    clear hd hdl
    by_cases hlt : k < n
    · have t0 : decide ((k : Int) < (n : Int)) = true := by simp; omega
      have hkl : k < l.length := by rw [HL.out]; exact hlt
      obtain ⟨b, o, rfl, hbl, hc⟩ := hl.elem k hkl
      have hev : EventAt w l[k].1 l[k].2 := hl.2.2.2.2.2 l[k] (List.getElem_mem hkl)
      have HT := Lib.hid (List.take_succ_eq_append_getElem hkl)
      generalize l[k] = ph at *
      obtain ⟨p, h⟩ := ph
      dsimp only at hc hev
      have hcw : ∀ j (hj : j < (eventCells p h).length), wr.cell? ⟨b, o + k * 7 + j, none⟩ = some (eventCells p h)[j] := fun j hj => by rw [hb.cell (show b < w.heap.size from hbl)]; exact hc j hj
      have HC := Lib.hid hcw
      clear hc hcw
      go_wp2_with (first | refine wpList_load_as rfl 26 eventT (.tmp 21) rfl rfl (v := eventVal p h) rfl HC.out rfl ?_ | refine wpList_store_blk rfl 26 eventT (.tmp 8) _ rfl rfl rfl (Blk.new _ _ _) rfl rfl rfl ?_ | refine wpList_load_blk rfl 26 eventT (.tmp 8) rfl rfl ((Blk.new _ _ _).setRow _) rfl ?_)
      have hb8 : Below w.heap.size w ((wr.alloc (.cells #[.int .i8 0, .int .i64 0, .int .i64 0, .int .i64 0, .int .i64 0, .int .i64 0, .slice none 0 0] 26)).setRow wr.heap.size (eventCells p h).toArray) := by (try unfold Kept); repeat (first | assumption | exact Below.refl _ _ | exact below_undrew (Below.refl _ _) | exact Below.mono (by assumption) (by first | (simp; done) | (simp; omega) | omega) | refine below_setRow ?_ (by first | (simp; done) | (simp; omega) | omega) _ | refine Below.setCell ?_ (by first | (simp; done) | (simp; omega) | omega) _ | refine Below.alloc ?_ (by first | (simp; done) | (simp; omega) | omega) _ | refine below_drewN ?_ _ | refine Below.drew ?_ | refine below_undrew ?_ | refine below_step ?_ (by assumption))
      refine (event_any who _ p h (hev.old (by (try unfold Kept); repeat (first | assumption | exact Below.refl _ _ | exact below_undrew (Below.refl _ _) | exact Below.mono (by assumption) (by first | (simp; done) | (simp; omega) | omega) | refine below_setRow ?_ (by first | (simp; done) | (simp; omega) | omega) _ | refine Below.setCell ?_ (by first | (simp; done) | (simp; omega) | omega) _ | refine Below.alloc ?_ (by first | (simp; done) | (simp; omega) | omega) _ | refine below_drewN ?_ _ | refine Below.drew ?_ | refine below_undrew ?_ | refine below_step ?_ (by assumption))))).mono ?_
      rintro e w1 ⟨h', rfl, ha', hb1⟩
      have hb1z := hb1.size
      have hz1 : wr.heap.size < w1.heap.size := by simp at hb1z; omega
      have hbt := below_step hb8 hb1
      have hbr : Below wr.heap.size wr w1 := below_step (by (try unfold Kept); repeat (first | assumption | exact Below.refl _ _ | exact below_undrew (Below.refl _ _) | exact Below.mono (by assumption) (by first | (simp; done) | (simp; omega) | omega) | refine below_setRow ?_ (by first | (simp; done) | (simp; omega) | omega) _ | refine Below.setCell ?_ (by first | (simp; done) | (simp; omega) | omega) _ | refine Below.alloc ?_ (by first | (simp; done) | (simp; omega) | omega) _ | refine below_drewN ?_ _ | refine Below.drew ?_ | refine below_undrew ?_ | refine below_step ?_ (by assumption))) hb1
      have hown1 := hown.old hbr
      have hat1 := fun x hx => (hat x hx).old hbr
      have HT2 := seenEvs_snoc ((l.take k).map Prod.fst) p who
      generalize seenEv p who = r at ha' HT2 ⊢
      have HT2 := Lib.hid HT2
      obtain ⟨⟨kind', side', card', id', other', n', cards'⟩, ok⟩ := r
      obtain ⟨⟨ca', cn', cc'⟩⟩ := h'
      cases ok
      · go_wp2_with (first | refine wpList_store_blk rfl 26 eventT (.tmp 9) _ rfl rfl rfl (Blk.new _ _ _) rfl rfl rfl ?_ | refine wpList_load_blk rfl 26 eventT (.tmp 9) rfl rfl ((Blk.new _ _ _).setRow _) rfl ?_)
        go_roundg (gk - 1)
        case measure => omega
        case rel => exact ⟨k + 1, a1, n1, c1, done, by rw [HL.out]; omega, by go_num, rfl, hown1.old (by (try unfold Kept); repeat (first | assumption | exact Below.refl _ _ | exact below_undrew (Below.refl _ _) | exact Below.mono (by assumption) (by first | (simp; done) | (simp; omega) | omega) | refine below_setRow ?_ (by first | (simp; done) | (simp; omega) | omega) _ | refine Below.setCell ?_ (by first | (simp; done) | (simp; omega) | omega) _ | refine Below.alloc ?_ (by first | (simp; done) | (simp; omega) | omega) _ | refine below_drewN ?_ _ | refine Below.drew ?_ | refine below_undrew ?_ | refine below_step ?_ (by assumption))), HDL.out, by omega, by rw [HT.out, List.map_append, List.map_cons, List.map_nil, HT2.out, HD.out]; simp, fun x hx => (hat1 x hx).old (by (try unfold Kept); repeat (first | assumption | exact Below.refl _ _ | exact below_undrew (Below.refl _ _) | exact Below.mono (by assumption) (by first | (simp; done) | (simp; omega) | omega) | refine below_setRow ?_ (by first | (simp; done) | (simp; omega) | omega) _ | refine Below.setCell ?_ (by first | (simp; done) | (simp; omega) | omega) _ | refine Below.alloc ?_ (by first | (simp; done) | (simp; omega) | omega) _ | refine below_drewN ?_ _ | refine Below.drew ?_ | refine below_undrew ?_ | refine below_step ?_ (by assumption))), by (try unfold Kept); repeat (first | assumption | exact Below.refl _ _ | exact below_undrew (Below.refl _ _) | exact Below.mono (by assumption) (by first | (simp; done) | (simp; omega) | omega) | refine below_setRow ?_ (by first | (simp; done) | (simp; omega) | omega) _ | refine Below.setCell ?_ (by first | (simp; done) | (simp; omega) | omega) _ | refine Below.alloc ?_ (by first | (simp; done) | (simp; omega) | omega) _ | refine below_drewN ?_ _ | refine Below.drew ?_ | refine below_undrew ?_ | refine below_step ?_ (by assumption))⟩
      · have hbw := hbt.size
        have hA := hown1.old (w' := ((w1.alloc (.cells #[.int .i8 0, .int .i64 0, .int .i64 0, .int .i64 0, .int .i64 0, .int .i64 0, .slice none 0 0] 26)).setRow w1.heap.size (eventCells ⟨kind', side', card', id', other', n', cards'⟩ ⟨⟨ca', cn', cc'⟩⟩).toArray).alloc (.cells (eventCells ⟨kind', side', card', id', other', n', cards'⟩ ⟨⟨ca', cn', cc'⟩⟩).toArray 26)) (by (try unfold Kept); repeat (first | assumption | exact Below.refl _ _ | exact below_undrew (Below.refl _ _) | exact Below.mono (by assumption) (by first | (simp; done) | (simp; omega) | omega) | refine below_setRow ?_ (by first | (simp; done) | (simp; omega) | omega) _ | refine Below.setCell ?_ (by first | (simp; done) | (simp; omega) | omega) _ | refine Below.alloc ?_ (by first | (simp; done) | (simp; omega) | omega) _ | refine below_drewN ?_ _ | refine Below.drew ?_ | refine below_undrew ?_ | refine below_step ?_ (by assumption)))
        have hN := hb8.trans (hb1.mono hb8.size)
        go_wp2_with (first | refine wpList_store_blk rfl 26 eventT (.tmp 9) _ rfl rfl rfl (Blk.new _ _ _) rfl rfl rfl ?_ | refine wpList_load_blk rfl 26 eventT (.tmp 9) rfl rfl ((Blk.new _ _ _).setRow _) rfl ?_ | (at_builtin; refine wpList_append_row rfl _ _ 22 rfl eventsT rfl hA rfl (RowAt.new' _ _ _ _ (by simp)) (by rfl) (by exact all_one _ rfl) (by unfold maxLen; omega) (by omega) (by simp; omega) ?_))
        intro a2 c2 w2 hown2 hg
        have hb2 : Below w.heap.size w w2 := hA.grown (by (try unfold Kept); repeat (first | assumption | exact Below.refl _ _ | exact below_undrew (Below.refl _ _) | exact Below.mono (by assumption) (by first | (simp; done) | (simp; omega) | omega) | refine below_setRow ?_ (by first | (simp; done) | (simp; omega) | omega) _ | refine Below.setCell ?_ (by first | (simp; done) | (simp; omega) | omega) _ | refine Below.alloc ?_ (by first | (simp; done) | (simp; omega) | omega) _ | refine below_drewN ?_ _ | refine Below.drew ?_ | refine below_undrew ?_ | refine below_step ?_ (by assumption))) (Nat.le_refl _) hg (by simp; omega)
        have hnew := fun x hx => ((hat1 x hx).old (w' := ((w1.alloc (.cells #[.int .i8 0, .int .i64 0, .int .i64 0, .int .i64 0, .int .i64 0, .int .i64 0, .slice none 0 0] 26)).setRow w1.heap.size (eventCells ⟨kind', side', card', id', other', n', cards'⟩ ⟨⟨ca', cn', cc'⟩⟩).toArray).alloc (.cells (eventCells ⟨kind', side', card', id', other', n', cards'⟩ ⟨⟨ca', cn', cc'⟩⟩).toArray 26)) (by (try unfold Kept); repeat (first | assumption | exact Below.refl _ _ | exact below_undrew (Below.refl _ _) | exact Below.mono (by assumption) (by first | (simp; done) | (simp; omega) | omega) | refine below_setRow ?_ (by first | (simp; done) | (simp; omega) | omega) _ | refine Below.setCell ?_ (by first | (simp; done) | (simp; omega) | omega) _ | refine Below.alloc ?_ (by first | (simp; done) | (simp; omega) | omega) _ | refine below_drewN ?_ _ | refine Below.drew ?_ | refine below_undrew ?_ | refine below_step ?_ (by assumption)))).apart hA (by decide) hg
        have hx1 := (((ha'.lower (B' := w.heap.size) (by first | (simp; done) | (simp; omega) | omega)).old (w' := ((w1.alloc (.cells #[.int .i8 0, .int .i64 0, .int .i64 0, .int .i64 0, .int .i64 0, .int .i64 0, .slice none 0 0] 26)).setRow w1.heap.size (eventCells ⟨kind', side', card', id', other', n', cards'⟩ ⟨⟨ca', cn', cc'⟩⟩).toArray).alloc (.cells (eventCells ⟨kind', side', card', id', other', n', cards'⟩ ⟨⟨ca', cn', cc'⟩⟩).toArray 26)) (by (try unfold Kept); repeat (first | assumption | exact Below.refl _ _ | exact below_undrew (Below.refl _ _) | exact Below.mono (by assumption) (by first | (simp; done) | (simp; omega) | omega) | refine below_setRow ?_ (by first | (simp; done) | (simp; omega) | omega) _ | refine Below.setCell ?_ (by first | (simp; done) | (simp; omega) | omega) _ | refine Below.alloc ?_ (by first | (simp; done) | (simp; omega) | omega) _ | refine below_drewN ?_ _ | refine Below.drew ?_ | refine below_undrew ?_ | refine below_step ?_ (by assumption))))).apart hA (by decide) hg
        go_wp2_with fail
        go_roundg (gk - 1)
        case measure => omega
        case rel => exact ⟨k + 1, a2, n1 + 1, c2, done ++ [(⟨kind', side', card', id', other', n', cards'⟩, ⟨⟨ca', cn', cc'⟩⟩)], by rw [HL.out]; omega, by go_num, rfl, by rw [evCells_append]; exact hown2, by rw [List.length_append, HDL.out]; rfl, by omega, by rw [HT.out, List.map_append, List.map_append, List.map_cons, List.map_nil, List.map_cons, List.map_nil, HT2.out, HD.out]; simp, fun x hx => by rcases List.mem_append.1 hx with hx | hx; exact hnew x hx; rw [List.mem_singleton.1 hx]; exact hx1, hb2⟩
    · have t0 : decide ((k : Int) < (n : Int)) = false := by simp; omega
      have hkn : k = n := by omega
      go_wp2_with fail
      go_ret2
      have e : l.take k = l := List.take_of_length_le (by rw [HL.out]; omega)
      have hd := HD.out
      rw [e] at hd
      exact ⟨a1, n1, c1, done, rfl, hd, ⟨hown.row, HDL.out, hown.le, hown.cap_le, by omega, fun x hx => (hat x hx).at⟩, hb⟩

set_option maxHeartbeats 1000000 in
theorem seenEvents_any (a : Option Addr) (n c : Nat) (l : List (EventP × EventH)) (who : Int) (w : World) (hl : EventRow w a n c l) (h0 : decide (who < 0) = false) (h1 : decide (3 < who) = false) :
    Calls Try.prog 28 #[.slice a n c, .int .i64 who] w fun e w' => ∃ a' n' c' l', e = .returned (.tuple #[.slice a' n' c', .int .i64 0]) ∧ l'.map Prod.fst = seenEvs (l.map Prod.fst) who ∧ EventRow w' a' n' c' l' ∧ Below w.heap.size w w' := by
  have HL := Lib.hid hl.2.1
  have hsm := hl.2.2.2.2.1
  go_enter Try.func28, Try.ntmps28
  go_wp2_with fail
  go_loopg [6, 7] n (EvRel w l who)
  case atStart => exact ⟨0, none, 0, 0, [], by rw [HL.out]; omega, rfl, rfl, Own.nil _ _ _ _, rfl, Nat.le_refl _, rfl, fun x hx => by simp at hx, Below.refl _ _⟩
  case round =>
    obtain ⟨k, a1, n1, c1, done, hk, rfl, rfl, hown, hdl, hnk, hd, hat, hb⟩ := hrel
    rw [HL.out] at hk
    have hwz := hb.size
    have HD := Lib.hid hd
    have HDL := Lib.hid hdl
    clear hd hdl
    by_cases hlt : k < n
    · have t0 : decide ((k : Int) < (n : Int)) = true := by simp; omega
      have hkl : k < l.length := by rw [HL.out]; exact hlt
      obtain ⟨b, o, rfl, hbl, hc⟩ := hl.elem k hkl
      have hev : EventAt w l[k].1 l[k].2 := hl.2.2.2.2.2 l[k] (List.getElem_mem hkl)
      have HT := Lib.hid (List.take_succ_eq_append_getElem hkl)
      generalize l[k] = ph at *
      obtain ⟨p, h⟩ := ph
      dsimp only at hc hev
      have hcw : ∀ j (hj : j < (eventCells p h).length), wr.cell? ⟨b, o + k * 7 + j, none⟩ = some (eventCells p h)[j] := fun j hj => by rw [hb.cell (show b < w.heap.size from hbl)]; exact hc j hj
      have HC := Lib.hid hcw
      clear hc hcw
      go_wp2_with (refine wpList_load_as rfl 26 eventT (.tmp 25) rfl rfl (v := eventVal p h) rfl HC.out rfl ?_)
      refine (seenEvent_any who _ p h (hev.old hb)).mono ?_
      rintro e w1 ⟨h', rfl, ha', hb1⟩
      have hb1z := hb1.size
      have hz1 : wr.heap.size ≤ w1.heap.size := hb1z
      have hbt := below_step hb hb1
      have hbr : Below wr.heap.size wr w1 := hb1
      have hown1 := hown.old hbr
      have hat1 := fun x hx => (hat x hx).old hbr
      have HT2 := seenEvs_snoc ((l.take k).map Prod.fst) p who
      generalize seenEv p who = r at ha' HT2 ⊢
      have HT2 := Lib.hid HT2
      obtain ⟨⟨kind', side', card', id', other', n', cards'⟩, ok⟩ := r
      obtain ⟨⟨ca', cn', cc'⟩⟩ := h'
      cases ok
      · go_wp2_with (first | refine wpList_store_blk rfl 26 eventT (.tmp 8) _ rfl rfl rfl (Blk.new _ _ _) rfl rfl rfl ?_ | refine wpList_load_blk rfl 26 eventT (.tmp 8) rfl rfl ((Blk.new _ _ _).setRow _) rfl ?_)
        go_roundg (gk - 1)
        case measure => omega
        case rel => exact ⟨k + 1, a1, n1, c1, done, by rw [HL.out]; omega, by go_num, rfl, hown1.old (by (try unfold Kept); repeat (first | assumption | exact Below.refl _ _ | exact below_undrew (Below.refl _ _) | exact Below.mono (by assumption) (by first | (simp; done) | (simp; omega) | omega) | refine below_setRow ?_ (by first | (simp; done) | (simp; omega) | omega) _ | refine Below.setCell ?_ (by first | (simp; done) | (simp; omega) | omega) _ | refine Below.alloc ?_ (by first | (simp; done) | (simp; omega) | omega) _ | refine below_drewN ?_ _ | refine Below.drew ?_ | refine below_undrew ?_ | refine below_step ?_ (by assumption))), HDL.out, by omega, by rw [HT.out, List.map_append, List.map_cons, List.map_nil, HT2.out, HD.out]; simp, fun x hx => (hat1 x hx).old (by (try unfold Kept); repeat (first | assumption | exact Below.refl _ _ | exact below_undrew (Below.refl _ _) | exact Below.mono (by assumption) (by first | (simp; done) | (simp; omega) | omega) | refine below_setRow ?_ (by first | (simp; done) | (simp; omega) | omega) _ | refine Below.setCell ?_ (by first | (simp; done) | (simp; omega) | omega) _ | refine Below.alloc ?_ (by first | (simp; done) | (simp; omega) | omega) _ | refine below_drewN ?_ _ | refine Below.drew ?_ | refine below_undrew ?_ | refine below_step ?_ (by assumption))), by (try unfold Kept); repeat (first | assumption | exact Below.refl _ _ | exact below_undrew (Below.refl _ _) | exact Below.mono (by assumption) (by first | (simp; done) | (simp; omega) | omega) | refine below_setRow ?_ (by first | (simp; done) | (simp; omega) | omega) _ | refine Below.setCell ?_ (by first | (simp; done) | (simp; omega) | omega) _ | refine Below.alloc ?_ (by first | (simp; done) | (simp; omega) | omega) _ | refine below_drewN ?_ _ | refine Below.drew ?_ | refine below_undrew ?_ | refine below_step ?_ (by assumption))⟩
      · have hbw := hbt.size
        have hA := hown1.old (w' := ((w1.alloc (.cells #[.int .i8 0, .int .i64 0, .int .i64 0, .int .i64 0, .int .i64 0, .int .i64 0, .slice none 0 0] 26)).setRow w1.heap.size (eventCells ⟨kind', side', card', id', other', n', cards'⟩ ⟨⟨ca', cn', cc'⟩⟩).toArray).alloc (.cells (eventCells ⟨kind', side', card', id', other', n', cards'⟩ ⟨⟨ca', cn', cc'⟩⟩).toArray 26)) (by (try unfold Kept); repeat (first | assumption | exact Below.refl _ _ | exact below_undrew (Below.refl _ _) | exact Below.mono (by assumption) (by first | (simp; done) | (simp; omega) | omega) | refine below_setRow ?_ (by first | (simp; done) | (simp; omega) | omega) _ | refine Below.setCell ?_ (by first | (simp; done) | (simp; omega) | omega) _ | refine Below.alloc ?_ (by first | (simp; done) | (simp; omega) | omega) _ | refine below_drewN ?_ _ | refine Below.drew ?_ | refine below_undrew ?_ | refine below_step ?_ (by assumption)))
        go_wp2_with (first | refine wpList_store_blk rfl 26 eventT (.tmp 8) _ rfl rfl rfl (Blk.new _ _ _) rfl rfl rfl ?_ | refine wpList_load_blk rfl 26 eventT (.tmp 8) rfl rfl ((Blk.new _ _ _).setRow _) rfl ?_ | (at_builtin; refine wpList_append_row rfl _ _ 22 rfl eventsT rfl hA rfl (RowAt.new' _ _ _ _ (by simp)) (by rfl) (by exact all_one _ rfl) (by unfold maxLen; omega) (by omega) (by simp; omega) ?_))
        intro a2 c2 w2 hown2 hg
        have hb2 : Below w.heap.size w w2 := hA.grown (by (try unfold Kept); repeat (first | assumption | exact Below.refl _ _ | exact below_undrew (Below.refl _ _) | exact Below.mono (by assumption) (by first | (simp; done) | (simp; omega) | omega) | refine below_setRow ?_ (by first | (simp; done) | (simp; omega) | omega) _ | refine Below.setCell ?_ (by first | (simp; done) | (simp; omega) | omega) _ | refine Below.alloc ?_ (by first | (simp; done) | (simp; omega) | omega) _ | refine below_drewN ?_ _ | refine Below.drew ?_ | refine below_undrew ?_ | refine below_step ?_ (by assumption))) (Nat.le_refl _) hg (by simp; omega)
        have hnew := fun x hx => ((hat1 x hx).old (w' := ((w1.alloc (.cells #[.int .i8 0, .int .i64 0, .int .i64 0, .int .i64 0, .int .i64 0, .int .i64 0, .slice none 0 0] 26)).setRow w1.heap.size (eventCells ⟨kind', side', card', id', other', n', cards'⟩ ⟨⟨ca', cn', cc'⟩⟩).toArray).alloc (.cells (eventCells ⟨kind', side', card', id', other', n', cards'⟩ ⟨⟨ca', cn', cc'⟩⟩).toArray 26)) (by (try unfold Kept); repeat (first | assumption | exact Below.refl _ _ | exact below_undrew (Below.refl _ _) | exact Below.mono (by assumption) (by first | (simp; done) | (simp; omega) | omega) | refine below_setRow ?_ (by first | (simp; done) | (simp; omega) | omega) _ | refine Below.setCell ?_ (by first | (simp; done) | (simp; omega) | omega) _ | refine Below.alloc ?_ (by first | (simp; done) | (simp; omega) | omega) _ | refine below_drewN ?_ _ | refine Below.drew ?_ | refine below_undrew ?_ | refine below_step ?_ (by assumption)))).apart hA (by decide) hg
        have hx1 := (((ha'.lower (B' := w.heap.size) (by first | (simp; done) | (simp; omega) | omega)).old (w' := ((w1.alloc (.cells #[.int .i8 0, .int .i64 0, .int .i64 0, .int .i64 0, .int .i64 0, .int .i64 0, .slice none 0 0] 26)).setRow w1.heap.size (eventCells ⟨kind', side', card', id', other', n', cards'⟩ ⟨⟨ca', cn', cc'⟩⟩).toArray).alloc (.cells (eventCells ⟨kind', side', card', id', other', n', cards'⟩ ⟨⟨ca', cn', cc'⟩⟩).toArray 26)) (by (try unfold Kept); repeat (first | assumption | exact Below.refl _ _ | exact below_undrew (Below.refl _ _) | exact Below.mono (by assumption) (by first | (simp; done) | (simp; omega) | omega) | refine below_setRow ?_ (by first | (simp; done) | (simp; omega) | omega) _ | refine Below.setCell ?_ (by first | (simp; done) | (simp; omega) | omega) _ | refine Below.alloc ?_ (by first | (simp; done) | (simp; omega) | omega) _ | refine below_drewN ?_ _ | refine Below.drew ?_ | refine below_undrew ?_ | refine below_step ?_ (by assumption))))).apart hA (by decide) hg
        go_wp2_with fail
        go_roundg (gk - 1)
        case measure => omega
        case rel => exact ⟨k + 1, a2, n1 + 1, c2, done ++ [(⟨kind', side', card', id', other', n', cards'⟩, ⟨⟨ca', cn', cc'⟩⟩)], by rw [HL.out]; omega, by go_num, rfl, by rw [evCells_append]; exact hown2, by rw [List.length_append, HDL.out]; rfl, by omega, by rw [HT.out, List.map_append, List.map_append, List.map_cons, List.map_nil, List.map_cons, List.map_nil, HT2.out, HD.out]; simp, fun x hx => by rcases List.mem_append.1 hx with hx | hx; exact hnew x hx; rw [List.mem_singleton.1 hx]; exact hx1, hb2⟩
    · have t0 : decide ((k : Int) < (n : Int)) = false := by simp; omega
      have hkn : k = n := by omega
      go_wp2_with fail
      go_ret2
      have e : l.take k = l := List.take_of_length_le (by rw [HL.out]; omega)
      have hd := HD.out
      rw [e] at hd
      exact ⟨a1, n1, c1, done, rfl, hd, ⟨hown.row, HDL.out, hown.le, hown.cap_le, by omega, fun x hx => (hat x hx).at⟩, hb⟩

theorem refEvents_any (a : Option Addr) (n c : Nat) (l : List (EventP × EventH)) (who : Int) (w : World) (hl : EventRow w a n c l) (h0 : decide (who < 0) = false) (h1 : decide (3 < who) = false) :
    Calls Try.prog 13 #[.slice a n c, .int .i64 who] w fun e w' => ∃ a' n' c' l', e = .returned (.tuple #[.slice a' n' c', .int .i64 0]) ∧ l'.map Prod.fst = seenEvs (l.map Prod.fst) who ∧ EventRow w' a' n' c' l' ∧ Below w.heap.size w w' := by
  go_enter Try.func13, Try.ntmps13
  go_wp2_with fail
  refine (seenEvents_any a n c l who _ hl h0 h1).mono ?_
  rintro e w1 ⟨a', n', c', l', rfl, hm, hr, hb⟩
  go_wp2_with fail
  go_ret2
  exact ⟨a', n', c', l', rfl, hm, hr, hb⟩
theorem events_out (a : Option Addr) (n c : Nat) (who : Int) (w : World) (h0 : decide (who < 0) = true ∨ decide (who < 0) = false ∧ decide (3 < who) = true) :
    Calls Try.prog 12 #[.slice a n c, .int .i64 who] w fun e w' => e = .returned (.tuple #[.slice none 0 0, .int .i64 2]) ∧ w = w' := by
  rcases h0 with h0 | ⟨h0, h1⟩
  all_goals
    go_enter Try.func12, Try.ntmps12
    go_wp2_with fail
    go_ret2
    exact ⟨rfl, rfl⟩
theorem refEvents_out (a : Option Addr) (n c : Nat) (who : Int) (w : World) (h0 : decide (who < 0) = true ∨ decide (who < 0) = false ∧ decide (3 < who) = true) :
    Calls Try.prog 13 #[.slice a n c, .int .i64 who] w fun e w' => e = .returned (.tuple #[.slice none 0 0, .int .i64 2]) ∧ w = w' := by
  rcases h0 with h0 | ⟨h0, h1⟩
  all_goals
    go_enter Try.func13, Try.ntmps13
    go_wp2
    go_ret2
    exact ⟨rfl, rfl⟩
def SameEvsRel (w : World) (l m : List EventP) (n : Nat) (f : Nat) (i : Value) (w' : World) : Prop :=
  ∃ k : Nat, k + f = n ∧ i = .int .i64 (k : Int) ∧ l.take k = m.take k ∧ Below w.heap.size w w'
set_option maxHeartbeats 1000000 in
theorem sameEvents_any (a b : Option Addr) (n c n' c' : Nat) (l m : List (EventP × EventH)) (w : World) (hl : EventRow w a n c l) (hm : EventRow w b n' c' m) :
    Calls Try.prog 29 #[.slice a n c, .slice b n' c'] w fun e w' => e = .returned (.bool (decide (l.map Prod.fst = m.map Prod.fst))) ∧ Below w.heap.size w w' := by
  have HL := Lib.hid hl.2.1
  have HM := Lib.hid hm.2.1
  have hsm := hl.2.2.2.2.1
  by_cases hnn : n = n'
  · subst hnn
    go_enter Try.func29, Try.ntmps29
    go_wp2_with fail
    go_loopg [5] n (SameEvsRel w (l.map Prod.fst) (m.map Prod.fst) n)
    case atStart => exact ⟨0, Nat.zero_add _, rfl, rfl, Below.refl _ _⟩
    case round =>
      obtain ⟨k, hk, rfl, heq, hbw⟩ := hrel
      have hwz := hbw.size
      have HQ := Lib.hid heq
      clear heq
      by_cases hlt : k < n
      · have t0 : decide ((k : Int) < (n : Int)) = true := by simp; omega
        have hkl : k < l.length := by rw [HL.out]; exact hlt
        have hkm : k < m.length := by rw [HM.out]; exact hlt
        obtain ⟨b1, o1, rfl, hbl1, hc1⟩ := hl.elem k hkl
        obtain ⟨b2, o2, rfl, hbl2, hc2⟩ := hm.elem k hkm
        have hev1 : EventAt w l[k].1 l[k].2 := hl.2.2.2.2.2 l[k] (List.getElem_mem hkl)
        have hev2 : EventAt w m[k].1 m[k].2 := hm.2.2.2.2.2 m[k] (List.getElem_mem hkm)
        have L1 : ∀ W, Old wr.drew W → ∀ j (hj : j < (eventCells l[k].1 l[k].2).length), W.cell? ⟨b1, o1 + k * 7 + j, none⟩ = some (eventCells l[k].1 l[k].2)[j] := fun W h j hj => by
          rw [(below_step (below_step hbw (Below.refl _ _).drew) h).cell (show b1 < w.heap.size from hbl1)]; exact hc1 j hj
        have L2 : ∀ W, Old wr.drew W → ∀ j (hj : j < (eventCells m[k].1 m[k].2).length), W.cell? ⟨b2, o2 + k * 7 + j, none⟩ = some (eventCells m[k].1 m[k].2)[j] := fun W h j hj => by
          rw [(below_step (below_step hbw (Below.refl _ _).drew) h).cell (show b2 < w.heap.size from hbl2)]; exact hc2 j hj
        clear hc1 hc2
        have H1 := Lib.hid (List.take_succ_eq_append_getElem hkl)
        have H2 := Lib.hid (List.take_succ_eq_append_getElem hkm)
        have HD := Lib.hid (show l[k].1 ≠ m[k].1 → l.map Prod.fst ≠ m.map Prod.fst from fun h e => h (by have := congrArg (fun x => x[k]?) e; simpa [hkl, hkm] using this))
        generalize l[k] = x at *
        generalize m[k] = y at *
        obtain ⟨p, h⟩ := x
        obtain ⟨q, g⟩ := y
        go_wp2_with fail
        refine wp_region_old (0 :: 1 :: 2 :: 3 :: 4 :: 5 :: 6 :: 7 :: 8 :: 9 :: []) (by kernel_rfl) (by kernel_rfl) (fun c a d v w h => by cases d <;> exact h) ?_
        repeat (first | (refine lex_skip rfl (by rfl) ?_; simp only [Act.put, List.setIfInBounds_toArray, List.set]) | (refine lex_quiet (v := ?_) rfl rfl (by rfl) ?_ ?_; rotate_left; (intro W hW; go_simp); (try with_reducible rfl); simp only [Act.put, List.setIfInBounds_toArray, List.set]))
        refine lex_quiet (v := eventVal p h) rfl rfl (by rfl) (fun W hW => exec_load_as 26 eventT (.tmp 19) rfl rfl rfl (L1 W hW) rfl) ?_
        simp only [Act.put, List.setIfInBounds_toArray, List.set]
        repeat (first | (refine lex_skip rfl (by rfl) ?_; simp only [Act.put, List.setIfInBounds_toArray, List.set]) | (refine lex_quiet (v := ?_) rfl rfl (by rfl) ?_ ?_; rotate_left; (intro W hW; go_simp); (try with_reducible rfl); simp only [Act.put, List.setIfInBounds_toArray, List.set]))
        refine lex_quiet (v := eventVal q g) rfl rfl (by rfl) (fun W hW => exec_load_as 26 eventT (.tmp 23) rfl rfl rfl (L2 W hW) rfl) ?_
        simp only [Act.put, List.setIfInBounds_toArray, List.set]
        refine lex_loud rfl rfl (by rfl) (fun K hK => ?_); go_wp2_with fail
        refine (sameEvent_any p q h g _ ((hev1.old hbw).old (Below.refl _ _).drew) ((hev2.old hbw).old (Below.refl _ _).drew)).mono ?_
        rintro e w1 ⟨rfl, hb1⟩
        by_cases hpq : p = q
        · have e0 : decide (p = q) = true := by simp [hpq]
          rw [e0]
          clear e0
          go_wp2_with fail
          refine hK _ _ hb1 ?_
          clear hK K
          repeat (first | (refine lex_skip rfl (by rfl) ?_; simp only [Act.put, List.setIfInBounds_toArray, List.set]) | (refine lex_quiet (v := ?_) rfl rfl (by rfl) ?_ ?_; rotate_left; (intro W hW; go_simp); (try with_reducible rfl); simp only [Act.put, List.setIfInBounds_toArray, List.set]))
          refine lex_nil ?_
          go_wp2_with fail
          go_roundg (gk - 1)
          case measure => omega
          case rel => exact ⟨k + 1, by omega, by go_num, by rw [← List.map_take, ← List.map_take, H1.out, H2.out, List.map_append, List.map_append, List.map_take, List.map_take, HQ.out]; simp [hpq], below_step (below_step hbw (Below.refl _ _).drew) hb1⟩
        · have e0 : decide (p = q) = false := by simp [hpq]
          rw [e0]
          clear e0
          go_wp2_with fail
          refine hK _ _ hb1 ?_
          clear hK K
          repeat (first | (refine lex_skip rfl (by rfl) ?_; simp only [Act.put, List.setIfInBounds_toArray, List.set]) | (refine lex_quiet (v := ?_) rfl rfl (by rfl) ?_ ?_; rotate_left; (intro W hW; go_simp); (try with_reducible rfl); simp only [Act.put, List.setIfInBounds_toArray, List.set]))
          refine lex_nil ?_
          go_wp2_with fail
          go_ret
          exact ⟨by rw [decide_eq_false (HD.out hpq)]; rfl, below_step (below_step hbw (Below.refl _ _).drew) hb1⟩
      · have t0 : decide ((k : Int) < (n : Int)) = false := by simp; omega
        go_wp2_with fail
        go_ret
        have e1 : (l.map Prod.fst).take k = l.map Prod.fst := List.take_of_length_le (by rw [List.length_map, HL.out]; omega)
        have e2 : (m.map Prod.fst).take k = m.map Prod.fst := List.take_of_length_le (by rw [List.length_map, HM.out]; omega)
        have := HQ.out
        rw [e1, e2] at this
        exact ⟨by rw [decide_eq_true this]; rfl, hbw⟩
  · have hne : l.map Prod.fst ≠ m.map Prod.fst := fun e => hnn (by have := congrArg List.length e; simpa [HL.out, HM.out] using this)
    have t0 : ((n : Int) != (n' : Int)) = true := by simp; omega
    go_enter Try.func29, Try.ntmps29
    go_wp2_with fail
    go_ret
    exact ⟨by rw [decide_eq_false hne]; rfl, Below.refl _ _⟩

end Go.Proofs.Ytiglljegpdlnmaa
