/- The walks through package seats: New, Who, Where, Len, All. -/
import Derived.Test.YtepbeafbfbimlaaSeatMem
import Derived.Test.YtepbeafbfbimlaaLex
namespace Go.Proofs.Ytepbeafbfbimlaa
open Go.RowKit Go.Maps
set_option linter.unusedVariables false
set_option linter.unusedSimpArgs false

theorem tokT : AggT Try.prog 24 3 := ⟨⟨_, Try.underlying24, rfl⟩, by kernel_rfl⟩
theorem new_at (w : World) (m : Int) (h0 : 0 ≤ m) (h1 : m ≤ 16) : SeatsAt (((w.alloc (.map #[] 0)).alloc (.map #[] 0)).alloc (.cells #[.int .i64 m, .map (some w.heap.size), .map (some (w.heap.size + 1))] 51)) w.heap.size ⟨w.heap.size + 1 + 1, w.heap.size, w.heap.size + 1, m, []⟩ := by
  refine ⟨⟨by dsimp only; omega, Nat.le_refl _, by dsimp only; omega, by dsimp only; omega⟩, ?_, ?_, ?_, fun x hx => by simp at hx, h0, h0, h1⟩
  · have := Blk.new ((w.alloc (.map #[] 0)).alloc (.map #[] 0)) #[.int .i64 m, .map (some w.heap.size), .map (some (w.heap.size + 1))] 51
    simpa [seatCells] using this
  · exact (GMap.made w Try.prog 3 Rt).keep ((Below.heap_alloc _ _ _ (by simp; omega)).trans (Below.heap_alloc _ _ _ (by simp)))
  · have := GMap.made (w.alloc (.map #[] 0)) Try.prog 53 Ri
    rw [show (w.alloc (.map #[] 0)).heap.size = w.heap.size + 1 by simp] at this
    exact this.keep (Below.heap_alloc _ _ _ (by simp))
theorem new_any (w : World) (m : Int) (h1 : -9223372036854775808 ≤ m) (h2 : m ≤ 9223372036854775807) : Calls Try.prog 13 #[.int .i64 m] w fun e w' => ∃ r : SeatsR, e = .returned (.pointer (some ⟨r.s, 0, none⟩)) ∧ SeatsAt w' w.heap.size r ∧ r.l = [] ∧ r.most = min (max m 0) 16 ∧ Below w.heap.size w w' := by
  have hmm := @run_makeMap Try.prog
  go_enter Try.func13, Try.ntmps13
  go_wp2_with fail
  all_goals go_ret
  · exact ⟨⟨w.heap.size + 1 + 1, w.heap.size, w.heap.size + 1, 0, []⟩, rfl, new_at w 0 (by omega) (by omega), rfl, by simp; omega, by (try unfold Kept); repeat (first | assumption | exact Below.refl _ _ | exact below_undrew (Below.refl _ _) | exact Below.mono (by assumption) (by first | (simp; done) | (simp; omega) | omega) | refine below_setRow ?_ (by first | (simp; done) | (simp; omega) | omega) _ | refine Below.setCell ?_ (by first | (simp; done) | (simp; omega) | omega) _ | refine Below.alloc ?_ (by first | (simp; done) | (simp; omega) | omega) _ | refine below_drewN ?_ _ | refine Below.drew ?_ | refine below_undrew ?_ | refine below_step ?_ (by assumption))⟩
  · exact ⟨⟨w.heap.size + 1 + 1, w.heap.size, w.heap.size + 1, 16, []⟩, rfl, new_at w 16 (by omega) (by omega), rfl, by simp; omega, by (try unfold Kept); repeat (first | assumption | exact Below.refl _ _ | exact below_undrew (Below.refl _ _) | exact Below.mono (by assumption) (by first | (simp; done) | (simp; omega) | omega) | refine below_setRow ?_ (by first | (simp; done) | (simp; omega) | omega) _ | refine Below.setCell ?_ (by first | (simp; done) | (simp; omega) | omega) _ | refine Below.alloc ?_ (by first | (simp; done) | (simp; omega) | omega) _ | refine below_drewN ?_ _ | refine Below.drew ?_ | refine below_undrew ?_ | refine below_step ?_ (by assumption))⟩
  · exact ⟨⟨w.heap.size + 1 + 1, w.heap.size, w.heap.size + 1, m, []⟩, rfl, new_at w m (by omega) (by omega), rfl, by simp; omega, by (try unfold Kept); repeat (first | assumption | exact Below.refl _ _ | exact below_undrew (Below.refl _ _) | exact Below.mono (by assumption) (by first | (simp; done) | (simp; omega) | omega) | refine below_setRow ?_ (by first | (simp; done) | (simp; omega) | omega) _ | refine Below.setCell ?_ (by first | (simp; done) | (simp; omega) | omega) _ | refine Below.alloc ?_ (by first | (simp; done) | (simp; omega) | omega) _ | refine below_drewN ?_ _ | refine Below.drew ?_ | refine below_undrew ?_ | refine below_step ?_ (by assumption))⟩
theorem len_any (w : World) (B : Nat) (r : SeatsR) (h : SeatsAt w B r) : Calls Try.prog 10 #[.pointer (some ⟨r.s, 0, none⟩)] w fun e w' => e = .returned (.int .i64 (r.l.length : Int)) ∧ w' = w := by
  have hb := h.blk.rule
  unfold seatCells at hb
  have hl := h.size 3
  go_enter Try.func10, Try.ntmps10
  go_wp2_with fail
  go_ret
  exact ⟨rfl, rfl⟩
theorem all_any (w : World) (s : Option Addr) : Calls Try.prog 14 #[.pointer s] w fun e w' => e = .returned (.func (.func 16) #[] #[.pointer (some ⟨w.heap.size, 0, none⟩)]) ∧ w' = w.alloc (.cells #[.pointer s] 25) := by
  have hmf : ∀ (fn : Fn) (first cap : Array Value) (w : World), (Instr.makeFunc fn first cap).run Try.prog w = .ok (.func fn first cap) w := fun _ _ _ _ => rfl
  go_enter Try.func14, Try.ntmps14
  go_wp2_with fail
  go_ret
  exact ⟨rfl, rfl⟩
theorem where_in (w : World) (B : Nat) (r : SeatsR) (h : SeatsAt w B r) {x : Seat} (hx : x ∈ r.l) (nm : ByteArray) (ro : Int) (e1 : nm = x.2.name) (e2 : ro = x.2.role) :
    Calls Try.prog 6 #[.pointer (some ⟨r.s, 0, none⟩), .string nm, .int .i8 ro] w fun e w' => e = .returned (.tuple #[.int .i64 x.1, .bool true]) ∧ w' = w := by
  have hb := h.blk.rule
  unfold seatCells at hb
  have hl := h.lookP hx (t := ⟨nm, ro, 0⟩) e1 e2
  unfold perVal at hl
  dsimp only at hl
  clear e1 e2
  go_enter Try.func6, Try.ntmps6
  go_wp2_with fail
  go_ret2
  exact ⟨rfl, rfl⟩
theorem who_in (w : World) (B : Nat) (r : SeatsR) (h : SeatsAt w B r) {x : Seat} (hx : x ∈ r.l) :
    Calls Try.prog 5 #[.pointer (some ⟨r.s, 0, none⟩), .int .i64 x.1] w fun e w' => e = .returned (.tuple #[tokVal x.2, .int .i64 0]) ∧ Below w.heap.size w w' := by
  have hl := fun (W : World) (hb : Below w.heap.size w W) => (h.old hb).look hx true
  have hs := fun (W : World) (hb : Below w.heap.size w W) => (h.old hb).blk.rule
  simp only [if_true] at hl
  unfold seatCells at hs
  go_enter Try.func5, Try.ntmps5
  go_upto_region 3 with (fail)
  obtain ⟨T, hT⟩ : ∃ x, x = w.heap.size := ⟨_, rfl⟩
  rw [← hT]
  refine wp_forget (fun W => Blk W T (tokCells tok0).toArray 24 ∧ Below w.heap.size w W) ⟨by rw [hT]; exact Blk.new _ _ _, by (try unfold Kept); repeat (first | assumption | exact Below.refl _ _ | exact below_undrew (Below.refl _ _) | exact Below.mono (by assumption) (by first | (simp; done) | (simp; omega) | omega) | refine below_setRow ?_ (by first | (simp; done) | (simp; omega) | omega) _ | refine Below.setCell ?_ (by first | (simp; done) | (simp; omega) | omega) _ | refine Below.alloc ?_ (by first | (simp; done) | (simp; omega) | omega) _ | refine below_drewN ?_ _ | refine Below.drew ?_ | refine below_undrew ?_ | refine below_step ?_ (by assumption))⟩ ?_
  rintro W1 ⟨bt, hb1⟩
  have hTw : w.heap.size ≤ T := Nat.le_of_eq hT.symm
  clear hT
  have hl1 := hl W1 hb1
  have hs1 := hs W1 hb1
  unfold tokVal at hl1
  go_upto_region 4 with (refine wpList_store_blk rfl 24 tokT (.tmp 6) _ rfl rfl rfl (Blk.new _ _ _) rfl rfl (by rfl) ?_)
  obtain ⟨U, hU⟩ : ∃ x, x = W1.heap.size := ⟨_, rfl⟩
  rw [← hU]
  refine wp_forget (fun W => Blk W U (tokCells x.2).toArray 24 ∧ Below W1.heap.size W1 W) ⟨by rw [hU]; exact (Blk.new _ _ _).setRow _, by rw [hU]; exact below_setRow ((Below.refl _ _).alloc (Nat.le_refl _) _) (Nat.le_refl _) _⟩ ?_
  rintro W2 ⟨bu, hb2⟩
  replace bt := bt.old hb2
  have hbw := below_step hb1 hb2
  clear hU hl1 hs1 hl hs hb1 hb2
  go_wp2_with (first | refine wpList_load_blk rfl 24 tokT (.tmp 6) rfl rfl bu rfl ?_ | refine wpList_store_blk rfl 24 tokT (.tmp 4) _ rfl rfl rfl bt rfl rfl (by rfl) ?_)
  exact post_blk_tmp rfl tokT rfl (bt.setRow _) rfl rfl rfl ⟨rfl, below_setRow hbw hTw _⟩
theorem who_no (w : World) (B : Nat) (r : SeatsR) (h : SeatsAt w B r) {n : Int} (hw : (Lit.int .i64 n).wf = true) (hn : ∀ x ∈ r.l, x.1 ≠ n) :
    Calls Try.prog 5 #[.pointer (some ⟨r.s, 0, none⟩), .int .i64 n] w fun e w' => e = .returned (.tuple #[tokVal tok0, .int .i64 4]) ∧ Below w.heap.size w w' := by
  have hl := fun (W : World) (hb : Below w.heap.size w W) => (h.old hb).look_no hw hn
  have hs := fun (W : World) (hb : Below w.heap.size w W) => (h.old hb).blk.rule
  unfold seatCells at hs
  go_enter Try.func5, Try.ntmps5
  go_upto_region 3 with (fail)
  obtain ⟨T, hT⟩ : ∃ x, x = w.heap.size := ⟨_, rfl⟩
  rw [← hT]
  refine wp_forget (fun W => Blk W T (tokCells tok0).toArray 24 ∧ Below w.heap.size w W) ⟨by rw [hT]; exact Blk.new _ _ _, by (try unfold Kept); repeat (first | assumption | exact Below.refl _ _ | exact below_undrew (Below.refl _ _) | exact Below.mono (by assumption) (by first | (simp; done) | (simp; omega) | omega) | refine below_setRow ?_ (by first | (simp; done) | (simp; omega) | omega) _ | refine Below.setCell ?_ (by first | (simp; done) | (simp; omega) | omega) _ | refine Below.alloc ?_ (by first | (simp; done) | (simp; omega) | omega) _ | refine below_drewN ?_ _ | refine Below.drew ?_ | refine below_undrew ?_ | refine below_step ?_ (by assumption))⟩ ?_
  rintro W1 ⟨bt, hb1⟩
  have hTw : w.heap.size ≤ T := Nat.le_of_eq hT.symm
  clear hT
  have hl1 := hl W1 hb1
  have hs1 := hs W1 hb1
  unfold tokVal at hl1
  go_upto_region 4 with (refine wpList_store_blk rfl 24 tokT (.tmp 6) _ rfl rfl rfl (Blk.new _ _ _) rfl rfl (by rfl) ?_)
  refine wp_forget (fun W => Below W1.heap.size W1 W) (below_setRow ((Below.refl _ _).alloc (Nat.le_refl _) _) (Nat.le_refl _) _) ?_
  intro W2 hb2
  replace bt := bt.old hb2
  have hbw := below_step hb1 hb2
  clear hl1 hs1 hl hs hb1 hb2
  go_wp2_with (refine wpList_store_blk rfl 24 tokT (.tmp 4) _ rfl rfl rfl bt rfl rfl (by rfl) ?_)
  exact post_blk_tmp rfl tokT rfl (bt.setRow _) rfl rfl rfl ⟨rfl, below_setRow hbw hTw _⟩
theorem ann_any (w : World) (nm : ByteArray) (u : Int) : Calls Try.prog 15 #[.string nm, .int .i64 u] w fun e w' => e = .returned (tokVal ⟨nm, 0, u⟩) ∧ Below w.heap.size w w' := by
  go_enter Try.func15, Try.ntmps15
  go_wp2_with (refine wpList_store_blk rfl 24 tokT (.tmp 4) _ rfl rfl rfl (Blk.new _ _ _) rfl rfl (by rfl) ?_)
  exact post_blk rfl tokT rfl ((Blk.new _ _ _).setRow _) rfl rfl ⟨rfl, below_setRow ((Below.refl _ _).alloc (Nat.le_refl _) _) (Nat.le_refl _) _⟩
end Go.Proofs.Ytepbeafbfbimlaa
