/- Package image: a state's bytes, an action's. -/
import Derived.Test.YtdokkhjgmhcpkaaImWState
namespace Go.Proofs.Ytdokkhjgmhcpkaa
open Go.RowKit
set_option linter.unusedVariables false
set_option linter.unusedSimpArgs false
set_option maxRecDepth 20000

set_option maxHeartbeats 2000000 in
theorem bytes_w (w : World) (p : StateP) (h : StateH) (ha : StateAt w p h) (hx : FreeU w h.x.units) (hy : FreeU w h.y.units) (hz : (stateI p).length < 100000000000) :
    Calls Try.prog 10 #[stateVal p h] w fun e w' => ∃ a c, e = .returned (.slice a (stateI p).length c) ∧ Own w' w.heap.size 5 1 a (stateI p).length c ((stateI p).map bv) ∧ Below w.heap.size w w' := by
  rw [stateVal_cells]
  go_enter Try.func10, Try.ntmps10
  go_upto_region 1 with (fail)
  obtain ⟨S, hS⟩ : ∃ S, S = w.heap.size := ⟨_, rfl⟩
  rw [← hS]
  refine wp_forget (fun W => Blk W S (stateCells p h).toArray 29 ∧ Below w.heap.size w W ∧ S < W.heap.size) ⟨by rw [hS]; exact Blk.new w _ _, by (try unfold Kept); repeat (first | assumption | exact Below.refl _ _ | exact below_undrew (Below.refl _ _) | exact Below.mono (by assumption) (by first | (simp; done) | (simp; omega) | omega) | refine below_setRow ?_ (by first | (simp; done) | (simp; omega) | omega) _ | refine Below.setCell ?_ (by first | (simp; done) | (simp; omega) | omega) _ | refine Below.alloc ?_ (by first | (simp; done) | (simp; omega) | omega) _ | refine below_drewN ?_ _ | refine Below.drew ?_ | refine below_undrew ?_ | refine below_step ?_ (by assumption)), by rw [hS]; simp⟩ ?_
  rintro W1 ⟨hs1, hb1, hl1⟩
  have HS := Lib.hid hS
  clear hS
  go_upto_region 2 with (fail)
  obtain ⟨C, hC⟩ : ∃ C, C = W1.heap.size := ⟨_, rfl⟩
  rw [← hC]
  refine wp_forget (fun W => Blk W C #[.slice none 0 0, .int .i64 0, .bool false] 53 ∧ Below W1.heap.size W1 W) ⟨by rw [hC]; exact Blk.new W1 _ _, by (try unfold Kept); repeat (first | assumption | exact Below.refl _ _ | exact below_undrew (Below.refl _ _) | exact Below.mono (by assumption) (by first | (simp; done) | (simp; omega) | omega) | refine below_setRow ?_ (by first | (simp; done) | (simp; omega) | omega) _ | refine Below.setCell ?_ (by first | (simp; done) | (simp; omega) | omega) _ | refine Below.alloc ?_ (by first | (simp; done) | (simp; omega) | omega) _ | refine below_drewN ?_ _ | refine Below.drew ?_ | refine below_undrew ?_ | refine below_step ?_ (by assumption))⟩ ?_
  rintro W2 ⟨hc2, hb2⟩
  have hb02 := below_step hb1 hb2
  have hq2 : WAt W2 W1.heap.size ⟨C, none, 0, []⟩ := ⟨by show W1.heap.size ≤ C; omega, hc2, Own.nil _ _ _ _⟩
  have hin : StateIn W2 W1.heap.size p h := ((StateIn.of ha hx hy).low hb02).mono hb1.size
  have cb := state_w W2 W1.heap.size ⟨C, none, 0, []⟩ S p h hq2 hb2.size (hs1.old hb2) hin hl1 (by simp; omega)
  dsimp only at cb
  clear hC
  go_wp2_with fail
  refine cb.mono ?_
  clear cb
  rintro e W3 ⟨rfl, q', hbs, hs⟩
  have cc := hs.at'.blk.rule
  unfold wcells at cc
  have hc' : q'.c = C := hs.c
  rw [hc'] at cc
  have hbq : q'.bs = stateI p := by rw [hbs.out]; simp
  have hb03 := hb1.trans ((hs.below hq2 hb2.size).mono hb1.size |> (Below.trans (hb2.mono hb1.size)))
  have HQ := Lib.hid hbq
  have hrow := hs.at'.row
  have HR := Lib.hid hrow
  clear hbq hrow
  go_wp2_with fail
  go_ret
  refine ⟨q'.a, q'.cap, by rw [HQ.out]; rfl, ?_, hb03⟩
  have := HR.out.lower hb1.size
  rw [HQ.out] at this
  exact this
set_option maxHeartbeats 2000000 in
theorem actbytes_w (w : World) (p : ActionP) (h : ActionH) (ha : ActionAt w p h) (hz : (actionI p).length < 100000000000) :
    Calls Try.prog 17 #[actionVal p h] w fun e w' => ∃ a c, e = .returned (.slice a (actionI p).length c) ∧ Own w' w.heap.size 5 1 a (actionI p).length c ((actionI p).map bv) ∧ Below w.heap.size w w' := by
  rw [actionVal_cells]
  go_enter Try.func17, Try.ntmps17
  go_upto_region 1 with (fail)
  obtain ⟨S, hS⟩ : ∃ S, S = w.heap.size := ⟨_, rfl⟩
  rw [← hS]
  refine wp_forget (fun W => Blk W S (actionCells p h).toArray 41 ∧ Below w.heap.size w W ∧ S < W.heap.size) ⟨by rw [hS]; exact Blk.new w _ _, by (try unfold Kept); repeat (first | assumption | exact Below.refl _ _ | exact below_undrew (Below.refl _ _) | exact Below.mono (by assumption) (by first | (simp; done) | (simp; omega) | omega) | refine below_setRow ?_ (by first | (simp; done) | (simp; omega) | omega) _ | refine Below.setCell ?_ (by first | (simp; done) | (simp; omega) | omega) _ | refine Below.alloc ?_ (by first | (simp; done) | (simp; omega) | omega) _ | refine below_drewN ?_ _ | refine Below.drew ?_ | refine below_undrew ?_ | refine below_step ?_ (by assumption)), by rw [hS]; simp⟩ ?_
  rintro W1 ⟨hs1, hb1, hl1⟩
  have HS := Lib.hid hS
  clear hS
  go_upto_region 2 with (fail)
  obtain ⟨C, hC⟩ : ∃ C, C = W1.heap.size := ⟨_, rfl⟩
  rw [← hC]
  refine wp_forget (fun W => Blk W C #[.slice none 0 0, .int .i64 0, .bool false] 53 ∧ Below W1.heap.size W1 W) ⟨by rw [hC]; exact Blk.new W1 _ _, by (try unfold Kept); repeat (first | assumption | exact Below.refl _ _ | exact below_undrew (Below.refl _ _) | exact Below.mono (by assumption) (by first | (simp; done) | (simp; omega) | omega) | refine below_setRow ?_ (by first | (simp; done) | (simp; omega) | omega) _ | refine Below.setCell ?_ (by first | (simp; done) | (simp; omega) | omega) _ | refine Below.alloc ?_ (by first | (simp; done) | (simp; omega) | omega) _ | refine below_drewN ?_ _ | refine Below.drew ?_ | refine below_undrew ?_ | refine below_step ?_ (by assumption))⟩ ?_
  rintro W2 ⟨hc2, hb2⟩
  have hb02 := below_step hb1 hb2
  have hq2 : WAt W2 W1.heap.size ⟨C, none, 0, []⟩ := ⟨by show W1.heap.size ≤ C; omega, hc2, Own.nil _ _ _ _⟩
  have hin : ActionIn W2 W1.heap.size p h := ((ActionIn.of ha).low hb02).mono hb1.size
  have cb := action_w W2 W1.heap.size ⟨C, none, 0, []⟩ S p h hq2 hb2.size (hs1.old hb2) hin hl1 (by simp; omega)
  dsimp only at cb
  clear hC
  go_wp2_with fail
  refine cb.mono ?_
  clear cb
  rintro e W3 ⟨rfl, q', hbs, hs⟩
  have cc := hs.at'.blk.rule
  unfold wcells at cc
  have hc' : q'.c = C := hs.c
  rw [hc'] at cc
  have hbq : q'.bs = actionI p := by rw [hbs.out]; simp
  have hb03 := hb1.trans ((hs.below hq2 hb2.size).mono hb1.size |> (Below.trans (hb2.mono hb1.size)))
  have HQ := Lib.hid hbq
  have hrow := hs.at'.row
  have HR := Lib.hid hrow
  clear hbq hrow
  go_wp2_with fail
  go_ret
  refine ⟨q'.a, q'.cap, by rw [HQ.out]; rfl, ?_, hb03⟩
  have := HR.out.lower hb1.size
  rw [HQ.out] at this
  exact this
end Go.Proofs.Ytdokkhjgmhcpkaa
