/- Package baizelaw18: too great to be asked; what the document says of the zero state. -/
import Derived.Test.YtdokkhjgmhcpkaaSameQ
namespace Go.Proofs.Ytdokkhjgmhcpkaa
open Go.RowKit
set_option linter.unusedVariables false

def sideCount (x : SideP) : Nat := x.deck.length + x.hand.length + x.grave.length + x.units.length + x.told.length
def stateCount (p : StateP) : Nat := p.attack.length + sideCount p.x + sideCount p.y
def countTo (p : StateP) : Nat → Nat
  | 0 => p.attack.length
  | 1 => p.attack.length + sideCount p.x
  | _ => stateCount p
def GreatRel (w : World) (p : StateP) (cs : Array Value) (f : Nat) (n i : Value) (w' : World) : Prop :=
  ∃ k : Nat, k + f = 2 ∧ i = idx k ∧ n = .int .i64 (countTo p k : Int) ∧ Blk w' w.heap.size cs 29 ∧ Below w.heap.size w w'
set_option maxRecDepth 100000 in
set_option maxHeartbeats 2000000 in
theorem great_any (p : StateP) (h : StateH) (w : World) (ha : StateAt w p h) :
    Calls Try.prog 8 #[stateVal p h] w fun e w' => e = .returned (.bool (decide (1000 < stateCount p))) ∧ Below w.heap.size w w' := by
  obtain ⟨turn, mover, phase, struck, result, attack, next, ⟨xl, xm, xt, xd, xh, xg, xu, xo⟩, ⟨yl, ym, yt, yd, yh, yg, yu, yo⟩⟩ := p
  obtain ⟨⟨aa, an, ac⟩, ⟨⟨xda, xdn, xdc⟩, ⟨xha, xhn, xhc⟩, ⟨xga, xgn, xgc⟩, ⟨xua, xun, xuc⟩, ⟨xoa, xon, xoc⟩⟩, ⟨⟨yda, ydn, ydc⟩, ⟨yha, yhn, yhc⟩, ⟨yga, ygn, ygc⟩, ⟨yua, yun, yuc⟩, ⟨yoa, yon, yoc⟩⟩⟩ := h
  have b0 := ha.attack.2.2.2.2.1
  have b1 := ha.x.deck.2.2.2.2.1
  have b2 := ha.x.hand.2.2.2.2.1
  have b3 := ha.x.grave.2.2.2.2.1
  have b4 := ha.x.units.2.2.2.2.1
  have b5 := ha.x.told.2.2.2.2.1
  have c1 := ha.y.deck.2.2.2.2.1
  have c2 := ha.y.hand.2.2.2.2.1
  have c3 := ha.y.grave.2.2.2.2.1
  have c4 := ha.y.units.2.2.2.2.1
  have c5 := ha.y.told.2.2.2.2.1
  dsimp only at b0 b1 b2 b3 b4 b5 c1 c2 c3 c4 c5
  obtain rfl : attack.length = an := ha.attack.2.1
  obtain rfl : xd.length = xdn := ha.x.deck.2.1
  obtain rfl : xh.length = xhn := ha.x.hand.2.1
  obtain rfl : xg.length = xgn := ha.x.grave.2.1
  obtain rfl : xu.length = xun := ha.x.units.2.1
  obtain rfl : xo.length = xon := ha.x.told.2.1
  obtain rfl : yd.length = ydn := ha.y.deck.2.1
  obtain rfl : yh.length = yhn := ha.y.hand.2.1
  obtain rfl : yg.length = ygn := ha.y.grave.2.1
  obtain rfl : yu.length = yun := ha.y.units.2.1
  obtain rfl : yo.length = yon := ha.y.told.2.1
  clear ha
  unfold stateVal
  dsimp only
  go_enter Try.func8, Try.ntmps8
  go_wp2_with fail
  go_loopg [3, 4] 2 (GreatRel w ⟨turn, mover, phase, struck, result, attack, next, ⟨xl, xm, xt, xd, xh, xg, xu, xo⟩, ⟨yl, ym, yt, yd, yh, yg, yu, yo⟩⟩ _)
  case atStart => exact ⟨0, rfl, rfl, rfl, Blk.new _ _ _, by (try unfold Kept); repeat (first | assumption | exact Below.refl _ _ | exact below_undrew (Below.refl _ _) | exact Below.mono (by assumption) (by first | (simp; done) | (simp; omega) | omega) | refine below_setRow ?_ (by first | (simp; done) | (simp; omega) | omega) _ | refine Below.setCell ?_ (by first | (simp; done) | (simp; omega) | omega) _ | refine Below.alloc ?_ (by first | (simp; done) | (simp; omega) | omega) _ | refine below_drewN ?_ _ | refine Below.drew ?_ | refine below_undrew ?_ | refine below_step ?_ (by assumption))⟩
  case round =>
    obtain ⟨k, hk, rfl, rfl, hB, hb⟩ := hrel
    have hbz := hb.size
    rcases (show k = 0 ∨ k = 1 ∨ k = 2 by omega) with rfl | rfl | rfl
    · simp only [idx, countTo]
      go_upto_region 6 with (first | refine wpList_load_part rfl 26 sideT (.tmp 15) rfl rfl hB rfl rfl ?_ | refine wpList_store_blk rfl 26 sideT (.tmp 5) _ rfl rfl rfl (Blk.new _ _ _) rfl rfl rfl ?_)
      (try simp only [Act.put])
      refine wp_forget (fun W0 => Blk W0 wr.heap.size _ _ ∧ Blk W0 w.heap.size _ _ ∧ Below w.heap.size w W0) ⟨(Blk.new _ _ _).setRow _, hB.old (by (try unfold Kept); repeat (first | assumption | exact Below.refl _ _ | exact below_undrew (Below.refl _ _) | exact Below.mono (by assumption) (by first | (simp; done) | (simp; omega) | omega) | refine below_setRow ?_ (by first | (simp; done) | (simp; omega) | omega) _ | refine Below.setCell ?_ (by first | (simp; done) | (simp; omega) | omega) _ | refine Below.alloc ?_ (by first | (simp; done) | (simp; omega) | omega) _ | refine below_drewN ?_ _ | refine Below.drew ?_ | refine below_undrew ?_ | refine below_step ?_ (by assumption))), by (try unfold Kept); repeat (first | assumption | exact Below.refl _ _ | exact below_undrew (Below.refl _ _) | exact Below.mono (by assumption) (by first | (simp; done) | (simp; omega) | omega) | refine below_setRow ?_ (by first | (simp; done) | (simp; omega) | omega) _ | refine Below.setCell ?_ (by first | (simp; done) | (simp; omega) | omega) _ | refine Below.alloc ?_ (by first | (simp; done) | (simp; omega) | omega) _ | refine below_drewN ?_ _ | refine Below.drew ?_ | refine below_undrew ?_ | refine below_step ?_ (by assumption))⟩ ?_
      rintro W2 ⟨hE, hB2, hb2⟩
      have r5 := hE.rule
      go_wp2_with fail
      go_roundg 1
      case measure => omega
      case rel => exact ⟨1, rfl, rfl, by simp only [countTo, sideCount]; refine congrArg (Value.int .i64) ?_; push_cast; omega, hB2, hb2⟩
    · simp only [idx, countTo]
      go_upto_region 6 with (first | refine wpList_load_part rfl 26 sideT (.tmp 15) rfl rfl hB rfl rfl ?_ | refine wpList_store_blk rfl 26 sideT (.tmp 5) _ rfl rfl rfl (Blk.new _ _ _) rfl rfl rfl ?_)
      (try simp only [Act.put])
      refine wp_forget (fun W0 => Blk W0 wr.heap.size _ _ ∧ Blk W0 w.heap.size _ _ ∧ Below w.heap.size w W0) ⟨(Blk.new _ _ _).setRow _, hB.old (by (try unfold Kept); repeat (first | assumption | exact Below.refl _ _ | exact below_undrew (Below.refl _ _) | exact Below.mono (by assumption) (by first | (simp; done) | (simp; omega) | omega) | refine below_setRow ?_ (by first | (simp; done) | (simp; omega) | omega) _ | refine Below.setCell ?_ (by first | (simp; done) | (simp; omega) | omega) _ | refine Below.alloc ?_ (by first | (simp; done) | (simp; omega) | omega) _ | refine below_drewN ?_ _ | refine Below.drew ?_ | refine below_undrew ?_ | refine below_step ?_ (by assumption))), by (try unfold Kept); repeat (first | assumption | exact Below.refl _ _ | exact below_undrew (Below.refl _ _) | exact Below.mono (by assumption) (by first | (simp; done) | (simp; omega) | omega) | refine below_setRow ?_ (by first | (simp; done) | (simp; omega) | omega) _ | refine Below.setCell ?_ (by first | (simp; done) | (simp; omega) | omega) _ | refine Below.alloc ?_ (by first | (simp; done) | (simp; omega) | omega) _ | refine below_drewN ?_ _ | refine Below.drew ?_ | refine below_undrew ?_ | refine below_step ?_ (by assumption))⟩ ?_
      rintro W2 ⟨hE, hB2, hb2⟩
      have r5 := hE.rule
      simp only [sideCount]
      go_wp2_with fail
      go_roundg 0
      case measure => omega
      case rel => exact ⟨2, rfl, rfl, by simp only [countTo, stateCount, sideCount]; refine congrArg (Value.int .i64) ?_; push_cast; omega, hB2, hb2⟩
    · simp only [idx, countTo]
      go_wp2_with fail
      go_ret
      exact ⟨by simp; omega, hb⟩
-- SAME

theorem zero_at (w : World) : StateAt w zeroS nilS := by
  have h0 : Ints w nilSl [] := ⟨RowAt.nil _ _, rfl, Nat.le_refl _, by unfold maxLen; simp [nilSl], by simp [nilSl], fun x hx => by simp at hx⟩
  have h1 : Things w nilSl [] := ⟨RowAt.nil _ _, rfl, Nat.le_refl _, by unfold maxLen; simp [nilSl], by simp [nilSl], fun x hx => by simp at hx⟩
  have hz : wf64 0 := by show (Lit.int .i64 0).wf = true; decide
  have hz8 : wf8 0 := by show (Lit.int .i8 0).wf = true; decide
  have h2 : SideAt w ⟨0, 0, 0, [], [], [], [], []⟩ nilSH := ⟨hz, hz, hz, h0, h0, h0, h1, h0⟩
  exact ⟨hz, hz, hz8, hz8, h0, hz, h2, h2⟩
theorem free_nil (w : World) : FreeU w nilSl := fun ad h => by cases h
theorem zero_bytes : (stateI zeroS).length = 177 := by decide +kernel
theorem zero_read : readS (stateI zeroS) = (zeroS, 0, 0) := by decide +kernel
theorem zero_cut : readS ((stateI zeroS).take 176) = (zeroS, 176, 180) := by decide +kernel
set_option maxRecDepth 100000 in
set_option maxHeartbeats 2000000 in
theorem wakes_any (w : World) : Calls Try.prog 9 #[] w fun e w' => e = .returned (.bool true) ∧ Below w.heap.size w w' := by
  have cb := bytes_w w zeroS nilS (zero_at w) (free_nil w) (free_nil w) (by rw [zero_bytes]; omega)
  rw [zero_bytes] at cb
  go_enter Try.func9, Try.ntmps9
  go_wp2_with fail
  refine cb.mono ?_
  clear cb
  rintro e w1 ⟨a, c, rfl, hown, hb1⟩
  obtain ⟨g, rfl⟩ := hown.head (by omega)
  have hrow : BytesAt w1 (some ⟨g, 0, none⟩) (stateI zeroS) := hown.row
  have hle := hown.le
  have cr := read_any w1 (some ⟨g, 0, none⟩) 177 c (stateI zeroS) hrow zero_bytes (by omega)
  rw [zero_read] at cr
  go_wp2_with fail
  refine cr.mono ?_
  clear cr
  rintro e w2 ⟨h1, rfl, hown1, hb2⟩
  rw [stateVal_cells]
  go_upto_region 5 with (refine wpList_store_blk rfl 29 stateT (.tmp 2) _ rfl rfl rfl (Blk.new _ _ _) rfl rfl (by rfl) ?_)
  obtain ⟨X, hX⟩ : ∃ X, X = w2.heap.size := ⟨_, rfl⟩
  rw [← hX]
  have hb02 := below_step hb1 hb2
  refine wp_forget (fun W => Blk W X (stateCells zeroS h1).toArray 29 ∧ Below w2.heap.size w2 W) ⟨by rw [hX]; exact (Blk.new _ _ _).setRow _, by rw [hX]; exact below_setRow ((Below.refl _ _).alloc (Nat.le_refl _) _) (Nat.le_refl _) _⟩ ?_
  rintro w3 ⟨hx3, hb3⟩
  have hb03 := below_step hb02 hb3
  clear hX hown1
  have hrow3 : BytesAt w3 (some ⟨g, 0, none⟩) ((stateI zeroS).take 176) := by
    have := (hrow.below hb2).below hb3
    intro i hi
    obtain ⟨b, o, e1, e2⟩ := this i (by rw [List.length_map] at hi ⊢; rw [List.length_take] at hi; omega)
    exact ⟨b, o, e1, by rw [e2]; simp⟩
  have cr := read_any w3 (some ⟨g, 0, none⟩) 176 c _ hrow3 (by rw [List.length_take, zero_bytes]; rfl) (by omega)
  rw [zero_cut] at cr
  go_wp2_with fail
  refine cr.mono ?_
  clear cr
  rintro e w4 ⟨h2, rfl, hown2, hb4⟩
  have hx4 := hx3.old hb4
  rw [stateVal_cells]
  go_upto_region 6 with (refine wpList_store_blk rfl 29 stateT (.tmp 5) _ rfl rfl rfl (Blk.new _ _ _) rfl rfl (by rfl) ?_)
  refine wp_forget (fun W => Below w4.heap.size w4 W) (below_setRow ((Below.refl _ _).alloc (Nat.le_refl _) _) (Nat.le_refl _) _) ?_
  intro w5 hb5
  have hb05 := below_step (below_step hb03 hb4) hb5
  have cx := (hx4.old hb5).rule 0
  have cx2 : w5.cell? ⟨X, 0, none⟩ = some (.int .i64 0) := cx
  clear cx
  go_wp2_with fail
  go_ret
  exact ⟨rfl, hb05⟩
end Go.Proofs.Ytdokkhjgmhcpkaa
