/- The law on views as bytes, walked. -/
import Derived.Test.YtiglljegpdlnmaaRefBytes
import Derived.Test.YtiglljegpdlnmaaSameVw
namespace Go.Proofs.Ytiglljegpdlnmaa
open Go.RowKit
set_option linter.unusedSimpArgs false

def sideVCount (x : SideVP) : Nat := x.deck.length + x.hand.length + x.grave.length + x.units.length + x.told.length
def viewCount (p : ViewP) : Nat := p.attack.length + sideVCount p.x + sideVCount p.y
def countVTo (p : ViewP) : Nat → Nat
  | 0 => p.attack.length
  | 1 => p.attack.length + sideVCount p.x
  | _ => viewCount p
def GreatVRel (w : World) (p : ViewP) (cs : Array Value) (f : Nat) (n i : Value) (w' : World) : Prop :=
  ∃ k : Nat, k + f = 2 ∧ i = idx k ∧ n = .int .i64 (countVTo p k : Int) ∧ Blk w' w.heap.size cs 41 ∧ Below w.heap.size w w'
set_option maxRecDepth 100000 in
set_option maxHeartbeats 2000000 in
theorem greatV_any (p : ViewP) (h : ViewH) (w : World) (ha : ViewAt w p h) :
    Calls Try.prog 15 #[viewVal p h] w fun e w' => e = .returned (.bool (decide (2000 < viewCount p))) ∧ Below w.heap.size w w' := by
  obtain ⟨turn, mover, phase, struck, result, attack, next, ⟨xl, xm, xt, xds, xhs, xd, xh, xg, xu, xo⟩, ⟨yl, ym, yt, yds, yhs, yd, yh, yg, yu, yo⟩⟩ := p
  obtain ⟨⟨aa, an, ac⟩, ⟨⟨xda, xdn, xdc⟩, ⟨xha, xhn, xhc⟩, ⟨xga, xgn, xgc⟩, ⟨xua, xun, xuc⟩, ⟨xoa, xon, xoc⟩⟩, ⟨⟨yda, ydn, ydc⟩, ⟨yha, yhn, yhc⟩, ⟨yga, ygn, ygc⟩, ⟨yua, yun, yuc⟩, ⟨yoa, yon, yoc⟩⟩⟩ := h
  have b0 := ha.attack.2.2.2.2.1
  have b1 := ha.x.deck.2.2.2.2.1
  have b2 := ha.x.hand.2.2.2.2.1
  have b3 := ha.x.grave.2.2.2.2.1
  have b4 := ha.x.units.2.2.2.2.1
  have b5 := ha.x.told.2.2.2.2.1
  have c1 := ha.y.deck.2.2.2.2.1
  have c2 := ha.y.hand.2.2.2.2.1
  have c3 := ha.y.grave.2.2.2.2.1
  have c4 := ha.y.units.2.2.2.2.1
  have c5 := ha.y.told.2.2.2.2.1
  dsimp only at b0 b1 b2 b3 b4 b5 c1 c2 c3 c4 c5
  obtain rfl : attack.length = an := ha.attack.2.1
  obtain rfl : xd.length = xdn := ha.x.deck.2.1
  obtain rfl : xh.length = xhn := ha.x.hand.2.1
  obtain rfl : xg.length = xgn := ha.x.grave.2.1
  obtain rfl : xu.length = xun := ha.x.units.2.1
  obtain rfl : xo.length = xon := ha.x.told.2.1
  obtain rfl : yd.length = ydn := ha.y.deck.2.1
  obtain rfl : yh.length = yhn := ha.y.hand.2.1
  obtain rfl : yg.length = ygn := ha.y.grave.2.1
  obtain rfl : yu.length = yun := ha.y.units.2.1
  obtain rfl : yo.length = yon := ha.y.told.2.1
  clear ha
  unfold viewVal
  dsimp only
  go_enter Try.func15, Try.ntmps15
  go_wp2_with fail
  go_loopg [3, 9] 2 (GreatVRel w ⟨turn, mover, phase, struck, result, attack, next, ⟨xl, xm, xt, xds, xhs, xd, xh, xg, xu, xo⟩, ⟨yl, ym, yt, yds, yhs, yd, yh, yg, yu, yo⟩⟩ _)
  case atStart => exact ⟨0, rfl, rfl, rfl, Blk.new _ _ _, by (try unfold Kept); repeat (first | assumption | exact Below.refl _ _ | exact below_undrew (Below.refl _ _) | exact Below.mono (by assumption) (by first | (simp; done) | (simp; omega) | omega) | refine below_setRow ?_ (by first | (simp; done) | (simp; omega) | omega) _ | refine Below.setCell ?_ (by first | (simp; done) | (simp; omega) | omega) _ | refine Below.alloc ?_ (by first | (simp; done) | (simp; omega) | omega) _ | refine below_drewN ?_ _ | refine Below.drew ?_ | refine below_undrew ?_ | refine below_step ?_ (by assumption))⟩
  case round =>
    obtain ⟨k, hk, rfl, rfl, hB, hb⟩ := hrel
    have hbz := hb.size
    rcases (show k = 0 ∨ k = 1 ∨ k = 2 by omega) with rfl | rfl | rfl
    · simp only [idx, countVTo]
      go_upto_region 6 with (first | refine wpList_load_part rfl 38 sideVT (.tmp 14) rfl rfl hB rfl rfl ?_ | refine wpList_store_blk rfl 38 sideVT (.tmp 5) _ rfl rfl rfl (Blk.new _ _ _) rfl rfl rfl ?_)
      (try simp only [Act.put])
      refine wp_forget (fun W0 => Blk W0 wr.heap.size _ _ ∧ Blk W0 w.heap.size _ _ ∧ Below w.heap.size w W0) ⟨(Blk.new _ _ _).setRow _, hB.old (by (try unfold Kept); repeat (first | assumption | exact Below.refl _ _ | exact below_undrew (Below.refl _ _) | exact Below.mono (by assumption) (by first | (simp; done) | (simp; omega) | omega) | refine below_setRow ?_ (by first | (simp; done) | (simp; omega) | omega) _ | refine Below.setCell ?_ (by first | (simp; done) | (simp; omega) | omega) _ | refine Below.alloc ?_ (by first | (simp; done) | (simp; omega) | omega) _ | refine below_drewN ?_ _ | refine Below.drew ?_ | refine below_undrew ?_ | refine below_step ?_ (by assumption))), by (try unfold Kept); repeat (first | assumption | exact Below.refl _ _ | exact below_undrew (Below.refl _ _) | exact Below.mono (by assumption) (by first | (simp; done) | (simp; omega) | omega) | refine below_setRow ?_ (by first | (simp; done) | (simp; omega) | omega) _ | refine Below.setCell ?_ (by first | (simp; done) | (simp; omega) | omega) _ | refine Below.alloc ?_ (by first | (simp; done) | (simp; omega) | omega) _ | refine below_drewN ?_ _ | refine Below.drew ?_ | refine below_undrew ?_ | refine below_step ?_ (by assumption))⟩ ?_
      rintro W2 ⟨hE, hB2, hb2⟩
      have r5 := hE.rule
      go_wp2_with fail
      go_roundg 1
      case measure => omega
      case rel => exact ⟨1, rfl, rfl, by simp only [countVTo, sideVCount]; push_cast; rfl, hB2, hb2⟩
    · simp only [idx, countVTo]
      go_upto_region 6 with (first | refine wpList_load_part rfl 38 sideVT (.tmp 14) rfl rfl hB rfl rfl ?_ | refine wpList_store_blk rfl 38 sideVT (.tmp 5) _ rfl rfl rfl (Blk.new _ _ _) rfl rfl rfl ?_)
      (try simp only [Act.put])
      refine wp_forget (fun W0 => Blk W0 wr.heap.size _ _ ∧ Blk W0 w.heap.size _ _ ∧ Below w.heap.size w W0) ⟨(Blk.new _ _ _).setRow _, hB.old (by (try unfold Kept); repeat (first | assumption | exact Below.refl _ _ | exact below_undrew (Below.refl _ _) | exact Below.mono (by assumption) (by first | (simp; done) | (simp; omega) | omega) | refine below_setRow ?_ (by first | (simp; done) | (simp; omega) | omega) _ | refine Below.setCell ?_ (by first | (simp; done) | (simp; omega) | omega) _ | refine Below.alloc ?_ (by first | (simp; done) | (simp; omega) | omega) _ | refine below_drewN ?_ _ | refine Below.drew ?_ | refine below_undrew ?_ | refine below_step ?_ (by assumption))), by (try unfold Kept); repeat (first | assumption | exact Below.refl _ _ | exact below_undrew (Below.refl _ _) | exact Below.mono (by assumption) (by first | (simp; done) | (simp; omega) | omega) | refine below_setRow ?_ (by first | (simp; done) | (simp; omega) | omega) _ | refine Below.setCell ?_ (by first | (simp; done) | (simp; omega) | omega) _ | refine Below.alloc ?_ (by first | (simp; done) | (simp; omega) | omega) _ | refine below_drewN ?_ _ | refine Below.drew ?_ | refine below_undrew ?_ | refine below_step ?_ (by assumption))⟩ ?_
      rintro W2 ⟨hE, hB2, hb2⟩
      have r5 := hE.rule
      simp only [sideVCount]
      go_wp2_with fail
      go_roundg 0
      case measure => omega
      case rel => exact ⟨2, rfl, rfl, by simp only [countVTo, viewCount, sideVCount]; push_cast; rfl, hB2, hb2⟩
    · simp only [idx, countVTo]
      go_wp2_with fail
      go_ret
      exact ⟨by simp; omega, hb⟩
theorem view_len (p : ViewP) (h : viewCount p ≤ 2000) : (viewB p).length ≤ 1000000000000 := by
  simp only [viewB, headB, sideB, List.length_append, be8_length, ints_len, things_len, tr1_len]
  unfold viewCount sideVCount at h
  omega
set_option maxRecDepth 100000 in
set_option maxHeartbeats 1000000 in
theorem refSameV_any (p q : ViewP) (h g : ViewH) (w : World) (ha : ViewAt w p h) (hb : ViewAt w q g) :
    Calls Try.prog 18 #[viewVal p h, viewVal q g] w fun e w' => e = .returned (.bool (decide (p = q))) ∧ Below w.heap.size w w' := by
  have key := fun (w1 : World) (h1 : Below w.heap.size w w1) => sameView_any p q h g w1 (ha.old h1) (hb.old h1)
  generalize decide (p = q) = b at *
  have KEY := Lib.hid key
  clear key
  unfold viewVal at KEY ⊢
  go_enter Try.func18, Try.ntmps18
  go_wp2_with (first | refine wpList_load_blkw (by rfl) 41 viewT (.tmp 2) rfl rfl (Blk.new2 _ _ _ _) rfl ?_ | refine wpList_load_blkw (by rfl) 41 viewT (.tmp 3) rfl rfl (Blk.new2' _ _ _ _) rfl ?_)
  refine (KEY.out _ (by (try unfold Kept); repeat (first | assumption | exact Below.refl _ _ | exact below_undrew (Below.refl _ _) | exact Below.mono (by assumption) (by first | (simp; done) | (simp; omega) | omega) | refine below_setRow ?_ (by first | (simp; done) | (simp; omega) | omega) _ | refine Below.setCell ?_ (by first | (simp; done) | (simp; omega) | omega) _ | refine Below.alloc ?_ (by first | (simp; done) | (simp; omega) | omega) _ | refine below_drewN ?_ _ | refine Below.drew ?_ | refine below_undrew ?_ | refine below_step ?_ (by assumption)))).mono ?_
  rintro e w1 ⟨rfl, hb1⟩
  go_wp2_with fail
  go_ret
  exact ⟨rfl, by (try unfold Kept); repeat (first | assumption | exact Below.refl _ _ | exact below_undrew (Below.refl _ _) | exact Below.mono (by assumption) (by first | (simp; done) | (simp; omega) | omega) | refine below_setRow ?_ (by first | (simp; done) | (simp; omega) | omega) _ | refine Below.setCell ?_ (by first | (simp; done) | (simp; omega) | omega) _ | refine Below.alloc ?_ (by first | (simp; done) | (simp; omega) | omega) _ | refine below_drewN ?_ _ | refine Below.drew ?_ | refine below_undrew ?_ | refine below_step ?_ (by assumption))⟩
set_option maxRecDepth 100000 in
set_option maxHeartbeats 4000000 in
theorem viewBytes_any (p q : ViewP) (h g : ViewH) (w : World) (ha : ViewAt w p h) (hb : ViewAt w q g) :
    Calls Try.prog 4 #[viewVal p h, viewVal q g] w fun e w' => e = .returned (.bool true) ∧ Below w.heap.size w w' := by
  have key1 := fun (w1 : World) (h1 : Below w.heap.size w w1) => greatV_any p h w1 (ha.old h1)
  have key2 := fun (w1 : World) (h1 : Below w.heap.size w w1) => greatV_any q g w1 (hb.old h1)
  have kp : decide (2000 < viewCount p) = true ∨ decide (2000 < viewCount p) = false ∧ viewCount p ≤ 2000 := by by_cases h : 2000 < viewCount p <;> simp [h]; omega
  have kq : decide (2000 < viewCount q) = true ∨ decide (2000 < viewCount q) = false ∧ viewCount q ≤ 2000 := by by_cases h : 2000 < viewCount q <;> simp [h]; omega
  generalize decide (2000 < viewCount p) = gp at key1 kp
  generalize decide (2000 < viewCount q) = gq at key2 kq
  have hs := fun (w1 : World) (h1 : Below w.heap.size w w1) => refSameV_any p q h g w1 (ha.old h1) (hb.old h1)
  have hb1 := fun (w1 : World) (h1 : Below w.heap.size w w1) (hn : viewCount p ≤ 2000) => bytes_any p h w1 (ha.old h1) (view_len p hn)
  have hb2 := fun (w1 : World) (h1 : Below w.heap.size w w1) (hn : viewCount q ≤ 2000) => bytes_any q g w1 (hb.old h1) (view_len q hn)
  have hr1 := fun (w1 : World) (h1 : Below w.heap.size w w1) (hn : viewCount p ≤ 2000) => rbytes_any p h w1 (ha.old h1) (view_len p hn)
  have HEQ := Lib.hid ((strOf_beq (viewB p) (viewB q)).trans (viewB_eq ha hb))
  generalize decide (p = q) = same at hs HEQ
  have HS := Lib.hid hs
  have HB1 := Lib.hid hb1
  have HB2 := Lib.hid hb2
  have HR1 := Lib.hid hr1
  have HG1 := Lib.hid key1
  have HG2 := Lib.hid key2
  clear hs hb1 hb2 hr1 key1 key2
  unfold viewVal at HG1 HG2 HS HB1 HB2 HR1 ⊢
  go_enter Try.func4, Try.ntmps4
  go_wp2_with (refine wpList_load_blkw (by rfl) 41 viewT (.tmp 2) rfl rfl (Blk.new2 _ _ _ _) rfl ?_)
  refine (HG1.out _ (by (try unfold Kept); repeat (first | assumption | exact Below.refl _ _ | exact below_undrew (Below.refl _ _) | exact Below.mono (by assumption) (by first | (simp; done) | (simp; omega) | omega) | refine below_setRow ?_ (by first | (simp; done) | (simp; omega) | omega) _ | refine Below.setCell ?_ (by first | (simp; done) | (simp; omega) | omega) _ | refine Below.alloc ?_ (by first | (simp; done) | (simp; omega) | omega) _ | refine below_drewN ?_ _ | refine Below.drew ?_ | refine below_undrew ?_ | refine below_step ?_ (by assumption)))).mono ?_
  rintro e w1 ⟨rfl, hb1⟩
  have hA := (Blk.new2 _ _ _ _).old hb1
  have hB := (Blk.new2' _ _ _ _).old hb1
  have hbw1 : Below w.heap.size w w1 := by (try unfold Kept); repeat (first | assumption | exact Below.refl _ _ | exact below_undrew (Below.refl _ _) | exact Below.mono (by assumption) (by first | (simp; done) | (simp; omega) | omega) | refine below_setRow ?_ (by first | (simp; done) | (simp; omega) | omega) _ | refine Below.setCell ?_ (by first | (simp; done) | (simp; omega) | omega) _ | refine Below.alloc ?_ (by first | (simp; done) | (simp; omega) | omega) _ | refine below_drewN ?_ _ | refine Below.drew ?_ | refine below_undrew ?_ | refine below_step ?_ (by assumption))
  clear hb1
  rcases kp with rfl | ⟨rfl, kp⟩
  · go_wp2_with fail
    refine (viewWakes_any _).mono ?_
    rintro e w2 ⟨rfl, hb2⟩
    go_wp2_with fail
    go_ret
    exact ⟨rfl, by (try unfold Kept); repeat (first | assumption | exact Below.refl _ _ | exact below_undrew (Below.refl _ _) | exact Below.mono (by assumption) (by first | (simp; done) | (simp; omega) | omega) | refine below_setRow ?_ (by first | (simp; done) | (simp; omega) | omega) _ | refine Below.setCell ?_ (by first | (simp; done) | (simp; omega) | omega) _ | refine Below.alloc ?_ (by first | (simp; done) | (simp; omega) | omega) _ | refine below_drewN ?_ _ | refine Below.drew ?_ | refine below_undrew ?_ | refine below_step ?_ (by assumption))⟩
  go_wp2_with (refine wpList_load_blkw (by rfl) 41 viewT (.tmp 3) rfl rfl hB rfl ?_)
  refine (HG2.out _ hbw1).mono ?_
  rintro e w2 ⟨rfl, hb2⟩
  have hA := hA.old hb2
  have hB := hB.old hb2
  have hbw2 : Below w.heap.size w w2 := by (try unfold Kept); repeat (first | assumption | exact Below.refl _ _ | exact below_undrew (Below.refl _ _) | exact Below.mono (by assumption) (by first | (simp; done) | (simp; omega) | omega) | refine below_setRow ?_ (by first | (simp; done) | (simp; omega) | omega) _ | refine Below.setCell ?_ (by first | (simp; done) | (simp; omega) | omega) _ | refine Below.alloc ?_ (by first | (simp; done) | (simp; omega) | omega) _ | refine below_drewN ?_ _ | refine Below.drew ?_ | refine below_undrew ?_ | refine below_step ?_ (by assumption))
  clear hb2 hbw1
  rcases kq with rfl | ⟨rfl, kq⟩
  · go_wp2_with fail
    refine (viewWakes_any _).mono ?_
    rintro e w3 ⟨rfl, hb3⟩
    go_wp2_with fail
    go_ret
    exact ⟨rfl, by (try unfold Kept); repeat (first | assumption | exact Below.refl _ _ | exact below_undrew (Below.refl _ _) | exact Below.mono (by assumption) (by first | (simp; done) | (simp; omega) | omega) | refine below_setRow ?_ (by first | (simp; done) | (simp; omega) | omega) _ | refine Below.setCell ?_ (by first | (simp; done) | (simp; omega) | omega) _ | refine Below.alloc ?_ (by first | (simp; done) | (simp; omega) | omega) _ | refine below_drewN ?_ _ | refine Below.drew ?_ | refine below_undrew ?_ | refine below_step ?_ (by assumption))⟩
  go_wp2_with fail
  refine wp_region_old (0 :: 3 :: 1 :: 2 :: 4 :: 5 :: 6 :: 7 :: []) (by kernel_rfl) (by kernel_rfl) (fun c a d v w h => by cases d <;> exact h) ?_
  refine lex_quiet (v := .agg (viewCells p h).toArray) rfl rfl (by rfl) (fun W hW => exec_load_as 41 viewT (.tmp 2) rfl rfl rfl (Blk.cells (hA.drew.old hW)) rfl) ?_
  simp only [Act.put, List.setIfInBounds_toArray, List.set]
  refine lex_quiet (v := .agg (viewCells q g).toArray) rfl rfl (by rfl) (fun W hW => exec_load_as 41 viewT (.tmp 3) rfl rfl rfl (Blk.cells (hB.drew.old hW)) rfl) ?_
  simp only [Act.put, List.setIfInBounds_toArray, List.set]
  refine lex_loud rfl rfl (by rfl) (fun K hK => ?_); go_wp2_with fail
  refine (HB1.out _ hbw2.drew kp).mono ?_
  rintro e w3 ⟨a1, c1, rfl, ho1, hb3⟩
  have k1 := str_of w3 a1 _ c1 _ ho1.row rfl
  have hA := hA.drew.old hb3
  have hB := hB.drew.old hb3
  have hbw3 : Below w.heap.size w w3 := below_step hbw2.drew hb3
  go_wp2_with fail
  refine hK _ _ hb3 ?_
  clear hK K
  repeat (first | (refine lex_skip rfl (by rfl) ?_; simp only [Act.put, List.setIfInBounds_toArray, List.set]) | (refine lex_quiet (v := ?_) rfl rfl (by rfl) ?_ ?_; rotate_left; (intro W hW; go_simp); (try with_reducible rfl); simp only [Act.put, List.setIfInBounds_toArray, List.set]))
  refine lex_loud rfl rfl (by rfl) (fun K hK => ?_); go_wp2_with fail
  refine (HB2.out _ hbw3 kq).mono ?_
  rintro e w4 ⟨a2, c2, rfl, ho2, hb4⟩
  have k2 := str_of w4 a2 _ c2 _ ho2.row rfl
  have hA := hA.old hb4
  have hB := hB.old hb4
  have hbw4 : Below w.heap.size w w4 := below_step hbw3 hb4
  go_wp2_with fail
  refine hK _ _ hb4 ?_
  clear hK K
  repeat (first | (refine lex_skip rfl (by rfl) ?_; simp only [Act.put, List.setIfInBounds_toArray, List.set]) | (refine lex_quiet (v := ?_) rfl rfl (by rfl) ?_ ?_; rotate_left; (intro W hW; go_simp); (try with_reducible rfl); simp only [Act.put, List.setIfInBounds_toArray, List.set]))
  refine lex_nil ?_
  clear k1 k2
  go_wp2_with (refine wpList_load_blkw (by rfl) 41 viewT (.tmp 2) rfl rfl hA rfl ?_)
  refine (HR1.out _ hbw4 kp).mono ?_
  rintro e w5 ⟨v5, rfl, a5, n5, c5, rfl, ho5, hl5, hb5⟩
  subst hl5
  have hst := str_of w5 a5 _ c5 _ ho5.row rfl w5 (Old.refl _)
  have hA := hA.old hb5
  have hB := hB.old hb5
  have hbw5 : Below w.heap.size w w5 := below_step hbw4 hb5
  have hcmp := HEQ.out
  go_wp2_with (first | refine wpList_load_blkw (by rfl) 41 viewT (.tmp 2) rfl rfl hA rfl ?_ | refine wpList_load_blkw (by rfl) 41 viewT (.tmp 3) rfl rfl hB rfl ?_)
  refine (HS.out _ hbw5).mono ?_
  rintro e w6 ⟨rfl, hb6⟩
  clear hst hcmp
  go_wp2_with fail
  refine (viewWakes_any _).mono ?_
  rintro e w7 ⟨rfl, hb7⟩
  go_wp2_with fail
  go_ret
  exact ⟨rfl, below_step (below_step hbw5 hb6) hb7⟩
end Go.Proofs.Ytiglljegpdlnmaa
