/- The law on what anybody sees of any state, walked. -/
import Derived.Test.YtiglljegpdlnmaaSeen
import Derived.Test.YtiglljegpdlnmaaViewBytes
import Derived.Test.YtiglljegpdlnmaaLess
namespace Go.Proofs.Ytiglljegpdlnmaa
open Go.RowKit
set_option linter.unusedSimpArgs false

def seenV (p : StateP) (who : Int) : ViewP := if 0 ≤ who ∧ who < 4 then seen p who else zeroV
def seenE (who : Int) : Int := if 0 ≤ who ∧ who < 4 then 0 else 2
theorem seenV_len (p : StateP) (who : Int) (h : stateCount p ≤ 2000) : (viewB (seenV p who)).length ≤ 1000000000000 := by
  unfold seenV
  split
  · exact seen_len p who h
  · exact view_len zeroV (by decide)
set_option maxRecDepth 100000 in
set_option maxHeartbeats 1000000 in
theorem of_bad (who : Int) (w : World) (p : StateP) (h : StateH) (hw : ¬ (0 ≤ who ∧ who < 4)) :
    Calls Try.prog 20 #[stateVal p h, .int .i64 who] w (ViewSeen w zeroV 2) := by
  unfold stateVal
  by_cases h1 : who < 0
  · have t0 : decide (who < 0) = true := by simp; omega
    go_enter Try.func20, Try.ntmps20
    go_wp2_with (refine wpList_store_blk rfl 41 viewT (.tmp 4) _ rfl rfl rfl (Blk.new2' _ _ _ _) rfl rfl rfl ?_)
    refine post_blk_tmp rfl viewT rfl ((Blk.new2' _ _ _ _).setRow _) rfl rfl rfl ?_
    exact ⟨noVH, rfl, zeroV_own _ _, by (try unfold Kept); repeat (first | assumption | exact Below.refl _ _ | exact below_undrew (Below.refl _ _) | exact Below.mono (by assumption) (by first | (simp; done) | (simp; omega) | omega) | refine below_setRow ?_ (by first | (simp; done) | (simp; omega) | omega) _ | refine Below.setCell ?_ (by first | (simp; done) | (simp; omega) | omega) _ | refine Below.alloc ?_ (by first | (simp; done) | (simp; omega) | omega) _ | refine below_drewN ?_ _ | refine Below.drew ?_ | refine below_undrew ?_ | refine below_step ?_ (by assumption))⟩
  · have t0 : decide (who < 0) = false := by simp; omega
    have t1 : decide (3 < who) = true := by simp; omega
    go_enter Try.func20, Try.ntmps20
    go_wp2_with (refine wpList_store_blk rfl 41 viewT (.tmp 4) _ rfl rfl rfl (Blk.new2' _ _ _ _) rfl rfl rfl ?_)
    refine post_blk_tmp rfl viewT rfl ((Blk.new2' _ _ _ _).setRow _) rfl rfl rfl ?_
    exact ⟨noVH, rfl, zeroV_own _ _, by (try unfold Kept); repeat (first | assumption | exact Below.refl _ _ | exact below_undrew (Below.refl _ _) | exact Below.mono (by assumption) (by first | (simp; done) | (simp; omega) | omega) | refine below_setRow ?_ (by first | (simp; done) | (simp; omega) | omega) _ | refine Below.setCell ?_ (by first | (simp; done) | (simp; omega) | omega) _ | refine Below.alloc ?_ (by first | (simp; done) | (simp; omega) | omega) _ | refine below_drewN ?_ _ | refine Below.drew ?_ | refine below_undrew ?_ | refine below_step ?_ (by assumption))⟩
set_option maxRecDepth 100000 in
set_option maxHeartbeats 1000000 in
theorem seen_bad (who : Int) (w : World) (p : StateP) (h : StateH) (hw : ¬ (0 ≤ who ∧ who < 4)) :
    Calls Try.prog 38 #[stateVal p h, .int .i64 who] w (ViewSeen w zeroV 2) := by
  unfold stateVal
  by_cases h1 : who < 0
  · have t0 : decide (who < 0) = true := by simp; omega
    go_enter Try.func38, Try.ntmps38
    go_wp2_with (refine wpList_store_blk rfl 41 viewT (.tmp 4) _ rfl rfl rfl (Blk.new2' _ _ _ _) rfl rfl rfl ?_)
    refine post_blk_tmp rfl viewT rfl ((Blk.new2' _ _ _ _).setRow _) rfl rfl rfl ?_
    exact ⟨noVH, rfl, zeroV_own _ _, by (try unfold Kept); repeat (first | assumption | exact Below.refl _ _ | exact below_undrew (Below.refl _ _) | exact Below.mono (by assumption) (by first | (simp; done) | (simp; omega) | omega) | refine below_setRow ?_ (by first | (simp; done) | (simp; omega) | omega) _ | refine Below.setCell ?_ (by first | (simp; done) | (simp; omega) | omega) _ | refine Below.alloc ?_ (by first | (simp; done) | (simp; omega) | omega) _ | refine below_drewN ?_ _ | refine Below.drew ?_ | refine below_undrew ?_ | refine below_step ?_ (by assumption))⟩
  · have t0 : decide (who < 0) = false := by simp; omega
    have t1 : decide (3 < who) = true := by simp; omega
    go_enter Try.func38, Try.ntmps38
    go_wp2_with (refine wpList_store_blk rfl 41 viewT (.tmp 4) _ rfl rfl rfl (Blk.new2' _ _ _ _) rfl rfl rfl ?_)
    refine post_blk_tmp rfl viewT rfl ((Blk.new2' _ _ _ _).setRow _) rfl rfl rfl ?_
    exact ⟨noVH, rfl, zeroV_own _ _, by (try unfold Kept); repeat (first | assumption | exact Below.refl _ _ | exact below_undrew (Below.refl _ _) | exact Below.mono (by assumption) (by first | (simp; done) | (simp; omega) | omega) | refine below_setRow ?_ (by first | (simp; done) | (simp; omega) | omega) _ | refine Below.setCell ?_ (by first | (simp; done) | (simp; omega) | omega) _ | refine Below.alloc ?_ (by first | (simp; done) | (simp; omega) | omega) _ | refine below_drewN ?_ _ | refine Below.drew ?_ | refine below_undrew ?_ | refine below_step ?_ (by assumption))⟩
theorem of_all (who : Int) (w : World) (p : StateP) (h : StateH) (ha : StateAt w p h) : Calls Try.prog 20 #[stateVal p h, .int .i64 who] w (ViewSeen w (seenV p who) (seenE who)) := by
  unfold seenV seenE
  by_cases hw : 0 ≤ who ∧ who < 4
  · rw [if_pos hw, if_pos hw]; exact of_any who w p h ha hw
  · rw [if_neg hw, if_neg hw]; exact of_bad who w p h hw
theorem seen_all' (who : Int) (w : World) (p : StateP) (h : StateH) (ha : StateAt w p h) : Calls Try.prog 38 #[stateVal p h, .int .i64 who] w (ViewSeen w (seenV p who) (seenE who)) := by
  unfold seenV seenE
  by_cases hw : 0 ≤ who ∧ who < 4
  · rw [if_pos hw, if_pos hw]; exact seen_any who w p h ha hw
  · rw [if_neg hw, if_neg hw]; exact seen_bad who w p h hw
set_option maxRecDepth 100000 in
set_option maxHeartbeats 1000000 in
theorem rof_all (who : Int) (w : World) (p : StateP) (h : StateH) (ha : StateAt w p h) : Calls Try.prog 21 #[stateVal p h, .int .i64 who] w (ViewSeen w (seenV p who) (seenE who)) := by
  have key := fun (w1 : World) (h1 : Below w.heap.size w w1) => seen_all' who w1 p h (ha.old h1)
  generalize seenV p who = v at *
  generalize seenE who = ee at *
  have KEY := Lib.hid key
  clear key
  unfold stateVal at KEY ⊢
  go_enter Try.func21, Try.ntmps21
  go_wp2_with (refine wpList_load_blkw (by rfl) 50 stateT (.tmp 2) rfl rfl (Blk.new2 _ _ _ _) rfl ?_)
  refine (KEY.out _ (by (try unfold Kept); repeat (first | assumption | exact Below.refl _ _ | exact below_undrew (Below.refl _ _) | exact Below.mono (by assumption) (by first | (simp; done) | (simp; omega) | omega) | refine below_setRow ?_ (by first | (simp; done) | (simp; omega) | omega) _ | refine Below.setCell ?_ (by first | (simp; done) | (simp; omega) | omega) _ | refine Below.alloc ?_ (by first | (simp; done) | (simp; omega) | omega) _ | refine below_drewN ?_ _ | refine Below.drew ?_ | refine below_undrew ?_ | refine below_step ?_ (by assumption)))).mono ?_
  rintro e w1 ⟨h1, rfl, ho, hb1⟩
  have hV := (Blk.new2' _ _ _ _).old hb1
  have hbw : Below w.heap.size w w1 := by (try unfold Kept); repeat (first | assumption | exact Below.refl _ _ | exact below_undrew (Below.refl _ _) | exact Below.mono (by assumption) (by first | (simp; done) | (simp; omega) | omega) | refine below_setRow ?_ (by first | (simp; done) | (simp; omega) | omega) _ | refine Below.setCell ?_ (by first | (simp; done) | (simp; omega) | omega) _ | refine Below.alloc ?_ (by first | (simp; done) | (simp; omega) | omega) _ | refine below_drewN ?_ _ | refine Below.drew ?_ | refine below_undrew ?_ | refine below_step ?_ (by assumption))
  have hlt := hV.lt
  unfold viewVal
  go_wp2_with (refine wpList_store_blk rfl 41 viewT (.tmp 4) _ rfl rfl rfl hV rfl rfl rfl ?_)
  refine post_blk_tmp rfl viewT rfl (hV.setRow _) rfl rfl rfl ?_
  refine ⟨h1, rfl, (ho.setRow _ _ ?_).lower ?_, below_setRow hbw ?_ _⟩
  all_goals (simp; try omega)
set_option maxRecDepth 100000 in
set_option maxHeartbeats 4000000 in
theorem viewOf_any (p q : StateP) (h g : StateH) (who : Int) (w : World) (ha : StateAt w p h) (hb : StateAt w q g) :
    Calls Try.prog 5 #[stateVal p h, stateVal q g, .int .i64 who] w fun e w' => e = .returned (.bool true) ∧ Below w.heap.size w w' := by
  have key1 := fun (w1 : World) (h1 : Below w.heap.size w w1) => great_any p h w1 (ha.old h1)
  have key2 := fun (w1 : World) (h1 : Below w.heap.size w w1) => great_any q g w1 (hb.old h1)
  have kp : decide (2000 < stateCount p) = true ∨ decide (2000 < stateCount p) = false ∧ stateCount p ≤ 2000 := by by_cases h : 2000 < stateCount p <;> simp [h]; omega
  have kq : decide (2000 < stateCount q) = true ∨ decide (2000 < stateCount q) = false ∧ stateCount q ≤ 2000 := by by_cases h : 2000 < stateCount q <;> simp [h]; omega
  generalize decide (2000 < stateCount p) = gp at key1 kp
  generalize decide (2000 < stateCount q) = gq at key2 kq
  have hof1 := fun (w1 : World) (h1 : Below w.heap.size w w1) => of_all who w1 p h (ha.old h1)
  have hof2 := fun (w1 : World) (h1 : Below w.heap.size w w1) => rof_all who w1 p h (ha.old h1)
  have hof3 := fun (w1 : World) (h1 : Below w.heap.size w w1) => rof_all who w1 q g (hb.old h1)
  have hl1 := fun (hk : stateCount p ≤ 2000) => seenV_len p who hk
  have hl2 := fun (hk : stateCount q ≤ 2000) => seenV_len q who hk
  generalize seenV p who = v at *
  generalize seenV q who = u at *
  generalize seenE who = ee at *
  have HO1 := Lib.hid hof1
  have HO2 := Lib.hid hof2
  have HO3 := Lib.hid hof3
  have HG1 := Lib.hid key1
  have HG2 := Lib.hid key2
  have HL1 := Lib.hid hl1
  have HL2 := Lib.hid hl2
  clear hof1 hof2 hof3 key1 key2 hl1 hl2
  unfold stateVal at HG1 HG2 HO1 HO2 HO3 ⊢
  go_enter Try.func5, Try.ntmps5
  go_wp2_with (refine wpList_load_blkw (by rfl) 50 stateT (.tmp 3) rfl rfl (Blk.new2 _ _ _ _) rfl ?_)
  refine (HG1.out _ (by (try unfold Kept); repeat (first | assumption | exact Below.refl _ _ | exact below_undrew (Below.refl _ _) | exact Below.mono (by assumption) (by first | (simp; done) | (simp; omega) | omega) | refine below_setRow ?_ (by first | (simp; done) | (simp; omega) | omega) _ | refine Below.setCell ?_ (by first | (simp; done) | (simp; omega) | omega) _ | refine Below.alloc ?_ (by first | (simp; done) | (simp; omega) | omega) _ | refine below_drewN ?_ _ | refine Below.drew ?_ | refine below_undrew ?_ | refine below_step ?_ (by assumption)))).mono ?_
  rintro e w1 ⟨rfl, hb1⟩
  have hA := (Blk.new2 _ _ _ _).old hb1
  have hB := (Blk.new2' _ _ _ _).old hb1
  have hbw1 : Below w.heap.size w w1 := by (try unfold Kept); repeat (first | assumption | exact Below.refl _ _ | exact below_undrew (Below.refl _ _) | exact Below.mono (by assumption) (by first | (simp; done) | (simp; omega) | omega) | refine below_setRow ?_ (by first | (simp; done) | (simp; omega) | omega) _ | refine Below.setCell ?_ (by first | (simp; done) | (simp; omega) | omega) _ | refine Below.alloc ?_ (by first | (simp; done) | (simp; omega) | omega) _ | refine below_drewN ?_ _ | refine Below.drew ?_ | refine below_undrew ?_ | refine below_step ?_ (by assumption))
  clear hb1
  rcases kp with rfl | ⟨rfl, kp⟩
  · go_wp2_with fail
    refine (viewWakes_any _).mono ?_
    rintro e w2 ⟨rfl, hb2⟩
    go_wp2_with fail
    go_ret
    exact ⟨rfl, by (try unfold Kept); repeat (first | assumption | exact Below.refl _ _ | exact below_undrew (Below.refl _ _) | exact Below.mono (by assumption) (by first | (simp; done) | (simp; omega) | omega) | refine below_setRow ?_ (by first | (simp; done) | (simp; omega) | omega) _ | refine Below.setCell ?_ (by first | (simp; done) | (simp; omega) | omega) _ | refine Below.alloc ?_ (by first | (simp; done) | (simp; omega) | omega) _ | refine below_drewN ?_ _ | refine Below.drew ?_ | refine below_undrew ?_ | refine below_step ?_ (by assumption))⟩
  go_wp2_with (refine wpList_load_blkw (by rfl) 50 stateT (.tmp 4) rfl rfl hB rfl ?_)
  refine (HG2.out _ hbw1).mono ?_
  rintro e w2 ⟨rfl, hb2⟩
  have hA := hA.old hb2
  have hB := hB.old hb2
  have hbw2 : Below w.heap.size w w2 := by (try unfold Kept); repeat (first | assumption | exact Below.refl _ _ | exact below_undrew (Below.refl _ _) | exact Below.mono (by assumption) (by first | (simp; done) | (simp; omega) | omega) | refine below_setRow ?_ (by first | (simp; done) | (simp; omega) | omega) _ | refine Below.setCell ?_ (by first | (simp; done) | (simp; omega) | omega) _ | refine Below.alloc ?_ (by first | (simp; done) | (simp; omega) | omega) _ | refine below_drewN ?_ _ | refine Below.drew ?_ | refine below_undrew ?_ | refine below_step ?_ (by assumption))
  clear hb2 hbw1
  rcases kq with rfl | ⟨rfl, kq⟩
  · go_wp2_with fail
    refine (viewWakes_any _).mono ?_
    rintro e w3 ⟨rfl, hb3⟩
    go_wp2_with fail
    go_ret
    exact ⟨rfl, by (try unfold Kept); repeat (first | assumption | exact Below.refl _ _ | exact below_undrew (Below.refl _ _) | exact Below.mono (by assumption) (by first | (simp; done) | (simp; omega) | omega) | refine below_setRow ?_ (by first | (simp; done) | (simp; omega) | omega) _ | refine Below.setCell ?_ (by first | (simp; done) | (simp; omega) | omega) _ | refine Below.alloc ?_ (by first | (simp; done) | (simp; omega) | omega) _ | refine below_drewN ?_ _ | refine Below.drew ?_ | refine below_undrew ?_ | refine below_step ?_ (by assumption))⟩
  have HL1 := Lib.hid (HL1.out kp)
  have HL2 := Lib.hid (HL2.out kq)
  go_wp2_with (refine wpList_load_blkw (by rfl) 50 stateT (.tmp 3) rfl rfl hA rfl ?_)
  refine (HO1.out _ hbw2).mono ?_
  rintro e w3 ⟨h1, rfl, ho1, hb3⟩
  have hA := hA.old hb3
  have hB := hB.old hb3
  have hbw3 : Below w.heap.size w w3 := below_step hbw2 hb3
  have hbz3 := hbw3.size
  unfold viewVal
  go_upto_region 4 with (refine wpList_store_blk rfl 41 viewT (.tmp 7) _ rfl rfl rfl (Blk.new _ _ _) rfl rfl rfl ?_)
  (try simp only [Act.put])
  refine wp_forget (fun W0 => Blk W0 w3.heap.size (viewCells v h1).toArray 41 ∧ Blk W0 w.heap.size _ _ ∧ Blk W0 (w.heap.size + 1) _ _ ∧ ViewAt W0 v h1 ∧ Below w.heap.size w W0) ⟨(Blk.new _ _ _).setRow _, hA.old (by (try unfold Kept); repeat (first | assumption | exact Below.refl _ _ | exact below_undrew (Below.refl _ _) | exact Below.mono (by assumption) (by first | (simp; done) | (simp; omega) | omega) | refine below_setRow ?_ (by first | (simp; done) | (simp; omega) | omega) _ | refine Below.setCell ?_ (by first | (simp; done) | (simp; omega) | omega) _ | refine Below.alloc ?_ (by first | (simp; done) | (simp; omega) | omega) _ | refine below_drewN ?_ _ | refine Below.drew ?_ | refine below_undrew ?_ | refine below_step ?_ (by assumption))), hB.old (by (try unfold Kept); repeat (first | assumption | exact Below.refl _ _ | exact below_undrew (Below.refl _ _) | exact Below.mono (by assumption) (by first | (simp; done) | (simp; omega) | omega) | refine below_setRow ?_ (by first | (simp; done) | (simp; omega) | omega) _ | refine Below.setCell ?_ (by first | (simp; done) | (simp; omega) | omega) _ | refine Below.alloc ?_ (by first | (simp; done) | (simp; omega) | omega) _ | refine below_drewN ?_ _ | refine Below.drew ?_ | refine below_undrew ?_ | refine below_step ?_ (by assumption))), ho1.at.old (by (try unfold Kept); repeat (first | assumption | exact Below.refl _ _ | exact below_undrew (Below.refl _ _) | exact Below.mono (by assumption) (by first | (simp; done) | (simp; omega) | omega) | refine below_setRow ?_ (by first | (simp; done) | (simp; omega) | omega) _ | refine Below.setCell ?_ (by first | (simp; done) | (simp; omega) | omega) _ | refine Below.alloc ?_ (by first | (simp; done) | (simp; omega) | omega) _ | refine below_drewN ?_ _ | refine Below.drew ?_ | refine below_undrew ?_ | refine below_step ?_ (by assumption))), by (try unfold Kept); repeat (first | assumption | exact Below.refl _ _ | exact below_undrew (Below.refl _ _) | exact Below.mono (by assumption) (by first | (simp; done) | (simp; omega) | omega) | refine below_setRow ?_ (by first | (simp; done) | (simp; omega) | omega) _ | refine Below.setCell ?_ (by first | (simp; done) | (simp; omega) | omega) _ | refine Below.alloc ?_ (by first | (simp; done) | (simp; omega) | omega) _ | refine below_drewN ?_ _ | refine Below.drew ?_ | refine below_undrew ?_ | refine below_step ?_ (by assumption))⟩ ?_
  rintro W3 ⟨hV1, hA, hB, hv1, hbw4⟩
  clear hb3 hbw3 ho1 hbw2
  go_wp2_with (refine wpList_load_blkw (by rfl) 50 stateT (.tmp 3) rfl rfl hA rfl ?_)
  refine (HO2.out _ hbw4).mono ?_
  rintro e w5 ⟨h2, rfl, ho2, hb5⟩
  have hV1 := hV1.old hb5
  have hA := hA.old hb5
  have hB := hB.old hb5
  have hv1 := hv1.old hb5
  have hbw5 : Below w.heap.size w w5 := below_step hbw4 hb5
  have hbz5 := hbw5.size
  go_upto_region 5 with (refine wpList_store_blk rfl 41 viewT (.tmp 9) _ rfl rfl rfl (Blk.new _ _ _) rfl rfl rfl ?_)
  (try simp only [Act.put])
  refine wp_forget (fun W0 => Blk W0 w3.heap.size (viewCells v h1).toArray 41 ∧ Blk W0 w5.heap.size (viewCells v h2).toArray 41 ∧ Blk W0 (w.heap.size + 1) _ _ ∧ ViewAt W0 v h1 ∧ ViewAt W0 v h2 ∧ Below w.heap.size w W0) ⟨hV1.old (by (try unfold Kept); repeat (first | assumption | exact Below.refl _ _ | exact below_undrew (Below.refl _ _) | exact Below.mono (by assumption) (by first | (simp; done) | (simp; omega) | omega) | refine below_setRow ?_ (by first | (simp; done) | (simp; omega) | omega) _ | refine Below.setCell ?_ (by first | (simp; done) | (simp; omega) | omega) _ | refine Below.alloc ?_ (by first | (simp; done) | (simp; omega) | omega) _ | refine below_drewN ?_ _ | refine Below.drew ?_ | refine below_undrew ?_ | refine below_step ?_ (by assumption))), (Blk.new _ _ _).setRow _, hB.old (by (try unfold Kept); repeat (first | assumption | exact Below.refl _ _ | exact below_undrew (Below.refl _ _) | exact Below.mono (by assumption) (by first | (simp; done) | (simp; omega) | omega) | refine below_setRow ?_ (by first | (simp; done) | (simp; omega) | omega) _ | refine Below.setCell ?_ (by first | (simp; done) | (simp; omega) | omega) _ | refine Below.alloc ?_ (by first | (simp; done) | (simp; omega) | omega) _ | refine below_drewN ?_ _ | refine Below.drew ?_ | refine below_undrew ?_ | refine below_step ?_ (by assumption))), hv1.old (by (try unfold Kept); repeat (first | assumption | exact Below.refl _ _ | exact below_undrew (Below.refl _ _) | exact Below.mono (by assumption) (by first | (simp; done) | (simp; omega) | omega) | refine below_setRow ?_ (by first | (simp; done) | (simp; omega) | omega) _ | refine Below.setCell ?_ (by first | (simp; done) | (simp; omega) | omega) _ | refine Below.alloc ?_ (by first | (simp; done) | (simp; omega) | omega) _ | refine below_drewN ?_ _ | refine Below.drew ?_ | refine below_undrew ?_ | refine below_step ?_ (by assumption))), ho2.at.old (by (try unfold Kept); repeat (first | assumption | exact Below.refl _ _ | exact below_undrew (Below.refl _ _) | exact Below.mono (by assumption) (by first | (simp; done) | (simp; omega) | omega) | refine below_setRow ?_ (by first | (simp; done) | (simp; omega) | omega) _ | refine Below.setCell ?_ (by first | (simp; done) | (simp; omega) | omega) _ | refine Below.alloc ?_ (by first | (simp; done) | (simp; omega) | omega) _ | refine below_drewN ?_ _ | refine Below.drew ?_ | refine below_undrew ?_ | refine below_step ?_ (by assumption))), by (try unfold Kept); repeat (first | assumption | exact Below.refl _ _ | exact below_undrew (Below.refl _ _) | exact Below.mono (by assumption) (by first | (simp; done) | (simp; omega) | omega) | refine below_setRow ?_ (by first | (simp; done) | (simp; omega) | omega) _ | refine Below.setCell ?_ (by first | (simp; done) | (simp; omega) | omega) _ | refine Below.alloc ?_ (by first | (simp; done) | (simp; omega) | omega) _ | refine below_drewN ?_ _ | refine Below.drew ?_ | refine below_undrew ?_ | refine below_step ?_ (by assumption))⟩ ?_
  rintro W5 ⟨hV1, hV2, hB, hv1, hv2, hbw6⟩
  clear hb5 hbw5 ho2 hbw4 hA
  go_wp2_with (refine wpList_load_blkw (by rfl) 50 stateT (.tmp 4) rfl rfl hB rfl ?_)
  refine (HO3.out _ hbw6).mono ?_
  rintro e w7 ⟨h3, rfl, ho3, hb7⟩
  have hV1 := hV1.old hb7
  have hV2 := hV2.old hb7
  have hv1 := hv1.old hb7
  have hv2 := hv2.old hb7
  have hbw7 : Below w.heap.size w w7 := below_step hbw6 hb7
  have hbz7 := hbw7.size
  go_upto_region 6 with (refine wpList_store_blk rfl 41 viewT (.tmp 11) _ rfl rfl rfl (Blk.new _ _ _) rfl rfl rfl ?_)
  (try simp only [Act.put])
  refine wp_forget (fun W0 => Blk W0 w3.heap.size (viewCells v h1).toArray 41 ∧ Blk W0 w5.heap.size (viewCells v h2).toArray 41 ∧ Blk W0 w7.heap.size (viewCells u h3).toArray 41 ∧ ViewAt W0 v h1 ∧ ViewAt W0 v h2 ∧ ViewAt W0 u h3 ∧ Below w.heap.size w W0) ⟨hV1.old (by (try unfold Kept); repeat (first | assumption | exact Below.refl _ _ | exact below_undrew (Below.refl _ _) | exact Below.mono (by assumption) (by first | (simp; done) | (simp; omega) | omega) | refine below_setRow ?_ (by first | (simp; done) | (simp; omega) | omega) _ | refine Below.setCell ?_ (by first | (simp; done) | (simp; omega) | omega) _ | refine Below.alloc ?_ (by first | (simp; done) | (simp; omega) | omega) _ | refine below_drewN ?_ _ | refine Below.drew ?_ | refine below_undrew ?_ | refine below_step ?_ (by assumption))), hV2.old (by (try unfold Kept); repeat (first | assumption | exact Below.refl _ _ | exact below_undrew (Below.refl _ _) | exact Below.mono (by assumption) (by first | (simp; done) | (simp; omega) | omega) | refine below_setRow ?_ (by first | (simp; done) | (simp; omega) | omega) _ | refine Below.setCell ?_ (by first | (simp; done) | (simp; omega) | omega) _ | refine Below.alloc ?_ (by first | (simp; done) | (simp; omega) | omega) _ | refine below_drewN ?_ _ | refine Below.drew ?_ | refine below_undrew ?_ | refine below_step ?_ (by assumption))), (Blk.new _ _ _).setRow _, hv1.old (by (try unfold Kept); repeat (first | assumption | exact Below.refl _ _ | exact below_undrew (Below.refl _ _) | exact Below.mono (by assumption) (by first | (simp; done) | (simp; omega) | omega) | refine below_setRow ?_ (by first | (simp; done) | (simp; omega) | omega) _ | refine Below.setCell ?_ (by first | (simp; done) | (simp; omega) | omega) _ | refine Below.alloc ?_ (by first | (simp; done) | (simp; omega) | omega) _ | refine below_drewN ?_ _ | refine Below.drew ?_ | refine below_undrew ?_ | refine below_step ?_ (by assumption))), hv2.old (by (try unfold Kept); repeat (first | assumption | exact Below.refl _ _ | exact below_undrew (Below.refl _ _) | exact Below.mono (by assumption) (by first | (simp; done) | (simp; omega) | omega) | refine below_setRow ?_ (by first | (simp; done) | (simp; omega) | omega) _ | refine Below.setCell ?_ (by first | (simp; done) | (simp; omega) | omega) _ | refine Below.alloc ?_ (by first | (simp; done) | (simp; omega) | omega) _ | refine below_drewN ?_ _ | refine Below.drew ?_ | refine below_undrew ?_ | refine below_step ?_ (by assumption))), ho3.at.old (by (try unfold Kept); repeat (first | assumption | exact Below.refl _ _ | exact below_undrew (Below.refl _ _) | exact Below.mono (by assumption) (by first | (simp; done) | (simp; omega) | omega) | refine below_setRow ?_ (by first | (simp; done) | (simp; omega) | omega) _ | refine Below.setCell ?_ (by first | (simp; done) | (simp; omega) | omega) _ | refine Below.alloc ?_ (by first | (simp; done) | (simp; omega) | omega) _ | refine below_drewN ?_ _ | refine Below.drew ?_ | refine below_undrew ?_ | refine below_step ?_ (by assumption))), by (try unfold Kept); repeat (first | assumption | exact Below.refl _ _ | exact below_undrew (Below.refl _ _) | exact Below.mono (by assumption) (by first | (simp; done) | (simp; omega) | omega) | refine below_setRow ?_ (by first | (simp; done) | (simp; omega) | omega) _ | refine Below.setCell ?_ (by first | (simp; done) | (simp; omega) | omega) _ | refine Below.alloc ?_ (by first | (simp; done) | (simp; omega) | omega) _ | refine below_drewN ?_ _ | refine Below.drew ?_ | refine below_undrew ?_ | refine below_step ?_ (by assumption))⟩ ?_
  rintro W7 ⟨hV1, hV2, hV3, hv1, hv2, hv3, hbw8⟩
  clear hb7 hbw7 ho3 hbw6 hB
  have hs1 := fun (W : World) (hW : Below W7.heap.size W7 W) => refSameV_any v v h1 h2 W (hv1.old hW) (hv2.old hW)
  have hs2 := fun (W : World) (hW : Below W7.heap.size W7 W) => viewSame_any v u h2 h3 W (hv2.old hW) (hv3.old hW) HL1.out HL2.out
  have hs3 := fun (W : World) (hW : Below W7.heap.size W7 W) => refSameV_any v u h2 h3 W (hv2.old hW) (hv3.old hW)
  have hs4 := fun (W : World) (hW : Below W7.heap.size W7 W) => viewSame_any v v h2 h2 W (hv2.old hW) (hv2.old hW) HL1.out HL1.out
  rw [decide_eq_true (rfl : v = v)] at hs1 hs4
  generalize decide (v = u) = same at hs2 hs3
  have HS1 := Lib.hid hs1
  have HS2 := Lib.hid hs2
  have HS3 := Lib.hid hs3
  have HS4 := Lib.hid hs4
  clear hs1 hs2 hs3 hs4 hv1 hv2 hv3
  unfold viewVal at HS1 HS2 HS3 HS4
  refine wp_region_old (0 :: 1 :: 2 :: 3 :: 4 :: 5 :: 6 :: 7 :: 8 :: 9 :: 10 :: 12 :: 13 :: 11 :: 14 :: 15 :: 16 :: 17 :: 18 :: 19 :: 20 :: 21 :: 22 :: 23 :: 24 :: 25 :: []) (by kernel_rfl) (by kernel_rfl) (fun c a d v w h => by cases d <;> exact h) ?_
  repeat (first | (refine lex_skip rfl (by rfl) ?_; simp only [Act.put, List.setIfInBounds_toArray, List.set]) | (refine lex_quiet (v := ?_) rfl rfl (by rfl) ?_ ?_; rotate_left; (intro W hW; go_simp); (try with_reducible rfl); simp only [Act.put, List.setIfInBounds_toArray, List.set]))
  have hV1 := hV1.drew
  have hV2 := hV2.drew
  have hV3 := hV3.drew
  refine lex_quiet (v := .agg (viewCells v h1).toArray) rfl rfl (by rfl) (fun W hW => exec_load_as 41 viewT (.tmp 7) rfl rfl rfl (Blk.cells (hV1.old hW)) rfl) ?_
  simp only [Act.put, List.setIfInBounds_toArray, List.set]
  refine lex_quiet (v := .agg (viewCells v h2).toArray) rfl rfl (by rfl) (fun W hW => exec_load_as 41 viewT (.tmp 9) rfl rfl rfl (Blk.cells (hV2.old hW)) rfl) ?_
  simp only [Act.put, List.setIfInBounds_toArray, List.set]
  refine lex_loud rfl rfl (by rfl) (fun K hK => ?_); go_wp2_with fail
  refine (HS1.out _ ((Below.refl _ _).drew)).mono ?_
  rintro e y1 ⟨rfl, hb⟩
  go_wp2_with fail
  refine hK _ _ hb ?_
  clear hK K
  have hV1 := hV1.old hb
  have hV2 := hV2.old hb
  have hV3 := hV3.old hb
  have hby : Below W7.heap.size W7 y1 := below_step (Below.refl _ _).drew hb
  clear hb
  repeat (first | (refine lex_skip rfl (by rfl) ?_; simp only [Act.put, List.setIfInBounds_toArray, List.set]) | (refine lex_quiet (v := ?_) rfl rfl (by rfl) ?_ ?_; rotate_left; (intro W hW; go_simp); (try with_reducible rfl); simp only [Act.put, List.setIfInBounds_toArray, List.set]))
  refine lex_quiet (v := .agg (viewCells v h2).toArray) rfl rfl (by rfl) (fun W hW => exec_load_as 41 viewT (.tmp 9) rfl rfl rfl (Blk.cells (hV2.old hW)) rfl) ?_
  simp only [Act.put, List.setIfInBounds_toArray, List.set]
  refine lex_quiet (v := .agg (viewCells u h3).toArray) rfl rfl (by rfl) (fun W hW => exec_load_as 41 viewT (.tmp 11) rfl rfl rfl (Blk.cells (hV3.old hW)) rfl) ?_
  simp only [Act.put, List.setIfInBounds_toArray, List.set]
  refine lex_quiet (v := .agg (viewCells v h2).toArray) rfl rfl (by rfl) (fun W hW => exec_load_as 41 viewT (.tmp 9) rfl rfl rfl (Blk.cells (hV2.old hW)) rfl) ?_
  simp only [Act.put, List.setIfInBounds_toArray, List.set]
  refine lex_quiet (v := .agg (viewCells u h3).toArray) rfl rfl (by rfl) (fun W hW => exec_load_as 41 viewT (.tmp 11) rfl rfl rfl (Blk.cells (hV3.old hW)) rfl) ?_
  simp only [Act.put, List.setIfInBounds_toArray, List.set]
  refine lex_loud rfl rfl (by rfl) (fun K hK => ?_); go_wp2_with fail
  refine (HS2.out _ hby).mono ?_
  rintro e y2 ⟨rfl, hb⟩
  go_wp2_with fail
  refine hK _ _ hb ?_
  clear hK K
  have hV1 := hV1.old hb
  have hV2 := hV2.old hb
  have hV3 := hV3.old hb
  have hby : Below W7.heap.size W7 y2 := below_step hby hb
  clear hb
  repeat (first | (refine lex_skip rfl (by rfl) ?_; simp only [Act.put, List.setIfInBounds_toArray, List.set]) | (refine lex_quiet (v := ?_) rfl rfl (by rfl) ?_ ?_; rotate_left; (intro W hW; go_simp); (try with_reducible rfl); simp only [Act.put, List.setIfInBounds_toArray, List.set]))
  refine lex_loud rfl rfl (by rfl) (fun K hK => ?_); go_wp2_with fail
  refine (HS3.out _ hby).mono ?_
  rintro e y3 ⟨rfl, hb⟩
  go_wp2_with fail
  refine hK _ _ hb ?_
  clear hK K
  have hV1 := hV1.old hb
  have hV2 := hV2.old hb
  have hV3 := hV3.old hb
  have hby : Below W7.heap.size W7 y3 := below_step hby hb
  clear hb
  repeat (first | (refine lex_skip rfl (by rfl) ?_; simp only [Act.put, List.setIfInBounds_toArray, List.set]) | (refine lex_quiet (v := ?_) rfl rfl (by rfl) ?_ ?_; rotate_left; (intro W hW; go_simp); (try with_reducible rfl); simp only [Act.put, List.setIfInBounds_toArray, List.set]))
  have hsm : (same == same) = true := by simp
  repeat (first | (refine lex_skip rfl (by rfl) ?_; simp only [Act.put, List.setIfInBounds_toArray, List.set]) | (refine lex_quiet (v := ?_) rfl rfl (by rfl) ?_ ?_; rotate_left; (intro W hW; go_simp); (try with_reducible rfl); simp only [Act.put, List.setIfInBounds_toArray, List.set]))
  refine lex_quiet (v := .agg (viewCells v h2).toArray) rfl rfl (by rfl) (fun W hW => exec_load_as 41 viewT (.tmp 9) rfl rfl rfl (Blk.cells (hV2.old hW)) rfl) ?_
  simp only [Act.put, List.setIfInBounds_toArray, List.set]
  refine lex_quiet (v := .agg (viewCells v h2).toArray) rfl rfl (by rfl) (fun W hW => exec_load_as 41 viewT (.tmp 9) rfl rfl rfl (Blk.cells (hV2.old hW)) rfl) ?_
  simp only [Act.put, List.setIfInBounds_toArray, List.set]
  refine lex_loud rfl rfl (by rfl) (fun K hK => ?_); go_wp2_with fail
  refine (HS4.out _ hby).mono ?_
  rintro e y4 ⟨rfl, hb⟩
  go_wp2_with fail
  refine hK _ _ hb ?_
  clear hK K
  have hV1 := hV1.old hb
  have hV2 := hV2.old hb
  have hV3 := hV3.old hb
  have hby : Below W7.heap.size W7 y4 := below_step hby hb
  clear hb
  repeat (first | (refine lex_skip rfl (by rfl) ?_; simp only [Act.put, List.setIfInBounds_toArray, List.set]) | (refine lex_quiet (v := ?_) rfl rfl (by rfl) ?_ ?_; rotate_left; (intro W hW; go_simp); (try with_reducible rfl); simp only [Act.put, List.setIfInBounds_toArray, List.set]))
  refine lex_loud rfl rfl (by rfl) (fun K hK => ?_); go_wp2_with fail
  refine (viewWakes_any _).mono ?_
  rintro e y5 ⟨rfl, hb⟩
  go_wp2_with fail
  refine hK _ _ hb ?_
  clear hK K
  repeat (first | (refine lex_skip rfl (by rfl) ?_; simp only [Act.put, List.setIfInBounds_toArray, List.set]) | (refine lex_quiet (v := ?_) rfl rfl (by rfl) ?_ ?_; rotate_left; (intro W hW; go_simp); (try with_reducible rfl); simp only [Act.put, List.setIfInBounds_toArray, List.set]))
  refine lex_nil ?_
  go_wp2_with fail
  go_ret
  exact ⟨rfl, below_step (below_step hbw8 hby) hb⟩
end Go.Proofs.Ytiglljegpdlnmaa
