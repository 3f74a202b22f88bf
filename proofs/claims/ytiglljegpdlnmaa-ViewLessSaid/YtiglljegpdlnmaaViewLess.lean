/- The law on states that a judge sees alike, walked. -/
import Derived.Test.YtiglljegpdlnmaaLess
namespace Go.Proofs.Ytiglljegpdlnmaa
open Go.RowKit

def Rel2 (w : World) (f : Nat) (i : Value) (w' : World) : Prop := ∃ k : Nat, k + f = 2 ∧ i = idx k ∧ w' = w
set_option maxRecDepth 100000 in
set_option maxHeartbeats 4000000 in
theorem viewLess_any (p q : StateP) (h g : StateH) (w : World) (ha : StateAt w p h) (hb : StateAt w q g) :
    Calls Try.prog 7 #[stateVal p h, stateVal q g] w fun e w' => e = .returned (.bool true) ∧ Below w.heap.size w w' := by
  have key1 := fun (w1 : World) (h1 : Below w.heap.size w w1) => great_any p h w1 (ha.old h1)
  have key2 := fun (w1 : World) (h1 : Below w.heap.size w w1) => great_any q g w1 (hb.old h1)
  have kp : decide (2000 < stateCount p) = true ∨ decide (2000 < stateCount p) = false ∧ stateCount p ≤ 2000 := by by_cases h : 2000 < stateCount p <;> simp [h]; omega
  have kq : decide (2000 < stateCount q) = true ∨ decide (2000 < stateCount q) = false ∧ stateCount q ≤ 2000 := by by_cases h : 2000 < stateCount q <;> simp [h]; omega
  generalize decide (2000 < stateCount p) = gp at key1 kp
  generalize decide (2000 < stateCount q) = gq at key2 kq
  have hsame := fun (w1 : World) (h1 : Below w.heap.size w w1) => sameState_any p q h g w1 (ha.old h1) (hb.old h1)
  have hof1 := fun (k : Nat) (w1 : World) (h1 : Below w.heap.size w w1) (hk : k < 4) => of_any (k : Int) w1 p h (ha.old h1) ⟨by omega, by omega⟩
  have hof2 := fun (k : Nat) (w1 : World) (h1 : Below w.heap.size w w1) (hk : k < 4) => of_any (k : Int) w1 q g (hb.old h1) ⟨by omega, by omega⟩
  have HS := Lib.hid hsame
  have HO1 := Lib.hid hof1
  have HO2 := Lib.hid hof2
  have HG1 := Lib.hid key1
  have HG2 := Lib.hid key2
  clear hsame hof1 hof2 key1 key2
  unfold stateVal at HG1 HG2 HS HO1 HO2 ⊢
  go_enter Try.func7, Try.ntmps7
  go_wp2_with (refine wpList_load_blkw (by rfl) 50 stateT (.tmp 2) rfl rfl (Blk.new2 _ _ _ _) rfl ?_)
  refine (HG1.out _ (by (try unfold Kept); repeat (first | assumption | exact Below.refl _ _ | exact below_undrew (Below.refl _ _) | exact Below.mono (by assumption) (by first | (simp; done) | (simp; omega) | omega) | refine below_setRow ?_ (by first | (simp; done) | (simp; omega) | omega) _ | refine Below.setCell ?_ (by first | (simp; done) | (simp; omega) | omega) _ | refine Below.alloc ?_ (by first | (simp; done) | (simp; omega) | omega) _ | refine below_drewN ?_ _ | refine Below.drew ?_ | refine below_undrew ?_ | refine below_step ?_ (by assumption)))).mono ?_
  rintro e w1 ⟨rfl, hb1⟩
  have hA := (Blk.new2 _ _ _ _).old hb1
  have hB := (Blk.new2' _ _ _ _).old hb1
  have hbw1 : Below w.heap.size w w1 := by (try unfold Kept); repeat (first | assumption | exact Below.refl _ _ | exact below_undrew (Below.refl _ _) | exact Below.mono (by assumption) (by first | (simp; done) | (simp; omega) | omega) | refine below_setRow ?_ (by first | (simp; done) | (simp; omega) | omega) _ | refine Below.setCell ?_ (by first | (simp; done) | (simp; omega) | omega) _ | refine Below.alloc ?_ (by first | (simp; done) | (simp; omega) | omega) _ | refine below_drewN ?_ _ | refine Below.drew ?_ | refine below_undrew ?_ | refine below_step ?_ (by assumption))
  clear hb1
  rcases kp with rfl | ⟨rfl, kp⟩
  · go_wp2_with fail
    refine (viewWakes_any _).mono ?_
    rintro e w2 ⟨rfl, hb2⟩
    go_wp2_with fail
    go_ret
    exact ⟨rfl, by (try unfold Kept); repeat (first | assumption | exact Below.refl _ _ | exact below_undrew (Below.refl _ _) | exact Below.mono (by assumption) (by first | (simp; done) | (simp; omega) | omega) | refine below_setRow ?_ (by first | (simp; done) | (simp; omega) | omega) _ | refine Below.setCell ?_ (by first | (simp; done) | (simp; omega) | omega) _ | refine Below.alloc ?_ (by first | (simp; done) | (simp; omega) | omega) _ | refine below_drewN ?_ _ | refine Below.drew ?_ | refine below_undrew ?_ | refine below_step ?_ (by assumption))⟩
  go_wp2_with (refine wpList_load_blkw (by rfl) 50 stateT (.tmp 3) rfl rfl hB rfl ?_)
  refine (HG2.out _ hbw1).mono ?_
  rintro e w2 ⟨rfl, hb2⟩
  have hA := hA.old hb2
  have hB := hB.old hb2
  have hbw2 : Below w.heap.size w w2 := by (try unfold Kept); repeat (first | assumption | exact Below.refl _ _ | exact below_undrew (Below.refl _ _) | exact Below.mono (by assumption) (by first | (simp; done) | (simp; omega) | omega) | refine below_setRow ?_ (by first | (simp; done) | (simp; omega) | omega) _ | refine Below.setCell ?_ (by first | (simp; done) | (simp; omega) | omega) _ | refine Below.alloc ?_ (by first | (simp; done) | (simp; omega) | omega) _ | refine below_drewN ?_ _ | refine Below.drew ?_ | refine below_undrew ?_ | refine below_step ?_ (by assumption))
  clear hb2 hbw1
  rcases kq with rfl | ⟨rfl, kq⟩
  · go_wp2_with fail
    refine (viewWakes_any _).mono ?_
    rintro e w3 ⟨rfl, hb3⟩
    go_wp2_with fail
    go_ret
    exact ⟨rfl, by (try unfold Kept); repeat (first | assumption | exact Below.refl _ _ | exact below_undrew (Below.refl _ _) | exact Below.mono (by assumption) (by first | (simp; done) | (simp; omega) | omega) | refine below_setRow ?_ (by first | (simp; done) | (simp; omega) | omega) _ | refine Below.setCell ?_ (by first | (simp; done) | (simp; omega) | omega) _ | refine Below.alloc ?_ (by first | (simp; done) | (simp; omega) | omega) _ | refine below_drewN ?_ _ | refine Below.drew ?_ | refine below_undrew ?_ | refine below_step ?_ (by assumption))⟩
  go_wp2_with fail
  have hbz2 := hbw2.size
  go_loopg [19] 4 (LessRel w p q _ _ w2.heap.size)
  case atStart => exact ⟨0, rfl, rfl, Blk.new _ _ _, hA.alloc _, hB.alloc _, by (try unfold Kept); repeat (first | assumption | exact Below.refl _ _ | exact below_undrew (Below.refl _ _) | exact Below.mono (by assumption) (by first | (simp; done) | (simp; omega) | omega) | refine below_setRow ?_ (by first | (simp; done) | (simp; omega) | omega) _ | refine Below.setCell ?_ (by first | (simp; done) | (simp; omega) | omega) _ | refine Below.alloc ?_ (by first | (simp; done) | (simp; omega) | omega) _ | refine below_drewN ?_ _ | refine Below.drew ?_ | refine below_undrew ?_ | refine below_step ?_ (by assumption))⟩
  case round =>
    obtain ⟨k, hk, rfl, hE, hA, hB, hbr⟩ := hrel
    have hbz := hbr.size
    by_cases hk4 : k < 4
    · have u0 : decide ((k : Int) < 4) = true := by simp; omega
      go_wp2_with (refine wpList_load_blkw (by rfl) 50 stateT (.tmp 2) rfl rfl hA rfl ?_)
      refine (HO1.out k _ hbr hk4).mono ?_
      rintro e w3 ⟨h1, rfl, ho1, hb3⟩
      have hE := hE.old hb3
      have hA := hA.old hb3
      have hB := hB.old hb3
      have hbw3 : Below w.heap.size w w3 := by (try unfold Kept); repeat (first | assumption | exact Below.refl _ _ | exact below_undrew (Below.refl _ _) | exact Below.mono (by assumption) (by first | (simp; done) | (simp; omega) | omega) | refine below_setRow ?_ (by first | (simp; done) | (simp; omega) | omega) _ | refine Below.setCell ?_ (by first | (simp; done) | (simp; omega) | omega) _ | refine Below.alloc ?_ (by first | (simp; done) | (simp; omega) | omega) _ | refine below_drewN ?_ _ | refine Below.drew ?_ | refine below_undrew ?_ | refine below_step ?_ (by assumption))
      have hbz3 := hbw3.size
      have hs1 := seen_len p (k : Int) kp
      have hs2 := seen_len q (k : Int) kq
      have HAL := Lib.hid (show alike p q k = decide (seen p (k : Int) = seen q (k : Int)) from rfl)
      generalize seen p (k : Int) = v at *
      unfold viewVal
      go_upto_region 8 with (refine wpList_store_blk rfl 41 viewT (.tmp 7) _ rfl rfl rfl (Blk.new _ _ _) rfl rfl rfl ?_)
      (try simp only [Act.put])
      refine wp_forget (fun W0 => Blk W0 w3.heap.size (viewCells v h1).toArray 41 ∧ Blk W0 w2.heap.size _ _ ∧ Blk W0 w.heap.size _ _ ∧ Blk W0 (w.heap.size + 1) _ _ ∧ ViewAt W0 v h1 ∧ Below w.heap.size w W0) ⟨(Blk.new _ _ _).setRow _, hE.old (by (try unfold Kept); repeat (first | assumption | exact Below.refl _ _ | exact below_undrew (Below.refl _ _) | exact Below.mono (by assumption) (by first | (simp; done) | (simp; omega) | omega) | refine below_setRow ?_ (by first | (simp; done) | (simp; omega) | omega) _ | refine Below.setCell ?_ (by first | (simp; done) | (simp; omega) | omega) _ | refine Below.alloc ?_ (by first | (simp; done) | (simp; omega) | omega) _ | refine below_drewN ?_ _ | refine Below.drew ?_ | refine below_undrew ?_ | refine below_step ?_ (by assumption))), hA.old (by (try unfold Kept); repeat (first | assumption | exact Below.refl _ _ | exact below_undrew (Below.refl _ _) | exact Below.mono (by assumption) (by first | (simp; done) | (simp; omega) | omega) | refine below_setRow ?_ (by first | (simp; done) | (simp; omega) | omega) _ | refine Below.setCell ?_ (by first | (simp; done) | (simp; omega) | omega) _ | refine Below.alloc ?_ (by first | (simp; done) | (simp; omega) | omega) _ | refine below_drewN ?_ _ | refine Below.drew ?_ | refine below_undrew ?_ | refine below_step ?_ (by assumption))), hB.old (by (try unfold Kept); repeat (first | assumption | exact Below.refl _ _ | exact below_undrew (Below.refl _ _) | exact Below.mono (by assumption) (by first | (simp; done) | (simp; omega) | omega) | refine below_setRow ?_ (by first | (simp; done) | (simp; omega) | omega) _ | refine Below.setCell ?_ (by first | (simp; done) | (simp; omega) | omega) _ | refine Below.alloc ?_ (by first | (simp; done) | (simp; omega) | omega) _ | refine below_drewN ?_ _ | refine Below.drew ?_ | refine below_undrew ?_ | refine below_step ?_ (by assumption))), ho1.at.old (by (try unfold Kept); repeat (first | assumption | exact Below.refl _ _ | exact below_undrew (Below.refl _ _) | exact Below.mono (by assumption) (by first | (simp; done) | (simp; omega) | omega) | refine below_setRow ?_ (by first | (simp; done) | (simp; omega) | omega) _ | refine Below.setCell ?_ (by first | (simp; done) | (simp; omega) | omega) _ | refine Below.alloc ?_ (by first | (simp; done) | (simp; omega) | omega) _ | refine below_drewN ?_ _ | refine Below.drew ?_ | refine below_undrew ?_ | refine below_step ?_ (by assumption))), by (try unfold Kept); repeat (first | assumption | exact Below.refl _ _ | exact below_undrew (Below.refl _ _) | exact Below.mono (by assumption) (by first | (simp; done) | (simp; omega) | omega) | refine below_setRow ?_ (by first | (simp; done) | (simp; omega) | omega) _ | refine Below.setCell ?_ (by first | (simp; done) | (simp; omega) | omega) _ | refine Below.alloc ?_ (by first | (simp; done) | (simp; omega) | omega) _ | refine below_drewN ?_ _ | refine Below.drew ?_ | refine below_undrew ?_ | refine below_step ?_ (by assumption))⟩ ?_
      rintro W4 ⟨hV, hE, hA, hB, hv1, hbw4⟩
      clear hb3 hbw3 ho1
      go_wp2_with (refine wpList_load_blkw (by rfl) 50 stateT (.tmp 3) rfl rfl hB rfl ?_)
      refine (HO2.out k _ hbw4 hk4).mono ?_
      rintro e w5 ⟨h2, rfl, ho2, hb5⟩
      have hV := hV.old hb5
      have hE := hE.old hb5
      have hA := hA.old hb5
      have hB := hB.old hb5
      have hv1 := hv1.old hb5
      have hbw5 : Below w.heap.size w w5 := below_step hbw4 hb5
      have hbz5 := hbw5.size
      generalize seen q (k : Int) = u at *
      go_upto_region 9 with (refine wpList_store_blk rfl 41 viewT (.tmp 9) _ rfl rfl rfl (Blk.new _ _ _) rfl rfl rfl ?_)
      (try simp only [Act.put])
      refine wp_forget (fun W0 => Blk W0 w3.heap.size (viewCells v h1).toArray 41 ∧ Blk W0 w5.heap.size (viewCells u h2).toArray 41 ∧ Blk W0 w2.heap.size _ _ ∧ Blk W0 w.heap.size _ _ ∧ Blk W0 (w.heap.size + 1) _ _ ∧ ViewAt W0 v h1 ∧ ViewAt W0 u h2 ∧ Below w.heap.size w W0) ⟨hV.old (by (try unfold Kept); repeat (first | assumption | exact Below.refl _ _ | exact below_undrew (Below.refl _ _) | exact Below.mono (by assumption) (by first | (simp; done) | (simp; omega) | omega) | refine below_setRow ?_ (by first | (simp; done) | (simp; omega) | omega) _ | refine Below.setCell ?_ (by first | (simp; done) | (simp; omega) | omega) _ | refine Below.alloc ?_ (by first | (simp; done) | (simp; omega) | omega) _ | refine below_drewN ?_ _ | refine Below.drew ?_ | refine below_undrew ?_ | refine below_step ?_ (by assumption))), (Blk.new _ _ _).setRow _, hE.old (by (try unfold Kept); repeat (first | assumption | exact Below.refl _ _ | exact below_undrew (Below.refl _ _) | exact Below.mono (by assumption) (by first | (simp; done) | (simp; omega) | omega) | refine below_setRow ?_ (by first | (simp; done) | (simp; omega) | omega) _ | refine Below.setCell ?_ (by first | (simp; done) | (simp; omega) | omega) _ | refine Below.alloc ?_ (by first | (simp; done) | (simp; omega) | omega) _ | refine below_drewN ?_ _ | refine Below.drew ?_ | refine below_undrew ?_ | refine below_step ?_ (by assumption))), hA.old (by (try unfold Kept); repeat (first | assumption | exact Below.refl _ _ | exact below_undrew (Below.refl _ _) | exact Below.mono (by assumption) (by first | (simp; done) | (simp; omega) | omega) | refine below_setRow ?_ (by first | (simp; done) | (simp; omega) | omega) _ | refine Below.setCell ?_ (by first | (simp; done) | (simp; omega) | omega) _ | refine Below.alloc ?_ (by first | (simp; done) | (simp; omega) | omega) _ | refine below_drewN ?_ _ | refine Below.drew ?_ | refine below_undrew ?_ | refine below_step ?_ (by assumption))), hB.old (by (try unfold Kept); repeat (first | assumption | exact Below.refl _ _ | exact below_undrew (Below.refl _ _) | exact Below.mono (by assumption) (by first | (simp; done) | (simp; omega) | omega) | refine below_setRow ?_ (by first | (simp; done) | (simp; omega) | omega) _ | refine Below.setCell ?_ (by first | (simp; done) | (simp; omega) | omega) _ | refine Below.alloc ?_ (by first | (simp; done) | (simp; omega) | omega) _ | refine below_drewN ?_ _ | refine Below.drew ?_ | refine below_undrew ?_ | refine below_step ?_ (by assumption))), hv1.old (by (try unfold Kept); repeat (first | assumption | exact Below.refl _ _ | exact below_undrew (Below.refl _ _) | exact Below.mono (by assumption) (by first | (simp; done) | (simp; omega) | omega) | refine below_setRow ?_ (by first | (simp; done) | (simp; omega) | omega) _ | refine Below.setCell ?_ (by first | (simp; done) | (simp; omega) | omega) _ | refine Below.alloc ?_ (by first | (simp; done) | (simp; omega) | omega) _ | refine below_drewN ?_ _ | refine Below.drew ?_ | refine below_undrew ?_ | refine below_step ?_ (by assumption))), ho2.at.old (by (try unfold Kept); repeat (first | assumption | exact Below.refl _ _ | exact below_undrew (Below.refl _ _) | exact Below.mono (by assumption) (by first | (simp; done) | (simp; omega) | omega) | refine below_setRow ?_ (by first | (simp; done) | (simp; omega) | omega) _ | refine Below.setCell ?_ (by first | (simp; done) | (simp; omega) | omega) _ | refine Below.alloc ?_ (by first | (simp; done) | (simp; omega) | omega) _ | refine below_drewN ?_ _ | refine Below.drew ?_ | refine below_undrew ?_ | refine below_step ?_ (by assumption))), by (try unfold Kept); repeat (first | assumption | exact Below.refl _ _ | exact below_undrew (Below.refl _ _) | exact Below.mono (by assumption) (by first | (simp; done) | (simp; omega) | omega) | refine below_setRow ?_ (by first | (simp; done) | (simp; omega) | omega) _ | refine Below.setCell ?_ (by first | (simp; done) | (simp; omega) | omega) _ | refine Below.alloc ?_ (by first | (simp; done) | (simp; omega) | omega) _ | refine below_drewN ?_ _ | refine Below.drew ?_ | refine below_undrew ?_ | refine below_step ?_ (by assumption))⟩ ?_
      rintro W6 ⟨hV, hU, hE, hA, hB, hv1, hv2, hbw6⟩
      clear hb5 hbw4 hbw5 ho2
      go_wp2_with (first | refine wpList_load_blkw (by rfl) 41 viewT (.tmp 7) rfl rfl hV rfl ?_ | refine wpList_load_blkw (by rfl) 41 viewT (.tmp 9) rfl rfl hU rfl ?_)
      refine (viewSame_any v u h1 h2 _ hv1 hv2 hs1 hs2).mono ?_
      rw [← HAL.out]
      rintro e w7 ⟨rfl, hb7⟩
      have hE := hE.old hb7
      have hA := hA.old hb7
      have hB := hB.old hb7
      have hbw7 : Below w.heap.size w w7 := below_step hbw6 hb7
      have r5 : w7.cell? ⟨w2.heap.size, k, none⟩ = some (.bool false) := (hE.rule k).trans (alikes_at p q k hk4)
      have f5 := hE.free
      have v0 : (k : Int) < 4 := by omega
      go_wp2_with fail
      go_roundg (gk - 1)
      case measure => omega
      case rel =>
        refine ⟨k + 1, by omega, by go_num, ?_, hA.other _ _ (hA.ne hE (by decide)), hB.other _ _ (hB.ne hE (by decide)), hbw7.setCell (by simp; omega) _⟩
        rw [← alikes_set p q k hk4]
        exact hE.set k _
    · have u0 : decide ((k : Int) < 4) = false := by simp; omega
      obtain rfl : k = 4 := by omega
      have i1 : alike p q 3 = true → alike p q 0 = true ∧ alike p q 1 = true := fun h => by
        rw [alike_3] at h
        have e := of_decide_eq_true h
        subst e
        exact ⟨decide_eq_true rfl, decide_eq_true rfl⟩
      have i2 : alike p q 0 = true → alike p q 2 = true := fun h => decide_eq_true (seen_less (.inl rfl) (of_decide_eq_true h))
      have i2' : alike p q 1 = true → alike p q 2 = true := fun h => decide_eq_true (seen_less (.inr rfl) (of_decide_eq_true h))
      have hE : Blk wr w2.heap.size #[.bool (alike p q 0), .bool (alike p q 1), .bool (alike p q 2), .bool (alike p q 3)] 58 := hE
      have HS3 := Lib.hid (alike_3 p q)
      generalize alike p q 0 = e0 at *
      generalize alike p q 1 = e1 at *
      generalize alike p q 2 = e2 at *
      generalize alike p q 3 = e3 at *
      have HI : (e3 = true → e0 = true ∧ e1 = true) ∧ (e0 = true → e2 = true) ∧ (e1 = true → e2 = true) := ⟨i1, i2, i2'⟩
      clear i1 i2 i2' hk u0
      have rE := hE.rule
      cases e3 <;> cases e0 <;> cases e1 <;> cases e2
      all_goals first
        | (exfalso; simp at HI; done)
        | skip
      all_goals
        clear HI
        go_wp2_with fail
        go_loopg [46] 2 (Rel2 wr)
        case atStart => exact ⟨0, rfl, rfl, rfl⟩
        case round =>
          obtain ⟨m, hm, rfl, rfl⟩ := hrel
          rcases (show m = 0 ∨ m = 1 ∨ m = 2 by omega) with rfl | rfl | rfl
          · simp only [idx]
            go_wp2_with fail
            go_roundg 1
            case measure => omega
            case rel => exact ⟨1, rfl, rfl, rfl⟩
          · simp only [idx]
            go_wp2_with fail
            go_roundg 0
            case measure => omega
            case rel => exact ⟨2, rfl, rfl, rfl⟩
          · simp only [idx]
            go_wp2_with fail
            have rE2 := fun W (hW : Old wr.drew W) => (hE.drew.old hW).rule
            clear rE
            refine wp_region_old (0 :: 1 :: 2 :: 3 :: 4 :: 5 :: 6 :: 7 :: 8 :: 9 :: []) (by kernel_rfl) (by kernel_rfl) (fun c a d v w h => by cases d <;> exact h) ?_
            repeat (first | (refine lex_skip rfl (by rfl) ?_; simp only [Act.put, List.setIfInBounds_toArray, List.set]) | (refine lex_quiet (v := ?_) rfl rfl (by rfl) ?_ ?_; rotate_left; (intro W hW; go_simp); (try with_reducible rfl); simp only [Act.put, List.setIfInBounds_toArray, List.set]))
            refine lex_quiet (v := .agg (stateCells p h).toArray) rfl rfl (by rfl) (fun W hW => exec_load_as 50 stateT (.tmp 2) rfl rfl rfl (Blk.cells (hA.drew.old hW)) rfl) ?_
            simp only [Act.put, List.setIfInBounds_toArray, List.set]
            refine lex_quiet (v := .agg (stateCells q g).toArray) rfl rfl (by rfl) (fun W hW => exec_load_as 50 stateT (.tmp 3) rfl rfl rfl (Blk.cells (hB.drew.old hW)) rfl) ?_
            simp only [Act.put, List.setIfInBounds_toArray, List.set]
            refine lex_loud rfl rfl (by rfl) (fun K hK => ?_); go_wp2_with fail
            refine (HS.out _ hbr.drew).mono ?_
            rw [← HS3.out]
            rintro e w8 ⟨rfl, hb8⟩
            go_wp2_with fail
            refine hK _ _ hb8 ?_
            clear hK K
            repeat (first | (refine lex_skip rfl (by rfl) ?_; simp only [Act.put, List.setIfInBounds_toArray, List.set]) | (refine lex_quiet (v := ?_) rfl rfl (by rfl) ?_ ?_; rotate_left; (intro W hW; go_simp); (try with_reducible rfl); simp only [Act.put, List.setIfInBounds_toArray, List.set]))
            refine lex_loud rfl rfl (by rfl) (fun K hK => ?_); go_wp2_with fail
            refine (viewWakes_any _).mono ?_
            rintro e w9 ⟨rfl, hb9⟩
            go_wp2_with fail
            refine hK _ _ hb9 ?_
            clear hK K
            repeat (first | (refine lex_skip rfl (by rfl) ?_; simp only [Act.put, List.setIfInBounds_toArray, List.set]) | (refine lex_quiet (v := ?_) rfl rfl (by rfl) ?_ ?_; rotate_left; (intro W hW; go_simp); (try with_reducible rfl); simp only [Act.put, List.setIfInBounds_toArray, List.set]))
            refine lex_nil ?_
            go_wp2_with fail
            go_ret
            exact ⟨rfl, below_step (below_step hbr.drew hb8) hb9⟩
end Go.Proofs.Ytiglljegpdlnmaa
