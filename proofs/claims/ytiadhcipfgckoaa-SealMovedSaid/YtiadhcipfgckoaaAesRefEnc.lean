/- The walks through the reference: a block encrypted. -/
import Derived.Test.YtiadhcipfgckoaaAesR
namespace Go.Proofs.Ytiadhcipfgckoaa
open Go.RowKit
attribute [local go_sem] bits_xor_B8 bits_and_B8 bits_or_B8 ofInt_B8

theorem kw_part (key : Nat → BitVec 8) (r : Nat) (hr : r < 11) : ((fA 176 (kw key)).toList.drop (r * 16)).take 16 = fL 16 (rk key r) := by
  rw [fA_part _ (by omega)]
  exact fL_eq fun j hj => by rw [Nat.mul_comm, kw_at _ _ _ hj]
theorem shift_at (s : Nat → BitVec 8) (i : Nat) (h : i < 16) : trn (thr bx s) i = bx (s (frm i)) := by
  rw [trn, tb_at _ h, thr, tb_at _ (too_frm i h).2.2.1]
theorem frm_sum (i : Nat) : 4 * ((i / 4 + i) % 4) + i % 4 = frm i := by unfold frm; omega
structure EnIn (w : World) (H Kb Bb : Nat) (key b : Nat → BitVec 8) (wr : World) : Prop where
  box : Blk wr (H + 2) (fA 256 boxf) 69
  out : ∃ z : Array Value, z.size = 16 ∧ Blk wr (H + 3) z 46
  keys : Blk wr Kb (fA 176 (kw key)) 88
  b : Blk wr Bb (fA 16 b) 46
  below : Below H w wr
theorem EnIn.drew {w : World} {H Kb Bb : Nat} {key b : Nat → BitVec 8} {wr : World} (h : EnIn w H Kb Bb key b wr) : EnIn w H Kb Bb key b wr.drew := ⟨h.box, h.out, h.keys, h.b, h.below.drew⟩
theorem EnIn.old {w : World} {H Kb Bb : Nat} {key b : Nat → BitVec 8} {wr wq : World} (h : EnIn w H Kb Bb key b wr) (hb : Below wr.heap.size wr wq) : EnIn w H Kb Bb key b wq :=
  ⟨h.box.old hb, by obtain ⟨z, hz, hZ⟩ := h.out; exact ⟨z, hz, hZ.old hb⟩, h.keys.old hb, h.b.old hb, h.below.trans (hb.mono (by have := h.box.lt; omega))⟩
theorem EnIn.far {w : World} {H Kb Bb : Nat} {key b : Nat → BitVec 8} {wr : World} (h : EnIn w H Kb Bb key b wr) {T : Nat} (h1 : H + 3 < T) (h2 : T ≠ Kb) (h3 : T ≠ Bb) (i : Nat) (v : Value) : EnIn w H Kb Bb key b (wr.setCell ⟨T, i, none⟩ v) :=
  ⟨h.box.other _ _ (by show H + 2 ≠ T; omega), by obtain ⟨z, hz, hZ⟩ := h.out; exact ⟨z, hz, hZ.other _ _ (by show H + 3 ≠ T; omega)⟩, h.keys.other _ _ (by show Kb ≠ T; omega), h.b.other _ _ (by show Bb ≠ T; omega), h.below.setCell (by show H ≤ T; omega) _⟩
theorem EnIn.farRow {w : World} {H Kb Bb : Nat} {key b : Nat → BitVec 8} {wr : World} (h : EnIn w H Kb Bb key b wr) {T : Nat} (h1 : H + 3 < T) (h2 : T ≠ Kb) (h3 : T ≠ Bb) (cs : Array Value) : EnIn w H Kb Bb key b (wr.setRow T cs) :=
  ⟨h.box.setRow_other _ _ (by omega), by obtain ⟨z, hz, hZ⟩ := h.out; exact ⟨z, hz, hZ.setRow_other _ _ (by omega)⟩, h.keys.setRow_other _ _ (by omega), h.b.setRow_other _ _ (by omega), below_setRow h.below (by omega) _⟩
theorem EnIn.put {w : World} {H Kb Bb : Nat} {key b : Nat → BitVec 8} {wr : World} (h : EnIn w H Kb Bb key b wr) (h1 : H + 3 < Bb) (b' : Nat → BitVec 8) : EnIn w H Kb Bb key b' (wr.setRow Bb (fA 16 b')) :=
  ⟨h.box.setRow_other _ _ (by omega), by obtain ⟨z, hz, hZ⟩ := h.out; exact ⟨z, hz, hZ.setRow_other _ _ (by omega)⟩, h.keys.setRow_other _ _ (Blk.ne h.keys h.b (by decide)), h.b.setRow _, below_setRow h.below (by omega) _⟩
def En1 (w : World) (H Kb Bb : Nat) (key s : Nat → BitVec 8) (f : Nat) (i : Value) (wr : World) : Prop :=
  ∃ r : Nat, f + r = 11 ∧ 1 ≤ r ∧ i = .int .i64 (r : Int) ∧ EnIn w H Kb Bb key (encs key s (r - 1)) wr
def En2 (w : World) (H Kb Bb T : Nat) (key b : Nat → BitVec 8) (f : Nat) (i : Value) (wr : World) : Prop :=
  ∃ k : Nat, f + k = 16 ∧ i = .int .i64 (k : Int) ∧ EnIn w H Kb Bb key b wr ∧ Blk wr T (fA 16 (fun j => if j < k then trn (thr bx b) j else 0#8)) 46

set_option maxHeartbeats 1000000 in
set_option maxRecDepth 100000 in
theorem renc_any (key s : Nat → BitVec 8) (w : World) :
    Calls Try.prog 41 #[.agg (fA 16 key), .agg (fA 16 s), .agg (fA 256 boxf)] w fun e w' => e = .returned (.agg (fA 16 (enc key s))) ∧ Below w.heap.size w w' := by
  have hz1 := zero_runA zero53
  have HZ := Lib.hid hz1
  clear hz1
  go_enter Try.func41, Try.ntmps41
  go_upto_region 1 with (fail)
  refine wp_forget (fun W0 => Blk W0 w.heap.size (fA 16 key) 46 ∧ Blk W0 (w.heap.size + 1) (fA 16 s) 46 ∧ Blk W0 (w.heap.size + 2) (fA 256 boxf) 69 ∧ Blk W0 (w.heap.size + 3) (fA 16 fun _ => 0#8) 46 ∧ Below w.heap.size w W0) ⟨(Blk.new3 _ _ _ _ _).alloc _, (Blk.new3' _ _ _ _ _).alloc _, (Blk.new3'' w (fA 256 boxf) _ _ _).alloc _, ?_, by (try unfold Kept); repeat (first | assumption | exact Below.refl _ _ | exact below_undrew (Below.refl _ _) | exact Below.mono (by assumption) (by first | (simp; done) | (simp; omega) | omega) | refine below_setRow ?_ (by first | (simp; done) | (simp; omega) | omega) _ | refine Below.setCell ?_ (by first | (simp; done) | (simp; omega) | omega) _ | refine Below.alloc ?_ (by first | (simp; done) | (simp; omega) | omega) _ | refine below_drewN ?_ _ | refine Below.drew ?_ | refine below_undrew ?_ | refine below_step ?_ (by assumption))⟩ ?_
  · have := Blk.new (((w.alloc (.cells (fA 16 key) 46)).alloc (.cells (fA 16 s) 46)).alloc (.cells (fA 256 boxf) 69)) (fA 16 fun _ => 0#8) 46
    simp at this
    exact this
  rintro w0 ⟨hK, hS, hX, hO, hb⟩
  obtain ⟨H, hH⟩ : ∃ H, H = w.heap.size := ⟨_, rfl⟩
  rw [← hH] at hK hS hX hO hb ⊢
  have HH := Lib.hid hH
  clear hH
  go_wp2_with (first | refine wpList_load_blk rfl 46 agg16 _ rfl rfl hK (fA_size _ _) ?_ | refine wpList_load_blk rfl 69 agg256 _ rfl rfl hX (fA_size _ _) ?_)
  refine (rkeys_any key _).mono ?_
  rintro e w1 ⟨rfl, hb1⟩
  replace hb := hb.trans (hb1.mono (by have := hK.lt; omega))
  replace hS := hS.old hb1
  replace hX := hX.old hb1
  replace hO := hO.old hb1
  clear hK hb1
  have hz1 := HZ.out
  go_upto_region 2 with (refine wpList_store_blk rfl 88 agg53 (.tmp 7) _ (cells := fA 176 (kw key)) rfl rfl rfl (Blk.new _ _ _) (fA_size _ _) (fA_size _ _) (fA_one _ _) ?_)
  obtain ⟨Kb, hKb⟩ : ∃ K, K = w1.heap.size := ⟨_, rfl⟩
  have hHK : H + 3 < Kb := by have := hO.lt; omega
  refine wp_forget (fun W0 => W0.heap.size = Kb + 1 ∧ Blk W0 (H + 1) (fA 16 s) 46 ∧ Blk W0 (H + 2) (fA 256 boxf) 69 ∧ Blk W0 (H + 3) (fA 16 fun _ => 0#8) 46 ∧ Blk W0 Kb (fA 176 (kw key)) 88 ∧ Below H w W0) ⟨by simp [World.setRow, hKb], (hS.alloc _).setRow_other _ _ (by omega), (hX.alloc _).setRow_other _ _ (by omega), (hO.alloc _).setRow_other _ _ (by omega), by rw [hKb]; exact (Blk.new _ _ _).setRow _, below_setRow (hb.alloc (by omega) _) (by omega) _⟩ ?_
  rw [← hKb]
  clear hS hX hO hb hKb hz1
  rintro w2 ⟨hs, hS, hX, hO, hK, hb⟩
  have HS := Lib.hid hs
  clear hs
  have hkp := kw_part key 0 (by omega)
  rw [Nat.zero_mul] at hkp
  have HKP := Lib.hid hkp
  clear hkp
  go_wp2_with (first | refine wpList_load_blk rfl 46 agg16 _ rfl rfl hS (fA_size _ _) ?_ | refine wpList_load_part rfl 46 agg16 _ rfl rfl hK HKP.out (fL_length _ _) ?_)
  refine (rxor_any s (rk key 0) _).mono ?_
  rintro e w3 ⟨rfl, hb3⟩
  replace hb := hb.trans (hb3.mono (by have := hX.lt; omega))
  replace hX := hX.old hb3
  replace hO := hO.old hb3
  replace hK := hK.old hb3
  clear hS HS hb3
  go_upto_region 3 with (refine wpList_store_blk rfl 46 agg16 (.tmp 8) _ (cells := fA 16 (sx s (rk key 0))) rfl rfl rfl (Blk.new _ _ _) (fA_size _ _) rfl (fA_one _ _) ?_)
  obtain ⟨Bb, hBb⟩ : ∃ K, K = w3.heap.size := ⟨_, rfl⟩
  have hKB : Kb < Bb := by have := hK.lt; omega
  rw [← hBb]
  have hB0 := Blk.new w3 (fA 16 fun _ => 0#8) 46
  rw [← hBb] at hB0
  refine wp_forget (fun W0 => EnIn w H Kb Bb key (encs key s 0) W0) ?_ ?_
  · exact ⟨(hX.alloc _).setRow_other _ _ (by omega), ⟨_, fA_size _ _, (hO.alloc _).setRow_other _ _ (by omega)⟩, (hK.alloc _).setRow_other _ _ (by omega), hB0.setRow _, below_setRow (hb.alloc (by omega) _) (by omega) _⟩
  clear hX hO hb hBb hK hB0
  rintro w4 hI
  go_wp2_with fail
  go_loopg [9] 10 (En1 w H Kb Bb key s)
  case atStart => exact ⟨1, by omega, by omega, rfl, hI⟩
  case round =>
    clear hI
    obtain ⟨r, hf, hr1, rfl, hI⟩ := hrel
    by_cases hr : r < 11
    · have tr : decide ((r : Int) ≤ 10) = true := by simp; omega
      obtain ⟨b, hb⟩ : ∃ b, b = encs key s (r - 1) := ⟨_, rfl⟩
      rw [← hb] at hI
      have HB := Lib.hid hb
      have HF := Lib.hid hf
      clear hb hf
      obtain ⟨T, hT⟩ : ∃ T, T = wr.heap.size := ⟨_, rfl⟩
      have hBT : Bb < T := by have := hI.b.lt; omega
      obtain ⟨g0, rfl⟩ : ∃ g : Nat, g = gk := ⟨_, rfl⟩
      go_wp2_with fail
      refine wp_forget (fun W0 => EnIn w H Kb Bb key b W0 ∧ Blk W0 T (fA 16 fun _ => 0#8) 46) ⟨hI.old ((Below.refl _ _).alloc (Nat.le_refl _) _), by rw [hT]; exact Blk.new _ _ _⟩ ?_
      rw [← hT]
      clear hI hT
      rintro w5 ⟨hI, hT⟩
      go_loopg [11] 16 (En2 w H Kb Bb T key b)
      case atStart => exact ⟨0, by omega, rfl, hI, by simpa using hT⟩
      case round =>
        clear hI hT
        obtain ⟨k, hf, rfl, hI, hT⟩ := hrel
        by_cases hk : k < 16
        · have tk : decide ((k : Int) < 16) = true := by simp; omega
          have HF2 := Lib.hid hf
          clear hf
          have l0 := B8_lo (b (frm k))
          have u0 := B8_lt (b (frm k))
          have n0 := B8_toNat (b (frm k))
          have c0 : wr.cell? ⟨Bb, 4 * ((k / 4 + k) % 4) + k % 4, none⟩ = some (.int .u8 (B8 (b (frm k)))) := by rw [frm_sum]; exact hI.b.atF (too_frm k hk).2.2.1 rfl
          have c1 : wr.cell? ⟨H + 2, (b (frm k)).toNat, none⟩ = some (.int .u8 (B8 (bx (b (frm k))))) := hI.box.atF (b (frm k)).isLt (by rw [boxf, bn_toNat])
          have r3 := hT.rule
          have f3 := hT.free
          have ck3 := fA_at (fun j => if j < k then trn (thr bx b) j else 0#8) hk
          go_wp2_with fail
          clear r3 f3 ck3 c0 c1
          go_roundg (gk - 1)
          case rel =>
            have hf := HF2.out
            refine ⟨k + 1, by omega, by go_num, hI.far (by omega) (by omega) (by omega) _ _, ?_⟩
            rw [← shift_at b k hk]
            exact (hT.setF hk (trn (thr bx b) k)).ofF fun i _ => congrFun (step_fun k (trn (thr bx b)) fun _ => 0#8) i
          case measure => have hf := HF2.out; omega
        · obtain rfl : k = 16 := by omega
          have tk : decide (((16 : Nat) : Int) < 16) = false := by simp
          clear hf
          replace hT := hT.ofF (t := trn (thr bx b)) fun i h => by rw [if_pos h]
          have hrI : (r : Int) < 11 := by omega
          by_cases h10 : r < 10
          · have t10 : decide ((r : Int) < 10) = true := by simp; omega
            go_wp2_with (refine wpList_load_blk rfl 46 agg16 _ rfl rfl hT (fA_size _ _) ?_)
            refine (rmix_any mE (trn (thr bx b)) _).mono ?_
            rintro e w6 ⟨rfl, hb6⟩
            replace hI := hI.old hb6
            replace hT := hT.old hb6
            clear hb6
            go_wp2_with (refine wpList_store_blk rfl 46 agg16 (.tmp 10) _ rfl rfl rfl hT (fA_size _ _) (fA_size _ _) (fA_one _ _) ?_)
            refine wp_forget (fun W0 => EnIn w H Kb Bb key b W0 ∧ Blk W0 T (fA 16 (mx mE (trn (thr bx b)))) 46) ⟨hI.farRow (by omega) (by omega) (by omega) _, hT.setRow _⟩ ?_
            clear hI hT
            rintro w6 ⟨hI, hT⟩
            have hkr : ∀ W, Old w6.drew W → ∀ j (hj : j < (fL 16 (rk key r)).length), W.cell? ⟨Kb, r * 16 + j, none⟩ = some (fL 16 (rk key r))[j] := fun W hW j hj => by
              have hj' : j < 16 := by simpa [fL_length] using hj
              rw [(hI.keys.drew.old hW).atF (show r * 16 + j < 176 by omega) rfl]
              simp [fL, fv, Nat.mul_comm r 16, kw_at key r j hj']
            have HKR := Lib.hid hkr
            clear hkr
            refine wp_region_treeR true Old Old.refl Old.trans (.step 0 (.step 1 (.step 2 (.step 3 (.step 4 (.step 5 .done)))))) (by kernel_rfl) (by kernel_rfl) (fun c a d v w h => by cases d <;> exact h) ?_
            refine tree_quiet (v := .agg (fA 16 (mx mE (trn (thr bx b))))) rfl rfl (by rfl) (fun W hW => exec_load_as 46 agg16 _ rfl rfl rfl (hT.drew.old hW).cells (fL_length _ _)) ?_
            simp only [Act.put, List.setIfInBounds_toArray, List.set]
            repeat (first | (refine tree_skip rfl (by rfl) ?_; simp only [Act.put, List.setIfInBounds_toArray, List.set]) | (refine tree_quiet (v := ?_) rfl rfl (by rfl) ?_ ?_; rotate_left; (intro W hW; go_simp); (try with_reducible rfl); simp only [Act.put, List.setIfInBounds_toArray, List.set]))
            refine tree_quiet (v := .agg (fA 16 (rk key r))) rfl rfl (by rfl) (fun W hW => exec_load_as 46 agg16 _ rfl rfl rfl (HKR.out W hW) (fL_length _ _)) ?_
            simp only [Act.put, List.setIfInBounds_toArray, List.set]
            refine tree_loud rfl rfl (by rfl) (fun K hK => ?_); go_wp2_with fail
            refine (rxor_any _ (rk key r) _).mono ?_
            rintro e w7 ⟨rfl, hb7⟩
            go_wp2_with fail
            refine hK _ _ hb7 ?_
            clear hK K HKR
            have hI7 := hI.drew.old hb7
            refine tree_store rfl rfl (by rfl) (fun K hK => ?_)
            refine wp_store_at 46 agg16 _ _ rfl rfl rfl hI7.b (fA_size _ _) (by rw [fA_size]; omega) (fA_one _ _) ?_
            refine hK _ _ ?_
            clear hK K
            refine tree_done ?_
            rw [splice_all _ _ (by rw [fA_size, fA_size])]
            refine q_forget (fun W0 => EnIn w H Kb Bb key (sx (mx mE (trn (thr bx b))) (rk key r)) W0) (hI7.put (by omega) _) ?_
            clear hI hI7 hb7 hT
            rintro w8 hI
            go_wp2_with fail
            go_roundg (g0 - 1)
            case rel =>
              have hf := HF.out
              refine ⟨r + 1, by omega, by omega, by go_num, ?_⟩
              rw [show r + 1 - 1 = (r - 1) + 1 by omega, encs, rnd, show r - 1 + 1 = r by omega, if_pos h10, ← HB.out]
              exact hI
            case measure => have hf := HF.out; omega
          · have t10 : decide ((r : Int) < 10) = false := by simp; omega
            obtain ⟨w6, rfl⟩ : ∃ w6 : World, w6 = wr := ⟨_, rfl⟩
            go_wp2_with fail
            have hkr : ∀ W, Old w6.drew W → ∀ j (hj : j < (fL 16 (rk key r)).length), W.cell? ⟨Kb, r * 16 + j, none⟩ = some (fL 16 (rk key r))[j] := fun W hW j hj => by
              have hj' : j < 16 := by simpa [fL_length] using hj
              rw [(hI.keys.drew.old hW).atF (show r * 16 + j < 176 by omega) rfl]
              simp [fL, fv, Nat.mul_comm r 16, kw_at key r j hj']
            have HKR := Lib.hid hkr
            clear hkr
            refine wp_region_treeR true Old Old.refl Old.trans (.step 0 (.step 1 (.step 2 (.step 3 (.step 4 (.step 5 .done)))))) (by kernel_rfl) (by kernel_rfl) (fun c a d v w h => by cases d <;> exact h) ?_
            refine tree_quiet (v := .agg (fA 16 (trn (thr bx b)))) rfl rfl (by rfl) (fun W hW => exec_load_as 46 agg16 _ rfl rfl rfl (hT.drew.old hW).cells (fL_length _ _)) ?_
            simp only [Act.put, List.setIfInBounds_toArray, List.set]
            repeat (first | (refine tree_skip rfl (by rfl) ?_; simp only [Act.put, List.setIfInBounds_toArray, List.set]) | (refine tree_quiet (v := ?_) rfl rfl (by rfl) ?_ ?_; rotate_left; (intro W hW; go_simp); (try with_reducible rfl); simp only [Act.put, List.setIfInBounds_toArray, List.set]))
            refine tree_quiet (v := .agg (fA 16 (rk key r))) rfl rfl (by rfl) (fun W hW => exec_load_as 46 agg16 _ rfl rfl rfl (HKR.out W hW) (fL_length _ _)) ?_
            simp only [Act.put, List.setIfInBounds_toArray, List.set]
            refine tree_loud rfl rfl (by rfl) (fun K hK => ?_); go_wp2_with fail
            refine (rxor_any _ (rk key r) _).mono ?_
            rintro e w7 ⟨rfl, hb7⟩
            go_wp2_with fail
            refine hK _ _ hb7 ?_
            clear hK K HKR
            have hI7 := hI.drew.old hb7
            refine tree_store rfl rfl (by rfl) (fun K hK => ?_)
            refine wp_store_at 46 agg16 _ _ rfl rfl rfl hI7.b (fA_size _ _) (by rw [fA_size]; omega) (fA_one _ _) ?_
            refine hK _ _ ?_
            clear hK K
            refine tree_done ?_
            rw [splice_all _ _ (by rw [fA_size, fA_size])]
            refine q_forget (fun W0 => EnIn w H Kb Bb key (sx (trn (thr bx b)) (rk key r)) W0) (hI7.put (by omega) _) ?_
            clear hI hI7 hb7 hT
            rintro w8 hI
            go_wp2_with fail
            go_roundg (g0 - 1)
            case rel =>
              have hf := HF.out
              refine ⟨r + 1, by omega, by omega, by go_num, ?_⟩
              rw [show r + 1 - 1 = (r - 1) + 1 by omega, encs, rnd, show r - 1 + 1 = r by omega, if_neg h10, ← HB.out]
              exact hI
            case measure => have hf := HF.out; omega
    · obtain rfl : r = 11 := by omega
      have tr : decide (((11 : Nat) : Int) ≤ 10) = false := by simp
      clear hf
      obtain ⟨hX, ⟨z, hz, hZ⟩, hK, hB, hb⟩ := hI
      go_wp2_with (first | refine wpList_load_blk rfl 46 agg16 _ rfl rfl hB (fA_size _ _) ?_ | refine wpList_store_blk rfl 46 agg16 (.tmp 6) _ (cells := fA 16 (encs key s (11 - 1))) rfl rfl rfl hZ (fA_size _ _) hz (fA_one _ _) ?_)
      refine post_blk rfl agg16 rfl (hZ.setRow _) (fA_size _ _) rfl ⟨rfl, ?_⟩
      rw [HH.out] at hb ⊢
      exact below_setRow hb (by omega) _
end Go.Proofs.Ytiadhcipfgckoaa
