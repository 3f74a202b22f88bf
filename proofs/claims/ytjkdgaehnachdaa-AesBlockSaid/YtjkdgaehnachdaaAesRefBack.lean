/- The walks through the reference: Block, and Back. -/
import Derived.Test.YtjkdgaehnachdaaAesRefEnc
namespace Go.Proofs.Ytjkdgaehnachdaa
open Go.RowKit
attribute [local go_sem] bits_xor_B8 bits_and_B8 bits_or_B8 ofInt_B8

def unk (k j : Nat) : BitVec 8 := if (un (bn j)).toNat < k then un (bn j) else 0#8
theorem unk_step (k : Nat) (hk : k < 256) : ∀ j, j < 256 → (if j = (bx (bn k)).toNat then bn k else unk k j) = unk (k + 1) j := fun j hj => by
  have hb : (bx (bn k)).toNat < 256 := (bx (bn k)).isLt
  have key1 : j = (bx (bn k)).toNat ↔ un (bn j) = bn k := by
    constructor
    · intro e; rw [e, bn_toNat, un_bx]
    · intro e
      have := congrArg bx e
      rw [bx_un] at this
      have h3 := congrArg BitVec.toNat this
      rw [toNat_bn hj] at h3
      exact h3
  unfold unk
  by_cases e : j = (bx (bn k)).toNat
  · have e2 := key1.1 e
    rw [if_pos e, e2, toNat_bn hk, if_pos (by omega)]
  · rw [if_neg e]
    have e2 : ¬ (un (bn j)).toNat = k := fun q => e (key1.2 (BitVec.eq_of_toNat_eq (by rw [q, toNat_bn hk])))
    by_cases h3 : (un (bn j)).toNat < k
    · rw [if_pos h3, if_pos (by omega)]
    · rw [if_neg h3, if_neg (by omega)]
theorem unk_all (j : Nat) : unk 256 j = un (bn j) := by rw [unk, if_pos (un (bn j)).isLt]
def tun (b : Nat → BitVec 8) (k j : Nat) : BitVec 8 := if too j < k then un (b (too j)) else 0#8
theorem tun_step (b : Nat → BitVec 8) (k : Nat) (hk : k < 16) : ∀ j, j < 16 → (if j = frm k then un (b k) else tun b k j) = tun b (k + 1) j := fun j hj => by
  have h := frm_too j hj k hk
  unfold tun
  by_cases e : j = frm k
  · have e2 := h.1 e
    rw [if_pos e, if_pos (by omega), e2]
  · have e2 : ¬ too j = k := fun q => e (h.2 q)
    rw [if_neg e]
    by_cases e3 : too j < k
    · rw [if_pos e3, if_pos (by omega)]
    · rw [if_neg e3, if_neg (by omega)]
theorem tun_all (b : Nat → BitVec 8) (j : Nat) (h : j < 16) : tun b 16 j = thr un (nrt b) j := by
  rw [tun, if_pos (too_frm j h).2.2.2, thr, tb_at _ h, nrt, tb_at _ h]

structure BkIn (w : World) (H Ub Kb Bb : Nat) (key b : Nat → BitVec 8) (wr : World) : Prop where
  out : ∃ z : Array Value, z.size = 16 ∧ Blk wr (H + 2) z 27
  un : Blk wr Ub (fA 256 fun j => un (bn j)) 44
  keys : Blk wr Kb (fA 176 (kw key)) 53
  b : Blk wr Bb (fA 16 b) 27
  below : Below H w wr
theorem BkIn.drew {w : World} {H Ub Kb Bb : Nat} {key b : Nat → BitVec 8} {wr : World} (h : BkIn w H Ub Kb Bb key b wr) : BkIn w H Ub Kb Bb key b wr.drew := ⟨h.out, h.un, h.keys, h.b, h.below.drew⟩
theorem BkIn.old {w : World} {H Ub Kb Bb : Nat} {key b : Nat → BitVec 8} {wr wq : World} (h : BkIn w H Ub Kb Bb key b wr) (hH : H < Ub) (hb : Below wr.heap.size wr wq) : BkIn w H Ub Kb Bb key b wq :=
  ⟨by obtain ⟨z, hz, hZ⟩ := h.out; exact ⟨z, hz, hZ.old hb⟩, h.un.old hb, h.keys.old hb, h.b.old hb, h.below.trans (hb.mono (by have := h.un.lt; omega))⟩
theorem BkIn.far {w : World} {H Ub Kb Bb : Nat} {key b : Nat → BitVec 8} {wr : World} (h : BkIn w H Ub Kb Bb key b wr) {T : Nat} (h1 : H + 2 < T) (h2 : T ≠ Ub) (h3 : T ≠ Kb) (h4 : T ≠ Bb) (i : Nat) (v : Value) : BkIn w H Ub Kb Bb key b (wr.setCell ⟨T, i, none⟩ v) :=
  ⟨by obtain ⟨z, hz, hZ⟩ := h.out; exact ⟨z, hz, hZ.other _ _ (by show H + 2 ≠ T; omega)⟩, h.un.other _ _ (by show Ub ≠ T; omega), h.keys.other _ _ (by show Kb ≠ T; omega), h.b.other _ _ (by show Bb ≠ T; omega), h.below.setCell (by show H ≤ T; omega) _⟩
theorem BkIn.put {w : World} {H Ub Kb Bb : Nat} {key b : Nat → BitVec 8} {wr : World} (h : BkIn w H Ub Kb Bb key b wr) (h1 : H + 2 < Bb) (b' : Nat → BitVec 8) : BkIn w H Ub Kb Bb key b' (wr.setRow Bb (fA 16 b')) :=
  ⟨by obtain ⟨z, hz, hZ⟩ := h.out; exact ⟨z, hz, hZ.setRow_other _ _ (by omega)⟩, h.un.setRow_other _ _ (Blk.ne h.un h.b (by decide)), h.keys.setRow_other _ _ (Blk.ne h.keys h.b (by decide)), h.b.setRow _, below_setRow h.below (by omega) _⟩
def Bk0 (w : World) (H Xb Ub : Nat) (key s : Nat → BitVec 8) (f : Nat) (i : Value) (wr : World) : Prop :=
  ∃ k : Nat, f + k = 256 ∧ i = .int .i64 (k : Int) ∧ Blk wr H (fA 16 key) 27 ∧ Blk wr (H + 1) (fA 16 s) 27 ∧ Blk wr (H + 2) (fA 16 fun _ => 0#8) 27 ∧ Blk wr Xb (fA 256 boxf) 44 ∧ Blk wr Ub (fA 256 (unk k)) 44 ∧ Below H w wr
def Bk1 (w : World) (H Ub Kb Bb : Nat) (key s : Nat → BitVec 8) (f : Nat) (i : Value) (wr : World) : Prop :=
  ∃ r : Nat, f = r ∧ r ≤ 10 ∧ i = .int .i64 (r : Int) ∧ BkIn w H Ub Kb Bb key (decs key s (10 - r)) wr
def Bk2 (w : World) (H Ub Kb Bb T : Nat) (key b : Nat → BitVec 8) (f : Nat) (i : Value) (wr : World) : Prop :=
  ∃ k : Nat, f + k = 16 ∧ i = .int .i64 (k : Int) ∧ BkIn w H Ub Kb Bb key b wr ∧ Blk wr T (fA 16 (tun b k)) 27

theorem zero256b : (Try.prog.info? 44).bind (·.zero) = some (.agg (fA 256 fun _ => 0#8)) := zero256
set_option maxHeartbeats 1000000 in
set_option maxRecDepth 100000 in
theorem rback_any (key s : Nat → BitVec 8) (w : World) :
    Calls Try.prog 16 #[.agg (fA 16 key), .agg (fA 16 s)] w fun e w' => e = .returned (.agg (fA 16 (dec key s))) ∧ Below w.heap.size w w' := by
  have HZ := Lib.hid (zero_run zero53)
  have HZ2 := Lib.hid (zero_run zero256)
  go_enter Try.func16, Try.ntmps16
  go_upto_region 1 with (fail)
  refine wp_forget (fun W0 => W0.heap.size = w.heap.size + 3 ∧ Blk W0 w.heap.size (fA 16 key) 27 ∧ Blk W0 (w.heap.size + 1) (fA 16 s) 27 ∧ Blk W0 (w.heap.size + 2) (fA 16 fun _ => 0#8) 27 ∧ Below w.heap.size w W0) ⟨by simp, Blk.new3 _ _ _ _ _, Blk.new3' _ _ _ _ _, Blk.new3'' w (fA 16 fun _ => 0#8) _ _ _, by (try unfold Kept); repeat (first | assumption | exact Below.refl _ _ | exact below_undrew (Below.refl _ _) | exact Below.mono (by assumption) (by first | (simp; done) | (simp; omega) | omega) | refine below_setRow ?_ (by first | (simp; done) | (simp; omega) | omega) _ | refine Below.setCell ?_ (by first | (simp; done) | (simp; omega) | omega) _ | refine Below.alloc ?_ (by first | (simp; done) | (simp; omega) | omega) _ | refine below_drewN ?_ _ | refine Below.drew ?_ | refine below_undrew ?_ | refine below_step ?_ (by assumption))⟩ ?_
  rintro w0 ⟨hs, hK, hS, hO, hb⟩
  obtain ⟨H, hH⟩ : ∃ H, H = w.heap.size := ⟨_, rfl⟩
  rw [← hH] at hs hK hS hO hb ⊢
  have HH := Lib.hid hH
  have HS := Lib.hid hs
  clear hH hs
  go_wp2_with fail
  refine (rboxes_any _).mono ?_
  rintro e w1 ⟨rfl, hb1⟩
  replace hb := hb.trans (hb1.mono (by have := hK.lt; omega))
  replace hK := hK.old hb1
  replace hS := hS.old hb1
  replace hO := hO.old hb1
  clear hb1 HS
  have hz1 := HZ2.out
  go_upto_region 3 with (refine wpList_store_blk rfl 44 agg256 (.tmp 5) _ (cells := fA 256 boxf) rfl rfl rfl (Blk.new _ _ _) (fA_size _ _) (fA_size _ _) (fA_one _ _) ?_)
  clear hz1
  obtain ⟨Xb, hXb⟩ : ∃ K, K = w1.heap.size := ⟨_, rfl⟩
  have hHX : H + 2 < Xb := by have := hO.lt; omega
  have hX0 := Blk.new w1 (fA 256 fun _ => 0#8) 44
  have hU0 := Blk.new ((w1.alloc (.cells (fA 256 fun _ => 0#8) 44)).setRow w1.heap.size (fA 256 boxf)) (fA 256 fun _ => 0#8) 44
  rw [show ((w1.alloc (.cells (fA 256 fun _ => 0#8) 44)).setRow w1.heap.size (fA 256 boxf)).heap.size = w1.heap.size + 1 by simp [World.setRow]] at hU0
  rw [← hXb] at hX0 hU0 ⊢
  refine wp_forget (fun W0 => Blk W0 H (fA 16 key) 27 ∧ Blk W0 (H + 1) (fA 16 s) 27 ∧ Blk W0 (H + 2) (fA 16 fun _ => 0#8) 27 ∧ Blk W0 Xb (fA 256 boxf) 44 ∧ Blk W0 (Xb + 1) (fA 256 fun _ => 0#8) 44 ∧ Below H w W0) ⟨((hK.alloc _).setRow_other _ _ (by omega)).alloc _, ((hS.alloc _).setRow_other _ _ (by omega)).alloc _, ((hO.alloc _).setRow_other _ _ (by omega)).alloc _, (hX0.setRow _).alloc _, hU0, (below_setRow (hb.alloc (by omega) _) (by omega) _).alloc (by simp [World.setRow]; omega) _⟩ ?_
  clear hK hS hO hb hX0 hU0 hXb
  rintro w2 ⟨hK, hS, hO, hX, hU, hb⟩
  obtain ⟨Ub, hUb⟩ : ∃ U, U = Xb + 1 := ⟨_, rfl⟩
  rw [← hUb] at hU ⊢
  have hXU : Xb < Ub := by omega
  clear hUb
  go_wp2_with fail
  go_loopg [7] 256 (Bk0 w H Xb Ub key s)
  case atStart => exact ⟨0, by omega, rfl, hK, hS, hO, hX, hU.ofF fun i _ => by simp [unk], hb⟩
  case round =>
    clear hK hS hO hX hU hb
    obtain ⟨k, hf, rfl, hK, hS, hO, hX, hU, hb⟩ := hrel
    by_cases hk : k < 256
    · have tk : decide ((k : Int) < 256) = true := by simp; omega
      have HF := Lib.hid hf
      clear hf
      have hkI : (k : Int) < 256 := by omega
      have l0 := B8_lo (bx (bn k))
      have u0 := B8_lt (bx (bn k))
      have n0 := B8_toNat (bx (bn k))
      have c0 := hX.atF hk (show boxf k = bx (bn k) from rfl)
      have r3 := hU.rule
      have f3 := hU.free
      have ck3 := fA_at (unk k) (show (bx (bn k)).toNat < 256 from (bx (bn k)).isLt)
      have E := Lib.hid (byte_nat k hk)
      go_wp2_with fail
      clear r3 f3 ck3 c0
      go_roundg (gk - 1)
      case rel =>
        have hf := HF.out
        refine ⟨k + 1, by omega, by go_num, hK.other _ _ (by show H ≠ Ub; omega), hS.other _ _ (by show H + 1 ≠ Ub; omega), hO.other _ _ (by show H + 2 ≠ Ub; omega), hX.other _ _ (by show Xb ≠ Ub; omega), ?_, hb.setCell (by show H ≤ Ub; omega) _⟩
        rw [E.out]
        exact (hU.setF (bx (bn k)).isLt (bn k)).ofF (unk_step k hk)
      case measure => have hf := HF.out; omega
    · obtain rfl : k = 256 := by omega
      have tk : decide (((256 : Nat) : Int) < 256) = false := by simp
      clear hf
      replace hU := hU.ofF fun j _ => unk_all j
      go_wp2_with (first | refine wpList_load_blk rfl 27 agg16 _ rfl rfl hK (fA_size _ _) ?_ | refine wpList_load_blk rfl 44 agg256 _ rfl rfl hX (fA_size _ _) ?_)
      refine (rkeys_any key _).mono ?_
      rintro e w3 ⟨rfl, hb3⟩
      replace hb := hb.trans (hb3.mono (by have := hK.lt; omega))
      replace hS := hS.old hb3
      replace hO := hO.old hb3
      replace hU := hU.old hb3
      clear hK hX hb3
      have hz1 := HZ.out
      go_upto_region 8 with (refine wpList_store_blk rfl 53 agg53 (.tmp 8) _ (cells := fA 176 (kw key)) rfl rfl rfl (Blk.new _ _ _) (fA_size _ _) (fA_size _ _) (fA_one _ _) ?_)
      clear hz1
      obtain ⟨Kb, hKb⟩ : ∃ K, K = w3.heap.size := ⟨_, rfl⟩
      have hUK : Ub < Kb := by have := hU.lt; omega
      have hK0 := Blk.new w3 (fA 176 fun _ => 0#8) 53
      rw [← hKb] at hK0 ⊢
      refine wp_forget (fun W0 => Blk W0 (H + 1) (fA 16 s) 27 ∧ Blk W0 (H + 2) (fA 16 fun _ => 0#8) 27 ∧ Blk W0 Ub (fA 256 fun j => un (bn j)) 44 ∧ Blk W0 Kb (fA 176 (kw key)) 53 ∧ Below H w W0) ⟨(hS.alloc _).setRow_other _ _ (by omega), (hO.alloc _).setRow_other _ _ (by omega), (hU.alloc _).setRow_other _ _ (by omega), hK0.setRow _, below_setRow (hb.alloc (by omega) _) (by omega) _⟩ ?_
      clear hS hO hU hb hKb hK0
      rintro w4 ⟨hS, hO, hU, hK, hb⟩
      go_upto_region 9 with (first | refine wpList_load_blk rfl 27 agg16 _ rfl rfl hS (fA_size _ _) ?_ | refine wpList_store_blk rfl 27 agg16 (.tmp 9) _ (cells := fA 16 s) rfl rfl rfl (Blk.new _ _ _) (fA_size _ _) rfl (fA_one _ _) ?_)
      obtain ⟨Bb, hBb⟩ : ∃ K, K = w4.heap.size := ⟨_, rfl⟩
      have hKB : Kb < Bb := by have := hK.lt; omega
      have hB0 := Blk.new w4 (fA 16 fun _ => 0#8) 27
      rw [← hBb] at hB0 ⊢
      refine wp_forget (fun W0 => BkIn w H Ub Kb Bb key (decs key s 0) W0) ?_ ?_
      · exact ⟨⟨_, fA_size _ _, (hO.alloc _).setRow_other _ _ (by omega)⟩, (hU.alloc _).setRow_other _ _ (by omega), (hK.alloc _).setRow_other _ _ (by omega), (hB0.setRow _).ofF fun i hi => by rw [decs, tb_at _ hi], below_setRow (hb.alloc (by omega) _) (by omega) _⟩
      clear hS hO hU hK hb hBb hB0
      rintro w5 hI
      go_wp2_with fail
      go_loopg [10] 10 (Bk1 w H Ub Kb Bb key s)
      case atStart => exact ⟨10, rfl, by omega, rfl, hI⟩
      case round =>
        clear hI
        obtain ⟨r, hf, hr10, rfl, hI⟩ := hrel
        have HF := Lib.hid hf
        clear hf
        obtain ⟨b, hb⟩ : ∃ b, b = decs key s (10 - r) := ⟨_, rfl⟩
        rw [← hb] at hI
        have HB := Lib.hid hb
        clear hb
        by_cases hr : 1 ≤ r
        · have tr : decide ((1 : Int) ≤ (r : Int)) = true := by simp; omega
          have hrI : (r : Int) < 11 := by omega
          have hkr : ∀ W, Old wr.drew W → ∀ j (hj : j < (fL 16 (rk key r)).length), W.cell? ⟨Kb, r * 16 + j, none⟩ = some (fL 16 (rk key r))[j] := fun W hW j hj => by
            have hj' : j < 16 := by simpa [fL_length] using hj
            rw [(hI.keys.drew.old hW).atF (show r * 16 + j < 176 by omega) rfl]
            simp [fL, fv, Nat.mul_comm r 16, kw_at key r j hj']
          have HKR := Lib.hid hkr
          clear hkr
          go_wp2_with fail
          refine wp_region_treeR true Old Old.refl Old.trans (.step 0 (.step 1 (.step 2 (.step 3 (.step 4 (.step 5 .done)))))) (by kernel_rfl) (by kernel_rfl) (fun c a d v w h => by cases d <;> exact h) ?_
          refine tree_quiet (v := .agg (fA 16 b)) rfl rfl (by rfl) (fun W hW => exec_load_as 27 agg16 _ rfl rfl rfl (hI.b.drew.old hW).cells (fL_length _ _)) ?_
          simp only [Act.put, List.setIfInBounds_toArray, List.set]
          repeat (first | (refine tree_skip rfl (by rfl) ?_; simp only [Act.put, List.setIfInBounds_toArray, List.set]) | (refine tree_quiet (v := ?_) rfl rfl (by rfl) ?_ ?_; rotate_left; (intro W hW; go_simp); (try with_reducible rfl); simp only [Act.put, List.setIfInBounds_toArray, List.set]))
          refine tree_quiet (v := .agg (fA 16 (rk key r))) rfl rfl (by rfl) (fun W hW => exec_load_as 27 agg16 _ rfl rfl rfl (HKR.out W hW) (fL_length _ _)) ?_
          simp only [Act.put, List.setIfInBounds_toArray, List.set]
          refine tree_loud rfl rfl (by rfl) (fun K hK => ?_); go_wp2_with fail
          refine (rxor_any b (rk key r) _).mono ?_
          rintro e w7 ⟨rfl, hb7⟩
          go_wp2_with fail
          refine hK _ _ hb7 ?_
          clear hK K HKR
          have hI7 := hI.drew.old (by omega) hb7
          refine tree_store rfl rfl (by rfl) (fun K hK => ?_)
          refine wp_store_at 27 agg16 _ _ rfl rfl rfl hI7.b (fA_size _ _) (by rw [fA_size]; omega) (fA_one _ _) ?_
          refine hK _ _ ?_
          clear hK K
          refine tree_done ?_
          rw [splice_all _ _ (by rw [fA_size, fA_size])]
          refine q_forget (fun W0 => BkIn w H Ub Kb Bb key (sx b (rk key r)) W0) (hI7.put (by omega) _) ?_
          clear hI hI7 hb7
          rintro w8 hI
          by_cases h10 : r < 10
          · have t10 : decide ((r : Int) < 10) = true := by simp; omega
            have hbk := hI.b
            go_wp2_with (refine wpList_load_blk rfl 27 agg16 _ rfl rfl hbk (fA_size _ _) ?_)
            refine (rmix_any mD (sx b (rk key r)) _).mono ?_
            rintro e w6 ⟨rfl, hb6⟩
            replace hI := hI.old (by omega) hb6
            replace hbk := hI.b
            clear hb6
            go_upto_region 15 with (refine wpList_store_blk rfl 27 agg16 (.tmp 9) _ rfl rfl rfl hbk (fA_size _ _) (fA_size _ _) (fA_one _ _) ?_)
            obtain ⟨c, hc⟩ : ∃ c, c = mx mD (sx b (rk key r)) := ⟨_, rfl⟩
            refine wp_forget (fun W0 => BkIn w H Ub Kb Bb key c W0) (by rw [hc]; exact hI.put (by omega) _) ?_
            clear hI hbk
            have HC := Lib.hid hc
            clear hc
            rintro w6 hI
            obtain ⟨T, hT⟩ : ∃ T, T = w6.heap.size := ⟨_, rfl⟩
            have hBT : Bb < T := by have := hI.b.lt; omega
            go_wp2_with fail
            refine wp_forget (fun W0 => BkIn w H Ub Kb Bb key c W0 ∧ Blk W0 T (fA 16 fun _ => 0#8) 27) ⟨hI.old (by omega) ((Below.refl _ _).alloc (Nat.le_refl _) _), by rw [hT]; exact Blk.new _ _ _⟩ ?_
            rw [← hT]
            clear hI hT
            rintro w9 ⟨hI, hT⟩
            go_loopg [12] 16 (Bk2 w H Ub Kb Bb T key c)
            case atStart => exact ⟨0, by omega, rfl, hI, hT.ofF fun i _ => by simp [tun]⟩
            case round =>
              clear hI hT
              obtain ⟨k, hf, rfl, hI, hT⟩ := hrel
              by_cases hk : k < 16
              · have tk : decide ((k : Int) < 16) = true := by simp; omega
                have HF2 := Lib.hid hf
                clear hf
                have hkI : (k : Int) < 16 := by omega
                have l0 := B8_lo (c k)
                have u0 := B8_lt (c k)
                have n0 := B8_toNat (c k)
                have c0 := hI.b.atF hk (show c k = c k from rfl)
                have c1 : wr.cell? ⟨Ub, (c k).toNat, none⟩ = some (.int .u8 (B8 (un (c k)))) := hI.un.atF (c k).isLt (by rw [bn_toNat])
                have r3 := hT.rule
                have f3 := hT.free
                have ck3 := fA_at (tun c k) (show 4 * ((k / 4 + k) % 4) + k % 4 < 16 by omega)
                go_wp2_with fail
                clear r3 f3 ck3 c0 c1
                go_roundg (gk - 1)
                case rel =>
                  have hf := HF2.out
                  refine ⟨k + 1, by omega, by go_num, hI.far (by omega) (by omega) (by omega) (by omega) _ _, ?_⟩
                  rw [frm_sum]
                  exact (hT.setF (too_frm k hk).2.2.1 (un (c k))).ofF (tun_step c k hk)
                case measure => have hf := HF2.out; omega
              · obtain rfl : k = 16 := by omega
                have tk : decide (((16 : Nat) : Int) < 16) = false := by simp
                clear hf
                replace hT := hT.ofF fun j hj => tun_all c j hj
                have hbb := hI.b
                go_wp2_with (first | refine wpList_load_blk rfl 27 agg16 _ rfl rfl hT (fA_size _ _) ?_ | refine wpList_store_blk rfl 27 agg16 (.tmp 9) _ (cells := fA 16 (thr un (nrt c))) rfl rfl rfl hbb (fA_size _ _) (fA_size _ _) (fA_one _ _) ?_)
                go_roundg (r - 1)
                case rel =>
                  refine ⟨r - 1, rfl, by omega, by go_num, ?_⟩
                  rw [show 10 - (r - 1) = (10 - r) + 1 by omega, decs, show 10 - (10 - r) = r by omega, ← HB.out, dnd, if_pos h10, ← HC.out]
                  exact hI.put (by omega) _
                case measure => have := HF.out; omega
          · have t10 : decide ((r : Int) < 10) = false := by simp; omega
            obtain ⟨c, hc⟩ : ∃ c, c = sx b (rk key r) := ⟨_, rfl⟩
            rw [← hc] at hI
            have HC := Lib.hid hc
            clear hc
            obtain ⟨w6, rfl⟩ : ∃ w6 : World, w6 = w8 := ⟨_, rfl⟩
            obtain ⟨T, hT⟩ : ∃ T, T = w6.heap.size := ⟨_, rfl⟩
            have hBT : Bb < T := by have := hI.b.lt; omega
            go_wp2_with fail
            refine wp_forget (fun W0 => BkIn w H Ub Kb Bb key c W0 ∧ Blk W0 T (fA 16 fun _ => 0#8) 27) ⟨hI.old (by omega) ((Below.refl _ _).alloc (Nat.le_refl _) _), by rw [hT]; exact Blk.new _ _ _⟩ ?_
            rw [← hT]
            clear hI hT
            rintro w9 ⟨hI, hT⟩
            go_loopg [12] 16 (Bk2 w H Ub Kb Bb T key c)
            case atStart => exact ⟨0, by omega, rfl, hI, hT.ofF fun i _ => by simp [tun]⟩
            case round =>
              clear hI hT
              obtain ⟨k, hf, rfl, hI, hT⟩ := hrel
              by_cases hk : k < 16
              · have tk : decide ((k : Int) < 16) = true := by simp; omega
                have HF2 := Lib.hid hf
                clear hf
                have hkI : (k : Int) < 16 := by omega
                have l0 := B8_lo (c k)
                have u0 := B8_lt (c k)
                have n0 := B8_toNat (c k)
                have c0 := hI.b.atF hk (show c k = c k from rfl)
                have c1 : wr.cell? ⟨Ub, (c k).toNat, none⟩ = some (.int .u8 (B8 (un (c k)))) := hI.un.atF (c k).isLt (by rw [bn_toNat])
                have r3 := hT.rule
                have f3 := hT.free
                have ck3 := fA_at (tun c k) (show 4 * ((k / 4 + k) % 4) + k % 4 < 16 by omega)
                go_wp2_with fail
                clear r3 f3 ck3 c0 c1
                go_roundg (gk - 1)
                case rel =>
                  have hf := HF2.out
                  refine ⟨k + 1, by omega, by go_num, hI.far (by omega) (by omega) (by omega) (by omega) _ _, ?_⟩
                  rw [frm_sum]
                  exact (hT.setF (too_frm k hk).2.2.1 (un (c k))).ofF (tun_step c k hk)
                case measure => have hf := HF2.out; omega
              · obtain rfl : k = 16 := by omega
                have tk : decide (((16 : Nat) : Int) < 16) = false := by simp
                clear hf
                replace hT := hT.ofF fun j hj => tun_all c j hj
                have hbb := hI.b
                go_wp2_with (first | refine wpList_load_blk rfl 27 agg16 _ rfl rfl hT (fA_size _ _) ?_ | refine wpList_store_blk rfl 27 agg16 (.tmp 9) _ (cells := fA 16 (thr un (nrt c))) rfl rfl rfl hbb (fA_size _ _) (fA_size _ _) (fA_one _ _) ?_)
                go_roundg (r - 1)
                case rel =>
                  refine ⟨r - 1, rfl, by omega, by go_num, ?_⟩
                  rw [show 10 - (r - 1) = (10 - r) + 1 by omega, decs, show 10 - (10 - r) = r by omega, ← HB.out, dnd, if_neg h10, ← HC.out]
                  exact hI.put (by omega) _
                case measure => have := HF.out; omega
        · obtain rfl : r = 0 := by omega
          have tr : decide ((1 : Int) ≤ ((0 : Nat) : Int)) = false := by simp
          have hkp := kw_part key 0 (by omega)
          rw [Nat.zero_mul] at hkp
          have HKP := Lib.hid hkp
          clear hkp
          have hB := hI.b
          have hK := hI.keys
          go_wp2_with (first | refine wpList_load_blk rfl 27 agg16 _ rfl rfl hB (fA_size _ _) ?_ | refine wpList_load_part rfl 27 agg16 _ rfl rfl hK HKP.out (fL_length _ _) ?_)
          refine (rxor_any b (rk key 0) _).mono ?_
          rintro e w6 ⟨rfl, hb6⟩
          replace hI := hI.old (by omega) hb6
          clear hB hK hb6
          obtain ⟨⟨z, hz, hZ⟩, _, _, _, hb⟩ := hI
          go_wp2_with (refine wpList_store_blk rfl 27 agg16 (.tmp 4) _ rfl rfl rfl hZ (fA_size _ _) hz (fA_one _ _) ?_)
          refine post_blk rfl agg16 rfl (hZ.setRow _) (fA_size _ _) rfl ⟨?_, ?_⟩
          · rw [HB.out]; rfl
          rw [HH.out] at hb ⊢
          exact below_setRow hb (by omega) _
end Go.Proofs.Ytjkdgaehnachdaa
