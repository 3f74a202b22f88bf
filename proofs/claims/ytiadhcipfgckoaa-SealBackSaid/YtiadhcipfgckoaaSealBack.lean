/- What is sealed is opened as it was: the walk of the law. -/
import Derived.Test.YtiadhcipfgckoaaSealLens
namespace Go.Proofs.Ytiadhcipfgckoaa
open Go.RowKit

theorem rem32 (z : Int) : ∃ r : Nat, (z.tmod 32 + 32).tmod 32 = (r : Int) ∧ r < 32 ∧ 0 < z.tmod 32 + 32 ∧ z.tmod 32 + 32 < 64 := by
  have h1 := Int.lt_tmod_of_pos z (show (0 : Int) < 32 by omega)
  have h2 := Int.tmod_lt_of_pos z (show (0 : Int) < 32 by omega)
  refine ⟨((z.tmod 32 + 32) % 32).toNat, ?_, by omega, by omega, by omega⟩
  rw [Int.tmod_eq_emod_of_nonneg (by omega)]
  omega
theorem openL_changed (m : List UInt8) (g n : Nat) (b : List UInt8) (q : Nat) (y : UInt8) (hq : q < 32) (hy : y ≠ (sealL m g n b).getD (b.length + q) 0) : openL m g n ((sealL m g n b).set (b.length + q) y) = ([], 60) := by
  have hl : (sealL m g n b).length = b.length + 32 := sealL_length m g n b
  have e1 : ((sealL m g n b).set (b.length + q) y).length - 32 = b.length := by rw [List.length_set, hl]; omega
  have e2 : ((sealL m g n b).set (b.length + q) y).take b.length = stm (ckB m g) (nonB g n) b := by
    rw [List.take_set_of_le (by omega)]
    have : b.length = (stm (ckB m g) (nonB g n) b).length := (stm_length _ _ _).symm
    rw [sealL]
    conv => lhs; rw [this]
    rw [List.take_left]
  have e3 : (sealL m g n b).drop b.length = dgl (markL m g n (stm (ckB m g) (nonB g n) b)) := by
    have : b.length = (stm (ckB m g) (nonB g n) b).length := (stm_length _ _ _).symm
    rw [sealL]
    conv => lhs; rw [this]
    rw [List.drop_left]
  unfold openL
  rw [e1, e2, if_neg]
  rintro ⟨_, _, h⟩
  rw [← e3] at h
  have h0 := congrArg (fun l => l.getD q 0) h
  simp only [List.getD_eq_getElem?_getD, List.getElem?_drop] at h0 hy
  rw [List.getElem?_set_self (by rw [hl]; omega)] at h0
  exact hy (by simpa using h0)
theorem or1_ne (y : UInt8) : y ||| 1 ≠ 0 := fun e => by
  have h := congrArg (fun u : UInt8 => u.toBitVec.getLsbD 0) e
  simp at h
theorem xor_ne (x t : UInt8) (h : t ≠ 0) : x ^^^ t ≠ x := fun e => h (by
  have h2 := congrArg (fun u => x ^^^ u) e
  simp only [← UInt8.xor_assoc, UInt8.xor_self, UInt8.zero_xor] at h2
  exact h2)
attribute [local go_sem] bits_xor_u8 bits_or_u8 ofInt_U8
set_option maxHeartbeats 3000000 in
set_option maxRecDepth 100000 in
theorem sealBack_any (ma : Option Addr) (mn mc : Nat) (m : List UInt8) (g n : Nat) (ba : Option Addr) (bn bc : Nat) (b : List UInt8) (z : Int) (y : UInt8) (w : World) (hm : BytesAt w ma m) (hml : m.length = mn) (hb : BytesAt w ba b) (hbl : b.length = bn)
    (hmz : mn ≤ 140737488351232) (hbz : bn ≤ 140737488351232) (hg : g < 18446744073709551616) (hn : n < 18446744073709551616) :
    Calls Try.prog 5 #[.slice ma mn mc, .int .u64 (g : Int), .int .u64 (n : Int), .slice ba bn bc, .int .i64 z, .int .u8 (U8 y)] w fun e w' => e = .returned (.bool true) ∧ Below w.heap.size w w' := by
  have HM := Lib.hid hml
  have HL := Lib.hid hbl
  have hm0 := Lib.hid hm
  have hb0 := Lib.hid hb
  clear hml hbl hm hb
  have hlens : LensAt (w.alloc (.cells #[.slice ma mn mc, .slice ba bn bc] 22)) (some ⟨w.heap.size, 0, none⟩) [mn, bn] := fun j hj => by
    have hr := RowAt.new w #[.slice ma mn mc, .slice ba bn bc] 22
    have hj2 : j = 0 ∨ j = 1 := by simp at hj; omega
    rcases hj2 with rfl | rfl
    · obtain ⟨b, o, e, hc⟩ := hr 0 (by simp)
      exact ⟨b, o, ma, mc, e, hc⟩
    · obtain ⟨b, o, e, hc⟩ := hr 1 (by simp)
      exact ⟨b, o, ba, bc, e, hc⟩
  have HLN := Lib.hid hlens
  clear hlens
  go_enter Try.func5, Try.ntmps5
  go_wp2_with fail
  refine (long_any [mn, bn] _ 2 2 _ HLN.out rfl (by omega) (by intro q hq; simp at hq; omega)).mono ?_
  rintro e w1 ⟨rfl, rfl⟩
  clear HLN
  refine g_forget (fun W0 => Below w.heap.size w W0) ((Below.refl _ _).alloc (Nat.le_refl _) _) ?_
  intro w1 hw1
  by_cases hlong : 2000 < mn + bn
  · have hs : decide (2000 < [mn, bn].sum) = true := by rw [show [mn, bn].sum = mn + bn by simp]; exact decide_eq_true hlong
    rw [hs]
    clear hs
    go_wp2_with fail
    refine (seal_wakes _).mono ?_
    rintro e w3 ⟨rfl, hb3⟩
    go_wp2_with fail
    go_ret
    exact ⟨rfl, below_step hw1 hb3⟩
  · have hs : decide (2000 < [mn, bn].sum) = false := by rw [show [mn, bn].sum = mn + bn by simp]; exact decide_eq_false hlong
    rw [hs]
    clear hs
    go_wp2_with fail
    refine (snew_any ma mn mc m g _ (hm0.out.below hw1) HM.out (by omega) hg).mono ?_
    rintro e w2 ⟨B1, rfl, -, hB1, hb2⟩
    have hw2 := below_step hw1 hb2
    clear hw1 hb2
    go_wp2_with fail
    refine (seal_any B1 m g n ba bn bc b _ hB1 (hb0.out.below hw2) HL.out (by omega) hg hn).mono ?_
    rintro e w3 ⟨a3, c3, rfl, ho3, hb3⟩
    have hw3 := below_step hw2 hb3
    have ho3' := ho3.lower hw2.size
    rw [HL.out] at ho3' ⊢
    obtain ⟨R, hR⟩ : ∃ R, R = sealL m g n b := ⟨_, rfl⟩
    rw [← hR] at ho3'
    have hRl : R.length = bn + 32 := by rw [hR, sealL_length, HL.out]
    have HR := Lib.hid hR
    have HRL := Lib.hid hRl
    clear hB1 hw2 hb3 ho3 hR hRl
    go_wp2_with fail
    refine (snew_any ma mn mc m g _ (hm0.out.below hw3) HM.out (by omega) hg).mono ?_
    rintro e w4 ⟨B2, rfl, -, hB2, hb4⟩
    have hw4 := below_step hw3 hb4
    have ho4 := ho3'.old hb4
    clear hw3 hb4 ho3'
    go_wp2_with fail
    refine (open_any B2 m g n a3 (bn + 32) c3 R _ hB2 ho4.row HRL.out ho4.le hg hn (by omega)).mono ?_
    rintro e w5 ⟨a5, k5, c5, l5, er5, rfl, hl5, hk5, hr5, hb5⟩
    rw [HR.out, openL_seal m g n b (by rw [HL.out]; omega)] at hl5
    obtain ⟨rfl, rfl⟩ := Prod.mk.inj hl5
    obtain rfl : k5 = bn := by rw [← hk5, HL.out]
    have hw5 := below_step hw4 hb5
    have ho5 := ho4.old hb5
    have s1 := run_string_of (P := Try.prog) w5 (src := 22) (dst := 9) (e := 5) (c := c5) Try.underlying22 Try.underlying5 Try.underlying9 hr5 hk5
    have s2 := run_string_of (P := Try.prog) w5 (src := 22) (dst := 9) (e := 5) (c := bc) Try.underlying22 Try.underlying5 Try.underlying9 (hb0.out.below hw5) hk5
    clear hl5 hk5 hr5 hw4 hb5 ho4 hB2
    obtain ⟨q, hq, hq1, hq2, hq3⟩ := rem32 z
    go_upto_region 8 with fail
    have HQ := Lib.hid hq
    clear hq hq2 hq3 s1 s2
    obtain ⟨G, cur, rfl, hGB, -, -, -⟩ := ho5.blk (by omega)
    obtain ⟨x, hx⟩ : ∃ x, x = R.getD (k5 + q) 0 := ⟨_, rfl⟩
    have c0 : w5.cell? ⟨G, k5 + q, none⟩ = some (.int .u8 (U8 x)) := by
      rw [ho5.cell (k5 + q) (by rw [List.length_map, HRL.out]; omega), hx]
      simp [bv, HRL.out, show k5 + q < k5 + 32 by omega]
    have f0 := ho5.free (by omega)
    have hO6 := ho5.set (k5 + q) (by omega) (.int .u8 (U8 (x ^^^ (y ||| 1))))
    have hw6 : Below w.heap.size w (w5.setCell ⟨G, k5 + q, none⟩ (.int .u8 (U8 (x ^^^ (y ||| 1))))) := hw5.setCell (by show w.heap.size ≤ G; omega) _
    have HX := Lib.hid hx
    clear hx
    have hq8 : (q : Int) < 32 := by omega
    go_upto_region 9 with fail
    have hlt5 : Below w.heap.size w (w5.setCell ⟨G, k5 + q, none⟩ (.int .u8 (U8 (x ^^^ (y ||| 1))))) := hw6
    refine wp_forget (fun W0 => Own W0 w.heap.size 5 1 (some ⟨G, 0, none⟩) (k5 + 32) c3 ((R.set (k5 + q) (x ^^^ (y ||| 1))).map bv) ∧ Below w.heap.size w W0) ⟨by rw [List.map_set]; exact hO6, hw6⟩ ?_
    clear hO6 hw6 hlt5 c0 f0 ho5 hw5
    rintro w6 ⟨ho, hw⟩
    have hop : openL m g n (R.set (k5 + q) (x ^^^ (y ||| 1))) = ([], 60) := by
      have e := openL_changed m g n b q (x ^^^ (y ||| 1)) hq1 (by rw [HL.out, ← HR.out, ← HX.out]; exact xor_ne x _ (or1_ne y))
      rw [HL.out, ← HR.out] at e
      exact e
    have HOP := Lib.hid hop
    have hRn : (R.set (k5 + q) (x ^^^ (y ||| 1))).length = k5 + 32 := by rw [List.length_set, HRL.out]
    obtain ⟨R2, hR2⟩ : ∃ R2, R2 = R.set (k5 + q) (x ^^^ (y ||| 1)) := ⟨_, rfl⟩
    rw [← hR2] at ho HOP hRn
    have HRN := Lib.hid hRn
    clear hop hRn hR2
    go_wp2_with fail
    refine (snew_any ma mn mc m g _ (hm0.out.below hw) HM.out (by omega) hg).mono ?_
    rintro e w7 ⟨B3, rfl, -, hB3, hb7⟩
    have hw7 := below_step hw hb7
    have ho7 := ho.old hb7
    clear hw hb7 ho
    go_wp2_with fail
    refine (open_any B3 m g n _ (k5 + 32) c3 R2 _ hB3 ho7.row HRN.out ho7.le hg hn (by omega)).mono ?_
    rintro e w8 ⟨a8, k8, c8, l8, er8, rfl, hl8, hk8, hr8, hb8⟩
    rw [HOP.out] at hl8
    obtain ⟨rfl, rfl⟩ := Prod.mk.inj hl8
    have hw8 := below_step hw7 hb8
    clear hl8 hk8 hr8 hw7 hb8 ho7 hB3
    go_wp2_with fail
    refine (seal_wakes _).mono ?_
    rintro e w9 ⟨rfl, hb9⟩
    go_wp2_with fail
    go_ret
    exact ⟨rfl, below_step hw8 hb9⟩
end Go.Proofs.Ytiadhcipfgckoaa
