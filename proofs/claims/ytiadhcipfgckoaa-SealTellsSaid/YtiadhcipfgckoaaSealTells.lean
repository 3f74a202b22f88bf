/- Bytes as a record, and a record opened: the walk of the law. -/
import Derived.Test.YtiadhcipfgckoaaSealRBox
namespace Go.Proofs.Ytiadhcipfgckoaa
open Go.RowKit

set_option maxHeartbeats 3000000 in
set_option maxRecDepth 100000 in
theorem sealTells_any (ma : Option Addr) (mn mc : Nat) (m : List UInt8) (g n : Nat) (ba : Option Addr) (bn bc : Nat) (b : List UInt8) (ra : Option Addr) (rn rc : Nat) (r : List UInt8) (z : Int) (w : World) (hm : BytesAt w ma m) (hml : m.length = mn) (hb : BytesAt w ba b) (hbl : b.length = bn) (hr : BytesAt w ra r) (hrl : r.length = rn)
    (hmz : mn ≤ 140737488351232) (hbz : bn ≤ 140737488351232) (hrz : rn ≤ 140737488351232) (hrc : rn ≤ rc) (hg : g < 18446744073709551616) (hn : n < 18446744073709551616) (hz1 : -9223372036854775808 ≤ z) (hz2 : z ≤ 9223372036854775807) :
    Calls Try.prog 3 #[.slice ma mn mc, .int .u64 (g : Int), .int .u64 (n : Int), .slice ba bn bc, .slice ra rn rc, .int .i64 z] w fun e w' => e = .returned (.bool true) ∧ Below w.heap.size w w' := by
  have HM := Lib.hid hml
  have HL := Lib.hid hbl
  have HR := Lib.hid hrl
  have hm0 := Lib.hid hm
  have hb0 := Lib.hid hb
  have hr0 := Lib.hid hr
  clear hml hbl hrl hm hb hr
  have hlens : LensAt (w.alloc (.cells #[.slice ma mn mc, .slice ba bn bc, .slice ra rn rc] 22)) (some ⟨w.heap.size, 0, none⟩) [mn, bn, rn] := fun j hj => by
    have hr := RowAt.new w #[.slice ma mn mc, .slice ba bn bc, .slice ra rn rc] 22
    have hj2 : j = 0 ∨ j = 1 ∨ j = 2 := by simp at hj; omega
    rcases hj2 with rfl | rfl | rfl
    · obtain ⟨b, o, e, hc⟩ := hr 0 (by simp)
      exact ⟨b, o, ma, mc, e, hc⟩
    · obtain ⟨b, o, e, hc⟩ := hr 1 (by simp)
      exact ⟨b, o, ba, bc, e, hc⟩
    · obtain ⟨b, o, e, hc⟩ := hr 2 (by simp)
      exact ⟨b, o, ra, rc, e, hc⟩
  have HLN := Lib.hid hlens
  clear hlens
  go_enter Try.func3, Try.ntmps3
  go_wp2_with fail
  refine (long_any [mn, bn, rn] _ 3 3 _ HLN.out rfl (by omega) (by intro q hq; simp at hq; omega)).mono ?_
  rintro e w1 ⟨rfl, rfl⟩
  clear HLN
  refine g_forget (fun W0 => Below w.heap.size w W0) ((Below.refl _ _).alloc (Nat.le_refl _) _) ?_
  intro w1 hw1
  by_cases hlong : 2000 < mn + bn + rn
  · have hs : decide (2000 < [mn, bn, rn].sum) = true := by rw [show [mn, bn, rn].sum = mn + bn + rn by simp; omega]; exact decide_eq_true hlong
    rw [hs]
    clear hs
    go_wp2_with fail
    refine (seal_wakes _).mono ?_
    rintro e w3 ⟨rfl, hb3⟩
    go_wp2_with fail
    go_ret
    exact ⟨rfl, below_step hw1 hb3⟩
  · have hs : decide (2000 < [mn, bn, rn].sum) = false := by rw [show [mn, bn, rn].sum = mn + bn + rn by simp; omega]; exact decide_eq_false hlong
    rw [hs]
    clear hs
    go_wp2_with fail
    refine (snew_any ma mn mc m g _ (hm0.out.below hw1) HM.out (by omega) hg).mono ?_
    rintro e w2 ⟨B1, rfl, -, hB1, hb2⟩
    have hw2 := below_step hw1 hb2
    clear hw1 hb2
    go_wp2_with fail
    refine (rnew_any ma mn mc m g _ (hm0.out.below hw2) HM.out (by omega) hg).mono ?_
    rintro e w3 ⟨B2, ta, tc, rfl, -, hB2, hb3⟩
    have hw3 := below_step hw2 hb3
    have hB13 := hB1.old hb3
    clear hw2 hb3 hB1
    go_wp2_with fail
    refine (game_any B1 m g _ hB13).mono ?_
    rintro e w' ⟨rfl, rfl⟩
    go_wp2_with fail
    refine (seal_any B1 m g n ba bn bc b _ hB13 (hb0.out.below hw3) HL.out (by omega) hg hn).mono ?_
    rintro e w4 ⟨a4, c4, rfl, ho4, hb4⟩
    rw [HL.out] at ho4 ⊢
    have hw4 := below_step hw3 hb4
    have hB14 := hB13.old hb4
    have hB24 := hB2.old hb4
    clear hB13 hB2 hw3 hb4
    go_wp2_with fail
    refine (rseal_any B2 m g n ta tc ba bn bc b _ hB24 (hb0.out.below hw4) HL.out (by omega) hg hn).mono ?_
    rintro e w5 ⟨a5, c5, rfl, ho5, hb5⟩
    rw [HL.out] at ho5 ⊢
    have hw5 := below_step hw4 hb5
    have ho45 := ho4.old hb5
    have hB15 := hB14.old hb5
    have hB25 := hB24.old hb5
    clear hB14 hB24 hw4 hb5 ho4
    go_wp2_with fail
    refine (open_any B1 m g n ra rn rc r _ hB15 (hr0.out.below hw5) HR.out hrc hg hn (by omega)).mono ?_
    rintro e w6 ⟨a6, k6, c6, l6, er6, rfl, hl6, hk6, hr6, hb6⟩
    have hw6 := below_step hw5 hb6
    have ho46 := ho45.old hb6
    have ho56 := ho5.old hb6
    have hB26 := hB25.old hb6
    clear hB15 hB25 hw5 hb6 ho45 ho5
    go_wp2_with fail
    refine (ropen_any B2 m g n ta tc ra rn rc r _ hB26 (hr0.out.below hw6) HR.out hrc hg hn (by omega)).mono ?_
    rintro e w7 ⟨a7, k7, c7, l7, er7, rfl, hl7, hk7, hr7, hb7⟩
    rw [hl6] at hl7
    obtain ⟨rfl, rfl⟩ := Prod.mk.inj hl7
    obtain rfl : k6 = k7 := by rw [← hk6, ← hk7]
    have hw7 := below_step hw6 hb7
    have hrl : (sealL m g n b).length = bn + 32 := by rw [sealL_length, HL.out]
    have s1 := run_string_of (P := Try.prog) w7 (src := 22) (dst := 9) (e := 5) (c := c4) Try.underlying22 Try.underlying5 Try.underlying9 (ho46.old hb7).row hrl
    have s2 := run_string_of (P := Try.prog) w7 (src := 22) (dst := 9) (e := 5) (c := c5) Try.underlying22 Try.underlying5 Try.underlying9 (ho56.old hb7).row hrl
    have s3 := run_string_of (P := Try.prog) w7 (src := 22) (dst := 9) (e := 5) (c := c6) Try.underlying22 Try.underlying5 Try.underlying9 (hr6.below hb7) hk6
    have s4 := run_string_of (P := Try.prog) w7 (src := 22) (dst := 9) (e := 5) (c := c7) Try.underlying22 Try.underlying5 Try.underlying9 hr7 hk6
    clear hl6 hl7 hk6 hk7 hr6 hr7 hw6 hb7 ho46 ho56 hB26 hrl
    obtain ⟨RS, hRS⟩ : ∃ RS, RS = strOf (sealL m g n b) := ⟨_, rfl⟩
    obtain ⟨LS, hLS⟩ : ∃ LS, LS = strOf l6 := ⟨_, rfl⟩
    rw [← hRS] at s1 s2
    rw [← hLS] at s3 s4
    clear hRS hLS
    go_wp2_with fail
    refine (size_any z hz1 hz2 _).mono ?_
    rintro e w' ⟨rfl, rfl⟩
    go_wp2_with fail
    refine (rsize_any z hz1 hz2 _).mono ?_
    rintro e w' ⟨rfl, rfl⟩
    go_wp2_with fail
    refine (size_any (bn : Int) (by omega) (by omega) _).mono ?_
    rintro e w' ⟨rfl, rfl⟩
    have hsz : sizeI (bn : Int) = (bn : Int) + 32 := by rw [sizeI, if_neg (by omega)]
    rw [hsz]
    clear hsz s1 s2 s3 s4
    go_wp2_with fail
    refine (seal_wakes _).mono ?_
    rintro e w9 ⟨rfl, hb9⟩
    go_wp2_with fail
    go_ret
    exact ⟨rfl, below_step hw7 hb9⟩
end Go.Proofs.Ytiadhcipfgckoaa
