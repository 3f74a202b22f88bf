/- The law: the sum of any bytes. -/
import Derived.Test.YtoingggcgaibpaaShaRefSum
import Derived.Test.YtoingggcgaibpaaShaPieces
namespace Go.Proofs.Ytoingggcgaibpaa
open Go.RowKit

set_option maxHeartbeats 1000000 in
set_option maxRecDepth 40000 in
theorem shaSum_any (a : Option Addr) (len cap : Nat) (l : List UInt8) (w : World) (hm : BytesAt w a l) (hl : l.length = len) (hmax : len ≤ maxLen) :
    Calls Try.prog 3 #[.slice a len cap] w fun e w' => e = .returned (.bool true) ∧ Below w.heap.size w w' := by
  unfold maxLen at hmax
  have HL := Lib.hid hl
  clear hl
  by_cases hbig : 2000 < len
  · have tt : decide (2000 < len) = true := by simpa using hbig
    have tI : decide ((2000 : Int) < (len : Int)) = true := by simp; omega
    go_enter Try.func3, Try.ntmps3
    go_wp2_with fail
    refine (sha_wakes _).mono ?_
    rintro e w1 ⟨rfl, hb1⟩
    go_wp2_with fail
    go_ret
    exact ⟨rfl, hb1⟩
  · have tt : decide (2000 < len) = false := by simpa using hbig
    have tI : decide ((2000 : Int) < (len : Int)) = false := by simp; omega
    have heq : ∀ W, (Op.equalIn 10000 24 (.agg (dgA l)) (.agg (dgA l))).run Try.prog W = .ok true W := eqIn32 (dgb l)
    go_enter Try.func3, Try.ntmps3
    go_wp2_with fail
    refine (sum_any l a len cap _ hm HL.out (by omega)).mono ?_
    rintro e w1 ⟨rfl, hb1⟩
    go_wp2_with fail
    refine (rsum_any l a cap len _ (hm.below hb1) HL.out (by omega)).mono ?_
    rintro e w2 ⟨rfl, hb2⟩
    go_wp2_with fail
    refine (sha_wakes _).mono ?_
    rintro e w3 ⟨rfl, hb3⟩
    go_wp2_with fail
    go_ret
    exact ⟨rfl, below_step hb1 (below_step hb2 hb3)⟩
end Go.Proofs.Ytoingggcgaibpaa
