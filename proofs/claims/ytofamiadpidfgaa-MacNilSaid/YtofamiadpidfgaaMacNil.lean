/- No keyed sum does nothing: the walk of the law. -/
import Derived.Test.YtofamiadpidfgaaMacLaws
import Derived.Test.YtofamiadpidfgaaMacEq
namespace Go.Proofs.Ytofamiadpidfgaa
open Go.RowKit

set_option maxHeartbeats 400000 in
set_option maxRecDepth 40000 in
theorem macNil_any (a : Option Addr) (n c : Nat) (w : World) : Calls Try.prog 5 #[.slice a n c] w fun e w' => e = .returned (.bool true) ∧ Below w.heap.size w w' := by
  have heq : ∀ W, (Op.equalIn 10000 30 (.agg (vA 32 fun _ => bv 0)) (.agg #[.int .u8 0, .int .u8 0, .int .u8 0, .int .u8 0, .int .u8 0, .int .u8 0, .int .u8 0, .int .u8 0, .int .u8 0, .int .u8 0, .int .u8 0, .int .u8 0, .int .u8 0, .int .u8 0, .int .u8 0, .int .u8 0, .int .u8 0, .int .u8 0, .int .u8 0, .int .u8 0, .int .u8 0, .int .u8 0, .int .u8 0, .int .u8 0, .int .u8 0, .int .u8 0, .int .u8 0, .int .u8 0, .int .u8 0, .int .u8 0, .int .u8 0, .int .u8 0])).run Try.prog W = .ok true W := eqIn32 fun _ => 0
  go_enter Try.func5, Try.ntmps5
  go_wp2_with fail
  refine (mnil_write a n c _).mono ?_
  rintro e w' ⟨rfl, rfl⟩
  go_wp2_with fail
  refine (mnil_sum _).mono ?_
  rintro e w1 ⟨rfl, hb1⟩
  go_wp2_with fail
  refine (mac_wakes _).mono ?_
  rintro e w2 ⟨rfl, hb2⟩
  go_wp2_with fail
  go_ret
  exact ⟨rfl, below_step hb1 hb2⟩
end Go.Proofs.Ytofamiadpidfgaa
