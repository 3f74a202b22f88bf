/- The document's answers for keyed sums, walked. -/
import Derived.Test.YtlhemmlmhgjodaaMacEq
import Derived.Test.YtlhemmlmhgjodaaMacSum
import Derived.Test.YtlhemmlmhgjodaaShaRefSum
import Derived.Test.YtlhemmlmhgjodaaStrBytes
namespace Go.Proofs.Ytlhemmlmhgjodaa
open Go.RowKit

theorem be64_div (n i : Nat) (p : Int) (hp : p = ((2 ^ (56 - 8 * i) : Nat) : Int)) : (n : Int) / p % 256 = U8 (be64b n i) := by
  have e : U8 (be64b n i) = (((n / 2 ^ (56 - 8 * i)) % 2 ^ 8 : Nat) : Int) := by
    show (((BitVec.ofNat 8 (n / 2 ^ (56 - 8 * i))).toNat : Nat) : Int) = _
    rw [BitVec.toNat_ofNat]
  rw [e, hp]
  generalize 2 ^ (56 - 8 * i) = P
  rw [Int.natCast_emod, Int.natCast_ediv]
  rfl
end Go.Proofs.Ytlhemmlmhgjodaa
