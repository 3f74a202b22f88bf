/- Block and Back of the program: the walks. -/
import Derived.Test.YtiadhcipfgckoaaAesBlock
namespace Go.Proofs.Ytiadhcipfgckoaa
open Go.RowKit
attribute [local go_sem] bits_xor_B8 bits_and_B8 bits_or_B8 ofInt_B8

theorem splice_all (old new : Array Value) (h : old.size = new.size) : splice old 0 new = new := by
  have e : List.drop new.size old.toList = [] := List.drop_eq_nil_of_le (by simp [h])
  simp [splice, e]
end Go.Proofs.Ytiadhcipfgckoaa
