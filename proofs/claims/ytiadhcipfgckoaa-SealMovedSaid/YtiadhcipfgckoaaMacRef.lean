/- The document's answers for keyed sums, walked. -/
import Derived.Test.YtiadhcipfgckoaaMacEq
import Derived.Test.YtiadhcipfgckoaaMacSum
import Derived.Test.YtiadhcipfgckoaaShaRefSum
import Derived.Test.YtiadhcipfgckoaaStrs
namespace Go.Proofs.Ytiadhcipfgckoaa
open Go.RowKit

theorem be64_div (n i : Nat) (p : Int) (hp : p = ((2 ^ (56 - 8 * i) : Nat) : Int)) : (n : Int) / p % 256 = U8 (be64b n i) := by
  have e : U8 (be64b n i) = (((n / 2 ^ (56 - 8 * i)) % 2 ^ 8 : Nat) : Int) := by
    show (((BitVec.ofNat 8 (n / 2 ^ (56 - 8 * i))).toNat : Nat) : Int) = _
    rw [BitVec.toNat_ofNat]
  rw [e, hp]
  generalize 2 ^ (56 - 8 * i) = P
  rw [Int.natCast_emod, Int.natCast_ediv]
  rfl
/-! ### A number as eight bytes -/
def Ei1 (w : World) (n : Nat) (f : Nat) (v i : Value) (wr : World) : Prop :=
  ∃ (t : Nat) (a : Option Addr) (c : Nat), f + t = 8 ∧ i = .int .i64 (t : Int) ∧ v = .slice a t c ∧ Own wr w.heap.size 5 1 a t c (((be64 n).take t).map bv) ∧ Below w.heap.size w wr
theorem be64_snoc (n t : Nat) (h : t < 8) : (be64 n).take (t + 1) = (be64 n).take t ++ [be64b n t] := by
  rw [List.take_succ_eq_append_getElem (by rw [be64_length]; exact h)]
  simp [be64]
set_option maxHeartbeats 1000000 in
set_option maxRecDepth 40000 in
theorem reight_any (n : Nat) (hn : n < 18446744073709551616) (w : World) : Calls Try.prog 19 #[.int .u64 (n : Int)] w fun e w' => ∃ a c, e = .returned (.slice a 8 c) ∧ Own w' w.heap.size 5 1 a 8 c ((be64 n).map bv) ∧ Below w.heap.size w w' := by
  have hnI : (n : Int) ≤ 18446744073709551615 := by omega
  have hn0 : (0 : Int) ≤ (n : Int) := by omega
  go_enter Try.func19, Try.ntmps19
  go_wp2_with fail
  go_loopg [3, 4] 8 (Ei1 w n)
  case atStart => exact ⟨0, none, 0, by omega, rfl, rfl, Own.nil _ _ _ _, Below.refl _ _⟩
  case round =>
    obtain ⟨t, a, c, hf, rfl, rfl, ho, hb⟩ := hrel
    have HF := Lib.hid hf
    have hs := hb.size
    clear hf
    by_cases ht : t < 8
    · have HQ := Lib.hid (be64_snoc n t ht)
      have hE := fun p => be64_div n t p
      have HE := Lib.hid hE
      clear hE
      have h8 : t = 0 ∨ t = 1 ∨ t = 2 ∨ t = 3 ∨ t = 4 ∨ t = 5 ∨ t = 6 ∨ t = 7 := by omega
      rcases h8 with rfl | rfl | rfl | rfl | rfl | rfl | rfl | rfl
      all_goals
        go_wp2_with (at_builtin; refine wpList_append_row rfl (.tmp 9) (.tmp 16) 22 rfl bytesT3 rfl (ho.alloc _) rfl (RowAt.new' _ _ _ _ (by simp)) (by rfl) (by exact all_one _ rfl) (by unfold maxLen; omega) (by omega) (by simp; omega) ?_)
        intro a4 c4 w4 own4 hg4
        have hb4 := (ho.alloc (.cells #[_] 5)).grown (hb.alloc hs _) (Nat.le_refl _) hg4 (by simp; omega)
        clear hg4
        go_wp2_with fail
        go_roundg (gk - 1)
        case rel =>
          have hf := HF.out
          refine ⟨_, a4, c4, by omega, by go_num, rfl, ?_, hb4⟩
          rw [HQ.out, List.map_append]
          first
            | (have E := HE.out _ rfl; simp only [List.map_cons, List.map_nil, bv]; rw [← E]; exact own4)
            | (have E := HE.out 72057594037927936 rfl; have E2 : (n : Int) / 72057594037927936 = U8 (be64b n 0) := by { rw [← E]; omega }; simpa [bv, E2] using own4)
            | (have E := HE.out 1 rfl; have E2 : (n : Int) % 256 = U8 (be64b n 7) := by { rw [← E]; omega }; simpa [bv, E2] using own4)
        case measure => have hf := HF.out; omega
    · obtain rfl : t = 8 := by have := HF.out; omega
      go_wp2_with fail
      go_ret
      exact ⟨a, c, rfl, by rw [List.take_of_length_le (by rw [be64_length]; omega)] at ho; exact ho, hb⟩
end Go.Proofs.Ytiadhcipfgckoaa
