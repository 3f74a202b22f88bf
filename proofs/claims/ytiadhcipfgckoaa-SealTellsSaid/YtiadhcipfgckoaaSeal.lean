/- Sealed records: sizes, a number's bytes behind others. -/
import Derived.Test.YtiadhcipfgckoaaSealPlain
namespace Go.Proofs.Ytiadhcipfgckoaa
open Go.RowKit

theorem size_any (x : Int) (h1 : -9223372036854775808 ≤ x) (h2 : x ≤ 9223372036854775807) (w : World) : Calls Try.prog 16 #[.int .i64 x] w fun e w' => e = .returned (.int .i64 (sizeI x)) ∧ w = w' := by
  obtain ⟨S, hS⟩ : ∃ S, S = sizeI x := ⟨_, rfl⟩
  rw [← hS]
  have HS := Lib.hid hS
  clear hS
  by_cases a : x < 0
  · have t1 : decide (x < 0) = true := decide_eq_true a
    have e : S = 0 := by rw [HS.out, sizeI, if_pos (.inl a)]
    have HE := Lib.hid e
    clear e
    go_enter Try.func16, Try.ntmps16
    go_wp2_with fail
    go_ret
    exact ⟨by rw [HE.out]; rfl, rfl⟩
  · have t1 : decide (x < 0) = false := decide_eq_false a
    by_cases b : 65504 < x
    · have t2 : decide (65504 < x) = true := decide_eq_true b
      have e : S = 0 := by rw [HS.out, sizeI, if_pos (.inr b)]
      have HE := Lib.hid e
      clear e
      go_enter Try.func16, Try.ntmps16
      go_wp2_with fail
      go_ret
      exact ⟨by rw [HE.out]; rfl, rfl⟩
    · have t2 : decide (65504 < x) = false := decide_eq_false b
      have e : S = x + 32 := by rw [HS.out, sizeI, if_neg (by omega)]
      have HE := Lib.hid e
      clear e
      have x0 : 0 ≤ x := by omega
      have x1 : x ≤ 65504 := by omega
      go_enter Try.func16, Try.ntmps16
      go_wp2_with fail
      go_ret
      exact ⟨by rw [HE.out]; rfl, rfl⟩
theorem rsize_any (x : Int) (h1 : -9223372036854775808 ≤ x) (h2 : x ≤ 9223372036854775807) (w : World) : Calls Try.prog 17 #[.int .i64 x] w fun e w' => e = .returned (.int .i64 (sizeI x)) ∧ w = w' := by
  obtain ⟨S, hS⟩ : ∃ S, S = sizeI x := ⟨_, rfl⟩
  rw [← hS]
  have HS := Lib.hid hS
  clear hS
  by_cases a : x < 0
  · have t1 : decide (x < 0) = true := decide_eq_true a
    have e : S = 0 := by rw [HS.out, sizeI, if_pos (.inl a)]
    have HE := Lib.hid e
    clear e
    go_enter Try.func17, Try.ntmps17
    go_wp2_with fail
    go_ret
    exact ⟨by rw [HE.out]; rfl, rfl⟩
  · have t1 : decide (x < 0) = false := decide_eq_false a
    by_cases b : 65504 < x
    · have t2 : decide (65504 < x) = true := decide_eq_true b
      have e : S = 0 := by rw [HS.out, sizeI, if_pos (.inr b)]
      have HE := Lib.hid e
      clear e
      go_enter Try.func17, Try.ntmps17
      go_wp2_with fail
      go_ret
      exact ⟨by rw [HE.out]; rfl, rfl⟩
    · have t2 : decide (65504 < x) = false := decide_eq_false b
      have e : S = x + 32 := by rw [HS.out, sizeI, if_neg (by omega)]
      have HE := Lib.hid e
      clear e
      have x0 : 0 ≤ x := by omega
      have x1 : x ≤ 65504 := by omega
      go_enter Try.func17, Try.ntmps17
      go_wp2_with fail
      go_ret
      exact ⟨by rw [HE.out]; rfl, rfl⟩
theorem grown_more {a b c : World} {x y : Option Nat} (h : a.grownBy b x) (k : b.grownBy c y) (hy : y = x ∨ y = none ∨ ∃ g, y = some g ∧ a.heap.size ≤ g) : a.grownBy c x :=
  ⟨k.os.trans h.os, k.tape.trans h.tape, k.output.trans h.output, Nat.le_trans h.size k.size, fun i hi hn => (k.block i (Nat.lt_of_lt_of_le hi h.size) (by
    rcases hy with rfl | rfl | ⟨g, rfl, hg⟩
    · exact hn
    · simp
    · simp; omega)).trans (h.block i hi hn)⟩
theorem be64_snoc8 (n t : Nat) (h : t < 8) : (be64 n).take (t + 1) = (be64 n).take t ++ [be64b n t] := by
  rw [List.take_succ_eq_append_getElem (by rw [be64_length]; exact h)]
  simp [be64]
theorem qGrowAlloc {a b : World} {x : Option Nat} (h : a.grownBy b x) (o : Obj) : a.grownBy (b.alloc o) x := only_alloc h o
def Se1 (w : World) (B n0 g : Nat) (l : List UInt8) (a0 : Option Addr) (c0 : Nat) (f : Nat) (v i : Value) (wr : World) : Prop :=
  ∃ (t : Nat) (a : Option Addr) (c : Nat), f + t = 8 ∧ i = .int .i64 (56 - 8 * (t : Int)) ∧ v = .slice a (n0 + t) c ∧ Mid wr B 5 a (n0 + t) c ((l ++ (be64 g).take t).map bv) ∧ w.grownBy wr (rowB a0 c0) ∧ (rowB a c = rowB a0 c0 ∨ ∃ b, rowB a c = some b ∧ w.heap.size ≤ b)
def SeP (w : World) (B n0 g : Nat) (l : List UInt8) (a0 : Option Addr) (c0 : Nat) (e : Ending) (w' : World) : Prop :=
  ∃ (a : Option Addr) (c : Nat), e = .returned (.slice a (n0 + 8) c) ∧ Mid w' B 5 a (n0 + 8) c ((l ++ be64 g).map bv) ∧ w.grownBy w' (rowB a0 c0) ∧ (rowB a c = rowB a0 c0 ∨ ∃ b, rowB a c = some b ∧ w.heap.size ≤ b)
set_option maxHeartbeats 2000000 in
set_option maxRecDepth 40000 in
theorem seight_any (B n0 g : Nat) (l : List UInt8) (a0 : Option Addr) (c0 : Nat) (w : World) (hg : g < 18446744073709551616) (hm : Mid w B 5 a0 n0 c0 (l.map bv)) (hB : B ≤ w.heap.size) (hn : n0 ≤ 100000) :
    Calls Try.prog 38 #[.slice a0 n0 c0, .int .u64 (g : Int)] w (SeP w B n0 g l a0 c0) := by
  have hgI : (g : Int) ≤ 18446744073709551615 := by omega
  have hg0 : (0 : Int) ≤ (g : Int) := by omega
  have hst : Se1 w B n0 g l a0 c0 8 (.slice a0 n0 c0) (.int .i64 56) w := ⟨0, a0, c0, by omega, rfl, rfl, by simpa using hm, World.grownBy.refl _ _, .inl rfl⟩
  clear hm
  go_enter Try.func38, Try.ntmps38
  go_wp2_with fail
  go_loopg [0, 5] 8 (Se1 w B n0 g l a0 c0)
  case atStart => exact hst
  case round =>
    clear hst
    obtain ⟨t, a, c, hf, rfl, rfl, ho, hgr, hrw⟩ := hrel
    have HF := Lib.hid hf
    have HRW := Lib.hid hrw
    have hs := hgr.size
    clear hf hrw
    by_cases ht : t < 8
    · obtain ⟨t', ht'⟩ : ∃ t', t' = t + 1 := ⟨_, rfl⟩
      have HQ := Lib.hid (ht' ▸ be64_snoc8 g t ht : (be64 g).take t' = (be64 g).take t ++ [be64b g t])
      have HT2 := Lib.hid ht'
      have HE := Lib.hid fun p => be64_div g t p
      clear ht'
      have h8 : t = 0 ∨ t = 1 ∨ t = 2 ∨ t = 3 ∨ t = 4 ∨ t = 5 ∨ t = 6 ∨ t = 7 := by omega
      rcases h8 with rfl | rfl | rfl | rfl | rfl | rfl | rfl | rfl
      all_goals
        go_wp2_with (at_builtin; refine wpList_append_mid rfl (.tmp 10) (.tmp 16) 22 rfl bytesT3 rfl (ho.alloc _) rfl (RowAt.new' _ _ _ _ (by simp)) (by rfl) (by exact all_one _ rfl) (by unfold maxLen; omega) (by omega) (by simp; omega) ?_)
        intro a5 c5 w5 hm5 hg5 hr5
        have hgr5 := grown_more (qGrowAlloc hgr _) hg5 (by
          rcases HRW.out with h | ⟨b, h, h2⟩
          · exact .inl h
          · exact .inr (.inr ⟨b, h, h2⟩))
        have hr6 : rowB a5 c5 = rowB a0 c0 ∨ ∃ b, rowB a5 c5 = some b ∧ w.heap.size ≤ b := by
          rcases hr5 with h | ⟨b, h, h2⟩
          · rw [h]; exact HRW.out
          · exact .inr ⟨b, h, by omega⟩
        have HR6 := Lib.hid hr6
        clear hg5 hr5 hr6
        go_wp2_with fail
        go_roundg (gk - 1)
        case rel =>
          refine ⟨t', a5, c5, by have := HF.out; have := HT2.out; omega, by rw [HT2.out]; rfl, by rw [HT2.out], ?_, hgr5, HR6.out⟩
          rw [HQ.out, ← List.append_assoc, HT2.out]
          first
            | (have E := HE.out _ rfl; simp only [List.map_append, List.map_cons, List.map_nil, bv]; rw [← E]; simpa [bv] using hm5)
            | (have E := HE.out 72057594037927936 rfl; have E2 : (g : Int) / 72057594037927936 = U8 (be64b g 0) := by { rw [← E]; omega }; simpa [bv, E2] using hm5)
            | (have E := HE.out 1 rfl; have E2 : (g : Int) % 256 = U8 (be64b g 7) := by { rw [← E]; omega }; simpa [bv, E2] using hm5)
        case measure => have := HF.out; omega
    · obtain rfl : t = 8 := by have := HF.out; omega
      rw [List.take_of_length_le (by rw [be64_length]; omega)] at ho
      go_wp2_with fail
      go_ret
      exact ⟨a, c, rfl, ho, hgr, HRW.out⟩
end Go.Proofs.Ytiadhcipfgckoaa
