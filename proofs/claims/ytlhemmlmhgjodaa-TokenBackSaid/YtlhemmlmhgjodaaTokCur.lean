/- The cursor over bytes: walked. -/
import Derived.Test.YtlhemmlmhgjodaaTokRMake
namespace Go.Proofs.Ytlhemmlmhgjodaa
open Go.RowKit

def curC (a : Option Addr) (n c : Nat) : Array Value := #[.slice a n c]
set_option maxHeartbeats 1000000 in
set_option maxRecDepth 40000 in
theorem take_any (C : Nat) (a : Option Addr) (len cap m : Nat) (w : World) (hC : Blk w C (curC a len cap) 43) (hc1 : len ≤ cap) (hm : m ≤ 140737488351232) :
    Calls Try.prog 16 #[.pointer (some ⟨C, 0, none⟩), .int .i64 (m : Int)] w fun e w' => e = .returned (.slice a (min m len) cap) ∧ w.setCell ⟨C, 0, none⟩ (.slice (cutA a cap (min m len)) (len - min m len) (cap - min m len)) = w' := by
  have c0 : w.cell? ⟨C, 0, none⟩ = some (.slice a len cap) := hC.cell rfl
  have f0 := hC.free
  by_cases hlt : len < m
  · rw [Nat.min_eq_right (Nat.le_of_lt hlt)]
    go_enter Try.func16, Try.ntmps16
    go_wp2_with fail
    all_goals
      go_ret
      exact ⟨rfl, by simp [cutA, *]⟩
  · rw [Nat.min_eq_left (by omega)]
    have hle : m ≤ len := by omega
    go_enter Try.func16, Try.ntmps16
    go_wp2_with fail
    all_goals
      go_ret
      exact ⟨rfl, by simp [cutA, *]⟩
/-- The cursor's bytes, what is left. -/
structure CurAt (w : World) (C : Nat) (b : List UInt8) (a : Option Addr) (n c : Nat) : Prop where
  cur : Blk w C (curC a n c) 43
  read : BytesAt w a b
  hl : b.length = n
  h1 : n ≤ c
theorem BytesAt.cutA {w : World} {a : Option Addr} {b : List UInt8} {len cap : Nat} (h : BytesAt w a b) (hl : b.length = len) (hc : len ≤ cap) (k : Nat) (_hk : k ≤ len) : BytesAt w (cutA a cap k) (b.drop k) := by
  unfold Go.Proofs.Ytlhemmlmhgjodaa.cutA
  by_cases e : cap = k
  · rw [if_pos e]
    have : b.drop k = [] := List.drop_eq_nil_of_le (by omega)
    rw [this]; exact RowAt.nil _ _
  · rw [if_neg e]
    intro i hi
    rw [List.length_map, List.length_drop] at hi
    obtain ⟨bb, o, rfl, hc⟩ := h (k + i) (by rw [List.length_map]; omega)
    refine ⟨bb, o + k, by rw [Option.map_some, Addr.add_mid, Nat.mul_one], ?_⟩
    rw [Nat.add_assoc, hc]
    simp
theorem BytesAt.notCur {w : World} {C : Nat} {x : Option Addr} {n c : Nat} (hC : Blk w C (curC x n c) 43) {a : Option Addr} {b : List UInt8} (h : BytesAt w a b) (v : Value) : BytesAt (w.setCell ⟨C, 0, none⟩ v) a b := by
  intro i hi
  obtain ⟨g, o, e, hc⟩ := h i hi
  refine ⟨g, o, e, ?_⟩
  have hne : g ≠ C := by
    rintro rfl
    rw [hC.rule] at hc
    have hlt : o + i < 1 := (Array.getElem?_eq_some_iff.1 hc).1
    obtain ⟨rfl, rfl⟩ : o = 0 ∧ i = 0 := by omega
    simp [curC, bv] at hc
  have hh : (w.setCell ⟨C, 0, none⟩ v).heap[g]? = w.heap[g]? := heap_setCell_other w ⟨C, 0, none⟩ g v hne
  unfold World.cell? at hc ⊢
  simp only at hc ⊢
  rw [hh]; exact hc
theorem CurAt.take {w : World} {C : Nat} {b : List UInt8} {a : Option Addr} {len cap : Nat} (h : CurAt w C b a len cap) (m : Nat) :
    CurAt (w.setCell ⟨C, 0, none⟩ (.slice (cutA a cap (min m len)) (len - min m len) (cap - min m len))) C (b.drop m) (cutA a cap (min m len)) (len - min m len) (cap - min m len) := by
  have h1 := h.h1
  have e : b.drop m = b.drop (min m len) := by
    by_cases hm : m ≤ len
    · rw [Nat.min_eq_left hm]
    · rw [Nat.min_eq_right (by omega), List.drop_eq_nil_of_le (by rw [h.hl]; omega), List.drop_eq_nil_of_le (by rw [h.hl]; omega)]
  refine ⟨h.cur.set 0 _, ?_, by rw [e, List.length_drop, h.hl], by omega⟩
  rw [e]
  exact (h.read.cutA h.hl h.h1 _ (Nat.min_le_right _ _)).notCur h.cur _
/-- What is taken, read behind the taking. -/
theorem CurAt.taken {w : World} {C : Nat} {b : List UInt8} {a : Option Addr} {len cap : Nat} (h : CurAt w C b a len cap) (m : Nat) (v : Value) : BytesAt (w.setCell ⟨C, 0, none⟩ v) a (b.take m) := by
  unfold BytesAt
  rw [List.map_take]
  exact (BytesAt.notCur h.cur h.read v).take m

/-! ### Numbers -/
def I64 (x : BitVec 64) : Int := x.toInt
theorem ofInt_wrap64 (z : Int) : BitVec.ofInt 64 (wrap64 z) = BitVec.ofInt 64 z := by
  apply BitVec.eq_of_toNat_eq
  rw [BitVec.toNat_ofInt, BitVec.toNat_ofInt]
  congr 1
  show wrap64 z % 18446744073709551616 = z % 18446744073709551616
  unfold wrap64
  omega
theorem wrap_i64_bits (v : BitVec 64) : IntKind.i64.wrap (v.toNat : Int) = I64 v := by
  have h := v.isLt
  rw [IntKind.wrap_i64, I64, BitVec.toInt_eq_toNat_cond]
  split <;> omega
theorem shl8_i64 (x : BitVec 64) : BitVec.ofInt 64 (I64 x * 256) = x <<< 8 := by
  have h := x.isLt
  apply BitVec.eq_of_toNat_eq
  rw [BitVec.toNat_ofInt, BitVec.toNat_shiftLeft, Nat.shiftLeft_eq, I64, BitVec.toInt_eq_toNat_cond]
  split <;> omega
theorem or_i64 (x : BitVec 64) (y : UInt8) : bits .or .i64 (wrap64 (I64 x * 256)) (wrap64 (U8 y)) = I64 ((x <<< 8) ||| y.toBitVec.setWidth 64) := by
  have e : bits .or .i64 (wrap64 (I64 x * 256)) (wrap64 (U8 y)) = IntKind.i64.wrap ((BitVec.ofInt 64 (wrap64 (I64 x * 256)) ||| BitVec.ofInt 64 (wrap64 (U8 y))).toNat : Int) := rfl
  rw [e, ofInt_wrap64, ofInt_wrap64, shl8_i64, ofInt64_U8, wrap_i64_bits]
def Nu1 (w : World) (l : List UInt8) (n : Nat) (f : Nat) (v i : Value) (wr : World) : Prop :=
  ∃ t : Nat, f + t = n ∧ i = .int .i64 (t : Int) ∧ v = .int .i64 (I64 (numW (l.take t))) ∧ w = wr
set_option maxHeartbeats 1000000 in
set_option maxRecDepth 40000 in
theorem number_any (C : Nat) (b : List UInt8) (a : Option Addr) (len cap m : Nat) (w : World) (hC : CurAt w C b a len cap) (hm : m ≤ 100) :
    Calls Try.prog 17 #[.pointer (some ⟨C, 0, none⟩), .int .i64 (m : Int)] w fun e w' => e = .returned (.int .i64 (numI (b.take m))) ∧ w.setCell ⟨C, 0, none⟩ (.slice (cutA a cap (min m len)) (len - min m len) (cap - min m len)) = w' := by
  have HC := Lib.hid hC
  obtain ⟨l, hl⟩ : ∃ l, l = b.take m := ⟨_, rfl⟩
  rw [← hl]
  have HLL := Lib.hid hl
  clear hC hl
  go_enter Try.func17, Try.ntmps17
  go_wp2_with fail
  refine (take_any C a len cap m _ HC.out.cur HC.out.h1 (by omega)).mono ?_
  rintro e w1 ⟨rfl, rfl⟩
  have hT := HC.out.taken m (.slice (cutA a cap (min m len)) (len - min m len) (cap - min m len))
  obtain ⟨q, hq⟩ : ∃ q, q = min m len := ⟨_, rfl⟩
  obtain ⟨w1, hw1⟩ : ∃ w1, w1 = w.setCell ⟨C, 0, none⟩ (.slice (cutA a cap (min m len)) (len - min m len) (cap - min m len)) := ⟨_, rfl⟩
  rw [← hw1] at hT ⊢
  rw [← hq]
  have hlen : l.length = q := by rw [HLL.out, List.length_take, HC.out.hl, hq]
  rw [← HLL.out] at hT
  have hq100 : q ≤ 100 := by omega
  have HL := Lib.hid hlen
  have HW1 := Lib.hid hw1
  clear hw1 hq hlen
  go_wp2_with fail
  go_loopg [5, 7, 12] q (fun f v _ i wr => Nu1 w1 l q f v i wr)
  case atStart => exact ⟨0, by omega, rfl, by simp [numW, I64], rfl⟩
  case round =>
    obtain ⟨t, hf, rfl, rfl, rfl⟩ := hrel
    have HF := Lib.hid hf
    clear hf
    by_cases ht : t < q
    · have tt : decide ((t : Int) < (q : Int)) = true := decide_eq_true (by omega)
      have tN : decide (t < q) = true := decide_eq_true ht
      obtain ⟨b1, o1, rfl, c1⟩ := BytesAt.cellAt hT t (by rw [HL.out]; exact ht)
      go_wp2_with fail
      go_roundg (gk - 1)
      case rel =>
        refine ⟨t + 1, by have := HF.out; omega, by go_num, ?_, rfl⟩
        have e : l.take (t + 1) = l.take t ++ [l[t]?.getD 0] := by
          rw [List.take_succ_eq_append_getElem (by rw [HL.out]; exact ht)]; simp [HL.out, ht]
        rw [e, numW_snoc, ← or_i64]
      case measure => have := HF.out; omega
    · obtain rfl : t = q := by have := HF.out; omega
      have tt : decide ((t : Int) < (t : Int)) = false := by simp
      have tN : decide (t < t) = false := by simp
      go_wp2_with fail
      go_ret
      exact ⟨by rw [List.take_of_length_le (by rw [HL.out]; omega)]; rfl, HW1.out.symm⟩
end Go.Proofs.Ytlhemmlmhgjodaa
