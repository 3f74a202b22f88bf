/- The walks through package log: records and their scan; and through the document's answer. -/
import Derived.Test.YtnojeiklgjhkgaaSumsRef
import Derived.Test.YtnojeiklgjhkgaaLogPlain
namespace Go.Proofs.Ytnojeiklgjhkgaa
open Go.RowKit
theorem clone_any (a : Option Addr) (len cap : Nat) (l : List UInt8) (w : World) (hl : BytesAt w a l) (hlen : l.length = len) (hm : len ≤ 140737488351232) :
    Calls Try.prog 29 #[.slice a len cap] w fun e w' => ∃ a' c', e = .returned (.slice a' len c') ∧ Own w' w.heap.size 5 1 a' len c' (l.map bv) ∧ Below w.heap.size w w' := by
  have HL := Lib.hid hlen
  clear hlen
  have q : ∀ (w : World) (a : Option Addr) (n c n' c' : Nat), (binOp .eql 22 (.slice a n c) (.slice none n' c')).run Try.prog w = .ok (.bool a.isNone) w := fun w a n c n' c' => Lib.run_eql_slice_nil w _ _ a n c n' c' Try.underlying22
  cases a with
  | none =>
    have hl0 : l = [] := by
      refine List.eq_nil_of_length_eq_zero (Nat.eq_zero_of_not_pos fun h => ?_)
      obtain ⟨_, _, e, _⟩ := hl 0 (by simpa using h)
      cases e
    subst hl0
    have h0 : len = 0 := HL.out.symm
    go_enter Try.func29, Try.ntmps29
    go_wp2_with fail
    go_ret
    exact ⟨none, 0, by rw [h0]; rfl, by rw [h0]; exact Own.nil _ _ _ _, Below.refl _ _⟩
  | some x =>
    go_enter Try.func29, Try.ntmps29
    have hown : Own (w.alloc (.cells #[] 5)) w.heap.size 5 1 (some ⟨w.heap.size, 0, none⟩) 0 0 [] := Own.lit _ _ _ rfl rfl (Nat.le_refl _) (by unfold maxLen; omega)
    go_wp2_with (at_builtin; refine wpList_append_row rfl _ _ 22 rfl bytesT rfl hown rfl (hl.alloc _) (by rw [List.length_map, HL.out, Nat.mul_one]) (bv_one _) (by unfold maxLen; omega) (by omega) (by simp) ?_)
    intro a1 c1 w1 hown1 hg1
    go_wp2_with fail
    go_ret
    refine ⟨a1, c1, ?_, ?_, hown.grown ((Below.refl _ _).alloc (Nat.le_refl _) _) (Nat.le_refl _) hg1 (by simp)⟩
    · first | rfl | simp
    · simpa using hown1

theorem be4_byte (n k : Nat) : ((n : Int) / (k : Int)) % 256 = U8 (UInt8.ofNat (n / k)) := by
  simp [U8]
theorem own_be4 {w : World} {B : Nat} (n : Nat) (hb : B ≤ w.heap.size) :
    Own (w.alloc (.cells #[.int .u8 ((n : Int) / 16777216 % 256), .int .u8 ((n : Int) / 65536 % 256), .int .u8 ((n : Int) / 256 % 256), .int .u8 ((n : Int) % 256)] 5)) B 5 1 (some ⟨w.heap.size, 0, none⟩) 4 4 ((be4 n).map bv) := by
  refine Own.lit _ _ _ ?_ rfl hb (by unfold maxLen; omega)
  have h := be4_byte n
  have h3 : (n : Int) % 256 = U8 (UInt8.ofNat n) := by simp [U8]
  have a := h 16777216
  have b := h 65536
  have c := h 256
  simp only [be4, List.map_cons, List.map_nil, bv]
  rw [← a, ← b, ← c, ← h3]; rfl

theorem own_be4' {w : World} {B : Nat} (n : Nat) (h : n ≤ 65536) (hb : B ≤ w.heap.size) :
    Own (w.alloc (.cells #[.int .u8 ((n : Int) / 16777216), .int .u8 ((n : Int) / 65536), .int .u8 ((n : Int) / 256 % 256), .int .u8 ((n : Int) % 256)] 5)) B 5 1 (some ⟨w.heap.size, 0, none⟩) 4 4 ((be4 n).map bv) := by
  have a : (n : Int) / 16777216 = (n : Int) / 16777216 % 256 := by omega
  have b : (n : Int) / 65536 = (n : Int) / 65536 % 256 := by omega
  rw [a, b]; exact own_be4 n hb

set_option maxHeartbeats 400000 in
theorem record_any (a : Option Addr) (len cap : Nat) (l : List UInt8) (w : World) (hl : BytesAt w a l) (hlen : l.length = len) (h1 : 1 ≤ len) (h2 : len ≤ 65536) :
    Calls Try.prog 11 #[.slice a len cap] w fun e w' => ∃ a' c', e = .returned (.tuple #[.slice a' (8 + len) c', .int .i64 0]) ∧ Own w' w.heap.size 5 1 a' (8 + len) c' ((record l).map bv) ∧ Below w.heap.size w w' := by
  have HL := Lib.hid hlen
  clear hlen
  have t1 : decide ((len : Int) = 0) = false := by simp; omega
  have t1' : ((len : Int) == 0) = false := by simp; omega
  have t2 : decide ((65536 : Int) < (len : Int)) = false := by simp; omega
  go_enter Try.func11, Try.ntmps11
  go_wp2_with fail
  have hown := own_be4' (w := w) (B := w.heap.size) len h2 (Nat.le_refl _)
  refine (sum_any _ _ _ _ _ hown.row (be4_length _) (by unfold maxLen; omega)).mono ?_
  rintro e w1 ⟨rfl, hb⟩
  have hb01 : Below w.heap.size w w1 := below_step ((Below.refl _ w).alloc (Nat.le_refl _) _) hb
  go_wp2_with fail
  refine (more_any _ _ _ _ l _ (hl.below hb01) HL.out (by unfold maxLen; omega)).mono ?_
  rintro e w2 ⟨rfl, hb2⟩
  have hb02 := below_step hb01 hb2
  have HS := Lib.hid (show more (more 0#32 (be4 len)) l = recSum l by unfold recSum; rw [HL.out])
  rw [HS.out]
  have hown2 := (hown.old hb).old hb2
  have hown3 := own_le4 (w := w2) (B := w2.heap.size) (recSum l) (Nat.le_refl _)
  go_wp2_with (at_builtin; refine wpList_append_row rfl _ _ 22 rfl bytesT rfl (hown2.alloc _) rfl hown3.row (by rfl) (bv_one _) (by unfold maxLen; omega) (by omega) (by simp; exact Nat.le_succ_of_le hb02.size) ?_)
  intro a4 c4 w4 hown4 hg4
  have hb4 := (hown2.alloc _).grown (below_step hb02 ((Below.refl _ w2).alloc (Nat.le_refl _) _)) (Nat.le_refl _) hg4 (by simp; exact Nat.le_succ_of_le hb02.size)
  go_wp2_with (at_builtin; refine wpList_append_row rfl _ _ 22 rfl bytesT rfl hown4 rfl (hl.below hb4) (by rw [List.length_map, HL.out, Nat.mul_one]) (bv_one _) (by unfold maxLen; omega) (by omega) hb4.size ?_)
  intro a5 c5 w5 hown5 hg5
  go_wp2_with fail
  go_ret2
  refine ⟨a5, c5, rfl, ?_, hown4.grown hb4 (Nat.le_refl _) hg5 hb4.size⟩
  simpa [record, head8, HL.out] using hown5

theorem record_none (a : Option Addr) (cap : Nat) (w : World) :
    Calls Try.prog 11 #[.slice a 0 cap] w fun e w' => e = .returned (.tuple #[.slice none 0 0, .int .i64 2]) ∧ w' = w := by
  go_enter Try.func11, Try.ntmps11
  go_wp2_with fail
  go_ret2
  exact ⟨rfl, rfl⟩
theorem record_long (a : Option Addr) (len cap : Nat) (w : World) (h : 65536 < len) :
    Calls Try.prog 11 #[.slice a len cap] w fun e w' => e = .returned (.tuple #[.slice none 0 0, .int .i64 3]) ∧ w' = w := by
  have t1 : ((len : Int) == 0) = false := by simp; omega
  have t2 : decide ((65536 : Int) < (len : Int)) = true := by simp; omega
  go_enter Try.func11, Try.ntmps11
  go_wp2_with fail
  go_ret2
  exact ⟨rfl, rfl⟩

/-- Four bytes, the highest first, as Go puts them together. -/
theorem or_low (x y k : Nat) (hy : y < 2 ^ k) (h : x * 2 ^ k + y < 9223372036854775808) : bits .or .i64 ((x * 2 ^ k : Nat) : Int) ((y : Nat) : Int) = ((x * 2 ^ k + y : Nat) : Int) := by
  have hx : x * 2 ^ k < 9223372036854775808 := by omega
  have hy' : y < 9223372036854775808 := by omega
  have e : (BitVec.ofInt 64 ((x * 2 ^ k : Nat) : Int) ||| BitVec.ofInt 64 ((y : Nat) : Int)).toNat = x * 2 ^ k + y := by
    rw [BitVec.toNat_or, BitVec.toNat_ofInt, BitVec.toNat_ofInt]
    rw [show (((x * 2 ^ k : Nat) : Int) % ((2 ^ 64 : Nat) : Int)).toNat = x * 2 ^ k by omega, show (((y : Nat) : Int) % ((2 ^ 64 : Nat) : Int)).toNat = y by omega]
    rw [Nat.mul_comm x, ← Nat.two_pow_add_eq_or_of_lt hy]
  show IntKind.i64.wrap (((BitVec.ofInt 64 ((x * 2 ^ k : Nat) : Int) ||| BitVec.ofInt 64 ((y : Nat) : Int)).toNat : Nat) : Int) = _
  rw [e, IntWalk.i64_in _ (by omega)]
theorem orBE (c0 c1 c2 c3 : UInt8) : bits .or .i64 (bits .or .i64 (bits .or .i64 (wrap64 (wrap64 (U8 c0) * 16777216)) (wrap64 (wrap64 (U8 c1) * 65536))) (wrap64 (wrap64 (U8 c2) * 256))) (wrap64 (U8 c3)) = (rdBE c0 c1 c2 c3 : Int) := by
  have h0 : c0.toNat < 256 := c0.toBitVec.isLt
  have h1 : c1.toNat < 256 := c1.toBitVec.isLt
  have h2 : c2.toNat < 256 := c2.toBitVec.isLt
  have h3 : c3.toNat < 256 := c3.toBitVec.isLt
  have w0 : ∀ c : UInt8, wrap64 (U8 c) = U8 c := fun c => IntWalk.wrap64_in _ ⟨by have := U8_lo c; omega, by have := U8_hi c; omega⟩
  have w1 : ∀ (c : UInt8) (k : Int), 0 ≤ k → k ≤ 16777216 → wrap64 (U8 c * k) = U8 c * k := by
    intro c k hk0 hk1
    have a := U8_lo c
    have b := U8_hi c
    have e1 : 0 ≤ U8 c * k := Int.mul_nonneg a hk0
    have e2 : U8 c * k ≤ 256 * 16777216 := Int.mul_le_mul (by omega) hk1 hk0 (by omega)
    exact IntWalk.wrap64_in _ ⟨by omega, by omega⟩
  rw [w0, w0, w0, w0, w1 _ _ (by omega) (by omega), w1 _ _ (by omega) (by omega), w1 _ _ (by omega) (by omega)]
  have a : U8 c0 * 16777216 = ((c0.toNat * 2 ^ 24 : Nat) : Int) := by simp [U8]
  have b : U8 c1 * 65536 = ((c1.toNat * 2 ^ 16 : Nat) : Int) := by simp [U8]
  have c : U8 c2 * 256 = ((c2.toNat * 2 ^ 8 : Nat) : Int) := by simp [U8]
  have d : U8 c3 = ((c3.toNat : Nat) : Int) := rfl
  rw [a, b, c, d, or_low _ _ 24 (by omega) (by omega), show c0.toNat * 2 ^ 24 + c1.toNat * 2 ^ 16 = (c0.toNat * 256 + c1.toNat) * 2 ^ 16 by omega, or_low _ _ 16 (by omega) (by omega),
    show (c0.toNat * 256 + c1.toNat) * 2 ^ 16 + c2.toNat * 2 ^ 8 = ((c0.toNat * 256 + c1.toNat) * 256 + c2.toNat) * 2 ^ 8 by omega, or_low _ _ 8 (by omega) (by omega)]
  unfold rdBE
  omega

/-! ### The document's answer -/
theorem four_any (n : Nat) (w : World) (h : n ≤ 65536) :
    Calls Try.prog 30 #[.int .i64 (n : Int)] w fun e w' => ∃ a', e = .returned (.slice a' 4 4) ∧ Own w' w.heap.size 5 1 a' 4 4 ((be4 n).map bv) ∧ Below w.heap.size w w' := by
  go_enter Try.func30, Try.ntmps30
  go_wp2_with fail
  go_ret
  exact ⟨_, rfl, own_be4' n h (Nat.le_refl _), (Below.refl _ _).alloc (Nat.le_refl _) _⟩

set_option maxHeartbeats 400000 in
theorem ref_record_any (a : Option Addr) (len cap : Nat) (l : List UInt8) (w : World) (hl : BytesAt w a l) (hlen : l.length = len) (h1 : 1 ≤ len) (h2 : len ≤ 65536) :
    Calls Try.prog 12 #[.slice a len cap] w fun e w' => ∃ a' c', e = .returned (.tuple #[.slice a' (8 + len) c', .int .i64 0]) ∧ Own w' w.heap.size 5 1 a' (8 + len) c' ((record l).map bv) ∧ Below w.heap.size w w' := by
  have HL := Lib.hid hlen
  clear hlen
  have t1 : ((len : Int) == 0) = false := by simp; omega
  have t2 : decide ((65536 : Int) < (len : Int)) = false := by simp; omega
  go_enter Try.func12, Try.ntmps12
  go_wp2_with fail
  refine (four_any len _ h2).mono ?_
  rintro e w0 ⟨a0, rfl, hown, hb0⟩
  go_wp2_with fail
  refine (ref_sum_any _ _ _ _ _ hown.row (be4_length _) (by unfold maxLen; omega)).mono ?_
  rintro e w1 ⟨rfl, hb⟩
  have hb01 : Below w.heap.size w w1 := below_step hb0 hb
  go_wp2_with fail
  refine (ref_more_any _ _ _ _ l _ (hl.below hb01) HL.out (by unfold maxLen; omega)).mono ?_
  rintro e w2 ⟨rfl, hb2⟩
  have hb2 : Below w1.heap.size w1 w2 := hb2 ▸ Below.refl _ _
  have hb02 := below_step hb01 hb2
  have HS := Lib.hid (show more (more 0#32 (be4 len)) l = recSum l by unfold recSum; rw [HL.out])
  rw [HS.out]
  have hown2 := (hown.old hb).old hb2
  have hown3 := own_le4 (w := w2) (B := w2.heap.size) (recSum l) (Nat.le_refl _)
  go_wp2_with (at_builtin; refine wpList_append_row rfl _ _ 22 rfl bytesT rfl (hown2.alloc _) rfl hown3.row (by rfl) (bv_one _) (by unfold maxLen; omega) (by omega) (by simp; exact Nat.le_succ_of_le hb02.size) ?_)
  intro a4 c4 w4 hown4 hg4
  have hb4 := (hown2.alloc _).grown (below_step hb02 ((Below.refl _ w2).alloc (Nat.le_refl _) _)) (Nat.le_refl _) hg4 (by simp; exact Nat.le_succ_of_le hb02.size)
  go_wp2_with (at_builtin; refine wpList_append_row rfl _ _ 22 rfl bytesT rfl hown4 rfl (hl.below hb4) (by rw [List.length_map, HL.out, Nat.mul_one]) (bv_one _) (by unfold maxLen; omega) (by omega) hb4.size ?_)
  intro a5 c5 w5 hown5 hg5
  go_wp2_with fail
  go_ret2
  refine ⟨a5, c5, rfl, ?_, hown4.grown hb4 (Nat.le_refl _) hg5 hb4.size⟩
  simpa [record, head8, HL.out] using hown5
theorem ref_record_none (a : Option Addr) (cap : Nat) (w : World) :
    Calls Try.prog 12 #[.slice a 0 cap] w fun e w' => e = .returned (.tuple #[.slice none 0 0, .int .i64 2]) ∧ w' = w := by
  go_enter Try.func12, Try.ntmps12
  go_wp2_with fail
  go_ret2
  exact ⟨rfl, rfl⟩
theorem ref_record_long (a : Option Addr) (len cap : Nat) (w : World) (h : 65536 < len) :
    Calls Try.prog 12 #[.slice a len cap] w fun e w' => e = .returned (.tuple #[.slice none 0 0, .int .i64 3]) ∧ w' = w := by
  have t1 : ((len : Int) == 0) = false := by simp; omega
  have t2 : decide ((65536 : Int) < (len : Int)) = true := by simp; omega
  go_enter Try.func12, Try.ntmps12
  go_wp2_with fail
  go_ret2
  exact ⟨rfl, rfl⟩

end Go.Proofs.Ytnojeiklgjhkgaa
