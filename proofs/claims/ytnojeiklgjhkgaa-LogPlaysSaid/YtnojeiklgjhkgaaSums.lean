/- The walks through package sums and its reference. -/
import Derived.Test.YtnojeiklgjhkgaaRows
import Derived.Test.YtnojeiklgjhkgaaCrc
namespace Go.Proofs.Ytnojeiklgjhkgaa
open Go.RowKit

theorem half32 (r : BitVec 32) : U32 r / (2 : Int) = U32 (r >>> 1) := U32_shr r 1
theorem shr1 (r : BitVec 32) : BitVec.ofInt 32 (U32 r / 2) = r >>> 1 := by rw [show (2 : Int) = ((2 ^ 1 : Nat) : Int) from rfl, U32_shr, ofInt_U32]
theorem neg32 (r : BitVec 32) : BitVec.ofInt 32 (-U32 r % 4294967296) = -r := by rw [U32_neg, ofInt_U32]

attribute [local go_sem] bits_xor_u32 bits_and_u32 bits_or_u32 ofInt_U32 ofInt32_U8 shr1 neg32 not_u32

set_option maxHeartbeats 400000 in
theorem step_any (r : BitVec 32) (w : World) :
    Calls Try.prog 51 #[.int .u32 (U32 r)] w fun e w' => e = .returned (.int .u32 (U32 (stp r))) ∧ w = w' := by
  go_enter Try.func51, Try.ntmps51
  go_wp2
  go_ret
  exact ⟨rfl, rfl⟩

set_option maxHeartbeats 400000 in
theorem feed_any (r : BitVec 32) (c : UInt8) (b : Nat) (w : World)
   (hc : w.cell? ⟨b, 0, none⟩ = some (.int .u32 (U32 r))) (hf : w.frozen? ⟨b, 0, none⟩ = false) :
    Calls Try.prog 50 #[.int .u8 (U8 c), .pointer (some ⟨b, 0, none⟩)] w fun e w' => e = .returned (.tuple #[]) ∧ w.setCell ⟨b, 0, none⟩ (.int .u32 (U32 (feed r c))) = w' := by
  have h0 := U8_lo c
  have h1 := U8_hi c
  go_enter Try.func50, Try.ntmps50
  go_wp2_with fail
  go_loopw [7] (fun i wr => ∃ k : Nat, k ≤ 8 ∧ i = .int .i64 k ∧ w.setCell ⟨b, 0, none⟩ (.int .u32 (U32 (stps k (r ^^^ c.toBitVec.setWidth 32)))) = wr) (fun i _ => 8 - (intOf i).toNat)
  case atStart => exact ⟨0, by omega, rfl, rfl⟩
  case round =>
    obtain ⟨k, hk, rfl, rfl⟩ := hrel
    by_cases hlt : k < 8
    · go_wp2_with (go_at_call 51; refine (step_any _ _).mono ?_; rintro e w' ⟨rfl, rfl⟩)
      go_roundw
      case rel => exact ⟨k + 1, by omega, by go_num, (setCell_twice _ _ _ _).symm⟩
      case measure => simp [intOf]; omega
    · go_wp2
      go_end0
      obtain rfl : k = 8 := by omega
      exact ⟨rfl, rfl⟩


theorem byte_take (l : List UInt8) (k : Nat) (h : k < l.length) (r : BitVec 32) : feed (feeds r (l.take k)) l[k] = feeds r (l.take (k + 1)) := (feeds_take r l k h).symm

set_option maxHeartbeats 400000 in
theorem more_any (s : BitVec 32) (a : Option Addr) (len cap : Nat) (l : List UInt8) (w : World) (hl : BytesAt w a l) (hlen : l.length = len) (hm : len ≤ maxLen) :
    Calls Try.prog 27 #[.int .u32 (U32 s), .slice a len cap] w fun e w' => e = .returned (.int .u32 (U32 (more s l))) ∧ Below w.heap.size w w' := by
  subst hlen
  unfold maxLen at hm
  have hmf : ∀ (fn : Fn) (first cap : Array Value) (w : World), (Instr.makeFunc fn first cap).run Try.prog w = .ok (.func fn first cap) w := fun _ _ _ _ => rfl
  go_enter Try.func27, Try.ntmps27
  go_wp2_with fail
  go_loopw [14, 8] (fun i _ wr => ∃ k : Nat, k ≤ l.length ∧ i = .int .i64 k ∧ w.alloc (.cells #[.int .u32 (U32 (feeds (~~~ s) (l.take k)))] 65) = wr) (fun i _ _ => l.length - (intOf i).toNat)
  case atStart => exact ⟨0, by omega, rfl, rfl⟩
  case round =>
    obtain ⟨k, hk, rfl, rfl⟩ := hrel
    by_cases hlt : k < l.length
    · obtain ⟨b, o, rfl, hc⟩ := hl.at (by omega)
      have hb : b < w.heap.size := World.block_lt_of_cell? w _ (hc k hlt)
      have hck : ∀ v, (w.alloc (.cells #[v] 65)).cell? ⟨b, o + k, none⟩ = some (.int .u8 (U8 l[k])) := fun v => by
        rw [World.cell?_alloc_past _ _ _ (by simpa using hb)]; exact hc k hlt
      have hr : ∀ v, (w.alloc (.cells #[v] 65)).cell? ⟨w.heap.size, 0, none⟩ = some v := fun v => by
        rw [World.cell?_alloc_at _ _ _ _ rfl]; rfl
      have hf : ∀ v, (w.alloc (.cells #[v] 65)).frozen? ⟨w.heap.size, 0, none⟩ = false := fun v => World.frozen?_alloc_at _ _ _ _ rfl
      clear hc
      have hfd := byte_take l k hlt (~~~ s)
      have HF := Lib.hid hfd
      clear hfd
      go_wp2_with (go_at_call 50; refine (feed_any _ _ _ _ (hr _) (hf _)).mono ?_; rintro e w' ⟨rfl, rfl⟩)
      go_roundw
      case rel => exact ⟨k + 1, by omega, by go_num, by rw [← HF.out]⟩
      case measure => simp [intOf]; omega
    · have hr : ∀ v, (w.alloc (.cells #[v] 65)).cell? ⟨w.heap.size, 0, none⟩ = some v := fun v => by
        rw [World.cell?_alloc_at _ _ _ _ rfl]; rfl
      go_wp2
      go_ret
      obtain rfl : k = l.length := by omega
      exact ⟨by simp [more], (Below.refl _ _).alloc (Nat.le_refl _) _⟩

/-! ### The matrix -/
theorem u32Info : (Try.prog.info? 65).map (·.size) = some 1 := by kernel_rfl
theorem shr_any (r : BitVec 32) (k : Nat) : BitVec.ofInt 32 (U32 r / (2 : Int) ^ k) = r >>> k := by rw [U32_shr_pow, ofInt_U32]

theorem mixed_u32s_set (a b : List (BitVec 32)) (k : Nat) (h : a.length = b.length) (hk : k < a.length) : (u32s (mixed a b k)).setIfInBounds k (.int .u32 (U32 a[k])) = u32s (mixed a b (k + 1)) := by
  rw [← mixed_set a b k h hk]
  simp [u32s, List.setIfInBounds_toArray, List.map_set]

def noughts : List (BitVec 32) := List.replicate 32 0#32

/-! ### Join -/

theorem one_shl (k : Nat) : (2 : Int) ^ k % 4294967296 = U32 (1#32 <<< k) := by
  rw [← U32_shl 1#32 k]
  simp [U32]

theorem and1_i64 (j : Nat) : bits .and .i64 (j : Int) 1 = ((j % 2 : Nat) : Int) := by
  have h : (BitVec.ofInt 64 (j : Int) &&& BitVec.ofInt 64 1).toNat = j % 2 := by
    have : (BitVec.ofInt 64 1).toNat = 2 ^ 1 - 1 := by decide
    rw [BitVec.toNat_and, this, Nat.and_two_pow_sub_one_eq_mod]
    simp only [BitVec.toNat_ofInt]; omega
  show IntKind.i64.wrap (((BitVec.ofInt 64 (j : Int) &&& BitVec.ofInt 64 1).toNat : Nat) : Int) = _
  rw [h, IntWalk.i64_in _ (by omega)]
theorem odd_yes (n : Nat) (h : n % 2 = 1) : (bits .and .i64 (n : Int) 1 == 1) = true := by rw [and1_i64, h]; rfl
theorem odd_no (n : Nat) (h : ¬ n % 2 = 1) : (bits .and .i64 (n : Int) 1 == 1) = false := by rw [and1_i64, show n % 2 = 0 by omega]; rfl


theorem joinGo_zero (f : Nat) (m : List (BitVec 32)) (c : BitVec 32) : joinGo f m c 0 = c := by cases f <;> simp [joinGo]
theorem joinGo_odd (f : Nat) (m : List (BitVec 32)) (c : BitVec 32) (j : Nat) (h0 : j ≠ 0) (h : j % 2 = 1) : joinGo (f + 1) m c j = joinGo f (squareOf m) (matOf m c) (j / 2) := by simp [joinGo, h0, h]
theorem joinGo_even (f : Nat) (m : List (BitVec 32)) (c : BitVec 32) (j : Nat) (h0 : j ≠ 0) (h : ¬ j % 2 = 1) : joinGo (f + 1) m c j = joinGo f (squareOf m) c (j / 2) := by simp [joinGo, h0, h]


/-! ### Sum, Put, Take -/
theorem more_zero (a : Option Addr) (len cap : Nat) (l : List UInt8) (w : World) (hl : BytesAt w a l) (hlen : l.length = len) (hm : len ≤ maxLen) :
    Calls Try.prog 27 #[.int .u32 0, .slice a len cap] w fun e w' => e = .returned (.int .u32 (U32 (more 0#32 l))) ∧ Below w.heap.size w w' :=
  more_any 0#32 a len cap l w hl hlen hm

set_option maxHeartbeats 400000 in
theorem sum_any (a : Option Addr) (len cap : Nat) (l : List UInt8) (w : World) (hl : BytesAt w a l) (hlen : l.length = len) (hm : len ≤ maxLen) :
    Calls Try.prog 28 #[.slice a len cap] w fun e w' => e = .returned (.int .u32 (U32 (more 0#32 l))) ∧ Below w.heap.size w w' := by
  have HL := Lib.hid hlen
  clear hlen
  go_enter Try.func28, Try.ntmps28
  go_wp2_with fail
  refine (more_zero _ _ _ _ _ hl HL.out hm).mono ?_
  rintro e w1 ⟨rfl, hb⟩
  go_wp2_with fail
  go_ret
  exact ⟨rfl, hb⟩

def putOf (l : List UInt8) : List UInt8 := le4 (more 0#32 l) ++ l

theorem bytesT : RowType Try.prog 22 5 1 1 := RowType.mk (z := .int .u8 0) Try.underlying22 (by kernel_rfl) rfl (by omega)

theorem byte_lo (s : BitVec 32) : U32 s % 256 = U8 ⟨s.setWidth 8⟩ := U32_byte s
theorem byte_8 (s : BitVec 32) : U32 s / (256 : Int) % (256 : Int) = U8 ⟨(s >>> 8).setWidth 8⟩ := by
  have h : U32 s / (256 : Int) = U32 (s >>> 8) := U32_shr s 8
  rw [h]; exact U32_byte _
theorem byte_16 (s : BitVec 32) : U32 s / (65536 : Int) % (256 : Int) = U8 ⟨(s >>> 16).setWidth 8⟩ := by
  have h : U32 s / (65536 : Int) = U32 (s >>> 16) := U32_shr s 16
  rw [h]; exact U32_byte _
theorem byte_24 (s : BitVec 32) : U32 s / (16777216 : Int) % (256 : Int) = U8 ⟨(s >>> 24).setWidth 8⟩ := by
  have h : U32 s / (16777216 : Int) = U32 (s >>> 24) := U32_shr s 24
  rw [h]; exact U32_byte _

theorem own_le4 {w : World} {B : Nat} (s : BitVec 32) (hb : B ≤ w.heap.size) :
    Own (w.alloc (.cells #[.int .u8 (U32 s % 256), .int .u8 (U32 s / 256 % 256), .int .u8 (U32 s / 65536 % 256), .int .u8 (U32 s / 16777216 % 256)] 5)) B 5 1 (some ⟨w.heap.size, 0, none⟩) 4 4 ((le4 s).map bv) :=
  Own.lit _ _ _ (by rw [byte_lo, byte_8, byte_16, byte_24]; rfl) rfl hb (by unfold maxLen; omega)


def rd4 (c0 c1 c2 c3 : UInt8) : BitVec 32 :=
  c0.toBitVec.setWidth 32 ||| (c1.toBitVec.setWidth 32 <<< 8) ||| (c2.toBitVec.setWidth 32 <<< 16) ||| (c3.toBitVec.setWidth 32 <<< 24)


theorem ofInt_shl8 (c : UInt8) (k : Nat) (n : Int) (hk : n = ((2 ^ k : Nat) : Int)) : BitVec.ofInt 32 (U8 c % 4294967296 * n % 4294967296) = c.toBitVec.setWidth 32 <<< k := by
  subst hk
  have h := U32_shl (c.toBitVec.setWidth 32) k
  have e : U8 c % 4294967296 = U32 (c.toBitVec.setWidth 32) := by
    have h1 := U8_lo c
    have h2 := U8_hi c
    rw [Int.emod_eq_of_lt h1 (by omega)]
    simp only [U8, U32, BitVec.toNat_setWidth]
    have h3 : c.toNat < 256 := c.toBitVec.isLt
    have e : c.toBitVec.toNat = c.toNat := rfl
    rw [e]; omega
  rw [e, h, ofInt_U32]
theorem ofInt_mod8 (c : UInt8) : BitVec.ofInt 32 (U8 c % 4294967296) = c.toBitVec.setWidth 32 := by
  have h1 := U8_lo c
  have h2 := U8_hi c
  rw [Int.emod_eq_of_lt h1 (by omega), ofInt32_U8]
theorem rd4_of (c0 c1 c2 c3 : UInt8) : BitVec.ofInt 32 (U8 c0 % 4294967296) ||| BitVec.ofInt 32 (U8 c1 % 4294967296 * 256 % 4294967296) ||| BitVec.ofInt 32 (U8 c2 % 4294967296 * 65536 % 4294967296) ||| BitVec.ofInt 32 (U8 c3 % 4294967296 * 16777216 % 4294967296) = rd4 c0 c1 c2 c3 := by
  rw [ofInt_mod8, ofInt_shl8 c1 8 256 rfl, ofInt_shl8 c2 16 65536 rfl, ofInt_shl8 c3 24 16777216 rfl]; rfl
theorem ne_yes {x y : BitVec 32} (h : x ≠ y) : (U32 x != U32 y) = true := by simp [bne, U32_beq, h]
theorem ne_no {x y : BitVec 32} (h : x = y) : (U32 x != U32 y) = false := by simp [bne, h]

/-- What Take answers, four bytes and m behind them being there. -/
def TakePost (w : World) (ok : Bool) (m : List UInt8) (e : Ending) (w' : World) : Prop :=
  (ok = false → e = .returned (.tuple #[.slice none 0 0, .bool false])) ∧
  (ok = true → ∃ a' c', e = .returned (.tuple #[.slice a' m.length c', .bool true]) ∧ Own w' w.heap.size 5 1 a' m.length c' (m.map bv)) ∧ Below w.heap.size w w'


end Go.Proofs.Ytnojeiklgjhkgaa
