/- The walks through the reference of package sums. -/
import Derived.Test.YtnojeiklgjhkgaaSums
namespace Go.Proofs.Ytnojeiklgjhkgaa
open Go.RowKit

attribute [local go_sem] bits_xor_u32 bits_and_u32 bits_or_u32 ofInt_U32 ofInt32_U8 shr1 neg32 not_u32

theorem stp_odd (r : BitVec 32) (h : r &&& 1#32 = 1#32) : stp r = (r >>> 1) ^^^ 0xedb88320#32 := by
  rw [stp, h]; rfl
theorem stp_even (r : BitVec 32) (h : ¬ r &&& 1#32 = 1#32) : stp r = r >>> 1 := by
  have h0 : r &&& 1#32 = 0#32 := by
    have h1 : (r &&& 1#32).toNat ≠ 1 := fun e => h (BitVec.eq_of_toNat_eq (by rw [e]; rfl))
    have h2 : (r &&& 1#32).toNat = r.toNat % 2 := by
      rw [BitVec.toNat_and]; exact Nat.and_two_pow_sub_one_eq_mod _ 1
    apply BitVec.eq_of_toNat_eq
    simp only [BitVec.toNat_ofNat]; omega
  rw [stp, h0]; simp
theorem low_yes {r : BitVec 32} (h : r &&& 1#32 = 1#32) : (U32 (r &&& 1#32) == 1) = true := by rw [h]; rfl
theorem low_no {r : BitVec 32} (h : ¬ r &&& 1#32 = 1#32) : (U32 (r &&& 1#32) == 1) = false := by
  have e : (1 : Int) = U32 1#32 := rfl
  rw [e, U32_beq]; simp [h]

set_option maxHeartbeats 1000000 in
theorem ref_more_any (s : BitVec 32) (a : Option Addr) (len cap : Nat) (l : List UInt8) (w : World) (hl : BytesAt w a l) (hlen : l.length = len) (hm : len ≤ maxLen) :
    Calls Try.prog 31 #[.int .u32 (U32 s), .slice a len cap] w fun e w' => e = .returned (.int .u32 (U32 (more s l))) ∧ w = w' := by
  subst hlen
  unfold maxLen at hm
  go_enter Try.func31, Try.ntmps31
  go_wp2_with fail
  go_loop [6, 5] (fun i r => ∃ k : Nat, k ≤ l.length ∧ i = .int .i64 k ∧ r = .int .u32 (U32 (feeds (~~~ s) (l.take k)))) (fun i _ => l.length - (intOf i).toNat)
  case atStart => exact ⟨0, by omega, rfl, rfl⟩
  case round =>
    obtain ⟨k, hk, rfl, rfl⟩ := hrel
    by_cases hlt : k < l.length
    · obtain ⟨b, o, rfl, hc⟩ := hl.at (by omega)
      have hck := hc k hlt
      clear hc
      have HF := Lib.hid (byte_take l k hlt (~~~ s))
      have h0 := U8_lo l[k]
      have h1 := U8_hi l[k]
      go_wp2_with fail
      go_loop [7, 5] (fun i r => ∃ j : Nat, j ≤ 8 ∧ i = .int .i64 j ∧ r = .int .u32 (U32 (stps j (feeds (~~~ s) (l.take k) ^^^ l[k].toBitVec.setWidth 32)))) (fun i _ => 8 - (intOf i).toNat)
      case atStart => exact ⟨0, by omega, rfl, rfl⟩
      case round =>
        obtain ⟨j, hj, rfl, rfl⟩ := hrel
        by_cases hlt2 : j < 8
        · generalize hq : stps j (feeds (~~~ s) (l.take k) ^^^ l[k].toBitVec.setWidth 32) = q at *
          have HQ := Lib.hid hq
          clear hq
          by_cases hodd : q &&& 1#32 = 1#32
          · have ht := low_yes hodd
            have HS := Lib.hid (stp_odd q hodd)
            clear hodd
            go_wp2_with fail
            go_round
            case rel => exact ⟨j + 1, by omega, by go_num, by rw [stps, HQ.out, HS.out]⟩
            case measure => simp [intOf]; omega
          · have ht := low_no hodd
            have HS := Lib.hid (stp_even q hodd)
            clear hodd
            go_wp2_with fail
            go_round
            case rel => exact ⟨j + 1, by omega, by go_num, by rw [stps, HQ.out, HS.out, half32]⟩
            case measure => simp [intOf]; omega
        · rw [show j = 8 by omega]
          go_wp2_with fail
          go_round
          case rel => exact ⟨k + 1, by omega, by go_num, by rw [← HF.out]; rfl⟩
          case measure => simp [intOf]; omega
    · go_wp2_with fail
      go_ret
      obtain rfl : k = l.length := by omega
      exact ⟨by simp [more], rfl⟩

theorem ref_more_zero (a : Option Addr) (len cap : Nat) (l : List UInt8) (w : World) (hl : BytesAt w a l) (hlen : l.length = len) (hm : len ≤ maxLen) :
    Calls Try.prog 31 #[.int .u32 0, .slice a len cap] w fun e w' => e = .returned (.int .u32 (U32 (more 0#32 l))) ∧ w = w' :=
  ref_more_any 0#32 a len cap l w hl hlen hm

set_option maxHeartbeats 400000 in
theorem ref_sum_any (a : Option Addr) (len cap : Nat) (l : List UInt8) (w : World) (hl : BytesAt w a l) (hlen : l.length = len) (hm : len ≤ maxLen) :
    Calls Try.prog 32 #[.slice a len cap] w fun e w' => e = .returned (.int .u32 (U32 (more 0#32 l))) ∧ Below w.heap.size w w' := by
  have HL := Lib.hid hlen
  clear hlen
  go_enter Try.func32, Try.ntmps32
  go_wp2_with fail
  refine (ref_more_zero _ _ _ _ _ hl HL.out hm).mono ?_
  rintro e w1 ⟨rfl, rfl⟩
  go_wp2_with fail
  go_ret
  exact ⟨rfl, Below.refl _ _⟩



end Go.Proofs.Ytnojeiklgjhkgaa
