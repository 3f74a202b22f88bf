/- The walk through a block of the reference's sum. -/
import Derived.Test.YtdokkhjgmhcpkaaShaRefBegin
namespace Go.Proofs.Ytdokkhjgmhcpkaa
open Go.RowKit

theorem conv_U8 (c : UInt8) : U8 c % (4294967296 : Int) = U32 (c.toBitVec.setWidth 32) := by
  rw [← ofInt32_U8, show U8 c % (4294967296 : Int) = U8 c from by have := U8_lo c; have := U8_hi c; omega]
  have h : (U8 c) = ((c.toNat : Nat) : Int) := rfl
  rw [h, BitVec.ofInt_natCast, U32, BitVec.toNat_ofNat, Nat.mod_eq_of_lt]
  have := U8_hi c; rw [h] at this; omega
theorem shl16_U32 (a : BitVec 32) : U32 a * (65536 : Int) % (4294967296 : Int) = U32 (a <<< 16) := U32_shl a 16
theorem shl24_U32 (a : BitVec 32) : U32 a * (16777216 : Int) % (4294967296 : Int) = U32 (a <<< 24) := U32_shl a 24
theorem wpart4 (a b c d : BitVec 32) : (((0#32 <<< 8 ||| a) <<< 8 ||| b) <<< 8 ||| c) <<< 8 ||| d = a <<< 24 ||| b <<< 16 ||| c <<< 8 ||| d := by
  simp only [BitVec.shiftLeft_or_distrib, ← BitVec.shiftLeft_add]
  simp
theorem wpart_four (m : List UInt8) (p : Nat) (h : p + 3 < m.length) : wpart m p 4 = (m[p].toBitVec.setWidth 32) <<< 24 ||| (m[p + 1].toBitVec.setWidth 32) <<< 16 ||| (m[p + 2].toBitVec.setWidth 32) <<< 8 ||| m[p + 3].toBitVec.setWidth 32 := by
  rw [← wpart4]
  simp only [wpart, byt, List.getD_eq_getElem?_getD, Nat.add_zero]
  rw [List.getElem?_eq_getElem (by omega), List.getElem?_eq_getElem (by omega), List.getElem?_eq_getElem (by omega), List.getElem?_eq_getElem (by omega)]
  rfl
attribute [local go_sem] shl8_U32 shl16_U32 shl24_U32 conv_U8 ofInt32_U8 bits_xor_u32 bits_and_u32 bits_or_u32 ofInt_U32 addm_U32 add_U32 div8_U32 div1024_U32 not_u32

set_option maxHeartbeats 400000 in
theorem rrotr_any (x : BitVec 32) (n : Nat) (z : Int) (hz : z = (n : Int)) (hn : n ∈ rots) (w : World) :
    Calls Try.prog 70 #[.int .u32 (U32 x), .int .u64 z] w fun e w' => e = .returned (.int .u32 (U32 (rr x n))) ∧ w = w' := by
  subst hz
  simp only [rots, List.mem_cons, List.not_mem_nil, or_false] at hn
  rcases hn with rfl | rfl | rfl | rfl | rfl | rfl | rfl | rfl | rfl | rfl
  · go_enter Try.func70, Try.ntmps70
    go_wp2_with fail
    go_ret
    exact ⟨by rw [← rot_sh x 7 33554432 128 rfl rfl, BitVec.or_comm]; rfl, rfl⟩
  · go_enter Try.func70, Try.ntmps70
    go_wp2_with fail
    go_ret
    exact ⟨by rw [← rot_sh x 18 16384 262144 rfl rfl, BitVec.or_comm]; rfl, rfl⟩
  · go_enter Try.func70, Try.ntmps70
    go_wp2_with fail
    go_ret
    exact ⟨by rw [← rot_sh x 17 32768 131072 rfl rfl, BitVec.or_comm]; rfl, rfl⟩
  · go_enter Try.func70, Try.ntmps70
    go_wp2_with fail
    go_ret
    exact ⟨by rw [← rot_sh x 19 8192 524288 rfl rfl, BitVec.or_comm]; rfl, rfl⟩
  · go_enter Try.func70, Try.ntmps70
    go_wp2_with fail
    go_ret
    exact ⟨by rw [← rot_sh x 6 67108864 64 rfl rfl, BitVec.or_comm]; rfl, rfl⟩
  · go_enter Try.func70, Try.ntmps70
    go_wp2_with fail
    go_ret
    exact ⟨by rw [← rot_sh x 11 2097152 2048 rfl rfl, BitVec.or_comm]; rfl, rfl⟩
  · go_enter Try.func70, Try.ntmps70
    go_wp2_with fail
    go_ret
    exact ⟨by rw [← rot_sh x 25 128 33554432 rfl rfl, BitVec.or_comm]; rfl, rfl⟩
  · go_enter Try.func70, Try.ntmps70
    go_wp2_with fail
    go_ret
    exact ⟨by rw [← rot_sh x 2 1073741824 4 rfl rfl, BitVec.or_comm]; rfl, rfl⟩
  · go_enter Try.func70, Try.ntmps70
    go_wp2_with fail
    go_ret
    exact ⟨by rw [← rot_sh x 13 524288 8192 rfl rfl, BitVec.or_comm]; rfl, rfl⟩
  · go_enter Try.func70, Try.ntmps70
    go_wp2_with fail
    go_ret
    exact ⟨by rw [← rot_sh x 22 1024 4194304 rfl rfl, BitVec.or_comm]; rfl, rfl⟩
end Go.Proofs.Ytdokkhjgmhcpkaa
