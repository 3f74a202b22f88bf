/- The walks through products of 128 bits and powers. -/
import Derived.Test.YtdokkhjgmhcpkaaRows
import Derived.Test.YtdokkhjgmhcpkaaBase
import Derived.Test.YtdokkhjgmhcpkaaShaPlain
namespace Go.Proofs.Ytdokkhjgmhcpkaa
open Go.RowKit

theorem and32 (x : Nat) (h : x < 2 ^ 64) : bits .and .u64 (x : Int) 4294967295 = ((x % 4294967296 : Nat) : Int) := by
  rw [bits_and_u64]
  have e : (BitVec.ofInt 64 (x : Int) &&& BitVec.ofInt 64 4294967295).toNat = x % 4294967296 := by
    rw [BitVec.toNat_and]
    have h1 : (BitVec.ofInt 64 (x : Int)).toNat = x := by rw [BitVec.ofInt_natCast, BitVec.toNat_ofNat]; omega
    have h2 : (BitVec.ofInt 64 4294967295).toNat = 2 ^ 32 - 1 := by decide
    rw [h1, h2, Nat.and_two_pow_sub_one_eq_mod]
  show ((BitVec.toNat _ : Nat) : Int) = _
  rw [e]
theorem wrap_mod (x : Nat) : IntKind.u64.wrap (x : Int) = ((x % 2 ^ 64 : Nat) : Int) := by
  simp [IntKind.wrap, IntKind.bits, IntKind.signed]
theorem wrap_mul (x y : Nat) : IntKind.u64.wrap ((x : Int) * (y : Int)) = ((x * y % 2 ^ 64 : Nat) : Int) := by
  rw [← wrap_mod]; norm_cast
theorem mul_split (x1 x0 y1 y0 P : Nat) : (x1 * P + x0) * (y1 * P + y0) = x1 * y1 * (P * P) + (x1 * y0 + x0 * y1) * P + x0 * y0 := by
  simp only [Nat.add_mul, Nat.mul_add]
  have e1 : x1 * P * (y1 * P) = x1 * y1 * (P * P) := Nat.mul_mul_mul_comm _ _ _ _
  have e2 : x1 * P * y0 = x1 * y0 * P := by rw [Nat.mul_right_comm]
  have e3 : x0 * (y1 * P) = x0 * y1 * P := by rw [Nat.mul_assoc]
  omega

set_option maxHeartbeats 400000 in
theorem mul64_any (x y : Nat) (w : World) (hx : x < 2 ^ 64) (hy : y < 2 ^ 64) :
    Calls Try.prog 76 #[.int .u64 (x : Int), .int .u64 (y : Int)] w fun e w' => e = .returned (.tuple #[.int .u64 ((x * y / 2 ^ 64 : Nat) : Int), .int .u64 ((x * y % 2 ^ 64 : Nat) : Int)]) ∧ w = w' := by
  obtain ⟨x1, hx1⟩ : ∃ k, k = x / 4294967296 := ⟨_, rfl⟩
  obtain ⟨x0, hx0⟩ : ∃ k, k = x % 4294967296 := ⟨_, rfl⟩
  obtain ⟨y1, hy1⟩ : ∃ k, k = y / 4294967296 := ⟨_, rfl⟩
  obtain ⟨y0, hy0⟩ : ∃ k, k = y % 4294967296 := ⟨_, rfl⟩
  have bd : ∀ p q : Nat, p ≤ 4294967295 → q ≤ 4294967295 → p * q ≤ 18446744065119617025 := fun p q h1 h2 => Nat.mul_le_mul h1 h2
  have b00 := bd x0 y0 (by omega) (by omega)
  have b10 := bd x1 y0 (by omega) (by omega)
  have b01 := bd x0 y1 (by omega) (by omega)
  have b11 := bd x1 y1 (by omega) (by omega)
  have hxy := mul_split x1 x0 y1 y0 4294967296
  rw [show x1 * 4294967296 + x0 = x by omega, show y1 * 4294967296 + y0 = y by omega] at hxy
  have m00 := wrap_mul x0 y0
  have m10 := wrap_mul x1 y0
  have m01 := wrap_mul x0 y1
  have m11 := wrap_mul x1 y1
  have mxy := wrap_mul x y
  obtain ⟨a, ha⟩ : ∃ a, a = x0 * y0 := ⟨_, rfl⟩
  obtain ⟨b, hb⟩ : ∃ a, a = x1 * y0 := ⟨_, rfl⟩
  obtain ⟨c, hc⟩ : ∃ a, a = x0 * y1 := ⟨_, rfl⟩
  obtain ⟨d, hd⟩ : ∃ a, a = x1 * y1 := ⟨_, rfl⟩
  rw [← ha] at b00 m00 hxy
  rw [← hb] at b10 m10 hxy
  rw [← hc] at b01 m01 hxy
  rw [← hd] at b11 m11 hxy
  rw [Nat.mod_eq_of_lt (by omega)] at m00 m10 m01 m11
  obtain ⟨t, ht⟩ : ∃ t, t = b + a / 4294967296 := ⟨_, rfl⟩
  obtain ⟨t0, ht0⟩ : ∃ k, k = t % 4294967296 := ⟨_, rfl⟩
  obtain ⟨t1, ht1⟩ : ∃ k, k = t / 4294967296 := ⟨_, rfl⟩
  obtain ⟨s, hs⟩ : ∃ s, s = t0 + c := ⟨_, rfl⟩
  obtain ⟨u, hu⟩ : ∃ u, u = d + t1 := ⟨_, rfl⟩
  obtain ⟨v, hv⟩ : ∃ v, v = u + s / 4294967296 := ⟨_, rfl⟩
  obtain ⟨r, hr⟩ : ∃ r, r = x * y % 2 ^ 64 := ⟨_, rfl⟩
  have HV : v = x * y / 2 ^ 64 := by rw [hxy]; omega
  have q1 : (x : Int) / 4294967296 = (x1 : Int) := by omega
  have q2 : (y : Int) / 4294967296 = (y1 : Int) := by omega
  have a1 := and32 x hx
  have a2 := and32 y hy
  rw [← hx0] at a1
  rw [← hy0] at a2
  have a3 := and32 t (by omega)
  rw [← ht0] at a3
  have w1 : IntKind.u64.wrap ((b : Int) + (a : Int) / 4294967296) = (t : Int) := by rw [show (b : Int) + (a : Int) / 4294967296 = ((t : Nat) : Int) by omega, wrap_mod]; omega
  have w2 : (t : Int) / 4294967296 = (t1 : Int) := by omega
  have w3 : IntKind.u64.wrap ((t0 : Int) + (c : Int)) = (s : Int) := by rw [show (t0 : Int) + (c : Int) = ((s : Nat) : Int) by omega, wrap_mod]; omega
  have w4 : IntKind.u64.wrap ((d : Int) + (t1 : Int)) = (u : Int) := by rw [show (d : Int) + (t1 : Int) = ((u : Nat) : Int) by omega, wrap_mod]; omega
  have w5 : IntKind.u64.wrap ((u : Int) + (s : Int) / 4294967296) = (v : Int) := by rw [show (u : Int) + (s : Int) / 4294967296 = ((v : Nat) : Int) by omega, wrap_mod]; omega
  rw [← HV, ← hr]
  rw [← hr] at mxy
  clear hx0 hx1 hy0 hy1 ha hb hc hd ht ht0 ht1 hs hu hv hr HV hxy bd
  go_enter Try.func76, Try.ntmps76
  go_wp2_with fail
  go_ret2
  exact ⟨rfl, rfl⟩

/-! ### The square, or the cube, of a number against another one -/
set_option maxHeartbeats 400000 in
theorem power_sq (y x : Nat) (w : World) (hy : y < 2 ^ 37) (hx : x < 65536) :
    Calls Try.prog 71 #[.int .u64 (y : Int), .int .u64 (x : Int), .bool false] w fun e w' => e = .returned (.bool (pwB false y x)) ∧ w = w' := by
  have hm := mul64_any y y w (by omega) (by omega)
  have hp : pwB false y x = decide (y * y ≤ x * 18446744073709551616) := rfl
  obtain ⟨h, hh⟩ : ∃ h, h = y * y / 2 ^ 64 := ⟨_, rfl⟩
  obtain ⟨l, hl⟩ : ∃ h, h = y * y % 2 ^ 64 := ⟨_, rfl⟩
  rw [← hh, ← hl] at hm
  obtain ⟨P, hP⟩ : ∃ P, P = y * y := ⟨_, rfl⟩
  rw [← hP] at hh hl hp
  have HM := Lib.hid hm
  clear hm hP
  by_cases h1 : h < x
  · have HR := Lib.hid (show pwB false y x = true by rw [hp]; simp; omega)
    have t1 : decide (h < x) = true := by simpa using h1
    clear hh hl hp
    go_enter Try.func71, Try.ntmps71
    go_wp2_with fail
    refine HM.out.mono ?_
    rintro e w' ⟨rfl, rfl⟩
    go_wp2_with fail
    go_ret
    exact ⟨by rw [HR.out]; rfl, rfl⟩
  · by_cases h2 : h = x ∧ l = 0
    · obtain ⟨rfl, rfl⟩ := h2
      have HR := Lib.hid (show pwB false y h = true by rw [hp]; simp; omega)
      clear hh hl hp
      go_enter Try.func71, Try.ntmps71
      go_wp2_with fail
      refine HM.out.mono ?_
      rintro e w' ⟨rfl, rfl⟩
      go_wp2_with fail
      go_ret
      exact ⟨by rw [HR.out]; rfl, rfl⟩
    · have HR := Lib.hid (show pwB false y x = false by rw [hp]; simp; omega)
      have t1 : decide (h < x) = false := by simpa using h1
      by_cases h3 : h = x
      · subst h3
        have t3 : ((l : Int) == 0) = false := by simp; omega
        clear hh hl hp h1 h2
        go_enter Try.func71, Try.ntmps71
        go_wp2_with fail
        refine HM.out.mono ?_
        rintro e w' ⟨rfl, rfl⟩
        go_wp2_with fail
        go_ret
        exact ⟨by rw [HR.out]; rfl, rfl⟩
      · have t3 : ((h : Int) == (x : Int)) = false := by simp; omega
        clear hh hl hp h1 h2
        go_enter Try.func71, Try.ntmps71
        go_wp2_with fail
        refine HM.out.mono ?_
        rintro e w' ⟨rfl, rfl⟩
        go_wp2_with fail
        go_ret
        exact ⟨by rw [HR.out]; rfl, rfl⟩
theorem cube_split (y h l a b C : Nat) (P : Nat) (hP : P = y * y) (hh : h = P / 18446744073709551616) (hl : l = P % 18446744073709551616) (ha : a = l * y / 18446744073709551616) (hb : b = l * y % 18446744073709551616) (hC : C = h * y + a) : y * y * y = C * 18446744073709551616 + b := by
  have e1 : P = h * 18446744073709551616 + l := by rw [hh, hl]; exact (Nat.div_add_mod' P 18446744073709551616).symm
  have e3 : l * y = a * 18446744073709551616 + b := by rw [ha, hb]; exact (Nat.div_add_mod' (l * y) 18446744073709551616).symm
  rw [← hP, e1, Nat.add_mul, Nat.mul_right_comm, e3, hC, Nat.add_mul, Nat.add_assoc]
set_option maxHeartbeats 400000 in
theorem power_cu (y x : Nat) (w : World) (hy : y < 2 ^ 37) (hx : x < 65536) :
    Calls Try.prog 71 #[.int .u64 (y : Int), .int .u64 (x : Int), .bool true] w fun e w' => e = .returned (.bool (pwB true y x)) ∧ w = w' := by
  have hm := mul64_any y y w (by omega) (by omega)
  have hp : pwB true y x = decide (y * y * y ≤ x * 79228162514264337593543950336) := rfl
  obtain ⟨h, hh⟩ : ∃ h, h = y * y / 2 ^ 64 := ⟨_, rfl⟩
  obtain ⟨l, hl⟩ : ∃ h, h = y * y % 2 ^ 64 := ⟨_, rfl⟩
  rw [← hh, ← hl] at hm
  have hm2 := mul64_any l y w (by omega) (by omega)
  obtain ⟨a, ha⟩ : ∃ h, h = l * y / 2 ^ 64 := ⟨_, rfl⟩
  obtain ⟨b, hb⟩ : ∃ h, h = l * y % 2 ^ 64 := ⟨_, rfl⟩
  rw [← ha, ← hb] at hm2
  have hyy : y * y ≤ 2 ^ 37 * 2 ^ 37 := Nat.mul_le_mul (by omega) (by omega)
  have hh2 : h ≤ 1024 := by omega
  have hhy : h * y ≤ 1024 * 2 ^ 37 := Nat.mul_le_mul (by omega) (by omega)
  have hly : l * y ≤ 2 ^ 64 * 2 ^ 37 := Nat.mul_le_mul (by omega) (by omega)
  obtain ⟨C, hC⟩ : ∃ C, C = h * y + a := ⟨_, rfl⟩
  have hcube := cube_split y h l a b C (y * y) rfl hh hl ha hb hC
  rw [hcube] at hp
  have k1 := wrap_mul h y
  rw [Nat.mod_eq_of_lt (by omega)] at k1
  obtain ⟨q, hq⟩ : ∃ q, q = h * y := ⟨_, rfl⟩
  rw [← hq] at k1 hC hhy
  have k2 : IntKind.u64.wrap ((q : Int) + (a : Int)) = (C : Int) := by rw [show (q : Int) + (a : Int) = ((C : Nat) : Int) by omega, wrap_mod]; omega
  have hCl : C < 2 ^ 48 := by omega
  have hbl : b < 2 ^ 64 := by omega
  obtain ⟨c1, hc1⟩ : ∃ k, k = C / 4294967296 := ⟨_, rfl⟩
  have k3 : (C : Int) / 4294967296 = (c1 : Int) := by omega
  obtain ⟨s, hs⟩ : ∃ k, k = C * 4294967296 % 18446744073709551616 := ⟨_, rfl⟩
  have k4 : (C : Int) * 4294967296 % 18446744073709551616 = (s : Int) := by omega
  have k5 : IntKind.u64.wrap ((C : Int) * 4294967296) = (s : Int) := by rw [show (C : Int) * 4294967296 = ((C * 4294967296 : Nat) : Int) by omega, wrap_mod, hs]
  have HM := Lib.hid hm
  have HM2 := Lib.hid hm2
  clear hm hm2 hh hl ha hb hC hcube hq hyy hly hhy
  by_cases h1 : c1 < x
  · have HR := Lib.hid (show pwB true y x = true by rw [hp]; exact decide_eq_true (by omega))
    have t1 : decide (c1 < x) = true := by simpa using h1
    clear hp hc1 hs
    go_enter Try.func71, Try.ntmps71
    go_wp2_with fail
    refine HM.out.mono ?_
    rintro e w' ⟨rfl, rfl⟩
    go_wp2_with fail
    refine HM2.out.mono ?_
    rintro e w' ⟨rfl, rfl⟩
    go_wp2_with fail
    go_ret
    exact ⟨by rw [HR.out]; rfl, rfl⟩
  · by_cases h2 : c1 = x
    · subst h2
      by_cases h3 : C % 4294967296 = 0
      · obtain rfl : s = 0 := by omega
        by_cases h4 : b = 0
        · subst h4
          have HR := Lib.hid (show pwB true y c1 = true by rw [hp]; exact decide_eq_true (by omega))
          clear hp hc1 h3 hs
          go_enter Try.func71, Try.ntmps71
          go_wp2_with fail
          refine HM.out.mono ?_
          rintro e w' ⟨rfl, rfl⟩
          go_wp2_with fail
          refine HM2.out.mono ?_
          rintro e w' ⟨rfl, rfl⟩
          go_wp2_with fail
          go_ret
          exact ⟨by rw [HR.out]; rfl, rfl⟩
        · have t4 : ((b : Int) == 0) = false := by simp; omega
          have HR := Lib.hid (show pwB true y c1 = false by rw [hp]; exact decide_eq_false (by omega))
          clear hp hc1 h3 hs
          go_enter Try.func71, Try.ntmps71
          go_wp2_with fail
          refine HM.out.mono ?_
          rintro e w' ⟨rfl, rfl⟩
          go_wp2_with fail
          refine HM2.out.mono ?_
          rintro e w' ⟨rfl, rfl⟩
          go_wp2_with fail
          go_ret
          exact ⟨by rw [HR.out]; rfl, rfl⟩
      · have t3 : ((s : Int) == 0) = false := by simp; omega
        have HR := Lib.hid (show pwB true y c1 = false by rw [hp]; exact decide_eq_false (by omega))
        clear hp hc1 h3 hs
        go_enter Try.func71, Try.ntmps71
        go_wp2_with fail
        refine HM.out.mono ?_
        rintro e w' ⟨rfl, rfl⟩
        go_wp2_with fail
        refine HM2.out.mono ?_
        rintro e w' ⟨rfl, rfl⟩
        go_wp2_with fail
        go_ret
        exact ⟨by rw [HR.out]; rfl, rfl⟩
    · have t1 : decide (c1 < x) = false := by simpa using h1
      have t2 : ((c1 : Int) == (x : Int)) = false := by simp; omega
      have HR := Lib.hid (show pwB true y x = false by rw [hp]; exact decide_eq_false (by omega))
      clear hp hc1 h1 h2 hs
      go_enter Try.func71, Try.ntmps71
      go_wp2_with fail
      refine HM.out.mono ?_
      rintro e w' ⟨rfl, rfl⟩
      go_wp2_with fail
      refine HM2.out.mono ?_
      rintro e w' ⟨rfl, rfl⟩
      go_wp2_with fail
      go_ret
      exact ⟨by rw [HR.out]; rfl, rfl⟩
end Go.Proofs.Ytdokkhjgmhcpkaa
