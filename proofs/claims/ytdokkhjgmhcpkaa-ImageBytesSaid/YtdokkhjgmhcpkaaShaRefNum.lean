/- The walks through the reference's products, powers and roots. -/
import Derived.Test.YtdokkhjgmhcpkaaShaNum
import Derived.Test.YtdokkhjgmhcpkaaShaRoots
namespace Go.Proofs.Ytdokkhjgmhcpkaa
open Go.RowKit

theorem or_u64 (h l k : Nat) (hl : l < 2 ^ k) (hs : 2 ^ k * h + l < 2 ^ 64) : bits .or .u64 ((2 ^ k * h : Nat) : Int) (l : Int) = ((2 ^ k * h + l : Nat) : Int) := by
  rw [bits_or_u64]
  have e : (BitVec.ofInt 64 ((2 ^ k * h : Nat) : Int) ||| BitVec.ofInt 64 (l : Int)).toNat = 2 ^ k * h + l := by
    rw [BitVec.toNat_or, BitVec.ofInt_natCast, BitVec.ofInt_natCast, BitVec.toNat_ofNat, BitVec.toNat_ofNat, Nat.mod_eq_of_lt (by omega), Nat.mod_eq_of_lt (by omega), Nat.two_pow_add_eq_or_of_lt hl]
  show ((BitVec.toNat _ : Nat) : Int) = _
  rw [e]
set_option maxHeartbeats 400000 in
theorem wide_any (x y : Nat) (w : World) (hx : x < 2 ^ 64) (hy : y < 2 ^ 64) :
    Calls Try.prog 77 #[.int .u64 (x : Int), .int .u64 (y : Int)] w fun e w' => e = .returned (.tuple #[.int .u64 ((x * y / 2 ^ 64 : Nat) : Int), .int .u64 ((x * y % 2 ^ 64 : Nat) : Int)]) ∧ w = w' := by
  obtain ⟨x1, hx1⟩ : ∃ k, k = x / 4294967296 := ⟨_, rfl⟩
  obtain ⟨x0, hx0⟩ : ∃ k, k = x % 4294967296 := ⟨_, rfl⟩
  obtain ⟨y1, hy1⟩ : ∃ k, k = y / 4294967296 := ⟨_, rfl⟩
  obtain ⟨y0, hy0⟩ : ∃ k, k = y % 4294967296 := ⟨_, rfl⟩
  have bd : ∀ p q : Nat, p ≤ 4294967295 → q ≤ 4294967295 → p * q ≤ 18446744065119617025 := fun p q h1 h2 => Nat.mul_le_mul h1 h2
  have b00 := bd x0 y0 (by omega) (by omega)
  have b10 := bd x1 y0 (by omega) (by omega)
  have b01 := bd x0 y1 (by omega) (by omega)
  have b11 := bd x1 y1 (by omega) (by omega)
  have hxy := mul_split x1 x0 y1 y0 4294967296
  rw [show x1 * 4294967296 + x0 = x by omega, show y1 * 4294967296 + y0 = y by omega] at hxy
  have m00 := wrap_mul x0 y0
  have m10 := wrap_mul x1 y0
  have m01 := wrap_mul x0 y1
  have m11 := wrap_mul x1 y1
  obtain ⟨a, ha⟩ : ∃ a, a = x0 * y0 := ⟨_, rfl⟩
  obtain ⟨b, hb⟩ : ∃ a, a = x1 * y0 := ⟨_, rfl⟩
  obtain ⟨c, hc⟩ : ∃ a, a = x0 * y1 := ⟨_, rfl⟩
  obtain ⟨d, hd⟩ : ∃ a, a = x1 * y1 := ⟨_, rfl⟩
  rw [← ha] at b00 m00 hxy
  rw [← hb] at b10 m10 hxy
  rw [← hc] at b01 m01 hxy
  rw [← hd] at b11 m11 hxy
  rw [Nat.mod_eq_of_lt (by omega)] at m00 m10 m01 m11
  obtain ⟨t, ht⟩ : ∃ t, t = b + a / 4294967296 := ⟨_, rfl⟩
  obtain ⟨t0, ht0⟩ : ∃ k, k = t % 4294967296 := ⟨_, rfl⟩
  obtain ⟨t1, ht1⟩ : ∃ k, k = t / 4294967296 := ⟨_, rfl⟩
  obtain ⟨s, hs⟩ : ∃ s, s = c + t0 := ⟨_, rfl⟩
  obtain ⟨u, hu⟩ : ∃ u, u = d + t1 := ⟨_, rfl⟩
  obtain ⟨v, hv⟩ : ∃ v, v = u + s / 4294967296 := ⟨_, rfl⟩
  obtain ⟨a0, ha0⟩ : ∃ k, k = a % 4294967296 := ⟨_, rfl⟩
  obtain ⟨s0, hs0⟩ : ∃ k, k = s % 4294967296 := ⟨_, rfl⟩
  obtain ⟨r, hr⟩ : ∃ r, r = x * y % 2 ^ 64 := ⟨_, rfl⟩
  have HV : v = x * y / 2 ^ 64 := by rw [hxy]; omega
  have HR : r = 4294967296 * s0 + a0 := by rw [hr, hxy]; omega
  have q1 : (x : Int) / 4294967296 = (x1 : Int) := by omega
  have q2 : (y : Int) / 4294967296 = (y1 : Int) := by omega
  have a1 := and32 x hx
  have a2 := and32 y hy
  rw [← hx0] at a1
  rw [← hy0] at a2
  have a3 := and32 t (by omega)
  rw [← ht0] at a3
  have a4 := and32 a (by omega)
  rw [← ha0] at a4
  obtain ⟨z, hz⟩ : ∃ z, z = 4294967296 * s0 := ⟨_, rfl⟩
  have o1 := or_u64 s0 a0 32 (by omega) (by omega)
  rw [show 2 ^ 32 * s0 = z by omega, show z + a0 = r by omega] at o1
  have w1 : IntKind.u64.wrap ((b : Int) + (a : Int) / 4294967296) = (t : Int) := by rw [show (b : Int) + (a : Int) / 4294967296 = ((t : Nat) : Int) by omega, wrap_mod]; omega
  have w2 : (t : Int) / 4294967296 = (t1 : Int) := by omega
  have w3 : IntKind.u64.wrap ((c : Int) + (t0 : Int)) = (s : Int) := by rw [show (c : Int) + (t0 : Int) = ((s : Nat) : Int) by omega, wrap_mod]; omega
  have w4 : IntKind.u64.wrap ((d : Int) + (t1 : Int)) = (u : Int) := by rw [show (d : Int) + (t1 : Int) = ((u : Nat) : Int) by omega, wrap_mod]; omega
  have w5 : IntKind.u64.wrap ((u : Int) + (s : Int) / 4294967296) = (v : Int) := by rw [show (u : Int) + (s : Int) / 4294967296 = ((v : Nat) : Int) by omega, wrap_mod]; omega
  have w6 : (s : Int) * 4294967296 % 18446744073709551616 = (z : Int) := by omega
  have w7 : IntKind.u64.wrap ((s : Int) * 4294967296) = (z : Int) := by rw [show (s : Int) * 4294967296 = ((s * 4294967296 : Nat) : Int) by omega, wrap_mod]; omega
  rw [← HV, ← hr]
  clear hx0 hx1 hy0 hy1 ha hb hc hd ht ht0 ht1 hs hu hv hr HV HR hxy bd ha0 hs0 hz
  go_enter Try.func77, Try.ntmps77
  go_wp2_with fail
  go_ret2
  exact ⟨rfl, rfl⟩

set_option maxHeartbeats 400000 in
theorem square_any (y x : Nat) (w : World) (hy : y < 2 ^ 40) (hx : x < 65536) :
    Calls Try.prog 75 #[.int .u64 (y : Int), .int .u64 (x : Int)] w fun e w' => e = .returned (.bool (pwB false y x)) ∧ w = w' := by
  have hm := wide_any y y w (by omega) (by omega)
  have hp : pwB false y x = decide (y * y ≤ x * 18446744073709551616) := rfl
  obtain ⟨h, hh⟩ : ∃ h, h = y * y / 2 ^ 64 := ⟨_, rfl⟩
  obtain ⟨l, hl⟩ : ∃ h, h = y * y % 2 ^ 64 := ⟨_, rfl⟩
  rw [← hh, ← hl] at hm
  obtain ⟨P, hP⟩ : ∃ P, P = y * y := ⟨_, rfl⟩
  rw [← hP] at hh hl hp
  have HM := Lib.hid hm
  clear hm hP
  by_cases h1 : h < x
  · have HR := Lib.hid (show pwB false y x = true by rw [hp]; simp; omega)
    have t1 : decide (h < x) = true := by simpa using h1
    clear hh hl hp
    go_enter Try.func75, Try.ntmps75
    go_wp2_with fail
    refine HM.out.mono ?_
    rintro e w' ⟨rfl, rfl⟩
    go_wp2_with fail
    go_ret
    exact ⟨by rw [HR.out]; rfl, rfl⟩
  · by_cases h2 : h = x ∧ l = 0
    · obtain ⟨rfl, rfl⟩ := h2
      have HR := Lib.hid (show pwB false y h = true by rw [hp]; simp; omega)
      clear hh hl hp
      go_enter Try.func75, Try.ntmps75
      go_wp2_with fail
      refine HM.out.mono ?_
      rintro e w' ⟨rfl, rfl⟩
      go_wp2_with fail
      go_ret
      exact ⟨by rw [HR.out]; rfl, rfl⟩
    · have HR := Lib.hid (show pwB false y x = false by rw [hp]; simp; omega)
      have t1 : decide (h < x) = false := by simpa using h1
      by_cases h3 : h = x
      · subst h3
        have t3 : ((l : Int) == 0) = false := by simp; omega
        clear hh hl hp h1 h2
        go_enter Try.func75, Try.ntmps75
        go_wp2_with fail
        refine HM.out.mono ?_
        rintro e w' ⟨rfl, rfl⟩
        go_wp2_with fail
        go_ret
        exact ⟨by rw [HR.out]; rfl, rfl⟩
      · have t3 : ((h : Int) == (x : Int)) = false := by simp; omega
        clear hh hl hp h1 h2
        go_enter Try.func75, Try.ntmps75
        go_wp2_with fail
        refine HM.out.mono ?_
        rintro e w' ⟨rfl, rfl⟩
        go_wp2_with fail
        go_ret
        exact ⟨by rw [HR.out]; rfl, rfl⟩
set_option maxHeartbeats 400000 in
theorem cube_any (y x : Nat) (w : World) (hy : y < 2 ^ 37) (hx : x < 65536) :
    Calls Try.prog 74 #[.int .u64 (y : Int), .int .u64 (x : Int)] w fun e w' => e = .returned (.bool (pwB true y x)) ∧ w = w' := by
  have hm := wide_any y y w (by omega) (by omega)
  have hp : pwB true y x = decide (y * y * y ≤ x * 79228162514264337593543950336) := rfl
  obtain ⟨h, hh⟩ : ∃ h, h = y * y / 2 ^ 64 := ⟨_, rfl⟩
  obtain ⟨l, hl⟩ : ∃ h, h = y * y % 2 ^ 64 := ⟨_, rfl⟩
  rw [← hh, ← hl] at hm
  have hm2 := wide_any l y w (by omega) (by omega)
  obtain ⟨a, ha⟩ : ∃ h, h = l * y / 2 ^ 64 := ⟨_, rfl⟩
  obtain ⟨b, hb⟩ : ∃ h, h = l * y % 2 ^ 64 := ⟨_, rfl⟩
  rw [← ha, ← hb] at hm2
  have hyy : y * y ≤ 2 ^ 37 * 2 ^ 37 := Nat.mul_le_mul (by omega) (by omega)
  have hh2 : h ≤ 1024 := by omega
  have hhy : h * y ≤ 1024 * 2 ^ 37 := Nat.mul_le_mul (by omega) (by omega)
  have hly : l * y ≤ 2 ^ 64 * 2 ^ 37 := Nat.mul_le_mul (by omega) (by omega)
  obtain ⟨C, hC⟩ : ∃ C, C = h * y + a := ⟨_, rfl⟩
  have hcube := cube_split y h l a b C (y * y) rfl hh hl ha hb hC
  rw [hcube] at hp
  have k1 := wrap_mul h y
  rw [Nat.mod_eq_of_lt (by omega)] at k1
  obtain ⟨q, hq⟩ : ∃ q, q = h * y := ⟨_, rfl⟩
  rw [← hq] at k1 hC hhy
  have k2 : IntKind.u64.wrap ((q : Int) + (a : Int)) = (C : Int) := by rw [show (q : Int) + (a : Int) = ((C : Nat) : Int) by omega, wrap_mod]; omega
  have hCl : C < 2 ^ 48 := by omega
  have hbl : b < 2 ^ 64 := by omega
  obtain ⟨N, hN⟩ : ∃ k, k = x * 4294967296 := ⟨_, rfl⟩
  have k3 : (x : Int) * 4294967296 = (N : Int) := by omega
  have HM := Lib.hid hm
  have HM2 := Lib.hid hm2
  clear hm hm2 hh hl ha hb hC hcube hq hyy hly hhy
  by_cases h1 : C < N
  · have HR := Lib.hid (show pwB true y x = true by rw [hp]; exact decide_eq_true (by omega))
    have t1 : decide (C < N) = true := by simpa using h1
    clear hp hN
    go_enter Try.func74, Try.ntmps74
    go_wp2_with fail
    refine HM.out.mono ?_
    rintro e w' ⟨rfl, rfl⟩
    go_wp2_with fail
    refine HM2.out.mono ?_
    rintro e w' ⟨rfl, rfl⟩
    go_wp2_with fail
    refine HM2.out.mono ?_
    rintro e w' ⟨rfl, rfl⟩
    go_wp2_with fail
    go_ret
    exact ⟨by rw [HR.out]; rfl, rfl⟩
  · by_cases h2 : C = N
    · subst h2
      by_cases h4 : b = 0
      · subst h4
        have HR := Lib.hid (show pwB true y x = true by rw [hp]; exact decide_eq_true (by omega))
        clear hp hN
        go_enter Try.func74, Try.ntmps74
        go_wp2_with fail
        refine HM.out.mono ?_
        rintro e w' ⟨rfl, rfl⟩
        go_wp2_with fail
        refine HM2.out.mono ?_
        rintro e w' ⟨rfl, rfl⟩
        go_wp2_with fail
        refine HM2.out.mono ?_
        rintro e w' ⟨rfl, rfl⟩
        go_wp2_with fail
        go_ret
        exact ⟨by rw [HR.out]; rfl, rfl⟩
      · have t4 : ((b : Int) == 0) = false := by simp; omega
        have HR := Lib.hid (show pwB true y x = false by rw [hp]; exact decide_eq_false (by omega))
        clear hp hN
        go_enter Try.func74, Try.ntmps74
        go_wp2_with fail
        refine HM.out.mono ?_
        rintro e w' ⟨rfl, rfl⟩
        go_wp2_with fail
        refine HM2.out.mono ?_
        rintro e w' ⟨rfl, rfl⟩
        go_wp2_with fail
        refine HM2.out.mono ?_
        rintro e w' ⟨rfl, rfl⟩
        go_wp2_with fail
        go_ret
        exact ⟨by rw [HR.out]; rfl, rfl⟩
    · have t1 : decide (C < N) = false := by simpa using h1
      have t2 : ((C : Int) == (N : Int)) = false := by simp; omega
      have HR := Lib.hid (show pwB true y x = false by rw [hp]; exact decide_eq_false (by omega))
      clear hp hN h1 h2
      go_enter Try.func74, Try.ntmps74
      go_wp2_with fail
      refine HM.out.mono ?_
      rintro e w' ⟨rfl, rfl⟩
      go_wp2_with fail
      refine HM2.out.mono ?_
      rintro e w' ⟨rfl, rfl⟩
      go_wp2_with fail
      refine HM2.out.mono ?_
      rintro e w' ⟨rfl, rfl⟩
      go_wp2_with fail
      go_ret
      exact ⟨by rw [HR.out]; rfl, rfl⟩
end Go.Proofs.Ytdokkhjgmhcpkaa
