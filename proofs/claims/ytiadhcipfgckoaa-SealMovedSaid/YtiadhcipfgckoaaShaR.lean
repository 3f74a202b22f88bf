/- Texts put together (merge.py): ShaRefNum, ShaRefHalf, ShaRefWords, ShaRefBegin, ShaRefRot. -/
import Derived.Test.YtiadhcipfgckoaaShaA
import Derived.Test.YtiadhcipfgckoaaShaBlock
/- The walks through the reference's products, powers and roots. -/
namespace Go.Proofs.Ytiadhcipfgckoaa
open Go.RowKit

theorem or_u64 (h l k : Nat) (hl : l < 2 ^ k) (hs : 2 ^ k * h + l < 2 ^ 64) : bits .or .u64 ((2 ^ k * h : Nat) : Int) (l : Int) = ((2 ^ k * h + l : Nat) : Int) := by
  rw [bits_or_u64]
  have e : (BitVec.ofInt 64 ((2 ^ k * h : Nat) : Int) ||| BitVec.ofInt 64 (l : Int)).toNat = 2 ^ k * h + l := by
    rw [BitVec.toNat_or, BitVec.ofInt_natCast, BitVec.ofInt_natCast, BitVec.toNat_ofNat, BitVec.toNat_ofNat, Nat.mod_eq_of_lt (by omega), Nat.mod_eq_of_lt (by omega), Nat.two_pow_add_eq_or_of_lt hl]
  show ((BitVec.toNat _ : Nat) : Int) = _
  rw [e]
set_option maxHeartbeats 400000 in
theorem wide_any (x y : Nat) (w : World) (hx : x < 2 ^ 64) (hy : y < 2 ^ 64) :
    Calls Try.prog 80 #[.int .u64 (x : Int), .int .u64 (y : Int)] w fun e w' => e = .returned (.tuple #[.int .u64 ((x * y / 2 ^ 64 : Nat) : Int), .int .u64 ((x * y % 2 ^ 64 : Nat) : Int)]) ∧ w = w' := by
  obtain ⟨x1, hx1⟩ : ∃ k, k = x / 4294967296 := ⟨_, rfl⟩
  obtain ⟨x0, hx0⟩ : ∃ k, k = x % 4294967296 := ⟨_, rfl⟩
  obtain ⟨y1, hy1⟩ : ∃ k, k = y / 4294967296 := ⟨_, rfl⟩
  obtain ⟨y0, hy0⟩ : ∃ k, k = y % 4294967296 := ⟨_, rfl⟩
  have bd : ∀ p q : Nat, p ≤ 4294967295 → q ≤ 4294967295 → p * q ≤ 18446744065119617025 := fun p q h1 h2 => Nat.mul_le_mul h1 h2
  have b00 := bd x0 y0 (by omega) (by omega)
  have b10 := bd x1 y0 (by omega) (by omega)
  have b01 := bd x0 y1 (by omega) (by omega)
  have b11 := bd x1 y1 (by omega) (by omega)
  have hxy := mul_split x1 x0 y1 y0 4294967296
  rw [show x1 * 4294967296 + x0 = x by omega, show y1 * 4294967296 + y0 = y by omega] at hxy
  have m00 := wrap_mul x0 y0
  have m10 := wrap_mul x1 y0
  have m01 := wrap_mul x0 y1
  have m11 := wrap_mul x1 y1
  obtain ⟨a, ha⟩ : ∃ a, a = x0 * y0 := ⟨_, rfl⟩
  obtain ⟨b, hb⟩ : ∃ a, a = x1 * y0 := ⟨_, rfl⟩
  obtain ⟨c, hc⟩ : ∃ a, a = x0 * y1 := ⟨_, rfl⟩
  obtain ⟨d, hd⟩ : ∃ a, a = x1 * y1 := ⟨_, rfl⟩
  rw [← ha] at b00 m00 hxy
  rw [← hb] at b10 m10 hxy
  rw [← hc] at b01 m01 hxy
  rw [← hd] at b11 m11 hxy
  rw [Nat.mod_eq_of_lt (by omega)] at m00 m10 m01 m11
  obtain ⟨t, ht⟩ : ∃ t, t = b + a / 4294967296 := ⟨_, rfl⟩
  obtain ⟨t0, ht0⟩ : ∃ k, k = t % 4294967296 := ⟨_, rfl⟩
  obtain ⟨t1, ht1⟩ : ∃ k, k = t / 4294967296 := ⟨_, rfl⟩
  obtain ⟨s, hs⟩ : ∃ s, s = c + t0 := ⟨_, rfl⟩
  obtain ⟨u, hu⟩ : ∃ u, u = d + t1 := ⟨_, rfl⟩
  obtain ⟨v, hv⟩ : ∃ v, v = u + s / 4294967296 := ⟨_, rfl⟩
  obtain ⟨a0, ha0⟩ : ∃ k, k = a % 4294967296 := ⟨_, rfl⟩
  obtain ⟨s0, hs0⟩ : ∃ k, k = s % 4294967296 := ⟨_, rfl⟩
  obtain ⟨r, hr⟩ : ∃ r, r = x * y % 2 ^ 64 := ⟨_, rfl⟩
  have HV : v = x * y / 2 ^ 64 := by rw [hxy]; omega
  have HR : r = 4294967296 * s0 + a0 := by rw [hr, hxy]; omega
  have q1 : (x : Int) / 4294967296 = (x1 : Int) := by omega
  have q2 : (y : Int) / 4294967296 = (y1 : Int) := by omega
  have a1 := and32 x hx
  have a2 := and32 y hy
  rw [← hx0] at a1
  rw [← hy0] at a2
  have a3 := and32 t (by omega)
  rw [← ht0] at a3
  have a4 := and32 a (by omega)
  rw [← ha0] at a4
  obtain ⟨z, hz⟩ : ∃ z, z = 4294967296 * s0 := ⟨_, rfl⟩
  have o1 := or_u64 s0 a0 32 (by omega) (by omega)
  rw [show 2 ^ 32 * s0 = z by omega, show z + a0 = r by omega] at o1
  have w1 : IntKind.u64.wrap ((b : Int) + (a : Int) / 4294967296) = (t : Int) := by rw [show (b : Int) + (a : Int) / 4294967296 = ((t : Nat) : Int) by omega, wrap_mod]; omega
  have w2 : (t : Int) / 4294967296 = (t1 : Int) := by omega
  have w3 : IntKind.u64.wrap ((c : Int) + (t0 : Int)) = (s : Int) := by rw [show (c : Int) + (t0 : Int) = ((s : Nat) : Int) by omega, wrap_mod]; omega
  have w4 : IntKind.u64.wrap ((d : Int) + (t1 : Int)) = (u : Int) := by rw [show (d : Int) + (t1 : Int) = ((u : Nat) : Int) by omega, wrap_mod]; omega
  have w5 : IntKind.u64.wrap ((u : Int) + (s : Int) / 4294967296) = (v : Int) := by rw [show (u : Int) + (s : Int) / 4294967296 = ((v : Nat) : Int) by omega, wrap_mod]; omega
  have w6 : (s : Int) * 4294967296 % 18446744073709551616 = (z : Int) := by omega
  have w7 : IntKind.u64.wrap ((s : Int) * 4294967296) = (z : Int) := by rw [show (s : Int) * 4294967296 = ((s * 4294967296 : Nat) : Int) by omega, wrap_mod]; omega
  rw [← HV, ← hr]
  clear hx0 hx1 hy0 hy1 ha hb hc hd ht ht0 ht1 hs hu hv hr HV HR hxy bd ha0 hs0 hz
  go_enter Try.func80, Try.ntmps80
  go_wp2_with fail
  go_ret2
  exact ⟨rfl, rfl⟩

set_option maxHeartbeats 400000 in
theorem square_any (y x : Nat) (w : World) (hy : y < 2 ^ 40) (hx : x < 65536) :
    Calls Try.prog 76 #[.int .u64 (y : Int), .int .u64 (x : Int)] w fun e w' => e = .returned (.bool (pwB false y x)) ∧ w = w' := by
  have hm := wide_any y y w (by omega) (by omega)
  have hp : pwB false y x = decide (y * y ≤ x * 18446744073709551616) := rfl
  obtain ⟨h, hh⟩ : ∃ h, h = y * y / 2 ^ 64 := ⟨_, rfl⟩
  obtain ⟨l, hl⟩ : ∃ h, h = y * y % 2 ^ 64 := ⟨_, rfl⟩
  rw [← hh, ← hl] at hm
  obtain ⟨P, hP⟩ : ∃ P, P = y * y := ⟨_, rfl⟩
  rw [← hP] at hh hl hp
  have HM := Lib.hid hm
  clear hm hP
  by_cases h1 : h < x
  · have HR := Lib.hid (show pwB false y x = true by rw [hp]; simp; omega)
    have t1 : decide (h < x) = true := by simpa using h1
    clear hh hl hp
    go_enter Try.func76, Try.ntmps76
    go_wp2_with fail
    refine HM.out.mono ?_
    rintro e w' ⟨rfl, rfl⟩
    go_wp2_with fail
    go_ret
    exact ⟨by rw [HR.out]; rfl, rfl⟩
  · by_cases h2 : h = x ∧ l = 0
    · obtain ⟨rfl, rfl⟩ := h2
      have HR := Lib.hid (show pwB false y h = true by rw [hp]; simp; omega)
      clear hh hl hp
      go_enter Try.func76, Try.ntmps76
      go_wp2_with fail
      refine HM.out.mono ?_
      rintro e w' ⟨rfl, rfl⟩
      go_wp2_with fail
      go_ret
      exact ⟨by rw [HR.out]; rfl, rfl⟩
    · have HR := Lib.hid (show pwB false y x = false by rw [hp]; simp; omega)
      have t1 : decide (h < x) = false := by simpa using h1
      by_cases h3 : h = x
      · subst h3
        have t3 : ((l : Int) == 0) = false := by simp; omega
        clear hh hl hp h1 h2
        go_enter Try.func76, Try.ntmps76
        go_wp2_with fail
        refine HM.out.mono ?_
        rintro e w' ⟨rfl, rfl⟩
        go_wp2_with fail
        go_ret
        exact ⟨by rw [HR.out]; rfl, rfl⟩
      · have t3 : ((h : Int) == (x : Int)) = false := by simp; omega
        clear hh hl hp h1 h2
        go_enter Try.func76, Try.ntmps76
        go_wp2_with fail
        refine HM.out.mono ?_
        rintro e w' ⟨rfl, rfl⟩
        go_wp2_with fail
        go_ret
        exact ⟨by rw [HR.out]; rfl, rfl⟩
set_option maxHeartbeats 400000 in
theorem cube_any (y x : Nat) (w : World) (hy : y < 2 ^ 37) (hx : x < 65536) :
    Calls Try.prog 75 #[.int .u64 (y : Int), .int .u64 (x : Int)] w fun e w' => e = .returned (.bool (pwB true y x)) ∧ w = w' := by
  have hm := wide_any y y w (by omega) (by omega)
  have hp : pwB true y x = decide (y * y * y ≤ x * 79228162514264337593543950336) := rfl
  obtain ⟨h, hh⟩ : ∃ h, h = y * y / 2 ^ 64 := ⟨_, rfl⟩
  obtain ⟨l, hl⟩ : ∃ h, h = y * y % 2 ^ 64 := ⟨_, rfl⟩
  rw [← hh, ← hl] at hm
  have hm2 := wide_any l y w (by omega) (by omega)
  obtain ⟨a, ha⟩ : ∃ h, h = l * y / 2 ^ 64 := ⟨_, rfl⟩
  obtain ⟨b, hb⟩ : ∃ h, h = l * y % 2 ^ 64 := ⟨_, rfl⟩
  rw [← ha, ← hb] at hm2
  have hyy : y * y ≤ 2 ^ 37 * 2 ^ 37 := Nat.mul_le_mul (by omega) (by omega)
  have hh2 : h ≤ 1024 := by omega
  have hhy : h * y ≤ 1024 * 2 ^ 37 := Nat.mul_le_mul (by omega) (by omega)
  have hly : l * y ≤ 2 ^ 64 * 2 ^ 37 := Nat.mul_le_mul (by omega) (by omega)
  obtain ⟨C, hC⟩ : ∃ C, C = h * y + a := ⟨_, rfl⟩
  have hcube := cube_split y h l a b C (y * y) rfl hh hl ha hb hC
  rw [hcube] at hp
  have k1 := wrap_mul h y
  rw [Nat.mod_eq_of_lt (by omega)] at k1
  obtain ⟨q, hq⟩ : ∃ q, q = h * y := ⟨_, rfl⟩
  rw [← hq] at k1 hC hhy
  have k2 : IntKind.u64.wrap ((q : Int) + (a : Int)) = (C : Int) := by rw [show (q : Int) + (a : Int) = ((C : Nat) : Int) by omega, wrap_mod]; omega
  have hCl : C < 2 ^ 48 := by omega
  have hbl : b < 2 ^ 64 := by omega
  obtain ⟨N, hN⟩ : ∃ k, k = x * 4294967296 := ⟨_, rfl⟩
  have k3 : (x : Int) * 4294967296 = (N : Int) := by omega
  have HM := Lib.hid hm
  have HM2 := Lib.hid hm2
  clear hm hm2 hh hl ha hb hC hcube hq hyy hly hhy
  by_cases h1 : C < N
  · have HR := Lib.hid (show pwB true y x = true by rw [hp]; exact decide_eq_true (by omega))
    have t1 : decide (C < N) = true := by simpa using h1
    clear hp hN
    go_enter Try.func75, Try.ntmps75
    go_wp2_with fail
    refine HM.out.mono ?_
    rintro e w' ⟨rfl, rfl⟩
    go_wp2_with fail
    refine HM2.out.mono ?_
    rintro e w' ⟨rfl, rfl⟩
    go_wp2_with fail
    refine HM2.out.mono ?_
    rintro e w' ⟨rfl, rfl⟩
    go_wp2_with fail
    go_ret
    exact ⟨by rw [HR.out]; rfl, rfl⟩
  · by_cases h2 : C = N
    · subst h2
      by_cases h4 : b = 0
      · subst h4
        have HR := Lib.hid (show pwB true y x = true by rw [hp]; exact decide_eq_true (by omega))
        clear hp hN
        go_enter Try.func75, Try.ntmps75
        go_wp2_with fail
        refine HM.out.mono ?_
        rintro e w' ⟨rfl, rfl⟩
        go_wp2_with fail
        refine HM2.out.mono ?_
        rintro e w' ⟨rfl, rfl⟩
        go_wp2_with fail
        refine HM2.out.mono ?_
        rintro e w' ⟨rfl, rfl⟩
        go_wp2_with fail
        go_ret
        exact ⟨by rw [HR.out]; rfl, rfl⟩
      · have t4 : ((b : Int) == 0) = false := by simp; omega
        have HR := Lib.hid (show pwB true y x = false by rw [hp]; exact decide_eq_false (by omega))
        clear hp hN
        go_enter Try.func75, Try.ntmps75
        go_wp2_with fail
        refine HM.out.mono ?_
        rintro e w' ⟨rfl, rfl⟩
        go_wp2_with fail
        refine HM2.out.mono ?_
        rintro e w' ⟨rfl, rfl⟩
        go_wp2_with fail
        refine HM2.out.mono ?_
        rintro e w' ⟨rfl, rfl⟩
        go_wp2_with fail
        go_ret
        exact ⟨by rw [HR.out]; rfl, rfl⟩
    · have t1 : decide (C < N) = false := by simpa using h1
      have t2 : ((C : Int) == (N : Int)) = false := by simp; omega
      have HR := Lib.hid (show pwB true y x = false by rw [hp]; exact decide_eq_false (by omega))
      clear hp hN h1 h2
      go_enter Try.func75, Try.ntmps75
      go_wp2_with fail
      refine HM.out.mono ?_
      rintro e w' ⟨rfl, rfl⟩
      go_wp2_with fail
      refine HM2.out.mono ?_
      rintro e w' ⟨rfl, rfl⟩
      go_wp2_with fail
      refine HM2.out.mono ?_
      rintro e w' ⟨rfl, rfl⟩
      go_wp2_with fail
      go_ret
      exact ⟨by rw [HR.out]; rfl, rfl⟩
end Go.Proofs.Ytiadhcipfgckoaa

/- The walk through the reference's roots, bit by bit. -/
namespace Go.Proofs.Ytiadhcipfgckoaa
open Go.RowKit

def tsB (third : Bool) (y n : Nat) : Bool := if third then decide (y < 68719476736) && pwB true y n else pwB false y n
def hfx (third : Bool) (n : Nat) : Nat → Nat
  | 0 => 0
  | k + 1 => if tsB third (hfx third n k + 2 ^ (39 - k)) n then hfx third n k + 2 ^ (39 - k) else hfx third n k
theorem hfx_low (third : Bool) (n : Nat) : ∀ k, k ≤ 40 → ∃ q, hfx third n k = 2 ^ (40 - k) * q ∧ hfx third n k + 2 ^ (40 - k) ≤ 2 ^ 40
  | 0, _ => ⟨0, rfl, by simp [hfx]⟩
  | k + 1, h => by
    obtain ⟨q, hq, hle⟩ := hfx_low third n k (by omega)
    have e : 2 ^ (40 - k) = 2 ^ (40 - (k + 1)) * 2 := by rw [show 40 - k = (40 - (k + 1)) + 1 by omega, Nat.pow_succ]
    have e2 : 39 - k = 40 - (k + 1) := by omega
    rw [hfx]
    split
    · refine ⟨2 * q + 1, ?_, ?_⟩
      · rw [hq, e, e2, Nat.mul_add, Nat.mul_one, Nat.mul_assoc]
      · rw [e2]; omega
    · refine ⟨2 * q, ?_, ?_⟩
      · rw [hq, e, Nat.mul_assoc]
      · omega
theorem hfx_k : (psLit.map fun x => BitVec.ofNat 32 (hfx true x 40)) = kVal := by decide +kernel
theorem hfx_h : ((psLit.take 8).map fun x => BitVec.ofNat 32 (hfx false x 40)) = hVal := by decide +kernel
theorem hfx_yes {third : Bool} {n k X Y p : Nat} (hX : X = hfx third n k) (hp : 2 ^ (39 - k) = p) (hY : Y = X + p) (h : tsB third Y n = true) : Y = hfx third n (k + 1) := by
  subst hX hp hY
  rw [hfx, if_pos h]
theorem hfx_no {third : Bool} {n k X Y p : Nat} (hX : X = hfx third n k) (hp : 2 ^ (39 - k) = p) (hY : Y = X + p) (h : tsB third Y n = false) : X = hfx third n (k + 1) := by
  subst hX hp hY
  rw [hfx, h]; rfl
theorem tsB_sq (Y n : Nat) (b : Bool) (h : pwB false Y n = b) : tsB false Y n = b := h
theorem tsB_cu (Y n : Nat) (b : Bool) (h : Y < 68719476736) (hb : pwB true Y n = b) : tsB true Y n = b := by
  rw [tsB, if_pos rfl, hb, decide_eq_true h]; rfl
theorem tsB_big (Y n : Nat) (h : ¬ Y < 68719476736) : tsB true Y n = false := by
  rw [tsB, if_pos rfl, decide_eq_false h]; rfl
def HfRel (w : World) (third : Bool) (n : Nat) (f : Nat) (x i : Value) (wr : World) : Prop :=
  ∃ (k : Nat) (z : Int) (X : Nat), f + k = 40 ∧ z = 39 - (k : Int) ∧ X = hfx third n k ∧ i = .int .i64 z ∧ x = .int .u64 (X : Int) ∧ w = wr
set_option maxHeartbeats 2000000 in
theorem half_any (n : Nat) (third : Bool) (w : World) (hn : n < 65536) :
    Calls Try.prog 66 #[.int .u64 (n : Int), .bool third] w fun e w' => e = .returned (.int .u64 (hfx third n 40 : Int)) ∧ w = w' := by
  go_enter Try.func66, Try.ntmps66
  go_wp2_with fail
  go_loopg [5, 6] 40 (HfRel w third n)
  case atStart => exact ⟨0, 39, 0, by omega, by omega, rfl, rfl, rfl, rfl⟩
  case round =>
    obtain ⟨k, z, X, hf, hz, hX, rfl, rfl, rfl⟩ := hrel
    have HF := Lib.hid hf
    by_cases hk : k < 40
    · obtain ⟨j, hj⟩ : ∃ j, j = 39 - k := ⟨_, rfl⟩
      obtain rfl : z = (j : Int) := by omega
      have hj40 : (j : Int) < 40 := by omega
      obtain ⟨p, hp⟩ : ∃ p, p = 2 ^ j := ⟨_, rfl⟩
      have hsh : IntKind.u64.wrap ((2 : Int) ^ j) = (p : Int) := by
        have hlt : 2 ^ j < 2 ^ 64 := Nat.pow_lt_pow_right (by omega) (by omega)
        rw [show (2 : Int) ^ j = ((2 ^ j : Nat) : Int) by norm_cast, wrap_mod, Nat.mod_eq_of_lt hlt, hp]
      obtain ⟨q, hq, hle⟩ := hfx_low third n k (by omega)
      have e40 : 40 - k = j + 1 := by omega
      rw [e40] at hq hle
      have hb : 2 ^ (j + 1) = 2 * p := by rw [hp, Nat.pow_succ, Nat.mul_comm]
      have hlt : X + 2 * p ≤ 1099511627776 := by rw [hX, ← hb]; exact hle
      have hp0 : 0 < p := by rw [hp]; exact Nat.two_pow_pos j
      have hor := or_u64 q p (j + 1) (by omega) (by rw [← hq, ← hX]; omega)
      rw [← hq, ← hX] at hor
      obtain ⟨Y, hY⟩ : ∃ Y, Y = X + p := ⟨_, rfl⟩
      rw [← hY] at hor
      have hY40 : Y < 2 ^ 40 := by omega
      have HX := Lib.hid hX
      have HJ := Lib.hid hj
      have HP := Lib.hid hp
      have HY := Lib.hid hY
      have HPJ := Lib.hid (show 2 ^ (39 - k) = p by rw [hp, hj])
      clear hX hj hp hY hq hle e40 hb hlt hp0 hf hz
      cases third with
      | false =>
        cases hb : pwB false Y n with
        | true =>
          have HB := Lib.hid hb
          clear hb
          go_wp2_with fail
          refine (square_any Y n _ hY40 hn).mono ?_
          rw [HB.out]
          rintro e w' ⟨rfl, rfl⟩
          go_wp2_with fail
          go_roundg (gk - 1)
          case rel => exact ⟨k + 1, (j : Int) - 1, Y, by have := HF.out; omega, by have := HJ.out; omega, hfx_yes HX.out HPJ.out HY.out (tsB_sq _ _ _ HB.out), rfl, rfl, rfl⟩
          case measure => have := HF.out; omega
        | false =>
          have HB := Lib.hid hb
          clear hb
          go_wp2_with fail
          refine (square_any Y n _ hY40 hn).mono ?_
          rw [HB.out]
          rintro e w' ⟨rfl, rfl⟩
          go_wp2_with fail
          go_roundg (gk - 1)
          case rel => exact ⟨k + 1, (j : Int) - 1, X, by have := HF.out; omega, by have := HJ.out; omega, hfx_no HX.out HPJ.out HY.out (tsB_sq _ _ _ HB.out), rfl, rfl, rfl⟩
          case measure => have := HF.out; omega
      | true =>
        by_cases h36 : Y < 68719476736
        · have t36 : decide ((Y : Int) < 68719476736) = true := by simp; omega
          cases hb : pwB true Y n with
          | true =>
            have HB := Lib.hid hb
            clear hb
            go_wp2_with fail
            refine (cube_any Y n _ (by omega) hn).mono ?_
            rw [HB.out]
            rintro e w' ⟨rfl, rfl⟩
            go_wp2_with fail
            go_roundg (gk - 1)
            case rel => exact ⟨k + 1, (j : Int) - 1, Y, by have := HF.out; omega, by have := HJ.out; omega, hfx_yes HX.out HPJ.out HY.out (tsB_cu _ _ _ h36 HB.out), rfl, rfl, rfl⟩
            case measure => have := HF.out; omega
          | false =>
            have HB := Lib.hid hb
            clear hb
            go_wp2_with fail
            refine (cube_any Y n _ (by omega) hn).mono ?_
            rw [HB.out]
            rintro e w' ⟨rfl, rfl⟩
            go_wp2_with fail
            go_roundg (gk - 1)
            case rel => exact ⟨k + 1, (j : Int) - 1, X, by have := HF.out; omega, by have := HJ.out; omega, hfx_no HX.out HPJ.out HY.out (tsB_cu _ _ _ h36 HB.out), rfl, rfl, rfl⟩
            case measure => have := HF.out; omega
        · have t36 : decide ((Y : Int) < 68719476736) = false := by simp; omega
          go_wp2_with fail
          go_roundg (gk - 1)
          case rel => exact ⟨k + 1, (j : Int) - 1, X, by have := HF.out; omega, by have := HJ.out; omega, hfx_no HX.out HPJ.out HY.out (tsB_big _ _ h36), rfl, rfl, rfl⟩
          case measure => have := HF.out; omega
    · obtain rfl : k = 40 := by omega
      obtain rfl : z = -1 := by omega
      have HX := Lib.hid hX
      clear hf hz hX
      go_wp2_with fail
      go_ret
      exact ⟨by rw [← HX.out]; rfl, rfl⟩
end Go.Proofs.Ytiadhcipfgckoaa

/- The walks through the reference's primes, and the words that it begins with. -/
namespace Go.Proofs.Ytiadhcipfgckoaa
open Go.RowKit

def okB (X : Nat) (l : List Nat) (j : Nat) : Bool := (l.take j).all fun p => X % p != 0
theorem okB_succ (X : Nat) (l : List Nat) (j : Nat) (h : j < l.length) : okB X l (j + 1) = (okB X l j && X % l[j] != 0) := by
  unfold okB
  rw [List.take_succ_eq_append_getElem h, List.all_append]
  simp
theorem okB_all (X : Nat) (l : List Nat) : okB X l l.length = l.all fun p => X % p != 0 := by unfold okB; rw [List.take_length]
def Pr1 (w : World) (n : Nat) (f : Nat) (l x : Value) (wr : World) : Prop :=
  ∃ (k X L : Nat) (pa : Option Addr) (pc : Nat), f + k = 311 ∧ X = k + 2 ∧ L = (ps k).length ∧ L ≤ n ∧ l = .slice pa L pc ∧ x = .int .u64 (X : Int) ∧ Own wr w.heap.size 23 1 pa (ps k).length pc ((ps k).map nv) ∧ Below w.heap.size w wr
def Pr2 (wq : World) (X : Nat) (l : List Nat) (f : Nat) (ok i : Value) (wr : World) : Prop :=
  ∃ j : Nat, f + j = l.length ∧ i = .int .i64 (j : Int) ∧ ok = .bool (okB X l j) ∧ wq = wr
set_option maxHeartbeats 1000000 in
set_option maxRecDepth 40000 in
theorem rprimes_any (n : Nat) (w : World) (hn : n ≤ 64) :
    Calls Try.prog 65 #[.int .i64 (n : Int)] w fun e w' => ∃ k a c, (ps k).length = n ∧ e = .returned (.slice a n c) ∧ Own w' w.heap.size 23 1 a n c ((ps k).map nv) ∧ Below w.heap.size w w' := by
  go_enter Try.func65, Try.ntmps65
  go_wp2_with fail
  go_loopg [3, 4] 311 (Pr1 w n)
  case atStart => exact ⟨0, 2, 0, none, 0, by omega, rfl, rfl, by omega, rfl, rfl, Own.nil _ _ _ _, Below.refl _ _⟩
  case round =>
    obtain ⟨k, X, L, pa, pc, hf, hX, hL, hLn, rfl, rfl, hown, hb⟩ := hrel
    have hpm := hown.le_max
    rw [← hL] at hpm
    unfold maxLen at hpm
    have hln : L ≤ k := by rw [hL]; exact ps_len k
    by_cases hlt : L < n
    · have tl : decide (L < n) = true := by simpa using hlt
      have hk : k < 310 := ps_lt (by omega)
      have hXl : X < 65536 := by omega
      have HF := Lib.hid hf
      have HX := Lib.hid hX
      have HL := Lib.hid hL
      clear hf hX hL
      obtain ⟨g0, rfl⟩ : ∃ g : Nat, g = gk := ⟨_, rfl⟩
      obtain ⟨wo, rfl⟩ : ∃ wo : World, wo = wr := ⟨_, rfl⟩
      go_wp2_with fail
      go_loopg [5, 6] L (Pr2 wo X (ps k))
      case atStart => exact ⟨0, by rw [← HL.out]; omega, rfl, rfl, rfl⟩
      case round =>
        obtain ⟨j, hf, rfl, rfl, rfl⟩ := hrel
        have hlen := HL.out
        by_cases hj : j < L
        · have tj : decide (j < L) = true := by simpa using hj
          have hjl : j < (ps k).length := by rw [← hlen]; exact hj
          obtain ⟨b, o, hpa, hc⟩ := hown.row j (by simpa using hjl)
          subst hpa
          obtain ⟨p, hp⟩ : ∃ p, p = (ps k)[j] := ⟨_, rfl⟩
          have hc' : wo.cell? ⟨b, o + j, none⟩ = some (.int .u64 (p : Int)) := by
            rw [hc, hp]; simp [nv]
          have hp2 : 2 ≤ p := by rw [hp]; exact (ps_two k _ (List.getElem_mem _)).1
          have hp2I : (2 : Int) ≤ (p : Int) := by omega
          have HS := Lib.hid (okB_succ X (ps k) j hjl)
          have HP := Lib.hid hp
          have HF2 := Lib.hid hf
          have HC := Lib.hid hlen
          clear hc hp hf hlen
          have td : ((X : Int) % (p : Int) != 0) = (X % p != 0) := by
            rw [Bool.eq_iff_iff]; simp; omega
          have fin : ∀ c : Bool, (okB X (ps k) j && X % p != 0) = c → Value.bool c = .bool (okB X (ps k) (j + 1)) := fun c h => by rw [HS.out, ← HP.out, h]
          have FIN := Lib.hid fin
          clear fin
          cases hok : okB X (ps k) j with
          | true =>
            cases hd : (X % p != 0) with
            | true =>
              rw [hd] at td
              have HQ := Lib.hid (FIN.out true (by rw [hok, hd]; rfl))
              clear hok hd
              go_wp2_with fail
              go_roundg (gk - 1)
              case rel => exact ⟨j + 1, by have := HF2.out; omega, by go_num, HQ.out, rfl⟩
              case measure => have hf := HF2.out; have := HC.out; omega
            | false =>
              rw [hd] at td
              have HQ := Lib.hid (FIN.out false (by rw [hok, hd]; rfl))
              clear hok hd
              go_wp2_with fail
              go_roundg (gk - 1)
              case rel => exact ⟨j + 1, by have := HF2.out; omega, by go_num, HQ.out, rfl⟩
              case measure => have hf := HF2.out; have := HC.out; omega
          | false =>
            have HQ := Lib.hid (FIN.out false (by rw [hok]; rfl))
            clear hok td
            go_wp2_with fail
            go_roundg (gk - 1)
            case rel => exact ⟨j + 1, by have := HF2.out; omega, by go_num, HQ.out, rfl⟩
            case measure => have hf := HF2.out; have := HC.out; omega
        · have tj : decide (j < L) = false := by simpa using hj
          have hall : okB X (ps k) j = (ps k).all fun p => X % p != 0 := by rw [show j = (ps k).length by omega, okB_all]
          have hstep : ps (k + 1) = if okB X (ps k) j then ps k ++ [X] else ps k := by
            have hX := HX.out
            rw [hall, ps, psStep, ← hX]
          have hsz := hb.size
          have HST := Lib.hid hstep
          clear hall hf hlen hstep
          cases hok : okB X (ps k) j with
          | true =>
            have HE := Lib.hid (show ps (k + 1) = ps k ++ [X] by rw [HST.out, hok]; rfl)
            clear hok
            have hown1 := hown
            rw [← HL.out] at hown1
            clear hown
            go_wp2_with (at_builtin; refine wpList_append_row rfl (.tmp 30) (.tmp 32) 104 rfl u64sT rfl (hown1.alloc _) rfl (RowAt.new' _ _ _ _ (by simp)) (by rfl) (by exact all_one _ rfl) (by unfold maxLen; omega) (by omega) (by simp; omega) ?_)
            intro pa' pc' w4 hown4 hg4
            have hb4 := (hown1.alloc (.cells #[Value.int .u64 (X : Int)] 23)).grown (hb.alloc hsz _) (Nat.le_refl _) hg4 (by simp; omega)
            clear hown1 hg4 hb
            go_wp2_with fail
            go_roundg (g0 - 1)
            case rel =>
              have hf := HF.out
              have hX := HX.out
              have e := HE.out
              have el : (ps (k + 1)).length = L + 1 := by rw [e, List.length_append, ← HL.out]; rfl
              refine ⟨k + 1, X + 1, L + 1, pa', pc', by omega, by omega, el.symm, by omega, rfl, by go_num, ?_, hb4⟩
              rw [el, e, List.map_append]; exact hown4
            case measure => have hf := HF.out; omega
          | false =>
            have HE := Lib.hid (show ps (k + 1) = ps k by rw [HST.out, hok]; rfl)
            clear hok
            go_wp2_with fail
            go_roundg (g0 - 1)
            case rel =>
              have hf := HF.out
              have hX := HX.out
              exact ⟨k + 1, X + 1, L, _, _, by omega, by omega, by rw [HE.out]; exact HL.out, hLn, rfl, by go_num, by rw [HE.out]; exact hown, hb⟩
            case measure => have hf := HF.out; omega
    · have tl : decide (L < n) = false := by simpa using hlt
      obtain rfl : L = n := by omega
      have HL := Lib.hid hL
      clear hf hX hL
      go_wp2_with fail
      go_ret
      refine ⟨k, pa, pc, HL.out.symm, rfl, ?_, hb⟩
      have := hown
      rw [← HL.out] at this
      exact this
end Go.Proofs.Ytiadhcipfgckoaa

/- The walks through the words that the reference begins with. -/
namespace Go.Proofs.Ytiadhcipfgckoaa
open Go.RowKit

def frF (third : Bool) (l : List Nat) (j : Nat) : BitVec 32 := BitVec.ofNat 32 (hfx third (l.getD j 0) 40)
structure FrI (w : World) (H n t : Nat) (ty : TypeId) (third : Bool) (l : List Nat) (pa : Option Addr) (pc : Nat) (wr : World) : Prop where
  res : Blk wr H (vA n fun _ => .int .u32 0) ty
  out : Blk wr (H + 1) (vA n fun j => if j < t then wv (frF third l j) else .int .u32 0) ty
  own : Own wr (H + 2) 23 1 pa n pc (l.map nv)
  below : Below H w wr
def Fr1 (w : World) (H n : Nat) (ty : TypeId) (third : Bool) (l : List Nat) (pa : Option Addr) (pc : Nat) (f : Nat) (i : Value) (wr : World) : Prop :=
  ∃ t : Nat, f + t = n ∧ i = .int .i64 (t : Int) ∧ FrI w H n t ty third l pa pc wr
theorem frF_h {k j : Nat} (h : (ps k).length = 8) (hj : j < 8) : frF false (ps k) j = hwd j := by
  have e : (ps k).map (fun x => BitVec.ofNat 32 (hfx false x 40)) = hVal := by rw [ps_take h (by omega), hfx_h]
  rw [hwd, ← e, frF, List.getD_eq_getElem?_getD, List.getD_eq_getElem?_getD, List.getElem?_map, List.getElem?_eq_getElem (by omega)]
  rfl
theorem frF_k {k j : Nat} (h : (ps k).length = 64) (hj : j < 64) : frF true (ps k) j = kwd j := by
  have e : (ps k).map (fun x => BitVec.ofNat 32 (hfx true x 40)) = kVal := by
    rw [ps_take h (by omega), ← hfx_k]; rfl
  rw [kwd, ← e, frF, List.getD_eq_getElem?_getD, List.getD_eq_getElem?_getD, List.getElem?_map, List.getElem?_eq_getElem (by omega)]
  rfl
set_option maxHeartbeats 1000000 in
set_option maxRecDepth 40000 in
theorem rfirst_any (w : World) : Calls Try.prog 42 #[] w fun e w' => e = .returned (.agg (vA 8 fun j => wv (hwd j))) ∧ Below w.heap.size w w' := by
  obtain ⟨H, hH⟩ : ∃ H, H = w.heap.size := ⟨_, rfl⟩
  rw [← hH]
  have HH := Lib.hid hH
  go_enter Try.func42, Try.ntmps42
  go_wp2_with fail
  refine (rprimes_any 8 _ (by omega)).mono ?_
  rintro e w1 ⟨k, pa, pc, hk, rfl, ho, hb⟩
  simp only [World.size_alloc] at ho hb
  have hI0 : FrI w H 8 0 74 false (ps k) pa pc w1 := by
    refine ⟨?_, ?_, by rw [hH]; exact ho, ?_⟩
    · have := (Blk.new2 w (vA 8 fun _ => .int .u32 0) 74 (.cells (vA 8 fun _ => .int .u32 0) 74)).below hb (by omega)
      rw [hH]; exact this
    · have := (Blk.new2' w (vA 8 fun _ => .int .u32 0) 74 (.cells (vA 8 fun _ => .int .u32 0) 74)).below hb (by omega)
      rw [hH]; exact this.ofV fun i _ => by simp
    · rw [hH]
      exact (((Below.refl _ _).alloc (Nat.le_refl _) _).alloc (by simp) _).trans (hb.mono (by omega))
  have hp : ∀ j, j < 8 → (ps k).getD j 0 < 65536 := fun j hj => by
    rw [ps_take hk (by omega)]
    revert j; decide
  have HK := Lib.hid hk
  rw [← hH]
  clear ho hb hk hH
  go_wp2_with fail
  go_loopg [3] 8 (Fr1 w H 8 74 false (ps k) pa pc)
  case atStart => exact ⟨0, by omega, rfl, hI0⟩
  case round =>
    clear hI0
    obtain ⟨t, hf, rfl, hI⟩ := hrel
    by_cases ht : t < 8
    · have tt : decide ((t : Int) < 8) = true := by simp; omega
      have htI : (t : Int) < 8 := by omega
      have HF := Lib.hid hf
      clear hf
      obtain ⟨b, o, rfl, hc⟩ := hI.own.row t (by rw [List.length_map, HK.out]; exact ht)
      obtain ⟨x, hx⟩ : ∃ x, x = (ps k).getD t 0 := ⟨_, rfl⟩
      have hc' : wr.cell? ⟨b, o + t, none⟩ = some (.int .u64 (x : Int)) := by
        rw [hc, hx, List.getElem_map, List.getD_eq_getElem?_getD, List.getElem?_eq_getElem (by rw [HK.out]; exact ht)]; rfl
      have hx6 : x < 65536 := by rw [hx]; exact hp t ht
      have HX := Lib.hid hx
      clear hc hx
      go_wp2_with fail
      refine (half_any x false _ hx6).mono ?_
      rintro e w' ⟨rfl, rfl⟩
      have hU := U32_nat (hfx false x 40)
      have f3 := hI.out.free
      have c3 := hI.out.atV (show t < 8 by omega) rfl
      go_wp2_with fail
      clear c3 f3 hc' hU
      go_roundg (gk - 1)
      case rel =>
        have hf := HF.out
        refine ⟨t + 1, by omega, by go_num, hI.res.other _ _ (by show H ≠ H + 1; omega), ?_, hI.own.setCell_lt _ _ (by show H + 1 < H + 2; omega), hI.below.setCell (by show H ≤ H + 1; omega) _⟩
        refine (hI.out.setV ht _).ofV fun j _ => ?_
        by_cases e : j = t
        · subst e; rw [if_pos rfl, if_pos (by omega), frF, ← HX.out]; rfl
        · rw [if_neg e]
          by_cases e2 : j < t
          · rw [if_pos e2, if_pos (by omega)]
          · rw [if_neg e2, if_neg (by omega)]
      case measure => have hf := HF.out; omega
    · obtain rfl : t = 8 := by omega
      have tt : decide (((8 : Nat) : Int) < 8) = false := by simp
      clear hf
      have hO : Blk wr (H + 1) (vA 8 fun j => wv (hwd j)) 74 := hI.out.ofV fun j hj => by rw [if_pos hj, frF_h HK.out hj]
      have hR := hI.res
      go_wp2_with (first | refine wpList_load_blk rfl 74 agg8 _ rfl rfl hO (vA_size _ _) ?_ | refine wpList_store_blk rfl 74 agg8 (.tmp 0) _ (cells := vA 8 fun j => wv (hwd j)) rfl rfl rfl hR (vA_size _ _) (vA_size _ _) (vA_one fun _ _ => rfl) ?_)
      refine post_blk rfl agg8 rfl (hR.setRow _) (vA_size _ _) rfl ⟨rfl, ?_⟩
      exact below_setRow hI.below (Nat.le_refl _) _
set_option maxHeartbeats 1000000 in
set_option maxRecDepth 40000 in
theorem rrounds_any (w : World) : Calls Try.prog 43 #[] w fun e w' => e = .returned (.agg (vA 64 fun j => wv (kwd j))) ∧ Below w.heap.size w w' := by
  obtain ⟨H, hH⟩ : ∃ H, H = w.heap.size := ⟨_, rfl⟩
  rw [← hH]
  have HH := Lib.hid hH
  go_enter Try.func43, Try.ntmps43
  go_wp2_with fail
  refine (rprimes_any 64 _ (by omega)).mono ?_
  rintro e w1 ⟨k, pa, pc, hk, rfl, ho, hb⟩
  simp only [World.size_alloc] at ho hb
  have hI0 : FrI w H 64 0 76 true (ps k) pa pc w1 := by
    refine ⟨?_, ?_, by rw [hH]; exact ho, ?_⟩
    · have := (Blk.new2 w (vA 64 fun _ => .int .u32 0) 76 (.cells (vA 64 fun _ => .int .u32 0) 76)).below hb (by omega)
      rw [hH]; exact this
    · have := (Blk.new2' w (vA 64 fun _ => .int .u32 0) 76 (.cells (vA 64 fun _ => .int .u32 0) 76)).below hb (by omega)
      rw [hH]; exact this.ofV fun i _ => by simp
    · rw [hH]
      exact (((Below.refl _ _).alloc (Nat.le_refl _) _).alloc (by simp) _).trans (hb.mono (by omega))
  have hp : ∀ j, j < 64 → (ps k).getD j 0 < 65536 := fun j hj => by
    rw [ps_take hk (by omega)]
    revert j; decide
  have HK := Lib.hid hk
  rw [← hH]
  clear ho hb hk hH
  go_wp2_with fail
  go_loopg [3] 64 (Fr1 w H 64 76 true (ps k) pa pc)
  case atStart => exact ⟨0, by omega, rfl, hI0⟩
  case round =>
    clear hI0
    obtain ⟨t, hf, rfl, hI⟩ := hrel
    by_cases ht : t < 64
    · have tt : decide ((t : Int) < 64) = true := by simp; omega
      have htI : (t : Int) < 64 := by omega
      have HF := Lib.hid hf
      clear hf
      obtain ⟨b, o, rfl, hc⟩ := hI.own.row t (by rw [List.length_map, HK.out]; exact ht)
      obtain ⟨x, hx⟩ : ∃ x, x = (ps k).getD t 0 := ⟨_, rfl⟩
      have hc' : wr.cell? ⟨b, o + t, none⟩ = some (.int .u64 (x : Int)) := by
        rw [hc, hx, List.getElem_map, List.getD_eq_getElem?_getD, List.getElem?_eq_getElem (by rw [HK.out]; exact ht)]; rfl
      have hx6 : x < 65536 := by rw [hx]; exact hp t ht
      have HX := Lib.hid hx
      clear hc hx
      go_wp2_with fail
      refine (half_any x true _ hx6).mono ?_
      rintro e w' ⟨rfl, rfl⟩
      have hU := U32_nat (hfx true x 40)
      have f3 := hI.out.free
      have c3 := hI.out.atV (show t < 64 by omega) rfl
      go_wp2_with fail
      clear c3 f3 hc' hU
      go_roundg (gk - 1)
      case rel =>
        have hf := HF.out
        refine ⟨t + 1, by omega, by go_num, hI.res.other _ _ (by show H ≠ H + 1; omega), ?_, hI.own.setCell_lt _ _ (by show H + 1 < H + 2; omega), hI.below.setCell (by show H ≤ H + 1; omega) _⟩
        refine (hI.out.setV ht _).ofV fun j _ => ?_
        by_cases e : j = t
        · subst e; rw [if_pos rfl, if_pos (by omega), frF, ← HX.out]; rfl
        · rw [if_neg e]
          by_cases e2 : j < t
          · rw [if_pos e2, if_pos (by omega)]
          · rw [if_neg e2, if_neg (by omega)]
      case measure => have hf := HF.out; omega
    · obtain rfl : t = 64 := by omega
      have tt : decide (((64 : Nat) : Int) < 64) = false := by simp
      clear hf
      have hO : Blk wr (H + 1) (vA 64 fun j => wv (kwd j)) 76 := hI.out.ofV fun j hj => by rw [if_pos hj, frF_k HK.out hj]
      have hR := hI.res
      go_wp2_with (first | refine wpList_load_blk rfl 76 agg64 _ rfl rfl hO (vA_size _ _) ?_ | refine wpList_store_blk rfl 76 agg64 (.tmp 0) _ (cells := vA 64 fun j => wv (kwd j)) rfl rfl rfl hR (vA_size _ _) (vA_size _ _) (vA_one fun _ _ => rfl) ?_)
      refine post_blk rfl agg64 rfl (hR.setRow _) (vA_size _ _) rfl ⟨rfl, ?_⟩
      exact below_setRow hI.below (Nat.le_refl _) _
end Go.Proofs.Ytiadhcipfgckoaa

/- The walk through a block of the reference's sum. -/
namespace Go.Proofs.Ytiadhcipfgckoaa
open Go.RowKit

theorem conv_U8 (c : UInt8) : U8 c % (4294967296 : Int) = U32 (c.toBitVec.setWidth 32) := by
  rw [← ofInt32_U8, show U8 c % (4294967296 : Int) = U8 c from by have := U8_lo c; have := U8_hi c; omega]
  have h : (U8 c) = ((c.toNat : Nat) : Int) := rfl
  rw [h, BitVec.ofInt_natCast, U32, BitVec.toNat_ofNat, Nat.mod_eq_of_lt]
  have := U8_hi c; rw [h] at this; omega
theorem shl16_U32 (a : BitVec 32) : U32 a * (65536 : Int) % (4294967296 : Int) = U32 (a <<< 16) := U32_shl a 16
theorem shl24_U32 (a : BitVec 32) : U32 a * (16777216 : Int) % (4294967296 : Int) = U32 (a <<< 24) := U32_shl a 24
theorem wpart4 (a b c d : BitVec 32) : (((0#32 <<< 8 ||| a) <<< 8 ||| b) <<< 8 ||| c) <<< 8 ||| d = a <<< 24 ||| b <<< 16 ||| c <<< 8 ||| d := by
  simp only [BitVec.shiftLeft_or_distrib, ← BitVec.shiftLeft_add]
  simp
theorem wpart_four (m : List UInt8) (p : Nat) (h : p + 3 < m.length) : wpart m p 4 = (m[p].toBitVec.setWidth 32) <<< 24 ||| (m[p + 1].toBitVec.setWidth 32) <<< 16 ||| (m[p + 2].toBitVec.setWidth 32) <<< 8 ||| m[p + 3].toBitVec.setWidth 32 := by
  rw [← wpart4]
  simp only [wpart, byt, List.getD_eq_getElem?_getD, Nat.add_zero]
  rw [List.getElem?_eq_getElem (by omega), List.getElem?_eq_getElem (by omega), List.getElem?_eq_getElem (by omega), List.getElem?_eq_getElem (by omega)]
  rfl
attribute [local go_sem] shl8_U32 shl16_U32 shl24_U32 conv_U8 ofInt32_U8 bits_xor_u32 bits_and_u32 bits_or_u32 ofInt_U32 addm_U32 add_U32 div8_U32 div1024_U32 not_u32

set_option maxHeartbeats 400000 in
theorem rrotr_any (x : BitVec 32) (n : Nat) (z : Int) (hz : z = (n : Int)) (hn : n ∈ rots) (w : World) :
    Calls Try.prog 67 #[.int .u32 (U32 x), .int .u64 z] w fun e w' => e = .returned (.int .u32 (U32 (rr x n))) ∧ w = w' := by
  subst hz
  simp only [rots, List.mem_cons, List.not_mem_nil, or_false] at hn
  rcases hn with rfl | rfl | rfl | rfl | rfl | rfl | rfl | rfl | rfl | rfl
  · go_enter Try.func67, Try.ntmps67
    go_wp2_with fail
    go_ret
    exact ⟨by rw [← rot_sh x 7 33554432 128 rfl rfl, BitVec.or_comm]; rfl, rfl⟩
  · go_enter Try.func67, Try.ntmps67
    go_wp2_with fail
    go_ret
    exact ⟨by rw [← rot_sh x 18 16384 262144 rfl rfl, BitVec.or_comm]; rfl, rfl⟩
  · go_enter Try.func67, Try.ntmps67
    go_wp2_with fail
    go_ret
    exact ⟨by rw [← rot_sh x 17 32768 131072 rfl rfl, BitVec.or_comm]; rfl, rfl⟩
  · go_enter Try.func67, Try.ntmps67
    go_wp2_with fail
    go_ret
    exact ⟨by rw [← rot_sh x 19 8192 524288 rfl rfl, BitVec.or_comm]; rfl, rfl⟩
  · go_enter Try.func67, Try.ntmps67
    go_wp2_with fail
    go_ret
    exact ⟨by rw [← rot_sh x 6 67108864 64 rfl rfl, BitVec.or_comm]; rfl, rfl⟩
  · go_enter Try.func67, Try.ntmps67
    go_wp2_with fail
    go_ret
    exact ⟨by rw [← rot_sh x 11 2097152 2048 rfl rfl, BitVec.or_comm]; rfl, rfl⟩
  · go_enter Try.func67, Try.ntmps67
    go_wp2_with fail
    go_ret
    exact ⟨by rw [← rot_sh x 25 128 33554432 rfl rfl, BitVec.or_comm]; rfl, rfl⟩
  · go_enter Try.func67, Try.ntmps67
    go_wp2_with fail
    go_ret
    exact ⟨by rw [← rot_sh x 2 1073741824 4 rfl rfl, BitVec.or_comm]; rfl, rfl⟩
  · go_enter Try.func67, Try.ntmps67
    go_wp2_with fail
    go_ret
    exact ⟨by rw [← rot_sh x 13 524288 8192 rfl rfl, BitVec.or_comm]; rfl, rfl⟩
  · go_enter Try.func67, Try.ntmps67
    go_wp2_with fail
    go_ret
    exact ⟨by rw [← rot_sh x 22 1024 4194304 rfl rfl, BitVec.or_comm]; rfl, rfl⟩
end Go.Proofs.Ytiadhcipfgckoaa

