/- The walk through the reference's roots, bit by bit. -/
import Derived.Test.YtdokkhjgmhcpkaaShaRefNum
namespace Go.Proofs.Ytdokkhjgmhcpkaa
open Go.RowKit

def tsB (third : Bool) (y n : Nat) : Bool := if third then decide (y < 68719476736) && pwB true y n else pwB false y n
def hfx (third : Bool) (n : Nat) : Nat → Nat
  | 0 => 0
  | k + 1 => if tsB third (hfx third n k + 2 ^ (39 - k)) n then hfx third n k + 2 ^ (39 - k) else hfx third n k
theorem hfx_low (third : Bool) (n : Nat) : ∀ k, k ≤ 40 → ∃ q, hfx third n k = 2 ^ (40 - k) * q ∧ hfx third n k + 2 ^ (40 - k) ≤ 2 ^ 40
  | 0, _ => ⟨0, rfl, by simp [hfx]⟩
  | k + 1, h => by
    obtain ⟨q, hq, hle⟩ := hfx_low third n k (by omega)
    have e : 2 ^ (40 - k) = 2 ^ (40 - (k + 1)) * 2 := by rw [show 40 - k = (40 - (k + 1)) + 1 by omega, Nat.pow_succ]
    have e2 : 39 - k = 40 - (k + 1) := by omega
    rw [hfx]
    split
    · refine ⟨2 * q + 1, ?_, ?_⟩
      · rw [hq, e, e2, Nat.mul_add, Nat.mul_one, Nat.mul_assoc]
      · rw [e2]; omega
    · refine ⟨2 * q, ?_, ?_⟩
      · rw [hq, e, Nat.mul_assoc]
      · omega
theorem hfx_k : (psLit.map fun x => BitVec.ofNat 32 (hfx true x 40)) = kVal := by decide +kernel
theorem hfx_h : ((psLit.take 8).map fun x => BitVec.ofNat 32 (hfx false x 40)) = hVal := by decide +kernel
theorem hfx_yes {third : Bool} {n k X Y p : Nat} (hX : X = hfx third n k) (hp : 2 ^ (39 - k) = p) (hY : Y = X + p) (h : tsB third Y n = true) : Y = hfx third n (k + 1) := by
  subst hX hp hY
  rw [hfx, if_pos h]
theorem hfx_no {third : Bool} {n k X Y p : Nat} (hX : X = hfx third n k) (hp : 2 ^ (39 - k) = p) (hY : Y = X + p) (h : tsB third Y n = false) : X = hfx third n (k + 1) := by
  subst hX hp hY
  rw [hfx, h]; rfl
theorem tsB_sq (Y n : Nat) (b : Bool) (h : pwB false Y n = b) : tsB false Y n = b := h
theorem tsB_cu (Y n : Nat) (b : Bool) (h : Y < 68719476736) (hb : pwB true Y n = b) : tsB true Y n = b := by
  rw [tsB, if_pos rfl, hb, decide_eq_true h]; rfl
theorem tsB_big (Y n : Nat) (h : ¬ Y < 68719476736) : tsB true Y n = false := by
  rw [tsB, if_pos rfl, decide_eq_false h]; rfl
def HfRel (w : World) (third : Bool) (n : Nat) (f : Nat) (x i : Value) (wr : World) : Prop :=
  ∃ (k : Nat) (z : Int) (X : Nat), f + k = 40 ∧ z = 39 - (k : Int) ∧ X = hfx third n k ∧ i = .int .i64 z ∧ x = .int .u64 (X : Int) ∧ w = wr
set_option maxHeartbeats 2000000 in
theorem half_any (n : Nat) (third : Bool) (w : World) (hn : n < 65536) :
    Calls Try.prog 69 #[.int .u64 (n : Int), .bool third] w fun e w' => e = .returned (.int .u64 (hfx third n 40 : Int)) ∧ w = w' := by
  go_enter Try.func69, Try.ntmps69
  go_wp2_with fail
  go_loopg [5, 6] 40 (HfRel w third n)
  case atStart => exact ⟨0, 39, 0, by omega, by omega, rfl, rfl, rfl, rfl⟩
  case round =>
    obtain ⟨k, z, X, hf, hz, hX, rfl, rfl, rfl⟩ := hrel
    have HF := Lib.hid hf
    by_cases hk : k < 40
    · obtain ⟨j, hj⟩ : ∃ j, j = 39 - k := ⟨_, rfl⟩
      obtain rfl : z = (j : Int) := by omega
      have hj40 : (j : Int) < 40 := by omega
      obtain ⟨p, hp⟩ : ∃ p, p = 2 ^ j := ⟨_, rfl⟩
      have hsh : IntKind.u64.wrap ((2 : Int) ^ j) = (p : Int) := by
        have hlt : 2 ^ j < 2 ^ 64 := Nat.pow_lt_pow_right (by omega) (by omega)
        rw [show (2 : Int) ^ j = ((2 ^ j : Nat) : Int) by norm_cast, wrap_mod, Nat.mod_eq_of_lt hlt, hp]
      obtain ⟨q, hq, hle⟩ := hfx_low third n k (by omega)
      have e40 : 40 - k = j + 1 := by omega
      rw [e40] at hq hle
      have hb : 2 ^ (j + 1) = 2 * p := by rw [hp, Nat.pow_succ, Nat.mul_comm]
      have hlt : X + 2 * p ≤ 1099511627776 := by rw [hX, ← hb]; exact hle
      have hp0 : 0 < p := by rw [hp]; exact Nat.two_pow_pos j
      have hor := or_u64 q p (j + 1) (by omega) (by rw [← hq, ← hX]; omega)
      rw [← hq, ← hX] at hor
      obtain ⟨Y, hY⟩ : ∃ Y, Y = X + p := ⟨_, rfl⟩
      rw [← hY] at hor
      have hY40 : Y < 2 ^ 40 := by omega
      have HX := Lib.hid hX
      have HJ := Lib.hid hj
      have HP := Lib.hid hp
      have HY := Lib.hid hY
      have HPJ := Lib.hid (show 2 ^ (39 - k) = p by rw [hp, hj])
      clear hX hj hp hY hq hle e40 hb hlt hp0 hf hz
      cases third with
      | false =>
        cases hb : pwB false Y n with
        | true =>
          have HB := Lib.hid hb
          clear hb
          go_wp2_with fail
          refine (square_any Y n _ hY40 hn).mono ?_
          rw [HB.out]
          rintro e w' ⟨rfl, rfl⟩
          go_wp2_with fail
          go_roundg (gk - 1)
          case rel => exact ⟨k + 1, (j : Int) - 1, Y, by have := HF.out; omega, by have := HJ.out; omega, hfx_yes HX.out HPJ.out HY.out (tsB_sq _ _ _ HB.out), rfl, rfl, rfl⟩
          case measure => have := HF.out; omega
        | false =>
          have HB := Lib.hid hb
          clear hb
          go_wp2_with fail
          refine (square_any Y n _ hY40 hn).mono ?_
          rw [HB.out]
          rintro e w' ⟨rfl, rfl⟩
          go_wp2_with fail
          go_roundg (gk - 1)
          case rel => exact ⟨k + 1, (j : Int) - 1, X, by have := HF.out; omega, by have := HJ.out; omega, hfx_no HX.out HPJ.out HY.out (tsB_sq _ _ _ HB.out), rfl, rfl, rfl⟩
          case measure => have := HF.out; omega
      | true =>
        by_cases h36 : Y < 68719476736
        · have t36 : decide ((Y : Int) < 68719476736) = true := by simp; omega
          cases hb : pwB true Y n with
          | true =>
            have HB := Lib.hid hb
            clear hb
            go_wp2_with fail
            refine (cube_any Y n _ (by omega) hn).mono ?_
            rw [HB.out]
            rintro e w' ⟨rfl, rfl⟩
            go_wp2_with fail
            go_roundg (gk - 1)
            case rel => exact ⟨k + 1, (j : Int) - 1, Y, by have := HF.out; omega, by have := HJ.out; omega, hfx_yes HX.out HPJ.out HY.out (tsB_cu _ _ _ h36 HB.out), rfl, rfl, rfl⟩
            case measure => have := HF.out; omega
          | false =>
            have HB := Lib.hid hb
            clear hb
            go_wp2_with fail
            refine (cube_any Y n _ (by omega) hn).mono ?_
            rw [HB.out]
            rintro e w' ⟨rfl, rfl⟩
            go_wp2_with fail
            go_roundg (gk - 1)
            case rel => exact ⟨k + 1, (j : Int) - 1, X, by have := HF.out; omega, by have := HJ.out; omega, hfx_no HX.out HPJ.out HY.out (tsB_cu _ _ _ h36 HB.out), rfl, rfl, rfl⟩
            case measure => have := HF.out; omega
        · have t36 : decide ((Y : Int) < 68719476736) = false := by simp; omega
          go_wp2_with fail
          go_roundg (gk - 1)
          case rel => exact ⟨k + 1, (j : Int) - 1, X, by have := HF.out; omega, by have := HJ.out; omega, hfx_no HX.out HPJ.out HY.out (tsB_big _ _ h36), rfl, rfl, rfl⟩
          case measure => have := HF.out; omega
    · obtain rfl : k = 40 := by omega
      obtain rfl : z = -1 := by omega
      have HX := Lib.hid hX
      clear hf hz hX
      go_wp2_with fail
      go_ret
      exact ⟨by rw [← HX.out]; rfl, rfl⟩
end Go.Proofs.Ytdokkhjgmhcpkaa
