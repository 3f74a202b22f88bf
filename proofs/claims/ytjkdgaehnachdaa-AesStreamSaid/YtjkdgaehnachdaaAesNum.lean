/- The walks through products and the box, of the program and of its reference. -/
import Derived.Test.YtjkdgaehnachdaaRows
import Derived.Test.YtjkdgaehnachdaaBase
import Derived.Test.YtjkdgaehnachdaaAesPlain
namespace Go.Proofs.Ytjkdgaehnachdaa
open Go.RowKit

/-! ### Bytes as numbers -/
def B8 (a : BitVec 8) : Int := a.toNat
theorem B8_lo (a : BitVec 8) : 0 ≤ B8 a := by simp [B8]
theorem B8_hi (a : BitVec 8) : B8 a ≤ 255 := by have := a.isLt; simp only [B8]; omega
theorem B8_inj {a b : BitVec 8} : B8 a = B8 b ↔ a = b := by
  simp only [B8]
  constructor
  · intro h; exact BitVec.eq_of_toNat_eq (by exact_mod_cast h)
  · rintro rfl; rfl
theorem B8_beq (a b : BitVec 8) : (B8 a == B8 b) = (a == b) := by
  rw [Bool.eq_iff_iff]; simp [B8_inj]
theorem B8_bne (a b : BitVec 8) : (B8 a != B8 b) = (a != b) := by
  simp [bne, B8_beq]
theorem ofInt_B8 (a : BitVec 8) : BitVec.ofInt 8 (B8 a) = a := by simp [B8]
theorem wrap_B8 (a : BitVec 8) : IntKind.u8.wrap (a.toNat : Int) = B8 a := by
  rw [IntWalk.u8_in]; rfl
  have := a.isLt; omega
theorem bits_xor_B8 (x y : Int) : bits .xor .u8 x y = B8 (BitVec.ofInt 8 x ^^^ BitVec.ofInt 8 y) := wrap_B8 _
theorem bits_and_B8 (x y : Int) : bits .and .u8 x y = B8 (BitVec.ofInt 8 x &&& BitVec.ofInt 8 y) := wrap_B8 _
theorem bits_or_B8 (x y : Int) : bits .or .u8 x y = B8 (BitVec.ofInt 8 x ||| BitVec.ofInt 8 y) := wrap_B8 _
theorem B8_shr (a : BitVec 8) (k : Nat) : B8 a / (2 : Int) ^ k = B8 (a >>> k) := by
  simp only [B8, BitVec.toNat_ushiftRight, Nat.shiftRight_eq_div_pow]; norm_cast
theorem B8_shr1 (a : BitVec 8) : B8 a / (2 : Int) = B8 (a >>> 1) := B8_shr a 1
theorem B8_shr7 (a : BitVec 8) : B8 a / (128 : Int) = B8 (a >>> 7) := B8_shr a 7
theorem B8_shl (a : BitVec 8) (k : Nat) : B8 a * (2 : Int) ^ k % (256 : Int) = B8 (a <<< k) := by
  simp only [B8, BitVec.toNat_shiftLeft, Nat.shiftLeft_eq]; simp
theorem B8_shl1 (a : BitVec 8) : B8 a * (2 : Int) % (256 : Int) = B8 (a <<< 1) := B8_shl a 1
theorem B8_mul (a b : BitVec 8) : B8 a * B8 b % (256 : Int) = B8 (a * b) := by
  simp only [B8, BitVec.toNat_mul]; simp
theorem B8_of (k : Nat) : ((k : Int)) % (256 : Int) = B8 (BitVec.ofNat 8 k) := by simp [B8]

attribute [local go_sem] bits_xor_B8 bits_and_B8 bits_or_B8 ofInt_B8

theorem low_bit : ∀ z : BitVec 8, (B8 (z &&& 1#8) == 1) = z.getLsbD 0 := by decide +kernel
theorem bit_at (y : BitVec 8) (k : Nat) : (B8 (y >>> k &&& 1#8) == 1) = y.getLsbD k := by
  rw [low_bit]; simp
theorem half_zero (z : BitVec 8) : (B8 z / 2 == 0) = (z >>> 1 == 0#8) := by rw [B8_shr1]; exact B8_beq (z >>> 1) 0#8
theorem xt_mul (x : BitVec 8) : BitVec.ofInt 8 (B8 x * 2 % 256) ^^^ BitVec.ofInt 8 (B8 x / 128 * 27) = xt x := by
  rw [B8_shr7, B8_shl1, ofInt_B8, show BitVec.ofInt 8 (B8 (x >>> 7) * 27) = (x >>> 7) * 27#8 from by
    have : B8 (x >>> 7) * (27 : Int) = ((((x >>> 7).toNat * 27 : Nat)) : Int) := by simp [B8]
    rw [this, BitVec.ofInt_natCast]
    apply BitVec.eq_of_toNat_eq
    simp [BitVec.toNat_mul]]; rfl
theorem shr_last : ∀ y : BitVec 8, y >>> 7 >>> 1 = 0#8 := by decide +kernel

def TimesRel (w : World) (x y : BitVec 8) (f : Nat) (x' y' p' : Value) (w' : World) : Prop :=
  ∃ k, f + k = 7 ∧ p' = .int .u8 (B8 (tims x y k)) ∧ x' = .int .u8 (B8 (xts k x)) ∧ y' = .int .u8 (B8 (y >>> k)) ∧ w = w'

set_option maxHeartbeats 400000 in
theorem times_any (x y : BitVec 8) (w : World) :
    Calls Try.prog 10 #[.int .u8 (B8 x), .int .u8 (B8 y)] w fun e w' => e = .returned (.int .u8 (B8 (tim x y))) ∧ w = w' := by
  go_enter Try.func10, Try.ntmps10
  go_wp2_with fail
  go_step3
  go_wp2_with fail
  go_step3
  go_wp2_with fail
  go_loopg [0, 1, 5] 7 (TimesRel w x y)
  case atStart => exact ⟨0, by omega, rfl, rfl, rfl, rfl⟩
  case round =>
    obtain ⟨k, hk, rfl, rfl, rfl, rfl⟩ := hrel
    have t1 := bit_at y k
    have t2 := half_zero (y >>> k)
    have b0 := B8_lo (y >>> k)
    have b1 := B8_hi (y >>> k)
    have b2 := B8_lo (xts k x)
    have b3 := B8_hi (xts k x)
    have P0 : ∀ q : Bool, y.getLsbD k = q → tims x y (k + 1) = tims x y k ^^^ (if q then xts k x else 0#8) := fun q h => by rw [← h]; rfl
    have P := Lib.hid P0
    clear P0
    by_cases hz : y >>> k >>> 1 = 0#8
    · have hz' : (y >>> k >>> 1 == 0#8) = true := by simpa using hz
      rw [hz'] at t2
      have E0 : tims x y (k + 1) = tim x y := by
        have hz'' : y >>> (k + 1) = 0#8 := by rw [← hz, BitVec.shiftRight_add]
        have := tims_end x y (k + 1) hz'' (7 - k)
        rw [show k + 1 + (7 - k) = 8 by omega] at this
        exact this.symm
      have EE := Lib.hid E0
      clear E0 hz hz'
      cases hb : y.getLsbD k with
      | true =>
        rw [hb] at t1
        have HB := Lib.hid hb
        clear hb
        go_wp2_with fail
        (try rw [Exit.noGoto_ret])
        go_ret
        refine ⟨?_, rfl⟩
        rw [← EE.out, P.out true HB.out]; rfl
      | false =>
        rw [hb] at t1
        have HB := Lib.hid hb
        clear hb
        go_wp2_with fail
        (try rw [Exit.noGoto_ret])
        go_ret
        refine ⟨?_, rfl⟩
        rw [← EE.out, P.out false HB.out]; simp
    · have hz' : (y >>> k >>> 1 == 0#8) = false := by simpa using hz
      rw [hz'] at t2
      have hk7 : k < 7 := by
        rcases Nat.lt_or_ge k 7 with h | h
        · exact h
        · exact absurd (by rw [show k = 7 by omega]; exact shr_last y) hz
      clear hz hz'
      have hgk : gk - 1 + (k + 1) = 7 ∧ gk - 1 < gk := by omega
      have HK := Lib.hid hgk
      clear hgk hk
      cases hb : y.getLsbD k with
      | true =>
        rw [hb] at t1
        have HB := Lib.hid hb
        clear hb
        go_wp2_with fail
        go_roundg (gk - 1)
        case rel =>
          refine ⟨k + 1, HK.out.1, ?_, ?_, ?_, rfl⟩
          · rw [P.out true HB.out]; rfl
          · rw [xt_mul]; rfl
          · rw [B8_shr1, BitVec.shiftRight_add]
        case measure => exact HK.out.2
      | false =>
        rw [hb] at t1
        have HB := Lib.hid hb
        clear hb
        go_wp2_with fail
        go_roundg (gk - 1)
        case rel =>
          refine ⟨k + 1, HK.out.1, ?_, ?_, ?_, rfl⟩
          · rw [P.out false HB.out]; simp
          · rw [xt_mul]; rfl
          · rw [B8_shr1, BitVec.shiftRight_add]
        case measure => exact HK.out.2

/-! ### The program's box -/
theorem rotl0 (y : BitVec 8) : y ||| BitVec.ofInt 8 (B8 y / 256) = rotl y 0 := by
  have h : B8 y / (2 : Int) ^ 8 = B8 (y >>> 8) := B8_shr y 8
  rw [show (256 : Int) = (2 : Int) ^ 8 from rfl, h, ofInt_B8]; simp [rotl]
theorem rotl_sh (y : BitVec 8) (k : Nat) (p q : Int) (hp : p = (2 : Int) ^ k) (hq : q = (2 : Int) ^ (8 - k)) (hk : k < 8) : BitVec.ofInt 8 (B8 y * p % 256) ||| BitVec.ofInt 8 (B8 y / q) = rotl y k := by
  have h : B8 y / (2 : Int) ^ (8 - k) = B8 (y >>> (8 - k)) := B8_shr y (8 - k)
  have h2 : B8 y * (2 : Int) ^ k % (256 : Int) = B8 (y <<< k) := B8_shl y k
  rw [hp, hq, h, h2, ofInt_B8, ofInt_B8, rotl, Nat.mod_eq_of_lt hk]
theorem rotl_any (y : BitVec 8) (k : Nat) (hk : k < 5) (w : World) :
    Calls Try.prog 19 #[.int .u8 (B8 y), .int .i64 (k : Int)] w fun e w' => e = .returned (.int .u8 (B8 (rotl y k))) ∧ w = w' := by
  have b0 := B8_lo y
  have b1 := B8_hi y
  have t0 : bits .and .u64 0 7 = 0 := by decide
  have t1 : bits .and .u64 1 7 = 1 := by decide
  have t2 : bits .and .u64 2 7 = 2 := by decide
  have t3 : bits .and .u64 3 7 = 3 := by decide
  have t4 : bits .and .u64 4 7 = 4 := by decide
  have hcs : k = 0 ∨ k = 1 ∨ k = 2 ∨ k = 3 ∨ k = 4 := by omega
  rcases hcs with rfl | rfl | rfl | rfl | rfl
  all_goals
    go_enter Try.func19, Try.ntmps19
    go_wp2_with fail
    go_ret
  · exact ⟨by rw [← rotl0 y]; rfl, rfl⟩
  · exact ⟨by rw [← rotl_sh y 1 2 128 rfl rfl (by omega)]; rfl, rfl⟩
  · exact ⟨by rw [← rotl_sh y 2 4 64 rfl rfl (by omega)]; rfl, rfl⟩
  · exact ⟨by rw [← rotl_sh y 3 8 32 rfl rfl (by omega)]; rfl, rfl⟩
  · exact ⟨by rw [← rotl_sh y 4 16 16 rfl rfl (by omega)]; rfl, rfl⟩

theorem intInfo : (Try.prog.info? 3).map (·.size) = some 1 := by kernel_rfl
theorem five_at (k : Nat) (h : k < 5) : (#[Value.int .i64 0, .int .i64 1, .int .i64 2, .int .i64 3, .int .i64 4])[k]? = some (.int .i64 (k : Int)) := by
  have hcs : k = 0 ∨ k = 1 ∨ k = 2 ∨ k = 3 ∨ k = 4 := by omega
  rcases hcs with rfl | rfl | rfl | rfl | rfl <;> rfl
set_option maxHeartbeats 400000 in
theorem box_any (x : BitVec 8) (w : World) :
    Calls Try.prog 8 #[.int .u8 (B8 x)] w fun e w' => e = .returned (.int .u8 (B8 (bx x))) ∧ w = w' := by
  go_enter Try.func8, Try.ntmps8
  go_wp2_with fail
  go_loop [3, 8] (fun y i => ∃ k : Nat, k ≤ 6 ∧ i = .int .i64 k ∧ y = .int .u8 (B8 (pws k x))) (fun _ i => 6 - (intOf i).toNat)
  case atStart => exact ⟨0, by omega, rfl, rfl⟩
  case round =>
    obtain ⟨k, hk, rfl, rfl⟩ := hrel
    by_cases hlt : k < 6
    · go_wp2_with (go_at_call 10; refine (times_any _ _ _).mono ?_; rintro e w' ⟨rfl, rfl⟩)
      go_round
      case rel => exact ⟨k + 1, by omega, by go_num, rfl⟩
      case measure => simp [intOf]; omega
    · obtain rfl : k = 6 := by omega
      go_wp2_with (go_at_call 10; refine (times_any _ _ _).mono ?_; rintro e w' ⟨rfl, rfl⟩)
      go_loop [4, 20] (fun o i => ∃ k : Nat, k ≤ 5 ∧ i = .int .i64 k ∧ o = .int .u8 (B8 (bxs (pw x) k))) (fun _ i => 5 - (intOf i).toNat)
      case atStart => exact ⟨0, by omega, rfl, rfl⟩
      case round =>
        obtain ⟨k, hk, rfl, rfl⟩ := hrel
        by_cases hlt : k < 5
        · have hi : ∀ W, (Instr.index 37 (.agg #[.int .i64 0, .int .i64 1, .int .i64 2, .int .i64 3, .int .i64 4]) (.int .i64 (k : Int))).run Try.prog W = .ok (.int .i64 (k : Int)) W := fun W =>
            run_index_arr Try.underlying37 Try.underlying3 rfl intInfo W _ k _ (five_at k hlt) hlt
          go_wp2_with (go_at_call 19; refine (rotl_any _ _ hlt _).mono ?_; rintro e w' ⟨rfl, rfl⟩)
          go_round
          case rel => exact ⟨k + 1, by omega, by go_num, rfl⟩
          case measure => simp [intOf]; omega
        · go_wp2_with fail
          go_ret
          obtain rfl : k = 5 := by omega
          exact ⟨rfl, rfl⟩

/-! ### The reference's products -/
def RTimesRel (w : World) (x y : BitVec 8) (f : Nat) (o i : Value) (w' : World) : Prop :=
  ∃ k, f + k = 8 ∧ o = .int .u8 (B8 (tims x y k)) ∧ i = .int .i64 (k : Int) ∧ w = w'
def RShiftRel (w : World) (x : BitVec 8) (n : Nat) (f : Nat) (z i : Value) (w' : World) : Prop :=
  ∃ j, f + j = n ∧ z = .int .u8 (B8 (xts j x)) ∧ i = .int .i64 (j : Int) ∧ w = w'
theorem bit_of (y : BitVec 8) (k : Nat) : (B8 (BitVec.ofInt 8 (B8 y / (2 : Int) ^ k) &&& 1#8) == 1) = y.getLsbD k := by
  rw [B8_shr, ofInt_B8, bit_at]
theorem top_of : ∀ z : BitVec 8, (B8 z / 128 == 1) = z.getLsbD 7 := by decide +kernel
theorem xt_top (z : BitVec 8) (h : z.getLsbD 7 = true) : BitVec.ofInt 8 (B8 z * 2 % 256) ^^^ 27#8 = xt z := by
  rw [B8_shl1, ofInt_B8, xt_if, h]; rfl
theorem xt_low (z : BitVec 8) (h : z.getLsbD 7 = false) : z <<< 1 = xt z := by
  rw [xt_if, h]; simp

set_option maxHeartbeats 400000 in
theorem rtimes_any (x y : BitVec 8) (w : World) :
    Calls Try.prog 11 #[.int .u8 (B8 x), .int .u8 (B8 y)] w fun e w' => e = .returned (.int .u8 (B8 (tim x y))) ∧ w = w' := by
  have y0 := B8_lo y
  have y1 := B8_hi y
  go_enter Try.func11, Try.ntmps11
  go_wp2_with fail
  go_loopg [5, 6] 8 (RTimesRel w x y)
  case atStart => exact ⟨0, by omega, rfl, rfl, rfl⟩
  case round =>
    obtain ⟨k, hk, rfl, rfl, rfl⟩ := hrel
    by_cases hlt : k < 8
    · have t1 := bit_of y k
      have P0 : ∀ q : Bool, y.getLsbD k = q → tims x y (k + 1) = tims x y k ^^^ (if q then xts k x else 0#8) := fun q h => by rw [← h]; rfl
      have P := Lib.hid P0
      clear P0
      cases hb : y.getLsbD k with
      | true =>
        rw [hb] at t1
        have HB := Lib.hid hb
        clear hb
        go_wp2_with fail
        obtain ⟨g0, rfl⟩ : ∃ g : Nat, g = gk := ⟨_, rfl⟩
        go_loopg [7, 8] k (RShiftRel w x k)
        case atStart => exact ⟨0, by omega, rfl, rfl, rfl⟩
        case round =>
          obtain ⟨j, hj, rfl, rfl, rfl⟩ := hrel
          have b2 := B8_lo (xts j x)
          have b3 := B8_hi (xts j x)
          by_cases hjk : j < k
          · have t2 := top_of (xts j x)
            cases hc : (xts j x).getLsbD 7 with
            | true =>
              rw [hc] at t2
              have HC := Lib.hid (xt_top _ hc)
              clear hc
              go_wp2_with fail
              go_roundg (gk - 1)
              case rel => exact ⟨j + 1, by omega, by rw [HC.out]; rfl, by go_num, rfl⟩
              case measure => omega
            | false =>
              rw [hc] at t2
              have HC := Lib.hid (xt_low _ hc)
              clear hc
              go_wp2_with fail
              go_roundg (gk - 1)
              case rel => exact ⟨j + 1, by omega, by rw [B8_shl1, HC.out]; rfl, by go_num, rfl⟩
              case measure => omega
          · obtain rfl : j = k := by omega
            go_wp2_with fail
            go_roundg (g0 - 1)
            case rel => exact ⟨j + 1, by omega, by rw [P.out true HB.out]; rfl, by go_num, rfl⟩
            case measure => omega
      | false =>
        rw [hb] at t1
        have HB := Lib.hid hb
        clear hb
        go_wp2_with fail
        go_roundg (gk - 1)
        case rel => exact ⟨k + 1, by omega, by rw [P.out false HB.out]; simp, by go_num, rfl⟩
        case measure => omega
    · go_wp2_with fail
      go_ret
      obtain rfl : k = 8 := by omega
      exact ⟨rfl, rfl⟩

/-! ### The reference's box -/
def InvRel (w : World) (x : BitVec 8) (f : Nat) (i : Value) (w' : World) : Prop :=
  ∃ k, f + k = 256 ∧ 1 ≤ k ∧ i = .int .i64 (k : Int) ∧ (∀ j, 1 ≤ j → j < k → tim x (BitVec.ofNat 8 j) ≠ 1#8) ∧ w = w'
theorem one_is (z : BitVec 8) : (B8 z == 1) = (z == 1#8) := B8_beq z 1#8
theorem byte_nat (k : Nat) (h : k < 256) : (k : Int) = B8 (BitVec.ofNat 8 k) := by
  simp only [B8, BitVec.toNat_ofNat]; omega
theorem rtimes_of (x y : BitVec 8) (n : Int) (h : n = B8 y) (w : World) :
    Calls Try.prog 11 #[.int .u8 (B8 x), .int .u8 n] w fun e w' => e = .returned (.int .u8 (B8 (tim x y))) ∧ w = w' := by
  subst h; exact rtimes_any x y w
theorem inv_found {x : BitVec 8} {k : Nat} (h : tim x (BitVec.ofNat 8 k) = 1#8) : BitVec.ofNat 8 k = pw x := by
  by_cases hx : x = 0#8
  · subst hx; rw [tim_zero] at h; exact absurd h (by decide)
  · exact inv_one h (pw_ok x hx)
theorem inv_none {x : BitVec 8} (h : ∀ j, 1 ≤ j → j < 256 → tim x (BitVec.ofNat 8 j) ≠ 1#8) : pw x = 0#8 := by
  by_cases hx : x = 0#8
  · subst hx; exact pw_zero
  · have h1 := pw_ok x hx
    have hl := (pw x).isLt
    by_cases h0 : (pw x).toNat = 0
    · have : pw x = 0#8 := BitVec.eq_of_toNat_eq h0
      exact this
    · exact absurd (by rw [BitVec.ofNat_toNat, BitVec.setWidth_eq]; exact h1) (h (pw x).toNat (by omega) (by omega))

set_option maxHeartbeats 400000 in
set_option maxRecDepth 40000 in
theorem inverse_any (x : BitVec 8) (w : World) :
    Calls Try.prog 20 #[.int .u8 (B8 x)] w fun e w' => e = .returned (.int .u8 (B8 (pw x))) ∧ w = w' := by
  go_enter Try.func20, Try.ntmps20
  go_wp2_with fail
  go_loopg [3] 255 (InvRel w x)
  case atStart => exact ⟨1, by omega, by omega, rfl, fun j h1 h2 => by omega, rfl⟩
  case round =>
    obtain ⟨k, hk, hk1, rfl, hno, rfl⟩ := hrel
    have HN := Lib.hid hno
    clear hno
    by_cases hlt : k < 256
    · have E0 := Lib.hid (byte_nat k hlt)
      by_cases hf : tim x (BitVec.ofNat 8 k) = 1#8
      · have t : (B8 (tim x (BitVec.ofNat 8 k)) == 1) = true := by rw [hf]; rfl
        have HF := Lib.hid hf
        clear hf
        go_wp2_with (go_at_call 11; refine (rtimes_of _ _ _ E0.out _).mono ?_; rintro e w' ⟨rfl, rfl⟩)
        (try rw [Exit.noGoto_ret])
        go_ret
        exact ⟨by rw [← inv_found HF.out, ← E0.out]; rfl, rfl⟩
      · have t := one_is (tim x (BitVec.ofNat 8 k))
        have hf' : (tim x (BitVec.ofNat 8 k) == 1#8) = false := by simpa using hf
        rw [hf'] at t
        have HF := Lib.hid hf
        clear hf hf'
        go_wp2_with (go_at_call 11; refine (rtimes_of _ _ _ E0.out _).mono ?_; rintro e w' ⟨rfl, rfl⟩)
        go_roundg (gk - 1)
        case rel =>
          refine ⟨k + 1, by omega, by omega, by go_num, fun j h1 h2 => ?_, rfl⟩
          by_cases hj : j = k
          · subst hj; exact HF.out
          · exact HN.out j h1 (by omega)
        case measure => omega
    · go_wp2_with fail
      go_ret
      obtain rfl : k = 256 := by omega
      exact ⟨by rw [inv_none HN.out]; rfl, rfl⟩

theorem B8_shrs (a : BitVec 8) : B8 a / (2 : Int) = B8 (a >>> 1) ∧ B8 a / (4 : Int) = B8 (a >>> 2) ∧ B8 a / (8 : Int) = B8 (a >>> 3) ∧ B8 a / (16 : Int) = B8 (a >>> 4) ∧ B8 a / (32 : Int) = B8 (a >>> 5) ∧ B8 a / (64 : Int) = B8 (a >>> 6) ∧ B8 a / (128 : Int) = B8 (a >>> 7) :=
  ⟨B8_shr a 1, B8_shr a 2, B8_shr a 3, B8_shr a 4, B8_shr a 5, B8_shr a 6, B8_shr a 7⟩
theorem B8_shls (a : BitVec 8) : B8 a * (2 : Int) % (256 : Int) = B8 (a <<< 1) ∧ B8 a * (4 : Int) % (256 : Int) = B8 (a <<< 2) ∧ B8 a * (8 : Int) % (256 : Int) = B8 (a <<< 3) ∧ B8 a * (16 : Int) % (256 : Int) = B8 (a <<< 4) ∧ B8 a * (32 : Int) % (256 : Int) = B8 (a <<< 5) ∧ B8 a * (64 : Int) % (256 : Int) = B8 (a <<< 6) ∧ B8 a * (128 : Int) % (256 : Int) = B8 (a <<< 7) :=
  ⟨B8_shl a 1, B8_shl a 2, B8_shl a 3, B8_shl a 4, B8_shl a 5, B8_shl a 6, B8_shl a 7⟩
theorem bit_step (y : BitVec 8) (k : Nat) {e : BitVec 8} (h : e = (bxbit y k &&& 1#8) <<< k) : Value.int .u8 (B8 (bxr y k ||| e)) = .int .u8 (B8 (bxr y (k + 1))) := by
  rw [h]; rfl
theorem B8_mod (a : BitVec 8) : B8 a % (256 : Int) = B8 a := by
  have h0 := B8_lo a
  have h1 := B8_hi a
  omega
def BoxRel (w : World) (y : BitVec 8) (f : Nat) (o i : Value) (w' : World) : Prop :=
  ∃ k, f + k = 8 ∧ o = .int .u8 (B8 (bxr y k)) ∧ i = .int .i64 (k : Int) ∧ w = w'
set_option maxHeartbeats 1000000 in
theorem rbox_any (x : BitVec 8) (w : World) :
    Calls Try.prog 9 #[.int .u8 (B8 x)] w fun e w' => e = .returned (.int .u8 (B8 (bx x))) ∧ w = w' := by
  go_enter Try.func9, Try.ntmps9
  go_wp2_with (go_at_call 20; refine (inverse_any _ _).mono ?_; rintro e w' ⟨rfl, rfl⟩)
  obtain ⟨y, hy⟩ : ∃ y, y = pw x := ⟨_, rfl⟩
  rw [← hy]
  have HY := Lib.hid hy
  clear hy
  have b0 := B8_lo y
  have b1 := B8_hi y
  go_loopg [4, 5] 8 (BoxRel w y)
  case atStart => exact ⟨0, by omega, rfl, rfl, rfl⟩
  case round =>
    obtain ⟨k, hk, rfl, rfl, rfl⟩ := hrel
    by_cases hlt : k < 8
    · have s0 : BitVec.ofInt 8 (B8 y / (2 : Int) ^ k) = y >>> k := by rw [B8_shr, ofInt_B8]
      have hcs : k = 0 ∨ k = 1 ∨ k = 2 ∨ k = 3 ∨ k = 4 ∨ k = 5 ∨ k = 6 ∨ k = 7 := by omega
      rcases hcs with rfl | rfl | rfl | rfl | rfl | rfl | rfl | rfl
      all_goals
        go_wp2_with fail
      · go_roundg (gk - 1)
        case rel => exact ⟨1, by omega, bit_step y 0 (by simp only [B8_shrs, B8_mod, ofInt_B8]; simp [bxbit]), rfl, rfl⟩
        case measure => omega
      · go_roundg (gk - 1)
        case rel => exact ⟨2, by omega, bit_step y 1 (by simp only [B8_shrs, B8_shls, ofInt_B8]; simp [bxbit]), rfl, rfl⟩
        case measure => omega
      · go_roundg (gk - 1)
        case rel => exact ⟨3, by omega, bit_step y 2 (by simp only [B8_shrs, B8_shls, ofInt_B8]; simp [bxbit]), rfl, rfl⟩
        case measure => omega
      · go_roundg (gk - 1)
        case rel => exact ⟨4, by omega, bit_step y 3 (by simp only [B8_shrs, B8_shls, ofInt_B8]; simp [bxbit]), rfl, rfl⟩
        case measure => omega
      · go_roundg (gk - 1)
        case rel => exact ⟨5, by omega, bit_step y 4 (by simp only [B8_shrs, B8_shls, ofInt_B8]; simp [bxbit]), rfl, rfl⟩
        case measure => omega
      · go_roundg (gk - 1)
        case rel => exact ⟨6, by omega, bit_step y 5 (by simp only [B8_shrs, B8_shls, ofInt_B8]; simp [bxbit]), rfl, rfl⟩
        case measure => omega
      · go_roundg (gk - 1)
        case rel => exact ⟨7, by omega, bit_step y 6 (by simp only [B8_shrs, B8_shls, ofInt_B8]; simp [bxbit]), rfl, rfl⟩
        case measure => omega
      · go_roundg (gk - 1)
        case rel => exact ⟨8, by omega, bit_step y 7 (by simp only [B8_shrs, B8_shls, ofInt_B8]; simp [bxbit]), rfl, rfl⟩
        case measure => omega
    · go_wp2_with fail
      go_ret
      obtain rfl : k = 8 := by omega
      rw [HY.out]
      exact ⟨by rw [bx, ← bxr_bxs]; rfl, rfl⟩
end Go.Proofs.Ytjkdgaehnachdaa
