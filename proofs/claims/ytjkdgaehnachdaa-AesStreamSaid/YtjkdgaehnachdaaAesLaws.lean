/- The laws of the box and of the field of bytes: the walks. -/
import Derived.Test.YtjkdgaehnachdaaAesWalk
namespace Go.Proofs.Ytjkdgaehnachdaa
open Go.RowKit
attribute [local go_sem] bits_xor_B8 bits_and_B8 bits_or_B8 ofInt_B8

theorem byte_came {n : Int} (h : (Lit.int .u8 n).wf = true) : ∃ x, n = B8 x := by
  have hb := h
  simp only [Lit.wf, IntKind.min, IntKind.max, IntKind.signed, IntKind.bits, Bool.and_eq_true] at hb
  simp at hb
  refine ⟨BitVec.ofNat 8 n.toNat, ?_⟩
  simp only [B8, BitVec.toNat_ofNat]; omega

set_option maxHeartbeats 400000 in
theorem aesBox_any (x y : BitVec 8) (w : World) :
    Calls Try.prog 3 #[.int .u8 (B8 x), .int .u8 (B8 y)] w fun e w' => e = .returned (.bool true) ∧ Below w.heap.size w w' := by
  go_enter Try.func3, Try.ntmps3
  go_wp2_with (first
    | (go_at_call 8; refine (box_any _ _).mono ?_; rintro e w' ⟨rfl, rfl⟩)
    | (go_at_call 9; refine (rbox_any _ _).mono ?_; rintro e w' ⟨rfl, rfl⟩)
    | (go_at_call 10; refine (times_any _ _ _).mono ?_; rintro e w' ⟨rfl, rfl⟩)
    | (go_at_call 11; refine (rtimes_any _ _ _).mono ?_; rintro e w' ⟨rfl, rfl⟩)
    | (go_at_call 12; refine (aes_wakes _).mono ?_; rintro e w' ⟨rfl, hb⟩))
  go_ret
  exact ⟨rfl, hb⟩

/-! ### The field -/
def cnt (p : Nat → Bool) : Nat → Nat
  | 0 => 0
  | k + 1 => cnt p k + if p k then 1 else 0
theorem cnt_le (p : Nat → Bool) : ∀ k, cnt p k ≤ k
  | 0 => Nat.le_refl _
  | k + 1 => by have := cnt_le p k; simp only [cnt]; split <;> omega
theorem cnt_zero {p : Nat → Bool} : ∀ k, (∀ i, i < k → p i = false) → cnt p k = 0
  | 0, _ => rfl
  | k + 1, h => by simp [cnt, cnt_zero k (fun i hi => h i (by omega)), h k (by omega)]
theorem cnt_one {p : Nat → Bool} {j : Nat} (hj : p j = true) : ∀ k, j < k → (∀ i, i < k → p i = true → i = j) → cnt p k = 1
  | 0, h, _ => by omega
  | k + 1, h, hu => by
    by_cases e : j = k
    · subst e
      rw [cnt, cnt_zero j (fun i hi => by
        cases hp : p i with
        | false => rfl
        | true => have := hu i (by omega) hp; omega), hj]; rfl
    · have hk : p k = false := by
        cases hp : p k with
        | false => rfl
        | true => exact absurd (hu k (by omega) hp).symm e
      rw [cnt, cnt_one hj k (by omega) (fun i hi => hu i (by omega)), hk]; rfl
def invs (x : BitVec 8) (k : Nat) : Nat := cnt (fun i => tim x (bn i) == 1#8) k
def likes (x : BitVec 8) (k : Nat) : Nat := cnt (fun i => bx (bn i) == bx x) k
theorem invs_zero : invs 0#8 256 = 0 := cnt_zero _ fun i _ => by rw [tim_zero]; decide
theorem invs_one {x : BitVec 8} (h : x ≠ 0#8) : invs x 256 = 1 := cnt_one (j := (pw x).toNat) (by rw [bn_toNat, pw_ok x h]; rfl) _ (pw x).isLt fun i hi hp => by
  have := inv_one (by simpa using hp) (pw_ok x h)
  rw [← this, toNat_bn hi]
theorem likes_one (x : BitVec 8) : likes x 256 = 1 := cnt_one (j := x.toNat) (by rw [bn_toNat]; simp) _ x.isLt fun i hi hp => by
  have := bx_inj (by simpa using hp)
  rw [← this, toNat_bn hi]
theorem times_one (x : BitVec 8) (w : World) :
    Calls Try.prog 10 #[.int .u8 (B8 x), .int .u8 1] w fun e w' => e = .returned (.int .u8 (B8 x)) ∧ w = w' :=
  times_of _ 1 x 1#8 _ rfl rfl (by rw [tim_one]) w
theorem times_nat (x : BitVec 8) (n : Int) (k : Nat) (h : n = B8 (bn k)) (w : World) :
    Calls Try.prog 10 #[.int .u8 (B8 x), .int .u8 n] w fun e w' => e = .returned (.int .u8 (B8 (tim x (bn k)))) ∧ w = w' :=
  times_of _ n x (bn k) _ rfl h rfl w
theorem box_nat (n : Int) (k : Nat) (h : n = B8 (bn k)) (w : World) :
    Calls Try.prog 8 #[.int .u8 n] w fun e w' => e = .returned (.int .u8 (B8 (bx (bn k)))) ∧ w = w' :=
  box_of n (bn k) _ h rfl w

theorem B8_zero : B8 0#8 = 0 := rfl
attribute [local irreducible] tim bx B8
def FieldRel (w : World) (x : BitVec 8) (f : Nat) (n s i : Value) (wr : World) : Prop :=
  ∃ k : Nat, f + k = 256 ∧ i = .int .i64 (k : Int) ∧ n = .int .i64 (invs x k : Int) ∧ s = .int .i64 (likes x k : Int) ∧ w = wr
set_option maxHeartbeats 1000000 in
set_option maxRecDepth 100000 in
theorem aesField_any (x y z : BitVec 8) (w : World) :
    Calls Try.prog 4 #[.int .u8 (B8 x), .int .u8 (B8 y), .int .u8 (B8 z)] w fun e w' => e = .returned (.bool true) ∧ Below w.heap.size w w' := by
  have e1 : tim y x = tim x y := tim_comm y x
  have e2 : tim (tim x y) z = tim x (tim y z) := tim_assoc x y z
  have e3 : tim x (y ^^^ z) = tim x y ^^^ tim x z := tim_xor x y z
  go_enter Try.func4, Try.ntmps4
  go_wp2_with (go_at_call 10; first
    | ((with_reducible refine (times_one _ _).mono ?_); rintro e w' ⟨rfl, rfl⟩)
    | ((with_reducible refine (times_any _ _ _).mono ?_); rintro e w' ⟨rfl, rfl⟩))

  clear e1 e2 e3

  go_loopg [8, 9, 49] 256 (FieldRel w x)
  case atStart => exact ⟨0, by omega, rfl, rfl, rfl, rfl⟩
  case round =>
    obtain ⟨k, hf, rfl, rfl, rfl, rfl⟩ := hrel
    have hn := cnt_le (fun i => tim x (bn i) == 1#8) k
    have hs := cnt_le (fun i => bx (bn i) == bx x) k
    have HF := Lib.hid hf
    clear hf
    by_cases hlt : k < 256
    · have tk : decide ((k : Int) < 256) = true := by simp; omega
      have hkI : (k : Int) < 256 := by omega
      have hn' : (invs x k : Int) ≤ k := by exact_mod_cast hn
      have hs' : (likes x k : Int) ≤ k := by exact_mod_cast hs
      have E := Lib.hid (byte_nat k hlt)
      have s1 : ∀ q : Bool, (tim x (bn k) == 1#8) = q → (invs x (k + 1) : Int) = invs x k + if q then 1 else 0 := fun q h => by
        unfold invs; rw [cnt, h]; cases q <;> simp
      have s2 : ∀ q : Bool, (bx (bn k) == bx x) = q → (likes x (k + 1) : Int) = likes x k + if q then 1 else 0 := fun q h => by
        unfold likes; rw [cnt, h]; cases q <;> simp
      have S1 := Lib.hid s1
      have S2 := Lib.hid s2
      clear s1 s2 hn hs
      have t1 : (B8 (tim x (bn k)) == 1) = (tim x (bn k) == 1#8) := one_is _
      have t2 : (B8 (bx (bn k)) == B8 (bx x)) = (bx (bn k) == bx x) := B8_beq _ _
      cases h1 : (tim x (bn k) == 1#8) <;> cases h2 : (bx (bn k) == bx x)
      all_goals
        rw [h1] at t1
        rw [h2] at t2
        have Q1 := Lib.hid (S1.out _ h1)
        have Q2 := Lib.hid (S2.out _ h2)
        clear h1 h2
        go_wp2_with (first
          | (go_at_call 10; (with_reducible refine (times_nat _ _ k E.out _).mono ?_); rintro e w' ⟨rfl, rfl⟩)
          | (go_at_call 8; first | ((with_reducible refine (box_any _ _).mono ?_); rintro e w' ⟨rfl, rfl⟩) | ((with_reducible refine (box_nat _ k E.out _).mono ?_); rintro e w' ⟨rfl, rfl⟩)))
        go_roundg (gk - 1)
        case rel =>
          have hf := HF.out
          have q1 := Q1.out
          have q2 := Q2.out
          simp at q1 q2
          exact ⟨k + 1, by omega, by go_num, by rw [q1], by rw [q2], rfl⟩
        case measure => have hf := HF.out; omega
    · have hf := HF.out
      obtain rfl : k = 256 := by omega
      have tk : decide (((256 : Nat) : Int) < 256) = false := by simp
      clear hf hn hs
      rw [likes_one]
      by_cases hx : x = 0#8
      · subst hx
        rw [invs_zero, B8_zero]
        go_wp2_with (go_at_call 12; refine (aes_wakes _).mono ?_; rintro e w' ⟨rfl, hb⟩)
        go_ret
        exact ⟨rfl, hb⟩
      · rw [invs_one hx]
        have t0 : (B8 x != 0) = true := by
          have := B8_bne x 0#8
          rw [B8_zero] at this
          rw [this]; simpa using hx
        have t1 : (B8 x == 0) = false := by
          have := B8_beq x 0#8
          rw [B8_zero] at this
          rw [this]; simpa using hx
        clear hx
        go_wp2_with (go_at_call 12; refine (aes_wakes _).mono ?_; rintro e w' ⟨rfl, hb⟩)
        go_ret
        exact ⟨rfl, hb⟩
end Go.Proofs.Ytjkdgaehnachdaa
