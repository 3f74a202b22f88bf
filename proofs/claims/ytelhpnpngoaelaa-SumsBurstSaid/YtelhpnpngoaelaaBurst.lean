/- Bytes that differ in a burst have not the same sum: a plain law of the sums of chapter 2. No program is named. -/
import Derived.Test.YtelhpnpngoaelaaCrcPlain
namespace Go.Proofs.Ytelhpnpngoaelaa

/-! ### Bit by bit -/
def bit1 (b : Bool) : BitVec 32 := if b then 1#32 else 0#32
def ser (f : Nat → Bool) : Nat → BitVec 32 → BitVec 32
  | 0, r => r
  | k + 1, r => stp (ser f k r ^^^ bit1 (f k))
theorem ser_add (f : Nat → Bool) (a b : Nat) (r : BitVec 32) : ser f (a + b) r = ser (fun i => f (a + i)) b (ser f a r) := by
  induction b with
  | zero => rfl
  | succ b ih => rw [← Nat.add_assoc, ser, ser, ih]
theorem stps_unit (k : Nat) (h : k < 32) : stps k (1#32 <<< k) = 1#32 := by
  induction k with
  | zero => rfl
  | succ k ih =>
    have e : stps (k + 1) (1#32 <<< (k + 1)) = stps k (stps 1 (1#32 <<< (k + 1))) := stps_add k 1 _
    rw [e]
    have e2 : stps 1 (1#32 <<< (k + 1)) = 1#32 <<< k := by
      show stp (1#32 <<< (k + 1)) = _
      rw [stp_eq, unit_bit (k + 1) 0 h, if_neg (by simp), BitVec.xor_zero]
      apply BitVec.eq_of_getLsbD_eq
      intro i hi
      rw [BitVec.getLsbD_ushiftRight, unit_bit (k + 1) (1 + i) h, unit_bit k i (by omega), decide_eq_decide]; omega
    rw [e2, ih (by omega)]
/-- The first k bits as a remainder. -/
def upTo (f : Nat → Bool) : Nat → BitVec 32
  | 0 => 0#32
  | k + 1 => upTo f k ^^^ (bit1 (f k) <<< k)
theorem stps_bit (k : Nat) (b : Bool) (h : k < 32) : stps k (bit1 b <<< k) = bit1 b := by
  cases b
  · have : bit1 false <<< k = 0#32 := by simp [bit1]
    rw [this]; exact stps_zero k
  · exact stps_unit k h
theorem ser_eq (f : Nat → Bool) (k : Nat) (r : BitVec 32) (h : k ≤ 32) : ser f k r = stps k (r ^^^ upTo f k) := by
  induction k with
  | zero => exact (BitVec.xor_zero).symm
  | succ k ih =>
    rw [ser, ih (by omega), upTo, ← BitVec.xor_assoc]
    show _ = stp (stps k _)
    rw [stps_xor k (r ^^^ upTo f k), stps_bit k _ (by omega)]
theorem upTo_bit (f : Nat → Bool) (k i : Nat) (h : k ≤ 32) : (upTo f k).getLsbD i = (decide (i < k) && f i) := by
  induction k with
  | zero => simp [upTo]
  | succ k ih =>
    have hb : (bit1 (f k) <<< k).getLsbD i = (decide (i = k) && f k) := by
      cases hf : f k
      · simp [bit1]
      · have : (bit1 true <<< k).getLsbD i = decide (i = k) := unit_bit k i (by omega)
        rw [this]; simp
    rw [upTo, BitVec.getLsbD_xor, ih (by omega), hb]
    by_cases hik : i = k
    · subst hik; simp
    · have h3 : decide (i < k + 1) = decide (i < k) := by rw [decide_eq_decide]; omega
      rw [h3]; simp [hik]
theorem upTo_eq (f : Nat → Bool) (x : BitVec 32) (k : Nat) (h : k ≤ 32) (hx : ∀ i, i < 32 → x.getLsbD i = (decide (i < k) && f i)) : upTo f k = x := by
  apply BitVec.eq_of_getLsbD_eq
  intro i hi
  rw [upTo_bit f k i h, hx i hi]
theorem feed_ser (r : BitVec 32) (c : UInt8) : feed r c = ser (fun i => c.toBitVec.getLsbD i) 8 r := by
  rw [ser_eq _ 8 r (by omega), feed]
  congr 2
  refine (upTo_eq _ _ 8 (by omega) fun i hi => ?_).symm
  rw [BitVec.getLsbD_setWidth]
  by_cases h : i < 8
  · simp [h, hi]
  · simp [h, BitVec.getLsbD_of_ge c.toBitVec i (by omega)]

/-! ### Bytes of a great number -/
def byteN (W j : Nat) : UInt8 := UInt8.ofNat (W / 2 ^ (8 * j))
def bytesN (W : Nat) : Nat → List UInt8
  | 0 => []
  | n + 1 => bytesN W n ++ [byteN W n]
theorem bytesN_length (W n : Nat) : (bytesN W n).length = n := by
  induction n with
  | zero => rfl
  | succ n ih => simp [bytesN, ih]
theorem bytesN_at (W n j : Nat) (h : j < n) : (bytesN W n)[j]'(by rw [bytesN_length]; exact h) = byteN W j := by
  induction n with
  | zero => omega
  | succ n ih =>
    by_cases hj : j < n
    · simp only [bytesN]
      rw [List.getElem_append_left (by rw [bytesN_length]; exact hj)]
      exact ih hj
    · obtain rfl : j = n := by omega
      simp only [bytesN]
      rw [List.getElem_append_right (by rw [bytesN_length]; exact Nat.le_refl _)]
      simp [bytesN_length]
theorem byteN_bit (W j i : Nat) (h : i < 8) : (byteN W j).toBitVec.getLsbD i = W.testBit (8 * j + i) := by
  have e : (byteN W j).toBitVec = BitVec.ofNat 8 (W / 2 ^ (8 * j)) := rfl
  rw [e, BitVec.getLsbD_ofNat, Nat.testBit_div_two_pow]
  simp [h, Nat.add_comm]
theorem ser_congr (f g : Nat → Bool) (k : Nat) (r : BitVec 32) (h : ∀ i, i < k → f i = g i) : ser f k r = ser g k r := by
  induction k with
  | zero => rfl
  | succ k ih => rw [ser, ser, ih (fun i hi => h i (by omega)), h k (by omega)]
theorem feeds_bytesN (W n : Nat) (r : BitVec 32) : feeds r (bytesN W n) = ser W.testBit (8 * n) r := by
  induction n with
  | zero => rfl
  | succ n ih =>
    rw [bytesN, feeds_snoc, ih, feed_ser, show 8 * (n + 1) = 8 * n + 8 by omega, ser_add]
    exact ser_congr _ _ 8 _ fun i hi => byteN_bit W n i hi
theorem ser_none (f : Nat → Bool) (k : Nat) (r : BitVec 32) (h : ∀ i, i < k → f i = false) : ser f k r = stps k r := by
  induction k with
  | zero => rfl
  | succ k ih =>
    rw [ser, ih (fun i hi => h i (by omega)), h k (by omega)]
    show stp (stps k r ^^^ 0#32) = _
    rw [BitVec.xor_zero]; rfl

/-- A burst: 32 bits, put in anywhere. -/
theorem burst_ne (x : BitVec 32) (at_ n : Nat) (hx : x ≠ 0#32) (h : at_ + 32 ≤ 8 * n) : feeds 0#32 (bytesN (x.toNat * 2 ^ at_) n) ≠ 0#32 := by
  intro h0
  rw [feeds_bytesN, show 8 * n = at_ + (32 + (8 * n - at_ - 32)) by omega, ser_add, ser_add] at h0
  have hb : ∀ i, (x.toNat * 2 ^ at_).testBit i = (decide (at_ ≤ i) && x.toNat.testBit (i - at_)) := fun i => by
    rw [Nat.testBit_mul_two_pow]
  rw [ser_none _ at_ _ (fun i hi => by rw [hb]; simp; omega), stps_zero] at h0
  rw [ser_none _ (8 * n - at_ - 32) _ (fun i hi => by
    rw [hb]
    have : x.toNat.testBit (at_ + (32 + i) - at_) = false := Nat.testBit_lt_two_pow (Nat.lt_of_lt_of_le x.isLt (Nat.pow_le_pow_right (by omega) (by omega)))
    rw [this]; simp)] at h0
  have h1 := stps_ne _ _ h0
  rw [ser_eq _ 32 _ (by omega), BitVec.zero_xor, upTo_eq _ x 32 (by omega) (fun i hi => by
    rw [hb]
    simp [hi, BitVec.getLsbD])] at h1
  exact hx (stps_ne 32 _ h1)

/-- One bit more of the burst. -/
theorem byteN_flip (W k j : Nat) : byteN (W ^^^ 2 ^ k) j = if j = k / 8 then byteN W j ^^^ UInt8.ofNat (2 ^ (k % 8)) else byteN W j := by
  have key : ∀ i, i < 8 → (byteN (W ^^^ 2 ^ k) j).toBitVec.getLsbD i = (if j = k / 8 then byteN W j ^^^ UInt8.ofNat (2 ^ (k % 8)) else byteN W j).toBitVec.getLsbD i := by
    intro i hi
    rw [byteN_bit _ _ _ hi, Nat.testBit_xor, Nat.testBit_two_pow]
    by_cases hj : j = k / 8
    · rw [if_pos hj]
      have e : (byteN W j ^^^ UInt8.ofNat (2 ^ (k % 8))).toBitVec = (byteN W j).toBitVec ^^^ BitVec.ofNat 8 (2 ^ (k % 8)) := rfl
      rw [e, BitVec.getLsbD_xor, byteN_bit _ _ _ hi, BitVec.getLsbD_ofNat, Nat.testBit_two_pow]
      simp only [hi, decide_true, Bool.true_and]
      congr 1
      rw [decide_eq_decide]; omega
    · rw [if_neg hj, byteN_bit _ _ _ hi]
      have : decide (k = 8 * j + i) = false := by simp; omega
      rw [this, Bool.xor_false]
  have e : (byteN (W ^^^ 2 ^ k) j).toBitVec = (if j = k / 8 then byteN W j ^^^ UInt8.ofNat (2 ^ (k % 8)) else byteN W j).toBitVec := BitVec.eq_of_getLsbD_eq key
  exact UInt8.toBitVec_inj.1 e
theorem xorl_length (a b : List UInt8) (h : a.length = b.length) : (xorl a b).length = a.length := by simp [xorl]; omega
/-- Bytes of which the bits of W are turned. -/
def turned (l : List UInt8) (W : Nat) : List UInt8 := xorl l (bytesN W l.length)
theorem turned_length (l : List UInt8) (W : Nat) : (turned l W).length = l.length := xorl_length _ _ (bytesN_length _ _).symm
theorem turned_at (l : List UInt8) (W j : Nat) (h : j < l.length) : (turned l W)[j]'(by rw [turned_length]; exact h) = l[j] ^^^ byteN W j := by
  simp [turned, xorl, bytesN_at W l.length j h]
theorem turned_flip (l : List UInt8) (W k : Nat) (h : k / 8 < l.length) : (turned l W).set (k / 8) ((turned l W)[k / 8]'(by rw [turned_length]; exact h) ^^^ UInt8.ofNat (2 ^ (k % 8))) = turned l (W ^^^ 2 ^ k) := by
  apply List.ext_getElem
  · simp [turned_length]
  · intro j h1 h2
    simp only [List.length_set, turned_length] at h1
    rw [List.getElem_set, turned_at l (W ^^^ 2 ^ k) j h1, byteN_flip]
    by_cases hj : k / 8 = j
    · subst hj
      rw [if_pos rfl, if_pos rfl, turned_at _ _ _ h1, UInt8.xor_assoc]
    · rw [if_neg hj, if_neg (fun e => hj e.symm), turned_at _ _ _ h1]
theorem turned_none (l : List UInt8) : turned l 0 = l := by
  apply List.ext_getElem
  · simp [turned_length]
  · intro j h1 h2
    rw [turned_at _ _ _ h2]
    have : byteN 0 j = 0 := by simp [byteN]
    rw [this]; simp
/-- The theorem of bursts. -/
theorem turned_more (l : List UInt8) (x : BitVec 32) (at_ : Nat) (hx : x ≠ 0#32) (h : at_ + 32 ≤ 8 * l.length) : more 0#32 (turned l (x.toNat * 2 ^ at_)) ≠ more 0#32 l := by
  intro e
  have e1 : feeds (~~~ 0#32) (turned l (x.toNat * 2 ^ at_)) = feeds (~~~ 0#32) l := by
    have := congrArg (fun y => ~~~ y) e
    simpa [more] using this
  have e2 := feeds_xor l (bytesN (x.toNat * 2 ^ at_) l.length) (~~~ 0#32) 0#32 (bytesN_length _ _).symm
  rw [BitVec.xor_zero] at e2
  rw [turned, e2] at e1
  have e3 : feeds 0#32 (bytesN (x.toNat * 2 ^ at_) l.length) = 0#32 := by
    have := congrArg (fun y => feeds (~~~ 0#32) l ^^^ y) e1
    simpa [← BitVec.xor_assoc] using this
  exact burst_ne x at_ l.length hx h e3
/-- The bits up to i. -/
theorem low_succ (x i : Nat) : x % 2 ^ (i + 1) = x % 2 ^ i ^^^ (if x.testBit i then 2 ^ i else 0) := by
  apply Nat.eq_of_testBit_eq
  intro j
  rw [Nat.testBit_xor, Nat.testBit_mod_two_pow, Nat.testBit_mod_two_pow]
  by_cases hj : j = i
  · subst hj
    cases h : x.testBit j
    · simp
    · simp
  · have h3 : decide (j < i + 1) = decide (j < i) := by rw [decide_eq_decide]; omega
    have h4 : (if x.testBit i = true then 2 ^ i else 0).testBit j = false := by
      split
      · rw [Nat.testBit_two_pow]; simp; omega
      · simp
    rw [h3, h4, Bool.xor_false]
theorem low_at (x i a : Nat) : x % 2 ^ (i + 1) * 2 ^ a = (x % 2 ^ i * 2 ^ a) ^^^ (if x.testBit i then 2 ^ (a + i) else 0) := by
  apply Nat.eq_of_testBit_eq
  intro j
  rw [low_succ, Nat.testBit_mul_two_pow, Nat.testBit_xor, Nat.testBit_xor, Nat.testBit_mul_two_pow]
  by_cases ha : a ≤ j
  · have e : (if x.testBit i = true then 2 ^ i else 0).testBit (j - a) = (if x.testBit i = true then 2 ^ (a + i) else 0).testBit j := by
      split
      · rw [Nat.testBit_two_pow, Nat.testBit_two_pow, decide_eq_decide]; omega
      · simp
    rw [e]; simp [ha]
  · have e : (if x.testBit i = true then 2 ^ (a + i) else 0).testBit j = false := by
      split
      · rw [Nat.testBit_two_pow]; simp; omega
      · simp
    rw [e]; simp [ha]

end Go.Proofs.Ytelhpnpngoaelaa
