/- Sums of pieces, and of bytes that differ in a burst: plain laws of the sums of chapter 2. No program is named. -/
import Derived.Test.YtnojeiklgjhkgaaCrc
namespace Go.Proofs.Ytnojeiklgjhkgaa

/-! ### A step is linear, and no remainder but nought comes to nought -/
theorem neg_low (r : BitVec 32) : -(r &&& 1#32) = if r.getLsbD 0 then BitVec.allOnes 32 else 0#32 := by
  have h : r &&& 1#32 = if r.getLsbD 0 then 1#32 else 0#32 := by
    apply BitVec.eq_of_getLsbD_eq
    intro i hi
    rw [BitVec.getLsbD_and]
    by_cases h0 : i = 0
    · subst h0; cases r.getLsbD 0 <;> simp
    · cases r.getLsbD 0 <;> simp [BitVec.getLsbD_one, h0]
  rw [h]
  cases r.getLsbD 0 <;> rfl
theorem and_mask (y : BitVec 32) (b : Bool) : y &&& (if b then BitVec.allOnes 32 else 0#32) = if b then y else 0#32 := by
  cases b
  · exact BitVec.and_zero
  · exact BitVec.and_allOnes
theorem mask_xor (y : BitVec 32) (b c : Bool) : (if (b ^^ c) then y else 0#32) = (if b then y else 0#32) ^^^ (if c then y else 0#32) := by
  cases b <;> cases c
  · exact BitVec.xor_zero.symm
  · exact BitVec.zero_xor.symm
  · exact BitVec.xor_zero.symm
  · exact BitVec.xor_self.symm
theorem xor_four (a b c d : BitVec 32) : (a ^^^ b) ^^^ (c ^^^ d) = (a ^^^ c) ^^^ (b ^^^ d) := by ac_rfl
theorem stp_eq (r : BitVec 32) : stp r = (r >>> 1) ^^^ (if r.getLsbD 0 then 0xedb88320#32 else 0#32) := by
  rw [stp, neg_low, and_mask]
theorem stp_xor (a b : BitVec 32) : stp (a ^^^ b) = stp a ^^^ stp b := by
  rw [stp_eq, stp_eq, stp_eq, BitVec.ushiftRight_xor_distrib, BitVec.getLsbD_xor, mask_xor, xor_four]
theorem stps_xor (k : Nat) (a b : BitVec 32) : stps k (a ^^^ b) = stps k a ^^^ stps k b := by
  induction k with
  | zero => rfl
  | succ k ih => rw [stps, stps, stps, ih, stp_xor]
theorem stp_zero : stp 0#32 = 0#32 := by decide
theorem stps_zero (k : Nat) : stps k 0#32 = 0#32 := by
  induction k with
  | zero => rfl
  | succ k ih => rw [stps, ih, stp_zero]
theorem stps_add (j k : Nat) (r : BitVec 32) : stps (j + k) r = stps j (stps k r) := by
  induction j with
  | zero => rw [Nat.zero_add]; rfl
  | succ j ih => rw [show j + 1 + k = (j + k) + 1 by omega, stps, stps, ih]
theorem stp_ne (r : BitVec 32) (h : stp r = 0#32) : r = 0#32 := by
  rw [stp_eq] at h
  have h31 := congrArg (fun x => x.getLsbD 31) h
  simp only [BitVec.getLsbD_xor, BitVec.getLsbD_ushiftRight] at h31
  cases hb : r.getLsbD 0 with
  | true => simp [hb] at h31
  | false =>
    rw [hb] at h
    simp at h
    apply BitVec.eq_of_getLsbD_eq
    intro i hi
    cases i with
    | zero => simpa using hb
    | succ i =>
      have := congrArg (fun x => x.getLsbD i) h
      simp only [BitVec.getLsbD_ushiftRight] at this
      rw [Nat.add_comm 1 i] at this
      simpa using this
theorem stps_ne (k : Nat) (r : BitVec 32) (h : stps k r = 0#32) : r = 0#32 := by
  induction k with
  | zero => exact h
  | succ k ih => exact ih (stp_ne _ h)

/-! ### Bytes -/
theorem feeds_nil (r : BitVec 32) : feeds r [] = r := rfl
theorem feeds_cons (r : BitVec 32) (c : UInt8) (l : List UInt8) : feeds r (c :: l) = feeds (feed r c) l := rfl
theorem feed_xor (r s : BitVec 32) (c d : UInt8) : feed (r ^^^ s) (c ^^^ d) = feed r c ^^^ feed s d := by
  rw [feed, feed, feed, ← stps_xor]
  congr 1
  rw [show (c ^^^ d).toBitVec = c.toBitVec ^^^ d.toBitVec from rfl, BitVec.setWidth_xor, xor_four]
/-- Byte by byte. -/
def xorl (a b : List UInt8) : List UInt8 := List.zipWith (· ^^^ ·) a b
theorem feeds_xor : ∀ (l m : List UInt8) (r s : BitVec 32), l.length = m.length → feeds (r ^^^ s) (xorl l m) = feeds r l ^^^ feeds s m
  | [], [], _, _, _ => rfl
  | c :: l, d :: m, r, s, h => by
    simp only [xorl, List.zipWith_cons_cons, feeds_cons, feed_xor]
    exact feeds_xor l m _ _ (by simpa using h)
/-- So many bytes of nought. -/
def shift : Nat → BitVec 32 → BitVec 32
  | 0, r => r
  | n + 1, r => shift n (stps 8 r)
theorem feed_nought (r : BitVec 32) : feed r 0 = stps 8 r := by rw [feed]; congr 1; simp
theorem feeds_noughts (n : Nat) (r : BitVec 32) : feeds r (List.replicate n 0) = shift n r := by
  induction n generalizing r with
  | zero => rfl
  | succ n ih => rw [List.replicate_succ, feeds_cons, feed_nought, ih]; rfl
theorem xorl_noughts (l : List UInt8) : xorl (List.replicate l.length 0) l = l := by
  induction l with
  | nil => rfl
  | cons c l ih => simp only [List.length_cons, List.replicate_succ, xorl, List.zipWith_cons_cons] at *; rw [ih]; simp
theorem feeds_split (r : BitVec 32) (l : List UInt8) : feeds r l = shift l.length r ^^^ feeds 0#32 l := by
  have h := feeds_xor (List.replicate l.length 0) l r 0#32 (by simp)
  rw [xorl_noughts, feeds_noughts] at h
  simpa using h
theorem shift_xor (n : Nat) (a b : BitVec 32) : shift n (a ^^^ b) = shift n a ^^^ shift n b := by
  induction n generalizing a b with
  | zero => rfl
  | succ n ih => rw [shift, shift, shift, stps_xor, ih]
theorem shift_ne (n : Nat) (r : BitVec 32) (h : shift n r = 0#32) : r = 0#32 := by
  induction n generalizing r with
  | zero => exact h
  | succ n ih => exact stps_ne 8 _ (ih _ h)
theorem shift_zero (n : Nat) : shift n 0#32 = 0#32 := by
  induction n with
  | zero => rfl
  | succ n ih => rw [shift, stps_zero, ih]

/-! ### The matrix -/
theorem ofTo_succ (m : List (BitVec 32)) (r : BitVec 32) (k : Nat) : ofTo m r (k + 1) = ofTo m r k ^^^ (if r.getLsbD k then m.getD k 0#32 else 0#32) := by
  rw [ofTo, neg_low, BitVec.getLsbD_ushiftRight, Nat.add_zero, and_mask]
theorem ofTo_xor (m : List (BitVec 32)) (a b : BitVec 32) (k : Nat) : ofTo m (a ^^^ b) k = ofTo m a k ^^^ ofTo m b k := by
  induction k with
  | zero => exact BitVec.xor_zero.symm
  | succ k ih => rw [ofTo_succ, ofTo_succ, ofTo_succ, ih, BitVec.getLsbD_xor, mask_xor, xor_four]
theorem ofTo_map (m : List (BitVec 32)) (g : BitVec 32 → BitVec 32) (hx : ∀ a b, g (a ^^^ b) = g a ^^^ g b) (h0 : g 0#32 = 0#32) (r : BitVec 32) (k : Nat) : ofTo (m.map g) r k = g (ofTo m r k) := by
  induction k with
  | zero => exact h0.symm
  | succ k ih =>
    have hd : (m.map g).getD k 0#32 = g (m.getD k 0#32) := by
      simp only [List.getD, List.getElem?_map]
      cases m[k]? with
      | none => exact h0.symm
      | some x => rfl
    rw [ofTo_succ, ofTo_succ, ih, hx, hd]
    cases r.getLsbD k
    · exact congrArg _ h0.symm
    · rfl
theorem matOf_square (m : List (BitVec 32)) (r : BitVec 32) : matOf (squareOf m) r = matOf m (matOf m r) :=
  ofTo_map m (matOf m) (fun a b => ofTo_xor m a b 32) (by
    have h := ofTo_xor m 0#32 0#32 32
    rw [BitVec.xor_zero] at h
    have h2 : matOf m 0#32 ^^^ matOf m 0#32 = 0#32 := BitVec.xor_self
    exact h.trans h2) r 32
def unit32 : List (BitVec 32) := (List.range 32).map fun i => 1#32 <<< i
theorem mat1_eq : mat1 = unit32.map stp := by simp [mat1, unit32]
theorem unit_bit (k i : Nat) (hk : k < 32) : (1#32 <<< k).getLsbD i = decide (i = k) := by
  rw [BitVec.getLsbD_shiftLeft]
  rcases Nat.lt_trichotomy i k with h | h | h
  · simp [h, show ¬ i = k by omega]
  · subst h; simp [hk]
  · simp [show ¬ i = k by omega, show ¬ i < k by omega, BitVec.getLsbD_one]; omega
theorem ofTo_unit (r : BitVec 32) : ∀ k, k ≤ 32 → ∀ i, (ofTo unit32 r k).getLsbD i = (decide (i < k) && r.getLsbD i)
  | 0, _, i => by simp [ofTo]
  | k + 1, hk, i => by
    have hd : unit32.getD k 0#32 = 1#32 <<< k := by simp [unit32, List.getD, show k < 32 by omega]
    rw [ofTo_succ, BitVec.getLsbD_xor, ofTo_unit r k (by omega) i, hd]
    by_cases hik : i = k
    · subst hik
      cases h : r.getLsbD i
      · simp
      · rw [if_pos rfl, unit_bit i i (by omega)]; simp
    · have h2 : (if r.getLsbD k = true then 1#32 <<< k else 0#32).getLsbD i = false := by
        split
        · rw [unit_bit k i (by omega)]; simp [hik]
        · exact BitVec.getLsbD_zero
      have h3 : decide (i < k + 1) = decide (i < k) := by
        rw [decide_eq_decide]; omega
      rw [h2, h3, Bool.xor_false]
theorem matOf_one (r : BitVec 32) : matOf mat1 r = stp r := by
  rw [matOf, mat1_eq, ofTo_map unit32 stp stp_xor stp_zero]
  congr 1
  apply BitVec.eq_of_getLsbD_eq
  intro i hi
  rw [ofTo_unit r 32 (by omega) i]; simp [hi]
theorem matOf_eight (r : BitVec 32) : matOf mat8 r = stps 8 r := by
  simp only [mat8, matOf_square, matOf_one]; rfl

/-! ### Join -/
def times : Nat → (BitVec 32 → BitVec 32) → BitVec 32 → BitVec 32
  | 0, _, a => a
  | n + 1, f, a => times n f (f a)
theorem times_two (n : Nat) (f : BitVec 32 → BitVec 32) (a : BitVec 32) : times n (fun x => f (f x)) a = times (2 * n) f a := by
  induction n generalizing a with
  | zero => rfl
  | succ n ih => rw [times, ih, show 2 * (n + 1) = 2 * n + 1 + 1 by omega, times, times]
theorem joinGo_times : ∀ (f : Nat) (m : List (BitVec 32)) (a : BitVec 32) (n : Nat), n < 2 ^ f → joinGo f m a n = times n (matOf m) a
  | 0, m, a, n, h => by
    have : n = 0 := by simpa using h
    subst this; rfl
  | f + 1, m, a, n, h => by
    rw [joinGo]
    by_cases h0 : n = 0
    · subst h0; rfl
    · rw [if_neg h0, joinGo_times f _ _ _ (by rw [Nat.pow_succ] at h; omega)]
      have e : matOf (squareOf m) = fun x => matOf m (matOf m x) := funext (matOf_square m)
      rw [e, times_two]
      by_cases h1 : n % 2 = 1
      · rw [if_pos h1]
        have : n = 2 * (n / 2) + 1 := by omega
        conv => rhs; rw [this, times]
      · rw [if_neg h1]
        have : n = 2 * (n / 2) := by omega
        conv => rhs; rw [this]
theorem times_shift (n : Nat) (a : BitVec 32) : times n (stps 8) a = shift n a := by
  induction n generalizing a with
  | zero => rfl
  | succ n ih => rw [times, shift, ih]
theorem joinOf_eq (a b : BitVec 32) (n : Nat) (h : n < 9223372036854775808) : joinOf a b n = shift n a ^^^ b := by
  rw [joinOf, joinGo_times 63 mat8 a n (by omega)]
  have e : matOf mat8 = stps 8 := funext matOf_eight
  rw [e, times_shift]

theorem not_xor32 (a : BitVec 32) : ~~~ a = BitVec.allOnes 32 ^^^ a := by rw [BitVec.allOnes_xor]
/-- The sums of two rows joined are the sum of both. -/
theorem join_more (A B : List UInt8) (h : B.length < 9223372036854775808) : joinOf (more 0#32 A) (more 0#32 B) B.length = more 0#32 (A ++ B) := by
  rw [joinOf_eq _ _ _ h, more, more, more, feeds_append]
  rw [feeds_split (feeds (~~~ 0#32) A) B, feeds_split (~~~ 0#32) B]
  generalize hF : feeds (~~~ 0#32) A = F
  generalize hG : feeds 0#32 B = G
  have e0 : ~~~ 0#32 = BitVec.allOnes 32 := by decide
  rw [e0, not_xor32 F, shift_xor, not_xor32, not_xor32]
  generalize BitVec.allOnes 32 = o
  generalize shift B.length o = so
  generalize shift B.length F = sf
  calc so ^^^ sf ^^^ (o ^^^ (so ^^^ G)) = (so ^^^ so) ^^^ (o ^^^ (sf ^^^ G)) := by ac_rfl
    _ = o ^^^ (sf ^^^ G) := by rw [BitVec.xor_self, BitVec.zero_xor]

end Go.Proofs.Ytnojeiklgjhkgaa
