/- Tokens in plain words: which may be, their bytes, what bytes tell. -/
import Derived.Test.YtlhemmlmhgjodaaMac
import Derived.Test.YtlhemmlmhgjodaaStrBytes
namespace Go.Proofs.Ytlhemmlmhgjodaa
open Go.RowKit

/-- A token. -/
structure Tok where
  name : List UInt8
  role : Int
  til : Int
deriving DecidableEq
def tokV (t : Tok) : Value := .agg #[.string (strOf t.name), .int .i8 t.role, .int .i64 t.til]
def tokMay (t : Tok) : Bool := decide (1 ≤ t.name.length ∧ t.name.length ≤ 40 ∧ 0 ≤ t.role ∧ t.role ≤ 2 ∧ 0 ≤ t.til ∧ t.til ≤ 9007199254740992)
def tokHead (t : Tok) : List UInt8 := [UInt8.ofNat t.name.length] ++ t.name ++ [UInt8.ofNat t.role.toNat] ++ be64 t.til.toNat
def tokB (k : List UInt8) (t : Tok) : List UInt8 := tokHead t ++ dgl (hout k (tokHead t))
/-- What Make answers. -/
def tokMake (k : List UInt8) (t : Tok) : List UInt8 × Int := if 65536 < k.length then ([], 3) else if tokMay t = true then (tokB k t, 0) else ([], 2)
/-- Bytes as a number, 64 bits wide. -/
def numW (l : List UInt8) : BitVec 64 := l.foldl (fun x y => (x <<< 8) ||| y.toBitVec.setWidth 64) 0#64
def numI (l : List UInt8) : Int := (numW l).toInt
def tok0 : Tok := ⟨[], 0, 0⟩
/-- What bytes would be as a token. -/
def tokRead (b : List UInt8) : Tok :=
  let n := (numI (b.take 1)).toNat
  let b1 := b.drop 1
  let b2 := b1.drop n
  ⟨b1.take n, IntKind.i8.wrap (numI (b2.take 1)), numI ((b2.drop 1).take 8)⟩
/-- What Check answers. -/
def tokCheck (k b : List UInt8) (now : Int) : Tok × Int :=
  if 65536 < k.length then (tok0, 3) else if tokMake k (tokRead b) = (b, 0) then (if (tokRead b).til < now then (tok0, 91) else (tokRead b, 0)) else (tok0, 90)

theorem numW_snoc (l : List UInt8) (y : UInt8) : numW (l ++ [y]) = (numW l <<< 8) ||| y.toBitVec.setWidth 64 := by simp [numW]
theorem tokHead_length (t : Tok) : (tokHead t).length = t.name.length + 10 := by simp [tokHead, be64_length]
theorem tokB_length (k : List UInt8) (t : Tok) : (tokB k t).length = t.name.length + 42 := by rw [tokB, List.length_append, tokHead_length, dgl_length]
theorem num1 (y : UInt8) : numI [y] = (y.toNat : Int) := by
  have e : numW [y] = y.toBitVec.setWidth 64 := by simp [numW]
  have h : y.toBitVec.toNat < 256 := y.toBitVec.isLt
  have h2 : (y.toBitVec.setWidth 64).toNat = y.toNat := by rw [BitVec.toNat_setWidth]; exact Nat.mod_eq_of_lt (by omega)
  rw [numI, e, BitVec.toInt_eq_toNat_of_lt (by rw [h2]; show 2 * y.toBitVec.toNat < _; omega), h2]
theorem numW_fold : ∀ (l : List UInt8) (x : BitVec 64) (m : Nat), x.toNat < 256 ^ m → m + l.length ≤ 8 → (l.foldl (fun (x : BitVec 64) (y : UInt8) => (x <<< 8) ||| y.toBitVec.setWidth 64) x).toNat = l.foldl (fun x y => x * 256 + y.toNat) x.toNat
  | [], x, m, _, _ => rfl
  | y :: l, x, m, hx, hm => by
    rw [List.length_cons] at hm
    have hy : y.toNat < 256 := y.toBitVec.isLt
    have hp : 256 ^ m ≤ 256 ^ 7 := Nat.pow_le_pow_right (by omega) (by omega)
    have e : ((x <<< 8) ||| y.toBitVec.setWidth 64).toNat = x.toNat * 256 + y.toNat := by
      have e1 : y.toBitVec.toNat % 2 ^ 64 = y.toNat := Nat.mod_eq_of_lt (by show y.toNat < _; omega)
      have e2 := Nat.shiftLeft_add_eq_or_of_lt (show y.toNat < 2 ^ 8 by omega) x.toNat
      rw [Nat.shiftLeft_eq] at e2
      rw [BitVec.toNat_or, BitVec.toNat_shiftLeft, Nat.shiftLeft_eq, Nat.mod_eq_of_lt (by omega), BitVec.toNat_setWidth, e1]
      exact e2.symm
    rw [List.foldl_cons, List.foldl_cons, numW_fold l _ (m + 1) (by rw [e, Nat.pow_succ]; omega) (by omega), e]
theorem numW_toNat (l : List UInt8) (h : l.length ≤ 8) : (numW l).toNat = l.foldl (fun x y => x * 256 + y.toNat) 0 := numW_fold l 0#64 0 (by simp) (by omega)
theorem num_be64 (n : Nat) (h : n < 18446744073709551616) : (numW (be64 n)).toNat = n := by
  rw [numW_toNat (be64 n) (by rw [be64_length]; omega)]
  have e : ∀ i, (be64b n i).toNat = n / 2 ^ (56 - 8 * i) % 256 := fun i => by
    show (BitVec.ofNat 8 (n / 2 ^ (56 - 8 * i))).toNat = _
    rw [BitVec.toNat_ofNat]
  simp only [be64, List.range, List.range.loop, List.map_cons, List.map_nil, List.foldl_cons, List.foldl_nil, e]
  omega
theorem numI_be64 (n : Nat) (h : n < 9223372036854775808) : numI (be64 n) = (n : Int) := by
  rw [numI, BitVec.toInt_eq_toNat_of_lt (by rw [num_be64 n (by omega)]; omega), num_be64 n (by omega)]
/-- What Make writes is read as it was. -/
theorem tokRead_make (k : List UInt8) (t : Tok) (h : tokMay t = true) : tokRead (tokB k t) = t := by
  obtain ⟨name, role, til⟩ := t
  simp only [tokMay, decide_eq_true_eq] at h
  obtain ⟨h1, h2, h3, h4, h5, h6⟩ := h
  have e1 : (UInt8.ofNat name.length).toNat = name.length := by rw [UInt8.toNat_ofNat']; omega
  have e2 : (UInt8.ofNat role.toNat).toNat = role.toNat := by rw [UInt8.toNat_ofNat']; omega
  have hb : tokB k ⟨name, role, til⟩ = UInt8.ofNat name.length :: (name ++ (UInt8.ofNat role.toNat :: (be64 til.toNat ++ dgl (hout k (tokHead ⟨name, role, til⟩))))) := by simp [tokB, tokHead]
  rw [hb]
  unfold tokRead
  have e3 : List.drop name.length name = [] := List.drop_eq_nil_of_le (Nat.le_refl _)
  simp only [List.take_succ_cons, List.take_zero, List.drop_succ_cons, List.drop_zero, num1, e1, Int.toNat_natCast, List.take_left, List.drop_left, e2]
  rw [List.take_append_of_le_length (by rw [be64_length]; omega), List.take_of_length_le (by rw [be64_length]; omega), numI_be64 _ (by omega)]
  have e4 : IntKind.i8.wrap (role.toNat : Int) = role := by
    rw [Int.toNat_of_nonneg h3]
    exact IntWalk.i8_in _ (by omega)
  rw [e4, Int.toNat_of_nonneg h5]
theorem tokMake_ok (k : List UInt8) (t : Tok) (b : List UInt8) (h : tokMake k t = (b, 0)) : k.length ≤ 65536 ∧ tokMay t = true ∧ b = tokB k t := by
  unfold tokMake at h
  split at h
  · cases h
  · split at h
    · cases h; exact ⟨by omega, by assumption, rfl⟩
    · cases h
theorem tokMake_may (k : List UInt8) (t : Tok) (hk : k.length ≤ 65536) (h : tokMay t = true) : tokMake k t = (tokB k t, 0) := by
  rw [tokMake, if_neg (by omega), if_pos h]
/-- The law behind TokenBack: a token made is checked as it is. -/
theorem tokCheck_make (k : List UInt8) (t : Tok) (now : Int) (hk : k.length ≤ 65536) (h : tokMay t = true) : tokCheck k (tokB k t) now = if t.til < now then (tok0, 91) else (t, 0) := by
  rw [tokCheck, if_neg (by omega), tokRead_make k t h, tokMake_may k t hk h, if_pos rfl]
theorem tokB_inj (k : List UInt8) (t u : Tok) (ht : tokMay t = true) (hu : tokMay u = true) : tokB k t = tokB k u ↔ t = u := by
  constructor
  · intro h
    rw [← tokRead_make k t ht, h, tokRead_make k u hu]
  · rintro rfl; rfl
end Go.Proofs.Ytlhemmlmhgjodaa
