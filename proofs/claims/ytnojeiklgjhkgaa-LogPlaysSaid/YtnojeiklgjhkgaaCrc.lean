/- The sums of chapter 2 as plain functions on bit vectors. No program is named. -/
import Derived.Test.YtnojeiklgjhkgaaBase
namespace Go.Proofs.Ytnojeiklgjhkgaa

/-- One bit of a remainder. -/
def stp (r : BitVec 32) : BitVec 32 := (r >>> 1) ^^^ (0xedb88320#32 &&& -(r &&& 1#32))
def stps : Nat → BitVec 32 → BitVec 32
  | 0, r => r
  | k + 1, r => stp (stps k r)
/-- One byte. -/
def feed (r : BitVec 32) (c : UInt8) : BitVec 32 := stps 8 (r ^^^ c.toBitVec.setWidth 32)
def feeds (r : BitVec 32) (l : List UInt8) : BitVec 32 := l.foldl feed r
/-- The sum of more bytes behind a sum. -/
def more (s : BitVec 32) (l : List UInt8) : BitVec 32 := ~~~ (feeds (~~~ s) l)

theorem feeds_snoc (r : BitVec 32) (l : List UInt8) (c : UInt8) : feeds r (l ++ [c]) = feed (feeds r l) c := by simp [feeds]
theorem feeds_append (r : BitVec 32) (l m : List UInt8) : feeds r (l ++ m) = feeds (feeds r l) m := by simp [feeds]
theorem more_append (s : BitVec 32) (l m : List UInt8) : more s (l ++ m) = more (more s l) m := by simp [more, feeds_append]
theorem feeds_take (r : BitVec 32) (l : List UInt8) (k : Nat) (h : k < l.length) : feeds r (l.take (k + 1)) = feed (feeds r (l.take k)) l[k] := by
  rw [List.take_succ_eq_append_getElem h, feeds_snoc]


/-! ### The matrix of package sums -/
def u32s (l : List (BitVec 32)) : Array Value := (l.map fun x => Value.int .u32 (U32 x)).toArray
theorem u32s_size (l : List (BitVec 32)) : (u32s l).size = l.length := by simp [u32s]
theorem u32s_at (l : List (BitVec 32)) (k : Nat) (h : k < l.length) : (u32s l)[k]? = some (.int .u32 (U32 l[k])) := by simp [u32s, h]
theorem u32s_getD (l : List (BitVec 32)) (k : Nat) (h : k < l.length) : (u32s l)[k]? = some (.int .u32 (U32 (l.getD k 0#32))) := by simp [u32s, h]
theorem u32s_one (l : List (BitVec 32)) : (u32s l).all (·.oneCell') = true := by
  simp [u32s, Value.oneCell']
/-- What the first k columns make of a remainder. -/
def ofTo (l : List (BitVec 32)) (r : BitVec 32) : Nat → BitVec 32
  | 0 => 0#32
  | k + 1 => ofTo l r k ^^^ (l.getD k 0#32 &&& -((r >>> k) &&& 1#32))
def matOf (l : List (BitVec 32)) (r : BitVec 32) : BitVec 32 := ofTo l r 32
def squareOf (l : List (BitVec 32)) : List (BitVec 32) := l.map (matOf l)
theorem squareOf_length (l : List (BitVec 32)) : (squareOf l).length = l.length := by simp [squareOf]
theorem squareOf_at (l : List (BitVec 32)) (k : Nat) (h : k < l.length) : (squareOf l)[k]'(by rw [squareOf_length]; exact h) = matOf l (l.getD k 0#32) := by simp [squareOf, h]
/-- A row of which the first k are those of one list, the others those of another one. -/
def mixed {α : Type} (a b : List α) (k : Nat) : List α := a.take k ++ b.drop k
theorem mixed_length {α : Type} (a b : List α) (k : Nat) (h : a.length = b.length) : (mixed a b k).length = a.length := by
  simp [mixed]; omega
theorem mixed_zero {α : Type} (a b : List α) : mixed a b 0 = b := by simp [mixed]
theorem mixed_all {α : Type} (a b : List α) (h : a.length = b.length) : mixed a b a.length = a := by simp [mixed, show b.drop a.length = [] from List.drop_of_length_le (by omega)]
theorem mixed_set {α : Type} (a b : List α) (k : Nat) (h : a.length = b.length) (hk : k < a.length) : (mixed a b k).set k a[k] = mixed a b (k + 1) := by
  apply List.ext_getElem
  · simp [mixed]; omega
  · intro i h1 h2
    simp only [mixed, List.getElem_set, List.getElem_append, List.length_take, List.getElem_take, List.getElem_drop]
    by_cases e : k = i
    · subst e; simp; omega
    · rcases Nat.lt_or_ge i k with h3 | h3
      · rw [if_neg e, dif_pos (by omega), dif_pos (by omega)]
      · rw [if_neg e, dif_neg (by omega), dif_neg (by omega)]
        congr 1; omega

theorem mixed_end {α : Type} (a b : List α) (k : Nat) (h : a.length = b.length) (hk : a.length = k) : mixed a b k = a := by
  subst hk; exact mixed_all a b h


/-- The four bytes of a sum, the lowest first. -/
def le4 (s : BitVec 32) : List UInt8 := [⟨s.setWidth 8⟩, ⟨(s >>> 8).setWidth 8⟩, ⟨(s >>> 16).setWidth 8⟩, ⟨(s >>> 24).setWidth 8⟩]

/-! ### Two sums joined -/
/-- What is left of Join's last loop, n being less than 2 to the power of the fuel. -/
def joinGo : Nat → List (BitVec 32) → BitVec 32 → Nat → BitVec 32
  | 0, _, a, _ => a
  | f + 1, m, a, n => if n = 0 then a else joinGo f (squareOf m) (if n % 2 = 1 then matOf m a else a) (n / 2)
def mat1 : List (BitVec 32) := (List.range 32).map fun i => stp (1#32 <<< i)
def mat8 : List (BitVec 32) := squareOf (squareOf (squareOf mat1))
def joinOf (a b : BitVec 32) (n : Nat) : BitVec 32 := joinGo 63 mat8 a n ^^^ b

theorem mat1_length : mat1.length = 32 := by simp [mat1]
theorem mat1_at (k : Nat) (h : k < 32) : mat1[k]'(by rw [mat1_length]; exact h) = stp (1#32 <<< k) := by simp [mat1]
def squares : Nat → List (BitVec 32) → List (BitVec 32)
  | 0, m => m
  | k + 1, m => squareOf (squares k m)
theorem squares_length (k : Nat) (m : List (BitVec 32)) : (squares k m).length = m.length := by
  induction k with
  | zero => rfl
  | succ k ih => rw [squares, squareOf_length, ih]

end Go.Proofs.Ytnojeiklgjhkgaa
