/- The field of bytes, the box, and blocks encrypted, in plain words. No program is named. -/
import Derived.WalkKit
namespace Go.Proofs.Ytjkdgaehnachdaa
open Go.RowKit

/-! ### Products -/
def xt (x : BitVec 8) : BitVec 8 := (x <<< 1) ^^^ ((x >>> 7) * 27#8)
def xts : Nat → BitVec 8 → BitVec 8
  | 0, x => x
  | k + 1, x => xt (xts k x)
def tims (x y : BitVec 8) : Nat → BitVec 8
  | 0 => 0#8
  | k + 1 => tims x y k ^^^ (if y.getLsbD k then xts k x else 0#8)
def tim (x y : BitVec 8) : BitVec 8 := tims x y 8

theorem xt_if : ∀ x : BitVec 8, xt x = (x <<< 1) ^^^ (if x.getLsbD 7 then 27#8 else 0#8) := by decide +kernel
theorem xor_turn (a b c d : BitVec 8) : (a ^^^ b) ^^^ (c ^^^ d) = (a ^^^ c) ^^^ (b ^^^ d) := by
  rw [BitVec.xor_assoc, BitVec.xor_assoc, ← BitVec.xor_assoc b c d, BitVec.xor_comm b c, BitVec.xor_assoc c b d]
theorem if_xor (p q : Bool) (c : BitVec 8) : (if (p ^^ q) then c else 0#8) = (if p then c else 0#8) ^^^ (if q then c else 0#8) := by
  cases p <;> cases q <;> simp
theorem if_xor' (p : Bool) (c d : BitVec 8) : (if p then c ^^^ d else 0#8) = (if p then c else 0#8) ^^^ (if p then d else 0#8) := by
  cases p <;> simp
theorem xt_xor (a b : BitVec 8) : xt (a ^^^ b) = xt a ^^^ xt b := by
  rw [xt_if, xt_if, xt_if, BitVec.getLsbD_xor, if_xor, BitVec.shiftLeft_xor_distrib, xor_turn]
theorem xts_xor (a b : BitVec 8) : ∀ k, xts k (a ^^^ b) = xts k a ^^^ xts k b
  | 0 => rfl
  | k + 1 => by rw [xts, xts_xor a b k, xt_xor]; rfl
theorem tims_xor (x y z : BitVec 8) : ∀ k, tims x (y ^^^ z) k = tims x y k ^^^ tims x z k
  | 0 => by simp [tims]
  | k + 1 => by rw [tims, tims_xor x y z k, BitVec.getLsbD_xor, if_xor, xor_turn]; rfl
theorem tims_xor_left (x y z : BitVec 8) : ∀ k, tims (x ^^^ y) z k = tims x z k ^^^ tims y z k
  | 0 => by simp [tims]
  | k + 1 => by rw [tims, tims_xor_left x y z k, xts_xor, if_xor', xor_turn]; rfl
theorem tim_xor (x y z : BitVec 8) : tim x (y ^^^ z) = tim x y ^^^ tim x z := tims_xor x y z 8
theorem tim_xor_left (x y z : BitVec 8) : tim (x ^^^ y) z = tim x z ^^^ tim y z := tims_xor_left x y z 8

/-- What goes through sums is known at single bits. -/
def single (x : BitVec 8) (k : Nat) : BitVec 8 := if x.getLsbD k then 1#8 <<< k else 0#8
theorem of_bits : ∀ x : BitVec 8, single x 0 ^^^ single x 1 ^^^ single x 2 ^^^ single x 3 ^^^ single x 4 ^^^ single x 5 ^^^ single x 6 ^^^ single x 7 = x := by decide +kernel
theorem add_zero_of {f : BitVec 8 → BitVec 8} (hf : ∀ a b, f (a ^^^ b) = f a ^^^ f b) : f 0#8 = 0#8 := by
  have h := hf 0#8 0#8
  have e : (0#8 ^^^ 0#8) = 0#8 := rfl
  rw [e] at h
  have := congrArg (· ^^^ f 0#8) h
  simpa [BitVec.xor_assoc] using this.symm
theorem sums_eq {f g : BitVec 8 → BitVec 8} (hf : ∀ a b, f (a ^^^ b) = f a ^^^ f b) (hg : ∀ a b, g (a ^^^ b) = g a ^^^ g b) (h : ∀ k, k < 8 → f (1#8 <<< k) = g (1#8 <<< k)) (x : BitVec 8) : f x = g x := by
  have s : ∀ k, k < 8 → f (single x k) = g (single x k) := fun k hk => by
    unfold single
    split
    · exact h k hk
    · rw [add_zero_of hf, add_zero_of hg]
  rw [← of_bits x]
  simp only [hf, hg, s 0 (by omega), s 1 (by omega), s 2 (by omega), s 3 (by omega), s 4 (by omega), s 5 (by omega), s 6 (by omega), s 7 (by omega)]

theorem tim_comm_bits : ∀ i, i < 8 → ∀ j, j < 8 → tim (1#8 <<< i) (1#8 <<< j) = tim (1#8 <<< j) (1#8 <<< i) := by decide +kernel
theorem tim_assoc_bits : ∀ i, i < 8 → ∀ j, j < 8 → ∀ k, k < 8 → tim (tim (1#8 <<< i) (1#8 <<< j)) (1#8 <<< k) = tim (1#8 <<< i) (tim (1#8 <<< j) (1#8 <<< k)) := by decide +kernel
theorem tim_comm (x y : BitVec 8) : tim x y = tim y x := by
  refine sums_eq (f := fun x => tim x y) (g := fun x => tim y x) (fun a b => tim_xor_left a b y) (fun a b => tim_xor y a b) (fun i hi => ?_) x
  exact sums_eq (f := fun y => tim (1#8 <<< i) y) (g := fun y => tim y (1#8 <<< i)) (fun a b => tim_xor _ a b) (fun a b => tim_xor_left a b _) (fun j hj => tim_comm_bits i hi j hj) y
theorem tim_assoc (x y z : BitVec 8) : tim (tim x y) z = tim x (tim y z) := by
  refine sums_eq (f := fun x => tim (tim x y) z) (g := fun x => tim x (tim y z)) (fun a b => by simp only [tim_xor_left]) (fun a b => by simp only [tim_xor_left]) (fun i hi => ?_) x
  refine sums_eq (f := fun y => tim (tim (1#8 <<< i) y) z) (g := fun y => tim (1#8 <<< i) (tim y z)) (fun a b => by simp only [tim_xor, tim_xor_left]) (fun a b => by simp only [tim_xor, tim_xor_left]) (fun j hj => ?_) y
  exact sums_eq (f := fun z => tim (tim (1#8 <<< i) (1#8 <<< j)) z) (g := fun z => tim (1#8 <<< i) (tim (1#8 <<< j) z)) (fun a b => by simp only [tim_xor]) (fun a b => by simp only [tim_xor]) (fun k hk => tim_assoc_bits i hi j hj k hk) z
theorem tim_one : ∀ x : BitVec 8, tim x 1#8 = x := by decide +kernel
theorem tim_zero : ∀ x : BitVec 8, tim 0#8 x = 0#8 := by decide +kernel

/-- The bits that are left are none: the sum is whole. -/
theorem tims_end (x y : BitVec 8) (k : Nat) (h : y >>> k = 0#8) : ∀ n, tims x y (k + n) = tims x y k
  | 0 => rfl
  | n + 1 => by
    have e : y.getLsbD (k + n) = false := by
      have := congrArg (fun b => b.getLsbD n) h
      simpa using this
    rw [← Nat.add_assoc, tims, tims_end x y k h n, e]
    simp

/-! ### The box -/
def pw (x : BitVec 8) : BitVec 8 :=
  let f := fun y => tim (tim y y) x
  let y := f (f (f (f (f (f x)))))
  tim y y
def pws : Nat → BitVec 8 → BitVec 8
  | 0, x => x
  | k + 1, x => tim (tim (pws k x) (pws k x)) x
theorem pw_eq (x : BitVec 8) : pw x = tim (pws 6 x) (pws 6 x) := rfl
theorem pw_ok : ∀ x : BitVec 8, x ≠ 0#8 → tim x (pw x) = 1#8 := by decide +kernel
theorem pw_zero : pw 0#8 = 0#8 := by decide +kernel
theorem inv_one {x y z : BitVec 8} (h1 : tim x y = 1#8) (h2 : tim x z = 1#8) : y = z := by
  have h : tim y (tim x z) = tim (tim y x) z := (tim_assoc y x z).symm
  rw [h2, tim_one, tim_comm y x, h1, tim_comm, tim_one] at h
  exact h
def rotl (y : BitVec 8) (k : Nat) : BitVec 8 := (y <<< (k % 8)) ||| (y >>> (8 - k % 8))
def bxs (y : BitVec 8) : Nat → BitVec 8
  | 0 => 99#8
  | k + 1 => bxs y k ^^^ rotl y k
def bx (x : BitVec 8) : BitVec 8 := bxs (pw x) 5
/-- The reference's box, of the inverse. -/
def bxbit (y : BitVec 8) (i : Nat) : BitVec 8 := y >>> i ^^^ y >>> ((i + 4) % 8) ^^^ y >>> ((i + 5) % 8) ^^^ y >>> ((i + 6) % 8) ^^^ y >>> ((i + 7) % 8) ^^^ 99#8 >>> i
def bxr (y : BitVec 8) : Nat → BitVec 8
  | 0 => 0#8
  | k + 1 => bxr y k ||| ((bxbit y k &&& 1#8) <<< k)
theorem bxr_bxs : ∀ y : BitVec 8, bxr y 8 = bxs y 5 := by decide +kernel
end Go.Proofs.Ytjkdgaehnachdaa
