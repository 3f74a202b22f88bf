/- Texts put together (merge.py): AesPlain, AesPlain2, AesNum, AesMem. -/
import Derived.WalkKit
import Derived.Test.YtiadhcipfgckoaaRows
import Derived.Test.YtiadhcipfgckoaaBase
import Derived.Test.YtiadhcipfgckoaaLex
/- The field of bytes, the box, and blocks encrypted, in plain words. No program is named. -/
namespace Go.Proofs.Ytiadhcipfgckoaa
open Go.RowKit

/-! ### Products -/
def xt (x : BitVec 8) : BitVec 8 := (x <<< 1) ^^^ ((x >>> 7) * 27#8)
def xts : Nat → BitVec 8 → BitVec 8
  | 0, x => x
  | k + 1, x => xt (xts k x)
def tims (x y : BitVec 8) : Nat → BitVec 8
  | 0 => 0#8
  | k + 1 => tims x y k ^^^ (if y.getLsbD k then xts k x else 0#8)
def tim (x y : BitVec 8) : BitVec 8 := tims x y 8

theorem xt_if : ∀ x : BitVec 8, xt x = (x <<< 1) ^^^ (if x.getLsbD 7 then 27#8 else 0#8) := by decide +kernel
theorem xor_turn (a b c d : BitVec 8) : (a ^^^ b) ^^^ (c ^^^ d) = (a ^^^ c) ^^^ (b ^^^ d) := by
  rw [BitVec.xor_assoc, BitVec.xor_assoc, ← BitVec.xor_assoc b c d, BitVec.xor_comm b c, BitVec.xor_assoc c b d]
theorem if_xor (p q : Bool) (c : BitVec 8) : (if (p ^^ q) then c else 0#8) = (if p then c else 0#8) ^^^ (if q then c else 0#8) := by
  cases p <;> cases q <;> simp
theorem if_xor' (p : Bool) (c d : BitVec 8) : (if p then c ^^^ d else 0#8) = (if p then c else 0#8) ^^^ (if p then d else 0#8) := by
  cases p <;> simp
theorem xt_xor (a b : BitVec 8) : xt (a ^^^ b) = xt a ^^^ xt b := by
  rw [xt_if, xt_if, xt_if, BitVec.getLsbD_xor, if_xor, BitVec.shiftLeft_xor_distrib, xor_turn]
theorem xts_xor (a b : BitVec 8) : ∀ k, xts k (a ^^^ b) = xts k a ^^^ xts k b
  | 0 => rfl
  | k + 1 => by rw [xts, xts_xor a b k, xt_xor]; rfl
theorem tims_xor (x y z : BitVec 8) : ∀ k, tims x (y ^^^ z) k = tims x y k ^^^ tims x z k
  | 0 => by simp [tims]
  | k + 1 => by rw [tims, tims_xor x y z k, BitVec.getLsbD_xor, if_xor, xor_turn]; rfl
theorem tims_xor_left (x y z : BitVec 8) : ∀ k, tims (x ^^^ y) z k = tims x z k ^^^ tims y z k
  | 0 => by simp [tims]
  | k + 1 => by rw [tims, tims_xor_left x y z k, xts_xor, if_xor', xor_turn]; rfl
theorem tim_xor (x y z : BitVec 8) : tim x (y ^^^ z) = tim x y ^^^ tim x z := tims_xor x y z 8
theorem tim_xor_left (x y z : BitVec 8) : tim (x ^^^ y) z = tim x z ^^^ tim y z := tims_xor_left x y z 8

/-- What goes through sums is known at single bits. -/
def single (x : BitVec 8) (k : Nat) : BitVec 8 := if x.getLsbD k then 1#8 <<< k else 0#8
theorem of_bits : ∀ x : BitVec 8, single x 0 ^^^ single x 1 ^^^ single x 2 ^^^ single x 3 ^^^ single x 4 ^^^ single x 5 ^^^ single x 6 ^^^ single x 7 = x := by decide +kernel
theorem add_zero_of {f : BitVec 8 → BitVec 8} (hf : ∀ a b, f (a ^^^ b) = f a ^^^ f b) : f 0#8 = 0#8 := by
  have h := hf 0#8 0#8
  have e : (0#8 ^^^ 0#8) = 0#8 := rfl
  rw [e] at h
  have := congrArg (· ^^^ f 0#8) h
  simpa [BitVec.xor_assoc] using this.symm
theorem sums_eq {f g : BitVec 8 → BitVec 8} (hf : ∀ a b, f (a ^^^ b) = f a ^^^ f b) (hg : ∀ a b, g (a ^^^ b) = g a ^^^ g b) (h : ∀ k, k < 8 → f (1#8 <<< k) = g (1#8 <<< k)) (x : BitVec 8) : f x = g x := by
  have s : ∀ k, k < 8 → f (single x k) = g (single x k) := fun k hk => by
    unfold single
    split
    · exact h k hk
    · rw [add_zero_of hf, add_zero_of hg]
  rw [← of_bits x]
  simp only [hf, hg, s 0 (by omega), s 1 (by omega), s 2 (by omega), s 3 (by omega), s 4 (by omega), s 5 (by omega), s 6 (by omega), s 7 (by omega)]

theorem tim_comm_bits : ∀ i, i < 8 → ∀ j, j < 8 → tim (1#8 <<< i) (1#8 <<< j) = tim (1#8 <<< j) (1#8 <<< i) := by decide +kernel
theorem tim_assoc_bits : ∀ i, i < 8 → ∀ j, j < 8 → ∀ k, k < 8 → tim (tim (1#8 <<< i) (1#8 <<< j)) (1#8 <<< k) = tim (1#8 <<< i) (tim (1#8 <<< j) (1#8 <<< k)) := by decide +kernel
theorem tim_comm (x y : BitVec 8) : tim x y = tim y x := by
  refine sums_eq (f := fun x => tim x y) (g := fun x => tim y x) (fun a b => tim_xor_left a b y) (fun a b => tim_xor y a b) (fun i hi => ?_) x
  exact sums_eq (f := fun y => tim (1#8 <<< i) y) (g := fun y => tim y (1#8 <<< i)) (fun a b => tim_xor _ a b) (fun a b => tim_xor_left a b _) (fun j hj => tim_comm_bits i hi j hj) y
theorem tim_assoc (x y z : BitVec 8) : tim (tim x y) z = tim x (tim y z) := by
  refine sums_eq (f := fun x => tim (tim x y) z) (g := fun x => tim x (tim y z)) (fun a b => by simp only [tim_xor_left]) (fun a b => by simp only [tim_xor_left]) (fun i hi => ?_) x
  refine sums_eq (f := fun y => tim (tim (1#8 <<< i) y) z) (g := fun y => tim (1#8 <<< i) (tim y z)) (fun a b => by simp only [tim_xor, tim_xor_left]) (fun a b => by simp only [tim_xor, tim_xor_left]) (fun j hj => ?_) y
  exact sums_eq (f := fun z => tim (tim (1#8 <<< i) (1#8 <<< j)) z) (g := fun z => tim (1#8 <<< i) (tim (1#8 <<< j) z)) (fun a b => by simp only [tim_xor]) (fun a b => by simp only [tim_xor]) (fun k hk => tim_assoc_bits i hi j hj k hk) z
theorem tim_one : ∀ x : BitVec 8, tim x 1#8 = x := by decide +kernel
theorem tim_zero : ∀ x : BitVec 8, tim 0#8 x = 0#8 := by decide +kernel

/-- The bits that are left are none: the sum is whole. -/
theorem tims_end (x y : BitVec 8) (k : Nat) (h : y >>> k = 0#8) : ∀ n, tims x y (k + n) = tims x y k
  | 0 => rfl
  | n + 1 => by
    have e : y.getLsbD (k + n) = false := by
      have := congrArg (fun b => b.getLsbD n) h
      simpa using this
    rw [← Nat.add_assoc, tims, tims_end x y k h n, e]
    simp

/-! ### The box -/
def pw (x : BitVec 8) : BitVec 8 :=
  let f := fun y => tim (tim y y) x
  let y := f (f (f (f (f (f x)))))
  tim y y
def pws : Nat → BitVec 8 → BitVec 8
  | 0, x => x
  | k + 1, x => tim (tim (pws k x) (pws k x)) x
theorem pw_eq (x : BitVec 8) : pw x = tim (pws 6 x) (pws 6 x) := rfl
theorem pw_ok : ∀ x : BitVec 8, x ≠ 0#8 → tim x (pw x) = 1#8 := by decide +kernel
theorem pw_zero : pw 0#8 = 0#8 := by decide +kernel
theorem inv_one {x y z : BitVec 8} (h1 : tim x y = 1#8) (h2 : tim x z = 1#8) : y = z := by
  have h : tim y (tim x z) = tim (tim y x) z := (tim_assoc y x z).symm
  rw [h2, tim_one, tim_comm y x, h1, tim_comm, tim_one] at h
  exact h
def rotl (y : BitVec 8) (k : Nat) : BitVec 8 := (y <<< (k % 8)) ||| (y >>> (8 - k % 8))
def bxs (y : BitVec 8) : Nat → BitVec 8
  | 0 => 99#8
  | k + 1 => bxs y k ^^^ rotl y k
def bx (x : BitVec 8) : BitVec 8 := bxs (pw x) 5
/-- The reference's box, of the inverse. -/
def bxbit (y : BitVec 8) (i : Nat) : BitVec 8 := y >>> i ^^^ y >>> ((i + 4) % 8) ^^^ y >>> ((i + 5) % 8) ^^^ y >>> ((i + 6) % 8) ^^^ y >>> ((i + 7) % 8) ^^^ 99#8 >>> i
def bxr (y : BitVec 8) : Nat → BitVec 8
  | 0 => 0#8
  | k + 1 => bxr y k ||| ((bxbit y k &&& 1#8) <<< k)
theorem bxr_bxs : ∀ y : BitVec 8, bxr y 8 = bxs y 5 := by decide +kernel
end Go.Proofs.Ytiadhcipfgckoaa

/- Blocks encrypted, in plain words: what comes of a block by a key. No program is named. -/
namespace Go.Proofs.Ytiadhcipfgckoaa
open Go.RowKit

/-- The first n of f; nought behind them. -/
def tb (n : Nat) (f : Nat → BitVec 8) : Nat → BitVec 8 := fun j => if j < n then f j else 0#8
def lst (l : List (BitVec 8)) : Nat → BitVec 8 := fun j => l.getD j 0#8
theorem tb_at {n j : Nat} (f : Nat → BitVec 8) (h : j < n) : tb n f j = f j := if_pos h
theorem tb_eq {n : Nat} {f g : Nat → BitVec 8} (h : ∀ j, j < n → f j = g j) : tb n f = tb n g := by
  funext j
  unfold tb
  split
  · exact h j ‹_›
  · rfl
theorem tb_tb (n : Nat) (f : Nat → BitVec 8) : tb n (tb n f) = tb n f := tb_eq fun _ h => tb_at f h
theorem tb_lst {n : Nat} {f : Nat → BitVec 8} {l : List (BitVec 8)} (hl : l.length = n) (h : ∀ j, j < n → f j = l.getD j 0#8) : tb n f = lst l := by
  funext j
  unfold tb lst
  split
  · exact h j ‹_›
  · rw [List.getD_eq_getElem?_getD, List.getElem?_eq_none (by omega)]; rfl

/-! ### The steps -/
def sx (a b : Nat → BitVec 8) : Nat → BitVec 8 := tb 16 fun j => a j ^^^ b j
def thr (f : BitVec 8 → BitVec 8) (s : Nat → BitVec 8) : Nat → BitVec 8 := tb 16 fun j => f (s j)
def frm (i : Nat) : Nat := (i + 4 * (i % 4)) % 16
def too (j : Nat) : Nat := (j + 12 * (j % 4)) % 16
theorem too_frm : ∀ i, i < 16 → too (frm i) = i ∧ frm (too i) = i ∧ frm i < 16 ∧ too i < 16 := by decide
def trn (s : Nat → BitVec 8) : Nat → BitVec 8 := tb 16 fun j => s (frm j)
def nrt (s : Nat → BitVec 8) : Nat → BitVec 8 := tb 16 fun j => s (too j)
/-- One byte of a column, the sum of the first so many products. -/
def mxs (m s : Nat → BitVec 8) (i : Nat) : Nat → BitVec 8
  | 0 => 0#8
  | k + 1 => mxs m s i k ^^^ tim (m ((k + 4 - i % 4) % 4)) (s (i / 4 * 4 + k))
def mx (m s : Nat → BitVec 8) : Nat → BitVec 8 := tb 16 fun i => mxs m s i 4
/-- A round key out of the one ahead of it. -/
def nk0 (r : BitVec 8) (w : Nat → BitVec 8) (c : Nat) : BitVec 8 := bx (w (12 + (c + 1) % 4)) ^^^ (if c = 0 then r else 0#8)
def nkc (r : BitVec 8) (w : Nat → BitVec 8) (c : Nat) : Nat → BitVec 8
  | 0 => nk0 r w c ^^^ w c
  | q + 1 => nkc r w c q ^^^ w (4 * (q + 1) + c)
def nk (r : BitVec 8) (w : Nat → BitVec 8) : Nat → BitVec 8 := tb 16 fun j => nkc r w (j % 4) (j / 4)
def rc : Nat → BitVec 8
  | 0 => 1#8
  | k + 1 => tim (rc k) 2#8
def rk (key : Nat → BitVec 8) : Nat → Nat → BitVec 8
  | 0 => tb 16 key
  | k + 1 => nk (rc k) (rk key k)
def mE : Nat → BitVec 8 := lst [2#8, 3#8, 1#8, 1#8]
def mD : Nat → BitVec 8 := lst [14#8, 11#8, 13#8, 9#8]
/-- One round: the block behind round r (from 1). -/
def rnd (key : Nat → BitVec 8) (r : Nat) (s : Nat → BitVec 8) : Nat → BitVec 8 :=
  sx (if r < 10 then mx mE (trn (thr bx s)) else trn (thr bx s)) (rk key r)
def encs (key s : Nat → BitVec 8) : Nat → Nat → BitVec 8
  | 0 => sx s (rk key 0)
  | r + 1 => rnd key (r + 1) (encs key s r)
def enc (key s : Nat → BitVec 8) : Nat → BitVec 8 := encs key s 10

/-! ### The box turned round -/
def ibx (z : BitVec 8) : BitVec 8 := rotl z 1 ^^^ rotl z 3 ^^^ rotl z 6 ^^^ 5#8
theorem ibx_bxs : ∀ y : BitVec 8, ibx (bxs y 5) = y := by decide +kernel
theorem bxs_ibx : ∀ y : BitVec 8, bxs (ibx y) 5 = y := by decide +kernel
theorem pw_pw : ∀ x : BitVec 8, pw (pw x) = x := by decide +kernel
def un (z : BitVec 8) : BitVec 8 := pw (ibx z)
theorem un_bx (x : BitVec 8) : un (bx x) = x := by rw [un, bx, ibx_bxs, pw_pw]
theorem bx_un (x : BitVec 8) : bx (un x) = x := by rw [un, bx, pw_pw, bxs_ibx]
theorem bx_inj {x y : BitVec 8} (h : bx x = bx y) : x = y := by rw [← un_bx x, h, un_bx]

/-! ### Back -/
def dnd (key : Nat → BitVec 8) (r : Nat) (s : Nat → BitVec 8) : Nat → BitVec 8 :=
  thr un (nrt (if r < 10 then mx mD (sx s (rk key r)) else sx s (rk key r)))
/-- The block behind so many rounds back, from round 10 on. -/
def decs (key s : Nat → BitVec 8) : Nat → Nat → BitVec 8
  | 0 => tb 16 s
  | n + 1 => dnd key (10 - n) (decs key s n)
def dec (key s : Nat → BitVec 8) : Nat → BitVec 8 := sx (decs key s 10) (rk key 0)

/-! ### Encrypted and back -/
theorem sx_sx (s k : Nat → BitVec 8) : sx (sx s k) k = tb 16 s := tb_eq fun _ h => by rw [sx, tb_at _ h, BitVec.xor_assoc, BitVec.xor_self, BitVec.xor_zero]
theorem sx_tb (s k : Nat → BitVec 8) : sx (tb 16 s) k = sx s k := tb_eq fun j h => by rw [tb_at _ h]
theorem tb_sx (s k : Nat → BitVec 8) : tb 16 (sx s k) = sx s k := tb_tb _ _
theorem thr_un (s : Nat → BitVec 8) : thr un (thr bx s) = tb 16 s := tb_eq fun j h => by rw [thr, tb_at _ h, un_bx]
theorem thr_bx (s : Nat → BitVec 8) : thr bx (thr un s) = tb 16 s := tb_eq fun j h => by rw [thr, tb_at _ h, bx_un]
theorem nrt_trn (s : Nat → BitVec 8) : nrt (trn s) = tb 16 s := tb_eq fun j h => by
  obtain ⟨h1, h2, h3, h4⟩ := too_frm j h
  rw [trn, tb_at _ h4, h2]
theorem trn_nrt (s : Nat → BitVec 8) : trn (nrt s) = tb 16 s := tb_eq fun j h => by
  obtain ⟨h1, h2, h3, h4⟩ := too_frm j h
  rw [nrt, tb_at _ h3, h1]
theorem thr_tb (f : BitVec 8 → BitVec 8) (s : Nat → BitVec 8) : thr f (tb 16 s) = thr f s := tb_eq fun j h => by rw [tb_at _ h]
theorem trn_tb (s : Nat → BitVec 8) : trn (tb 16 s) = trn s := tb_eq fun j h => by rw [tb_at _ (too_frm j h).2.2.1]
theorem nrt_tb (s : Nat → BitVec 8) : nrt (tb 16 s) = nrt s := tb_eq fun j h => by rw [tb_at _ (too_frm j h).2.2.2]
theorem mxs4 (m s : Nat → BitVec 8) (i : Nat) : mxs m s i 4 = tim (m ((0 + 4 - i % 4) % 4)) (s (i / 4 * 4 + 0)) ^^^ tim (m ((1 + 4 - i % 4) % 4)) (s (i / 4 * 4 + 1)) ^^^ tim (m ((2 + 4 - i % 4) % 4)) (s (i / 4 * 4 + 2)) ^^^ tim (m ((3 + 4 - i % 4) % 4)) (s (i / 4 * 4 + 3)) := by
  simp only [mxs, BitVec.zero_xor]
theorem mx_tb (m s : Nat → BitVec 8) : mx m (tb 16 s) = mx m s := tb_eq fun j h => by
  rw [mxs4, mxs4, tb_at _ (by omega), tb_at _ (by omega), tb_at _ (by omega), tb_at _ (by omega)]

/-- A column mixed by the one and by the other: products with the products of the numbers. -/
def mm (a b : Nat → BitVec 8) (i k : Nat) : BitVec 8 := tim (a ((0 + 4 - i) % 4)) (b ((k + 4 - 0) % 4)) ^^^ tim (a ((1 + 4 - i) % 4)) (b ((k + 4 - 1) % 4)) ^^^ tim (a ((2 + 4 - i) % 4)) (b ((k + 4 - 2) % 4)) ^^^ tim (a ((3 + 4 - i) % 4)) (b ((k + 4 - 3) % 4))
theorem mm_ED : ∀ i, i < 4 → ∀ k, k < 4 → mm mD mE i k = if i = k then 1#8 else 0#8 := by decide +kernel
theorem mm_DE : ∀ i, i < 4 → ∀ k, k < 4 → mm mE mD i k = if i = k then 1#8 else 0#8 := by decide +kernel
theorem xor_four (a b c d e f g h i j k l m n o p : BitVec 8) :
    (a ^^^ b ^^^ c ^^^ d) ^^^ (e ^^^ f ^^^ g ^^^ h) ^^^ (i ^^^ j ^^^ k ^^^ l) ^^^ (m ^^^ n ^^^ o ^^^ p) = (a ^^^ e ^^^ i ^^^ m) ^^^ (b ^^^ f ^^^ j ^^^ n) ^^^ (c ^^^ g ^^^ k ^^^ o) ^^^ (d ^^^ h ^^^ l ^^^ p) := by
  ac_rfl
theorem col_at (m s : Nat → BitVec 8) (i q : Nat) (hi : i < 4) (hq : q < 4) : mx m s (4 * q + i) = tim (m ((0 + 4 - i) % 4)) (s (4 * q)) ^^^ tim (m ((1 + 4 - i) % 4)) (s (4 * q + 1)) ^^^ tim (m ((2 + 4 - i) % 4)) (s (4 * q + 2)) ^^^ tim (m ((3 + 4 - i) % 4)) (s (4 * q + 3)) := by
  rw [mx, tb_at _ (by omega), mxs4, show (4 * q + i) / 4 * 4 = 4 * q by omega, show (4 * q + i) % 4 = i by omega]; rfl
theorem mx_mx (a b s : Nat → BitVec 8) (hab : ∀ i, i < 4 → ∀ k, k < 4 → mm a b i k = if i = k then 1#8 else 0#8) : mx a (mx b s) = tb 16 s := by
  funext j
  by_cases hj : j < 16
  · obtain ⟨q, i, hi, hq, rfl⟩ : ∃ q i, i < 4 ∧ q < 4 ∧ j = 4 * q + i := ⟨j / 4, j % 4, by omega, by omega, by omega⟩
    rw [tb_at _ hj, col_at _ _ i q hi hq, show 4 * q = 4 * q + 0 by rfl, col_at b s 0 q (by omega) hq, col_at b s 1 q (by omega) hq, col_at b s 2 q (by omega) hq, col_at b s 3 q (by omega) hq]
    simp only [tim_xor, ← tim_assoc]
    rw [xor_four]
    simp only [← tim_xor_left]
    have h0 := hab i hi 0 (by omega)
    have h1 := hab i hi 1 (by omega)
    have h2 := hab i hi 2 (by omega)
    have h3 := hab i hi 3 (by omega)
    simp only [mm] at h0 h1 h2 h3
    have e0 : ∀ x, tim 0#8 x = 0#8 := tim_zero
    have e1 : ∀ x, tim 1#8 x = x := fun x => by rw [tim_comm, tim_one]
    have hcs : i = 0 ∨ i = 1 ∨ i = 2 ∨ i = 3 := by omega
    rcases hcs with rfl | rfl | rfl | rfl <;> simp at h0 h1 h2 h3 ⊢ <;> simp [h0, h1, h2, h3, e0, e1]
  · simp [mx, tb, hj]
theorem mx_back (s : Nat → BitVec 8) : mx mD (mx mE s) = tb 16 s := mx_mx _ _ _ mm_ED
theorem mx_forth (s : Nat → BitVec 8) : mx mE (mx mD s) = tb 16 s := mx_mx _ _ _ mm_DE

theorem dnd_rnd (key : Nat → BitVec 8) (r : Nat) (s : Nat → BitVec 8) : dnd key r (rnd key r s) = tb 16 s := by
  unfold dnd rnd
  rw [sx_sx]
  by_cases h : r < 10
  · simp only [if_pos h]
    rw [mx_tb, mx_back, nrt_tb, nrt_trn, thr_tb, thr_un]
  · simp only [if_neg h]
    rw [nrt_tb, nrt_trn, thr_tb, thr_un]
theorem rnd_dnd (key : Nat → BitVec 8) (r : Nat) (s : Nat → BitVec 8) : rnd key r (dnd key r s) = tb 16 s := by
  unfold dnd rnd
  rw [thr_bx, trn_tb, trn_nrt]
  by_cases h : r < 10
  · simp only [if_pos h]
    rw [mx_tb, mx_forth, sx_tb, sx_sx]
  · simp only [if_neg h]
    rw [sx_tb, sx_sx]
theorem rnd_tb (key : Nat → BitVec 8) (r : Nat) (s : Nat → BitVec 8) : rnd key r (tb 16 s) = rnd key r s := by unfold rnd; rw [thr_tb]
theorem dnd_tb (key : Nat → BitVec 8) (r : Nat) (s : Nat → BitVec 8) : dnd key r (tb 16 s) = dnd key r s := by unfold dnd; rw [sx_tb]
theorem tb_encs (key s : Nat → BitVec 8) (n : Nat) : tb 16 (encs key s n) = encs key s n := by
  cases n <;> exact tb_sx _ _
theorem tb_decs (key s : Nat → BitVec 8) (n : Nat) : tb 16 (decs key s n) = decs key s n := by
  cases n <;> exact tb_tb _ _
theorem decs_encs (key s : Nat → BitVec 8) : ∀ n, n ≤ 10 → decs key (encs key s 10) n = encs key s (10 - n)
  | 0, _ => tb_encs key s 10
  | n + 1, h => by
    rw [decs, decs_encs key s n (by omega), show 10 - n = (10 - (n + 1)) + 1 by omega, encs, dnd_rnd, tb_encs]
theorem dec_enc (key s : Nat → BitVec 8) : dec key (enc key s) = tb 16 s := by
  rw [dec, enc, decs_encs key s 10 (by omega), encs, sx_sx]
theorem encs_decs (key s : Nat → BitVec 8) : ∀ n, n ≤ 10 → encs key (dec key s) n = decs key s (10 - n)
  | 0, _ => by rw [encs, dec, sx_sx, tb_decs]
  | n + 1, h => by
    rw [encs, encs_decs key s n (by omega), show 10 - n = (10 - (n + 1)) + 1 by omega, decs, show 10 - (10 - (n + 1)) = n + 1 by omega, rnd_dnd, tb_decs]
theorem enc_dec (key s : Nat → BitVec 8) : enc key (dec key s) = tb 16 s := by
  rw [enc, encs_decs key s 10 (by omega)]; rfl
end Go.Proofs.Ytiadhcipfgckoaa

/- The walks through products and the box, of the program and of its reference. -/
namespace Go.Proofs.Ytiadhcipfgckoaa
open Go.RowKit

/-! ### Bytes as numbers -/
def B8 (a : BitVec 8) : Int := a.toNat
theorem B8_lo (a : BitVec 8) : 0 ≤ B8 a := by simp [B8]
theorem B8_hi (a : BitVec 8) : B8 a ≤ 255 := by have := a.isLt; simp only [B8]; omega
theorem B8_inj {a b : BitVec 8} : B8 a = B8 b ↔ a = b := by
  simp only [B8]
  constructor
  · intro h; exact BitVec.eq_of_toNat_eq (by exact_mod_cast h)
  · rintro rfl; rfl
theorem B8_beq (a b : BitVec 8) : (B8 a == B8 b) = (a == b) := by
  rw [Bool.eq_iff_iff]; simp [B8_inj]
theorem B8_bne (a b : BitVec 8) : (B8 a != B8 b) = (a != b) := by
  simp [bne, B8_beq]
theorem ofInt_B8 (a : BitVec 8) : BitVec.ofInt 8 (B8 a) = a := by simp [B8]
theorem wrap_B8 (a : BitVec 8) : IntKind.u8.wrap (a.toNat : Int) = B8 a := by
  rw [IntWalk.u8_in]; rfl
  have := a.isLt; omega
theorem bits_xor_B8 (x y : Int) : bits .xor .u8 x y = B8 (BitVec.ofInt 8 x ^^^ BitVec.ofInt 8 y) := wrap_B8 _
theorem bits_and_B8 (x y : Int) : bits .and .u8 x y = B8 (BitVec.ofInt 8 x &&& BitVec.ofInt 8 y) := wrap_B8 _
theorem bits_or_B8 (x y : Int) : bits .or .u8 x y = B8 (BitVec.ofInt 8 x ||| BitVec.ofInt 8 y) := wrap_B8 _
theorem B8_shr (a : BitVec 8) (k : Nat) : B8 a / (2 : Int) ^ k = B8 (a >>> k) := by
  simp only [B8, BitVec.toNat_ushiftRight, Nat.shiftRight_eq_div_pow]; norm_cast
theorem B8_shr1 (a : BitVec 8) : B8 a / (2 : Int) = B8 (a >>> 1) := B8_shr a 1
theorem B8_shr7 (a : BitVec 8) : B8 a / (128 : Int) = B8 (a >>> 7) := B8_shr a 7
theorem B8_shl (a : BitVec 8) (k : Nat) : B8 a * (2 : Int) ^ k % (256 : Int) = B8 (a <<< k) := by
  simp only [B8, BitVec.toNat_shiftLeft, Nat.shiftLeft_eq]; simp
theorem B8_shl1 (a : BitVec 8) : B8 a * (2 : Int) % (256 : Int) = B8 (a <<< 1) := B8_shl a 1
theorem B8_mul (a b : BitVec 8) : B8 a * B8 b % (256 : Int) = B8 (a * b) := by
  simp only [B8, BitVec.toNat_mul]; simp
theorem B8_of (k : Nat) : ((k : Int)) % (256 : Int) = B8 (BitVec.ofNat 8 k) := by simp [B8]

attribute [local go_sem] bits_xor_B8 bits_and_B8 bits_or_B8 ofInt_B8

theorem low_bit : ∀ z : BitVec 8, (B8 (z &&& 1#8) == 1) = z.getLsbD 0 := by decide +kernel
theorem bit_at (y : BitVec 8) (k : Nat) : (B8 (y >>> k &&& 1#8) == 1) = y.getLsbD k := by
  rw [low_bit]; simp
theorem half_zero (z : BitVec 8) : (B8 z / 2 == 0) = (z >>> 1 == 0#8) := by rw [B8_shr1]; exact B8_beq (z >>> 1) 0#8
theorem xt_mul (x : BitVec 8) : BitVec.ofInt 8 (B8 x * 2 % 256) ^^^ BitVec.ofInt 8 (B8 x / 128 * 27) = xt x := by
  rw [B8_shr7, B8_shl1, ofInt_B8, show BitVec.ofInt 8 (B8 (x >>> 7) * 27) = (x >>> 7) * 27#8 from by
    have : B8 (x >>> 7) * (27 : Int) = ((((x >>> 7).toNat * 27 : Nat)) : Int) := by simp [B8]
    rw [this, BitVec.ofInt_natCast]
    apply BitVec.eq_of_toNat_eq
    simp [BitVec.toNat_mul]]; rfl
theorem shr_last : ∀ y : BitVec 8, y >>> 7 >>> 1 = 0#8 := by decide +kernel

def TimesRel (w : World) (x y : BitVec 8) (f : Nat) (x' y' p' : Value) (w' : World) : Prop :=
  ∃ k, f + k = 7 ∧ p' = .int .u8 (B8 (tims x y k)) ∧ x' = .int .u8 (B8 (xts k x)) ∧ y' = .int .u8 (B8 (y >>> k)) ∧ w = w'

set_option maxHeartbeats 400000 in
theorem times_any (x y : BitVec 8) (w : World) :
    Calls Try.prog 52 #[.int .u8 (B8 x), .int .u8 (B8 y)] w fun e w' => e = .returned (.int .u8 (B8 (tim x y))) ∧ w = w' := by
  go_enter Try.func52, Try.ntmps52
  go_wp2_with fail
  go_step3
  go_wp2_with fail
  go_step3
  go_wp2_with fail
  go_loopg [0, 1, 5] 7 (TimesRel w x y)
  case atStart => exact ⟨0, by omega, rfl, rfl, rfl, rfl⟩
  case round =>
    obtain ⟨k, hk, rfl, rfl, rfl, rfl⟩ := hrel
    have t1 := bit_at y k
    have t2 := half_zero (y >>> k)
    have b0 := B8_lo (y >>> k)
    have b1 := B8_hi (y >>> k)
    have b2 := B8_lo (xts k x)
    have b3 := B8_hi (xts k x)
    have P0 : ∀ q : Bool, y.getLsbD k = q → tims x y (k + 1) = tims x y k ^^^ (if q then xts k x else 0#8) := fun q h => by rw [← h]; rfl
    have P := Lib.hid P0
    clear P0
    by_cases hz : y >>> k >>> 1 = 0#8
    · have hz' : (y >>> k >>> 1 == 0#8) = true := by simpa using hz
      rw [hz'] at t2
      have E0 : tims x y (k + 1) = tim x y := by
        have hz'' : y >>> (k + 1) = 0#8 := by rw [← hz, BitVec.shiftRight_add]
        have := tims_end x y (k + 1) hz'' (7 - k)
        rw [show k + 1 + (7 - k) = 8 by omega] at this
        exact this.symm
      have EE := Lib.hid E0
      clear E0 hz hz'
      cases hb : y.getLsbD k with
      | true =>
        rw [hb] at t1
        have HB := Lib.hid hb
        clear hb
        go_wp2_with fail
        (try rw [Exit.noGoto_ret])
        go_ret
        refine ⟨?_, rfl⟩
        rw [← EE.out, P.out true HB.out]; rfl
      | false =>
        rw [hb] at t1
        have HB := Lib.hid hb
        clear hb
        go_wp2_with fail
        (try rw [Exit.noGoto_ret])
        go_ret
        refine ⟨?_, rfl⟩
        rw [← EE.out, P.out false HB.out]; simp
    · have hz' : (y >>> k >>> 1 == 0#8) = false := by simpa using hz
      rw [hz'] at t2
      have hk7 : k < 7 := by
        rcases Nat.lt_or_ge k 7 with h | h
        · exact h
        · exact absurd (by rw [show k = 7 by omega]; exact shr_last y) hz
      clear hz hz'
      have hgk : gk - 1 + (k + 1) = 7 ∧ gk - 1 < gk := by omega
      have HK := Lib.hid hgk
      clear hgk hk
      cases hb : y.getLsbD k with
      | true =>
        rw [hb] at t1
        have HB := Lib.hid hb
        clear hb
        go_wp2_with fail
        go_roundg (gk - 1)
        case rel =>
          refine ⟨k + 1, HK.out.1, ?_, ?_, ?_, rfl⟩
          · rw [P.out true HB.out]; rfl
          · rw [xt_mul]; rfl
          · rw [B8_shr1, BitVec.shiftRight_add]
        case measure => exact HK.out.2
      | false =>
        rw [hb] at t1
        have HB := Lib.hid hb
        clear hb
        go_wp2_with fail
        go_roundg (gk - 1)
        case rel =>
          refine ⟨k + 1, HK.out.1, ?_, ?_, ?_, rfl⟩
          · rw [P.out false HB.out]; simp
          · rw [xt_mul]; rfl
          · rw [B8_shr1, BitVec.shiftRight_add]
        case measure => exact HK.out.2

/-! ### The program's box -/
theorem rotl0 (y : BitVec 8) : y ||| BitVec.ofInt 8 (B8 y / 256) = rotl y 0 := by
  have h : B8 y / (2 : Int) ^ 8 = B8 (y >>> 8) := B8_shr y 8
  rw [show (256 : Int) = (2 : Int) ^ 8 from rfl, h, ofInt_B8]; simp [rotl]
theorem rotl_sh (y : BitVec 8) (k : Nat) (p q : Int) (hp : p = (2 : Int) ^ k) (hq : q = (2 : Int) ^ (8 - k)) (hk : k < 8) : BitVec.ofInt 8 (B8 y * p % 256) ||| BitVec.ofInt 8 (B8 y / q) = rotl y k := by
  have h : B8 y / (2 : Int) ^ (8 - k) = B8 (y >>> (8 - k)) := B8_shr y (8 - k)
  have h2 : B8 y * (2 : Int) ^ k % (256 : Int) = B8 (y <<< k) := B8_shl y k
  rw [hp, hq, h, h2, ofInt_B8, ofInt_B8, rotl, Nat.mod_eq_of_lt hk]
theorem rotl_any (y : BitVec 8) (k : Nat) (hk : k < 5) (w : World) :
    Calls Try.prog 72 #[.int .u8 (B8 y), .int .i64 (k : Int)] w fun e w' => e = .returned (.int .u8 (B8 (rotl y k))) ∧ w = w' := by
  have b0 := B8_lo y
  have b1 := B8_hi y
  have t0 : bits .and .u64 0 7 = 0 := by decide
  have t1 : bits .and .u64 1 7 = 1 := by decide
  have t2 : bits .and .u64 2 7 = 2 := by decide
  have t3 : bits .and .u64 3 7 = 3 := by decide
  have t4 : bits .and .u64 4 7 = 4 := by decide
  have hcs : k = 0 ∨ k = 1 ∨ k = 2 ∨ k = 3 ∨ k = 4 := by omega
  rcases hcs with rfl | rfl | rfl | rfl | rfl
  all_goals
    go_enter Try.func72, Try.ntmps72
    go_wp2_with fail
    go_ret
  · exact ⟨by rw [← rotl0 y]; rfl, rfl⟩
  · exact ⟨by rw [← rotl_sh y 1 2 128 rfl rfl (by omega)]; rfl, rfl⟩
  · exact ⟨by rw [← rotl_sh y 2 4 64 rfl rfl (by omega)]; rfl, rfl⟩
  · exact ⟨by rw [← rotl_sh y 3 8 32 rfl rfl (by omega)]; rfl, rfl⟩
  · exact ⟨by rw [← rotl_sh y 4 16 16 rfl rfl (by omega)]; rfl, rfl⟩

theorem intInfo : (Try.prog.info? 3).map (·.size) = some 1 := by kernel_rfl
theorem five_at (k : Nat) (h : k < 5) : (#[Value.int .i64 0, .int .i64 1, .int .i64 2, .int .i64 3, .int .i64 4])[k]? = some (.int .i64 (k : Int)) := by
  have hcs : k = 0 ∨ k = 1 ∨ k = 2 ∨ k = 3 ∨ k = 4 := by omega
  rcases hcs with rfl | rfl | rfl | rfl | rfl <;> rfl
set_option maxHeartbeats 400000 in
theorem box_any (x : BitVec 8) (w : World) :
    Calls Try.prog 51 #[.int .u8 (B8 x)] w fun e w' => e = .returned (.int .u8 (B8 (bx x))) ∧ w = w' := by
  go_enter Try.func51, Try.ntmps51
  go_wp2_with fail
  go_loop [3, 8] (fun y i => ∃ k : Nat, k ≤ 6 ∧ i = .int .i64 k ∧ y = .int .u8 (B8 (pws k x))) (fun _ i => 6 - (intOf i).toNat)
  case atStart => exact ⟨0, by omega, rfl, rfl⟩
  case round =>
    obtain ⟨k, hk, rfl, rfl⟩ := hrel
    by_cases hlt : k < 6
    · go_wp2_with (go_at_call 52; refine (times_any _ _ _).mono ?_; rintro e w' ⟨rfl, rfl⟩)
      go_round
      case rel => exact ⟨k + 1, by omega, by go_num, rfl⟩
      case measure => simp [intOf]; omega
    · obtain rfl : k = 6 := by omega
      go_wp2_with (go_at_call 52; refine (times_any _ _ _).mono ?_; rintro e w' ⟨rfl, rfl⟩)
      go_loop [4, 20] (fun o i => ∃ k : Nat, k ≤ 5 ∧ i = .int .i64 k ∧ o = .int .u8 (B8 (bxs (pw x) k))) (fun _ i => 5 - (intOf i).toNat)
      case atStart => exact ⟨0, by omega, rfl, rfl⟩
      case round =>
        obtain ⟨k, hk, rfl, rfl⟩ := hrel
        by_cases hlt : k < 5
        · have hi : ∀ W, (Instr.index 113 (.agg #[.int .i64 0, .int .i64 1, .int .i64 2, .int .i64 3, .int .i64 4]) (.int .i64 (k : Int))).run Try.prog W = .ok (.int .i64 (k : Int)) W := fun W =>
            run_index_arr Try.underlying113 Try.underlying3 rfl intInfo W _ k _ (five_at k hlt) hlt
          go_wp2_with (go_at_call 72; refine (rotl_any _ _ hlt _).mono ?_; rintro e w' ⟨rfl, rfl⟩)
          go_round
          case rel => exact ⟨k + 1, by omega, by go_num, rfl⟩
          case measure => simp [intOf]; omega
        · go_wp2_with fail
          go_ret
          obtain rfl : k = 5 := by omega
          exact ⟨rfl, rfl⟩

/-! ### The reference's products -/
def RTimesRel (w : World) (x y : BitVec 8) (f : Nat) (o i : Value) (w' : World) : Prop :=
  ∃ k, f + k = 8 ∧ o = .int .u8 (B8 (tims x y k)) ∧ i = .int .i64 (k : Int) ∧ w = w'
def RShiftRel (w : World) (x : BitVec 8) (n : Nat) (f : Nat) (z i : Value) (w' : World) : Prop :=
  ∃ j, f + j = n ∧ z = .int .u8 (B8 (xts j x)) ∧ i = .int .i64 (j : Int) ∧ w = w'
theorem bit_of (y : BitVec 8) (k : Nat) : (B8 (BitVec.ofInt 8 (B8 y / (2 : Int) ^ k) &&& 1#8) == 1) = y.getLsbD k := by
  rw [B8_shr, ofInt_B8, bit_at]
theorem top_of : ∀ z : BitVec 8, (B8 z / 128 == 1) = z.getLsbD 7 := by decide +kernel
theorem xt_top (z : BitVec 8) (h : z.getLsbD 7 = true) : BitVec.ofInt 8 (B8 z * 2 % 256) ^^^ 27#8 = xt z := by
  rw [B8_shl1, ofInt_B8, xt_if, h]; rfl
theorem xt_low (z : BitVec 8) (h : z.getLsbD 7 = false) : z <<< 1 = xt z := by
  rw [xt_if, h]; simp

set_option maxHeartbeats 400000 in
theorem rtimes_any (x y : BitVec 8) (w : World) :
    Calls Try.prog 74 #[.int .u8 (B8 x), .int .u8 (B8 y)] w fun e w' => e = .returned (.int .u8 (B8 (tim x y))) ∧ w = w' := by
  have y0 := B8_lo y
  have y1 := B8_hi y
  go_enter Try.func74, Try.ntmps74
  go_wp2_with fail
  go_loopg [5, 6] 8 (RTimesRel w x y)
  case atStart => exact ⟨0, by omega, rfl, rfl, rfl⟩
  case round =>
    obtain ⟨k, hk, rfl, rfl, rfl⟩ := hrel
    by_cases hlt : k < 8
    · have t1 := bit_of y k
      have P0 : ∀ q : Bool, y.getLsbD k = q → tims x y (k + 1) = tims x y k ^^^ (if q then xts k x else 0#8) := fun q h => by rw [← h]; rfl
      have P := Lib.hid P0
      clear P0
      cases hb : y.getLsbD k with
      | true =>
        rw [hb] at t1
        have HB := Lib.hid hb
        clear hb
        go_wp2_with fail
        obtain ⟨g0, rfl⟩ : ∃ g : Nat, g = gk := ⟨_, rfl⟩
        go_loopg [7, 8] k (RShiftRel w x k)
        case atStart => exact ⟨0, by omega, rfl, rfl, rfl⟩
        case round =>
          obtain ⟨j, hj, rfl, rfl, rfl⟩ := hrel
          have b2 := B8_lo (xts j x)
          have b3 := B8_hi (xts j x)
          by_cases hjk : j < k
          · have t2 := top_of (xts j x)
            cases hc : (xts j x).getLsbD 7 with
            | true =>
              rw [hc] at t2
              have HC := Lib.hid (xt_top _ hc)
              clear hc
              go_wp2_with fail
              go_roundg (gk - 1)
              case rel => exact ⟨j + 1, by omega, by rw [HC.out]; rfl, by go_num, rfl⟩
              case measure => omega
            | false =>
              rw [hc] at t2
              have HC := Lib.hid (xt_low _ hc)
              clear hc
              go_wp2_with fail
              go_roundg (gk - 1)
              case rel => exact ⟨j + 1, by omega, by rw [B8_shl1, HC.out]; rfl, by go_num, rfl⟩
              case measure => omega
          · obtain rfl : j = k := by omega
            go_wp2_with fail
            go_roundg (g0 - 1)
            case rel => exact ⟨j + 1, by omega, by rw [P.out true HB.out]; rfl, by go_num, rfl⟩
            case measure => omega
      | false =>
        rw [hb] at t1
        have HB := Lib.hid hb
        clear hb
        go_wp2_with fail
        go_roundg (gk - 1)
        case rel => exact ⟨k + 1, by omega, by rw [P.out false HB.out]; simp, by go_num, rfl⟩
        case measure => omega
    · go_wp2_with fail
      go_ret
      obtain rfl : k = 8 := by omega
      exact ⟨rfl, rfl⟩

/-! ### The reference's box -/
def InvRel (w : World) (x : BitVec 8) (f : Nat) (i : Value) (w' : World) : Prop :=
  ∃ k, f + k = 256 ∧ 1 ≤ k ∧ i = .int .i64 (k : Int) ∧ (∀ j, 1 ≤ j → j < k → tim x (BitVec.ofNat 8 j) ≠ 1#8) ∧ w = w'
theorem one_is (z : BitVec 8) : (B8 z == 1) = (z == 1#8) := B8_beq z 1#8
theorem byte_nat (k : Nat) (h : k < 256) : (k : Int) = B8 (BitVec.ofNat 8 k) := by
  simp only [B8, BitVec.toNat_ofNat]; omega
theorem rtimes_of (x y : BitVec 8) (n : Int) (h : n = B8 y) (w : World) :
    Calls Try.prog 74 #[.int .u8 (B8 x), .int .u8 n] w fun e w' => e = .returned (.int .u8 (B8 (tim x y))) ∧ w = w' := by
  subst h; exact rtimes_any x y w
theorem inv_found {x : BitVec 8} {k : Nat} (h : tim x (BitVec.ofNat 8 k) = 1#8) : BitVec.ofNat 8 k = pw x := by
  by_cases hx : x = 0#8
  · subst hx; rw [tim_zero] at h; exact absurd h (by decide)
  · exact inv_one h (pw_ok x hx)
theorem inv_none {x : BitVec 8} (h : ∀ j, 1 ≤ j → j < 256 → tim x (BitVec.ofNat 8 j) ≠ 1#8) : pw x = 0#8 := by
  by_cases hx : x = 0#8
  · subst hx; exact pw_zero
  · have h1 := pw_ok x hx
    have hl := (pw x).isLt
    by_cases h0 : (pw x).toNat = 0
    · have : pw x = 0#8 := BitVec.eq_of_toNat_eq h0
      exact this
    · exact absurd (by rw [BitVec.ofNat_toNat, BitVec.setWidth_eq]; exact h1) (h (pw x).toNat (by omega) (by omega))

set_option maxHeartbeats 400000 in
set_option maxRecDepth 40000 in
theorem inverse_any (x : BitVec 8) (w : World) :
    Calls Try.prog 73 #[.int .u8 (B8 x)] w fun e w' => e = .returned (.int .u8 (B8 (pw x))) ∧ w = w' := by
  go_enter Try.func73, Try.ntmps73
  go_wp2_with fail
  go_loopg [3] 255 (InvRel w x)
  case atStart => exact ⟨1, by omega, by omega, rfl, fun j h1 h2 => by omega, rfl⟩
  case round =>
    obtain ⟨k, hk, hk1, rfl, hno, rfl⟩ := hrel
    have HN := Lib.hid hno
    clear hno
    by_cases hlt : k < 256
    · have E0 := Lib.hid (byte_nat k hlt)
      by_cases hf : tim x (BitVec.ofNat 8 k) = 1#8
      · have t : (B8 (tim x (BitVec.ofNat 8 k)) == 1) = true := by rw [hf]; rfl
        have HF := Lib.hid hf
        clear hf
        go_wp2_with (go_at_call 74; refine (rtimes_of _ _ _ E0.out _).mono ?_; rintro e w' ⟨rfl, rfl⟩)
        (try rw [Exit.noGoto_ret])
        go_ret
        exact ⟨by rw [← inv_found HF.out, ← E0.out]; rfl, rfl⟩
      · have t := one_is (tim x (BitVec.ofNat 8 k))
        have hf' : (tim x (BitVec.ofNat 8 k) == 1#8) = false := by simpa using hf
        rw [hf'] at t
        have HF := Lib.hid hf
        clear hf hf'
        go_wp2_with (go_at_call 74; refine (rtimes_of _ _ _ E0.out _).mono ?_; rintro e w' ⟨rfl, rfl⟩)
        go_roundg (gk - 1)
        case rel =>
          refine ⟨k + 1, by omega, by omega, by go_num, fun j h1 h2 => ?_, rfl⟩
          by_cases hj : j = k
          · subst hj; exact HF.out
          · exact HN.out j h1 (by omega)
        case measure => omega
    · go_wp2_with fail
      go_ret
      obtain rfl : k = 256 := by omega
      exact ⟨by rw [inv_none HN.out]; rfl, rfl⟩

theorem B8_shrs (a : BitVec 8) : B8 a / (2 : Int) = B8 (a >>> 1) ∧ B8 a / (4 : Int) = B8 (a >>> 2) ∧ B8 a / (8 : Int) = B8 (a >>> 3) ∧ B8 a / (16 : Int) = B8 (a >>> 4) ∧ B8 a / (32 : Int) = B8 (a >>> 5) ∧ B8 a / (64 : Int) = B8 (a >>> 6) ∧ B8 a / (128 : Int) = B8 (a >>> 7) :=
  ⟨B8_shr a 1, B8_shr a 2, B8_shr a 3, B8_shr a 4, B8_shr a 5, B8_shr a 6, B8_shr a 7⟩
theorem B8_shls (a : BitVec 8) : B8 a * (2 : Int) % (256 : Int) = B8 (a <<< 1) ∧ B8 a * (4 : Int) % (256 : Int) = B8 (a <<< 2) ∧ B8 a * (8 : Int) % (256 : Int) = B8 (a <<< 3) ∧ B8 a * (16 : Int) % (256 : Int) = B8 (a <<< 4) ∧ B8 a * (32 : Int) % (256 : Int) = B8 (a <<< 5) ∧ B8 a * (64 : Int) % (256 : Int) = B8 (a <<< 6) ∧ B8 a * (128 : Int) % (256 : Int) = B8 (a <<< 7) :=
  ⟨B8_shl a 1, B8_shl a 2, B8_shl a 3, B8_shl a 4, B8_shl a 5, B8_shl a 6, B8_shl a 7⟩
theorem bit_step (y : BitVec 8) (k : Nat) {e : BitVec 8} (h : e = (bxbit y k &&& 1#8) <<< k) : Value.int .u8 (B8 (bxr y k ||| e)) = .int .u8 (B8 (bxr y (k + 1))) := by
  rw [h]; rfl
theorem B8_mod (a : BitVec 8) : B8 a % (256 : Int) = B8 a := by
  have h0 := B8_lo a
  have h1 := B8_hi a
  omega
def BoxRel (w : World) (y : BitVec 8) (f : Nat) (o i : Value) (w' : World) : Prop :=
  ∃ k, f + k = 8 ∧ o = .int .u8 (B8 (bxr y k)) ∧ i = .int .i64 (k : Int) ∧ w = w'
set_option maxHeartbeats 1000000 in
theorem rbox_any (x : BitVec 8) (w : World) :
    Calls Try.prog 61 #[.int .u8 (B8 x)] w fun e w' => e = .returned (.int .u8 (B8 (bx x))) ∧ w = w' := by
  go_enter Try.func61, Try.ntmps61
  go_wp2_with (go_at_call 73; refine (inverse_any _ _).mono ?_; rintro e w' ⟨rfl, rfl⟩)
  obtain ⟨y, hy⟩ : ∃ y, y = pw x := ⟨_, rfl⟩
  rw [← hy]
  have HY := Lib.hid hy
  clear hy
  have b0 := B8_lo y
  have b1 := B8_hi y
  go_loopg [4, 5] 8 (BoxRel w y)
  case atStart => exact ⟨0, by omega, rfl, rfl, rfl⟩
  case round =>
    obtain ⟨k, hk, rfl, rfl, rfl⟩ := hrel
    by_cases hlt : k < 8
    · have s0 : BitVec.ofInt 8 (B8 y / (2 : Int) ^ k) = y >>> k := by rw [B8_shr, ofInt_B8]
      have hcs : k = 0 ∨ k = 1 ∨ k = 2 ∨ k = 3 ∨ k = 4 ∨ k = 5 ∨ k = 6 ∨ k = 7 := by omega
      rcases hcs with rfl | rfl | rfl | rfl | rfl | rfl | rfl | rfl
      all_goals
        go_wp2_with fail
      · go_roundg (gk - 1)
        case rel => exact ⟨1, by omega, bit_step y 0 (by simp only [B8_shrs, B8_mod, ofInt_B8]; simp [bxbit]), rfl, rfl⟩
        case measure => omega
      · go_roundg (gk - 1)
        case rel => exact ⟨2, by omega, bit_step y 1 (by simp only [B8_shrs, B8_shls, ofInt_B8]; simp [bxbit]), rfl, rfl⟩
        case measure => omega
      · go_roundg (gk - 1)
        case rel => exact ⟨3, by omega, bit_step y 2 (by simp only [B8_shrs, B8_shls, ofInt_B8]; simp [bxbit]), rfl, rfl⟩
        case measure => omega
      · go_roundg (gk - 1)
        case rel => exact ⟨4, by omega, bit_step y 3 (by simp only [B8_shrs, B8_shls, ofInt_B8]; simp [bxbit]), rfl, rfl⟩
        case measure => omega
      · go_roundg (gk - 1)
        case rel => exact ⟨5, by omega, bit_step y 4 (by simp only [B8_shrs, B8_shls, ofInt_B8]; simp [bxbit]), rfl, rfl⟩
        case measure => omega
      · go_roundg (gk - 1)
        case rel => exact ⟨6, by omega, bit_step y 5 (by simp only [B8_shrs, B8_shls, ofInt_B8]; simp [bxbit]), rfl, rfl⟩
        case measure => omega
      · go_roundg (gk - 1)
        case rel => exact ⟨7, by omega, bit_step y 6 (by simp only [B8_shrs, B8_shls, ofInt_B8]; simp [bxbit]), rfl, rfl⟩
        case measure => omega
      · go_roundg (gk - 1)
        case rel => exact ⟨8, by omega, bit_step y 7 (by simp only [B8_shrs, B8_shls, ofInt_B8]; simp [bxbit]), rfl, rfl⟩
        case measure => omega
    · go_wp2_with fail
      go_ret
      obtain rfl : k = 8 := by omega
      rw [HY.out]
      exact ⟨by rw [bx, ← bxr_bxs]; rfl, rfl⟩
end Go.Proofs.Ytiadhcipfgckoaa

/- Rows of bytes as functions, in memory; the walks through the steps of a block. -/
namespace Go.Proofs.Ytiadhcipfgckoaa
open Go.RowKit

/-! ### Rows of bytes -/
def fv (a : BitVec 8) : Value := .int .u8 (B8 a)
def fL (n : Nat) (s : Nat → BitVec 8) : List Value := (List.range n).map fun i => fv (s i)
def fA (n : Nat) (s : Nat → BitVec 8) : Array Value := (fL n s).toArray
theorem fL_length (n : Nat) (s : Nat → BitVec 8) : (fL n s).length = n := by simp [fL]
theorem fA_size (n : Nat) (s : Nat → BitVec 8) : (fA n s).size = n := by simp [fA, fL]
theorem fA_at {n i : Nat} (s : Nat → BitVec 8) (h : i < n) : (fA n s)[i]? = some (.int .u8 (B8 (s i))) := by simp [fA, fL, h, fv]
theorem fA_eq {n : Nat} {s t : Nat → BitVec 8} (h : ∀ i, i < n → s i = t i) : fA n s = fA n t := by
  unfold fA fL
  congr 1
  apply List.map_congr_left
  intro i hi
  rw [h i (List.mem_range.1 hi)]
theorem fA_set {n i : Nat} (s : Nat → BitVec 8) (v : BitVec 8) (_h : i < n) : (fA n s).setIfInBounds i (.int .u8 (B8 v)) = fA n (fun j => if j = i then v else s j) := by
  apply Array.ext_getElem?
  intro j
  by_cases hj : j < n
  · rw [fA_at _ hj]
    by_cases e : i = j
    · subst e
      simp [fA_size, hj]
    · rw [Array.getElem?_setIfInBounds_ne e, fA_at _ hj, if_neg (Ne.symm e)]
  · rw [Array.getElem?_eq_none (by simp [fA_size]; omega), Array.getElem?_eq_none (by simp [fA_size]; omega)]
theorem fA_one (n : Nat) (s : Nat → BitVec 8) : (fA n s).toList.all (·.oneCell') = true := by
  simp [fA, fL, fv, Value.oneCell']
theorem fA_tb (n : Nat) (s : Nat → BitVec 8) : fA n (tb n s) = fA n s := fA_eq fun _ h => tb_at s h
theorem fA_inj {n : Nat} {s t : Nat → BitVec 8} (h : fA n s = fA n t) : ∀ i, i < n → s i = t i := fun i hi => by
  have h1 := fA_at s hi
  rw [h, fA_at t hi] at h1
  simp only [Option.some.injEq, Value.int.injEq, true_and] at h1
  exact (B8_inj.1 h1).symm
theorem B8_toNat (a : BitVec 8) : (B8 a).toNat = a.toNat := by simp [B8]
theorem B8_lt (a : BitVec 8) : B8 a < 256 := by have := B8_hi a; omega

/-! ### Only one block turns -/
section
variable {a b c w : World} {g : Nat}
theorem onlyA_trans {x : Option Nat} (h : a.grownBy b x) (k : b.grownBy c x) : a.grownBy c x :=
  ⟨k.os.trans h.os, k.tape.trans h.tape, k.output.trans h.output, Nat.le_trans h.size k.size, fun i hi hn => (k.block i (Nat.lt_of_lt_of_le hi h.size) hn).trans (h.block i hi hn)⟩
theorem onlyA_drewN {x : Option Nat} (h : a.grownBy w x) (n : Nat) : a.grownBy (w.drewN n) x := ⟨h.os, h.tape, h.output, h.size, h.block⟩
theorem onlyA_drew {x : Option Nat} (h : a.grownBy w x) : a.grownBy w.drew x := ⟨h.os, h.tape, h.output, h.size, h.block⟩
theorem onlyA_undrew {x : Option Nat} (h : a.grownBy w x) : a.drew.grownBy w x := ⟨h.os, h.tape, h.output, h.size, h.block⟩
theorem onlyA_alloc {x : Option Nat} (h : a.grownBy w x) (o : Obj) : a.grownBy (w.alloc o) x := onlyA_trans h (World.grownBy_alloc w o x)
theorem onlyA_setCell (h : a.grownBy w (some g)) (i : Nat) (u : Value) : a.grownBy (w.setCell ⟨g, i, none⟩ u) (some g) :=
  ⟨h.os, h.tape, h.output, by simpa [World.setCell] using h.size, fun k hk hne => (heap_setCell_other w ⟨g, i, none⟩ k u (by rintro rfl; exact hne rfl)).trans (h.block k hk hne)⟩
theorem onlyA_setRow (h : a.grownBy w (some g)) (cs : Array Value) : a.grownBy (w.setRow g cs) (some g) :=
  ⟨h.os, h.tape, h.output, by simpa [World.setRow] using h.size, fun k hk hne => (Go.setRow_other w g k cs (by rintro rfl; exact hne rfl)).trans (h.block k hk hne)⟩
theorem onlyA_new {x : Option Nat} (h : a.grownBy w x) {g' i : Nat} (hg : a.heap.size ≤ g') (u : Value) : a.grownBy (w.setCell ⟨g', i, none⟩ u) x :=
  ⟨h.os, h.tape, h.output, by simpa [World.setCell] using h.size, fun k hk hne => (heap_setCell_other w ⟨g', i, none⟩ k u (by show k ≠ g'; omega)).trans (h.block k hk hne)⟩
theorem onlyA_newRow {x : Option Nat} (h : a.grownBy w x) {g' : Nat} (hg : a.heap.size ≤ g') (cs : Array Value) : a.grownBy (w.setRow g' cs) x :=
  ⟨h.os, h.tape, h.output, by simpa [World.setRow] using h.size, fun k hk hne => (Go.setRow_other w g' k cs (by omega)).trans (h.block k hk hne)⟩
theorem onlyA_below {x : Option Nat} (h : Below a.heap.size a w) : a.grownBy w x := ⟨h.os, h.tape, h.output, h.size, fun i hi _ => h.block i hi⟩
theorem onlyA_then {x : Option Nat} (h : a.grownBy w x) (k : Below w.heap.size w b) : a.grownBy b x := onlyA_trans h (onlyA_below k)
theorem below_only {B : Nat} (h : Below B a w) (hz : B ≤ w.heap.size) (k : w.grownBy b (some g)) (hg : B ≤ g) : Below B a b :=
  h.grown k hz (fun j hj => by cases hj; exact hg)
end

theorem step_fun (k : Nat) (new old : Nat → BitVec 8) : (fun j => if j = k then new k else if j < k then new j else old j) = fun j => if j < k + 1 then new j else old j := by
  funext j
  by_cases h : j = k
  · subst h; simp
  · by_cases h2 : j < k
    · simp [h, h2, show j < k + 1 by omega]
    · simp [h, h2, show ¬ j < k + 1 by omega]
theorem Blk.ofF {w : World} {g n : Nat} {s t : Nat → BitVec 8} {ty : TypeId} (h : Blk w g (fA n s) ty) (e : ∀ i, i < n → s i = t i) : Blk w g (fA n t) ty := by rw [← fA_eq e]; exact h
theorem Blk.setF {w : World} {g n k : Nat} {s : Nat → BitVec 8} {ty : TypeId} (h : Blk w g (fA n s) ty) (hk : k < n) (v : BitVec 8) : Blk (w.setCell ⟨g, k, none⟩ (.int .u8 (B8 v))) g (fA n fun j => if j = k then v else s j) ty := by
  have := h.set k (.int .u8 (B8 v))
  rwa [fA_set _ _ hk] at this
theorem Blk.atF {w : World} {g n k : Nat} {s : Nat → BitVec 8} {ty : TypeId} (h : Blk w g (fA n s) ty) (hk : k < n) {v : BitVec 8} (hv : s k = v) : w.cell? ⟨g, k, none⟩ = some (.int .u8 (B8 v)) := by rw [h.rule, fA_at _ hk, hv]
attribute [local go_sem] bits_xor_B8 bits_and_B8 bits_or_B8 ofInt_B8
theorem frm_int (k : Nat) : ((k : Int) + 4 * ((k : Int) % 4)) % 16 = (frm k : Int) := by simp only [frm]; omega
theorem frm_too : ∀ i, i < 16 → ∀ k, k < 16 → (i = frm k ↔ too i = k) := by decide
theorem step_too (k : Nat) (hk : k < 16) (s : Nat → BitVec 8) : ∀ i, i < 16 → (if i = frm k then s k else if too i < k then s (too i) else s i) = if too i < k + 1 then s (too i) else s i := fun i hi => by
  have h := frm_too i hi k hk
  by_cases e : i = frm k
  · have e2 := h.1 e
    rw [if_pos e, if_pos (by omega), e2]
  · have e2 : ¬ too i = k := fun q => e (h.2 q)
    rw [if_neg e]
    by_cases e3 : too i < k
    · rw [if_pos e3, if_pos (by omega)]
    · rw [if_neg e3, if_neg (by omega)]
theorem u8InfoA : (Try.prog.info? 5).map (·.size) = some 1 := by kernel_rfl
theorem agg16 : AggT Try.prog 46 16 := ⟨⟨_, Try.underlying46, rfl⟩, by kernel_rfl⟩
theorem agg4 : AggT Try.prog 92 4 := ⟨⟨_, Try.underlying92, rfl⟩, by kernel_rfl⟩

set_option maxHeartbeats 400000 in
set_option maxRecDepth 40000 in
theorem through_any (gb gc o : Nat) (s f : Nat → BitVec 8) (w : World) (hB : Blk w gb (fA 16 s) 46) (hne : gb ≠ gc)
    (hf : ∀ i, i < 256 → w.cell? ⟨gc, o + i, none⟩ = some (.int .u8 (B8 (f i)))) :
    Calls Try.prog 55 #[.pointer (some ⟨gb, 0, none⟩), .pointer (some ⟨gc, o, none⟩)] w fun e w' =>
      e = .returned (.tuple #[]) ∧ Blk w' gb (fA 16 (tb 16 fun j => f (s j).toNat)) 46 ∧ w.grownBy w' (some gb) := by
  have hgc : gc < w.heap.size := World.block_lt_of_cell? w _ (hf 0 (by omega))
  have HF := Lib.hid hf
  clear hf
  go_enter Try.func55, Try.ntmps55
  go_wp2_with fail
  go_loopw [7] (fun i wr => ∃ k : Nat, k ≤ 16 ∧ i = .int .i64 k ∧ Blk wr gb (fA 16 (fun j => if j < k then f (s j).toNat else s j)) 46 ∧ w.grownBy wr (some gb)) (fun i _ => 16 - (intOf i).toNat)
  case atStart => exact ⟨0, by omega, rfl, by simpa using hB, World.grownBy.refl _ _⟩
  case round =>
    obtain ⟨k, hk, rfl, hb, hg⟩ := hrel
    by_cases hlt : k < 16
    · have hx0 := B8_lo (s k)
      have hx1 := B8_lt (s k)
      have hx2 := B8_toNat (s k)
      have C1 : ∀ W, Old wr.drew W → W.cell? ⟨gb, k, none⟩ = some (.int .u8 (B8 (s k))) := fun W h => by rw [(hb.drew.old h).rule, fA_at _ hlt]; simp
      have hgc2 : gc < wr.heap.size := Nat.lt_of_lt_of_le hgc hg.size
      go_wp2_with fail
      refine wp_region_old (0 :: 1 :: 2 :: 3 :: 4 :: 5 :: []) (by kernel_rfl) (by kernel_rfl) (fun c a d v w h => by cases d <;> exact h) ?_
      repeat (first | (refine lex_skip rfl (by rfl) ?_; simp only [Act.put, List.setIfInBounds_toArray, List.set]) | (refine lex_quiet (v := ?_) rfl rfl (by rfl) ?_ ?_; rotate_left; (intro W hW; go_simp); (try with_reducible rfl); simp only [Act.put, List.setIfInBounds_toArray, List.set]))
      refine lex_nil ?_
      have C2 : ∀ W, Old wr.drew.drew W → W.cell? ⟨gc, o + (s k).toNat, none⟩ = some (.int .u8 (B8 (f (s k).toNat))) := fun W h => by
        rw [h.cell (p := ⟨gc, o + (s k).toNat, none⟩) hgc2]
        exact (hg.cell (HF.out _ (s k).isLt) (by simpa using hne.symm))
      go_wp2_with fail
      refine wp_region_treeR true Old Old.refl Old.trans (.step 0 (.step 1 (.step 2 (.step 3 (.step 4 (.step 5 (.step 6 (.step 7 (.step 8 (.step 9 .done)))))))))) (by kernel_rfl) (by kernel_rfl) (fun c a d v w h => by cases d <;> exact h) ?_
      repeat (first | (refine tree_skip rfl (by rfl) ?_; simp only [Act.put, List.setIfInBounds_toArray, List.set]) | (refine tree_quiet (v := ?_) rfl rfl (by rfl) ?_ ?_; rotate_left; (intro W hW; go_simp); (try with_reducible rfl); simp only [Act.put, List.setIfInBounds_toArray, List.set]))
      have hbd := hb.drew.drew
      have r2 := hbd.rule
      have f2 := hbd.free
      have ck := fA_at (fun j => if j < k then f (s j).toNat else s j) hlt
      refine tree_store rfl rfl (by rfl) (fun K hK => ?_); go_wp2_with fail; refine tree_done ?_
      clear r2 f2
      go_wp2_with fail
      go_roundw
      case rel =>
        refine ⟨k + 1, by omega, by go_num, ?_, onlyA_setCell (onlyA_drew (onlyA_drew hg)) k _⟩
        exact (hbd.setF hlt (f (s k).toNat)).ofF fun i _ => congrFun (step_fun k (fun j => f (s j).toNat) s) i
      case measure => simp [intOf]; omega
    · go_wp2_with fail
      go_end0
      obtain rfl : k = 16 := by omega
      refine ⟨rfl, ?_, hg⟩
      rw [fA_tb]
      rwa [show fA 16 (fun j => if j < 16 then f (s j).toNat else s j) = fA 16 (fun j => f (s j).toNat) from fA_eq fun i h => if_pos h] at hb

/-! ### A round key put in -/
set_option maxHeartbeats 400000 in
set_option maxRecDepth 40000 in
theorem key_any (gb gc r : Nat) (s K : Nat → BitVec 8) (w : World) (hB : Blk w gb (fA 16 s) 46) (hne : gb ≠ gc) (hr : r < 11)
    (hf : ∀ i, i < 16 → w.cell? ⟨gc, 512 + r * 16 + i, none⟩ = some (.int .u8 (B8 (K i)))) :
    Calls Try.prog 53 #[.pointer (some ⟨gc, 0, none⟩), .pointer (some ⟨gb, 0, none⟩), .int .i64 (r : Int)] w fun e w' =>
      e = .returned (.tuple #[]) ∧ Blk w' gb (fA 16 (sx s K)) 46 ∧ w.grownBy w' (some gb) := by
  have hgc : gc < w.heap.size := World.block_lt_of_cell? w _ (hf 0 (by omega))
  have HF := Lib.hid hf
  clear hf
  have hr' : (r : Int) < 11 := by omega
  go_enter Try.func53, Try.ntmps53
  go_wp2_with fail
  go_loopw [7] (fun i wr => ∃ k : Nat, k ≤ 16 ∧ i = .int .i64 k ∧ Blk wr gb (fA 16 (fun j => if j < k then s j ^^^ K j else s j)) 46 ∧ w.grownBy wr (some gb)) (fun i _ => 16 - (intOf i).toNat)
  case atStart => exact ⟨0, by omega, rfl, by simpa using hB, World.grownBy.refl _ _⟩
  case round =>
    obtain ⟨k, hk, rfl, hb, hg⟩ := hrel
    by_cases hlt : k < 16
    · have C1 : ∀ W, Old wr.drew W → W.cell? ⟨gb, k, none⟩ = some (.int .u8 (B8 (s k))) := fun W h => (hb.drew.old h).atF hlt (by simp)
      have hgc2 : gc < wr.heap.size := Nat.lt_of_lt_of_le hgc hg.size
      have C2 : ∀ W, Old wr.drew W → W.cell? ⟨gc, 512 + r * 16 + k, none⟩ = some (.int .u8 (B8 (K k))) := fun W h => by
        rw [h.cell (p := ⟨gc, 512 + r * 16 + k, none⟩) hgc2]
        exact (hg.cell (HF.out _ hlt) (by simpa using hne.symm))
      go_wp2_with fail
      refine wp_region_treeR true Old Old.refl Old.trans (.step 0 (.step 1 (.step 2 (.step 3 (.step 4 (.step 5 (.step 6 (.step 7 (.step 8 (.step 9 (.step 10 (.step 11 (.step 12 (.step 13 (.step 14 (.step 15 (.step 16 .done))))))))))))))))) (by kernel_rfl) (by kernel_rfl) (fun c a d v w h => by cases d <;> exact h) ?_
      repeat (first | (refine tree_skip rfl (by rfl) ?_; simp only [Act.put, List.setIfInBounds_toArray, List.set]) | (refine tree_quiet (v := ?_) rfl rfl (by rfl) ?_ ?_; rotate_left; (intro W hW; go_simp); (try with_reducible rfl); simp only [Act.put, List.setIfInBounds_toArray, List.set]))
      have hbd := hb.drew
      have r2 := hbd.rule
      have f2 := hbd.free
      have ck := fA_at (fun j => if j < k then s j ^^^ K j else s j) hlt
      refine tree_store rfl rfl (by rfl) (fun K hK => ?_); go_wp2_with fail; refine tree_done ?_
      clear r2 f2
      go_wp2_with fail
      go_roundw
      case rel =>
        refine ⟨k + 1, by omega, by go_num, ?_, onlyA_setCell (onlyA_drew hg) k _⟩
        exact (hbd.setF hlt (s k ^^^ K k)).ofF fun i _ => congrFun (step_fun k (fun j => s j ^^^ K j) s) i
      case measure => simp [intOf]; omega
    · go_wp2_with fail
      go_end0
      obtain rfl : k = 16 := by omega
      exact ⟨rfl, hb.ofF fun i h => by rw [sx, tb_at _ h, if_pos h], hg⟩

/-! ### Rows turned -/
set_option maxHeartbeats 400000 in
set_option maxRecDepth 40000 in
theorem turn_forth (gb : Nat) (s : Nat → BitVec 8) (w : World) (hB : Blk w gb (fA 16 s) 46) :
    Calls Try.prog 57 #[.pointer (some ⟨gb, 0, none⟩), .bool false] w fun e w' =>
      e = .returned (.tuple #[]) ∧ Blk w' gb (fA 16 (trn s)) 46 ∧ w.grownBy w' (some gb) := by
  have hz := hB.lt
  go_enter Try.func57, Try.ntmps57
  go_wp2_with (first | refine wpList_load_blk rfl 46 agg16 _ rfl rfl hB (fA_size _ _) ?_ | refine wpList_store_blk rfl 46 agg16 (.tmp 4) _ rfl rfl rfl (Blk.new _ _ _) (fA_size _ _) rfl (fA_one _ _) ?_)
  refine wp_forget (fun W0 => Blk W0 w.heap.size (fA 16 s) 46 ∧ Blk W0 gb (fA 16 s) 46 ∧ w.grownBy W0 (some gb)) ⟨(Blk.new _ _ _).setRow _, (hB.alloc _).setRow_other _ _ (by omega), onlyA_newRow (onlyA_alloc (World.grownBy.refl _ _) _) (Nat.le_refl _) _⟩ ?_
  rintro w0 ⟨hW, hB0, hg0⟩
  obtain ⟨H, hH⟩ : ∃ H, H = w.heap.size := ⟨_, rfl⟩
  rw [← hH] at hW ⊢
  have hHg : H ≠ gb := by omega
  clear hB hz hH
  go_loopw [10] (fun i wr => ∃ k : Nat, k ≤ 16 ∧ i = .int .i64 k ∧ Blk wr H (fA 16 s) 46 ∧ Blk wr gb (fA 16 (fun j => if j < k then s (frm j) else s j)) 46 ∧ w.grownBy wr (some gb)) (fun i _ => 16 - (intOf i).toNat)
  case atStart => exact ⟨0, by omega, rfl, hW, by simpa using hB0, hg0⟩
  case round =>
    clear hW hB0 hg0
    obtain ⟨k, hk, rfl, hW, hb, hg⟩ := hrel
    by_cases hlt : k < 16
    · have hfr : frm k < 16 := (too_frm k hlt).2.2.1
      have hfi := frm_int k
      have hfr' : (frm k : Int) < 16 := by omega
      have C1 : ∀ W, Old wr.drew W → W.cell? ⟨H, frm k, none⟩ = some (.int .u8 (B8 (s (frm k)))) := fun W h => (hW.drew.old h).atF hfr rfl
      go_wp2_with fail
      refine wp_region_treeR true Old Old.refl Old.trans (.step 0 (.step 1 (.step 2 (.step 3 (.step 4 (.step 5 (.step 6 (.step 7 .done)))))))) (by kernel_rfl) (by kernel_rfl) (fun c a d v w h => by cases d <;> exact h) ?_
      repeat (first | (refine tree_skip rfl (by rfl) ?_; simp only [Act.put, List.setIfInBounds_toArray, List.set]) | (refine tree_quiet (v := ?_) rfl rfl (by rfl) ?_ ?_; rotate_left; (intro W hW; go_simp); (try with_reducible rfl); simp only [Act.put, List.setIfInBounds_toArray, List.set]))
      have hbd := hb.drew
      have r2 := hbd.rule
      have f2 := hbd.free
      have ck := fA_at (fun j => if j < k then s (frm j) else s j) hlt
      refine tree_store rfl rfl (by rfl) (fun K hK => ?_); go_wp2_with fail; refine tree_done ?_
      clear r2 f2
      go_wp2_with fail
      go_roundw
      case rel =>
        refine ⟨k + 1, by omega, by go_num, hW.drew.other _ _ hHg, ?_, onlyA_setCell (onlyA_drew hg) k _⟩
        exact (hbd.setF hlt (s (frm k))).ofF fun i _ => congrFun (step_fun k (fun j => s (frm j)) s) i
      case measure => simp [intOf]; omega
    · go_wp2_with fail
      go_end0
      obtain rfl : k = 16 := by omega
      exact ⟨rfl, hb.ofF fun i h => by rw [trn, tb_at _ h, if_pos h], hg⟩
set_option maxHeartbeats 400000 in
set_option maxRecDepth 40000 in
theorem turn_back (gb : Nat) (s : Nat → BitVec 8) (w : World) (hB : Blk w gb (fA 16 s) 46) :
    Calls Try.prog 57 #[.pointer (some ⟨gb, 0, none⟩), .bool true] w fun e w' =>
      e = .returned (.tuple #[]) ∧ Blk w' gb (fA 16 (nrt s)) 46 ∧ w.grownBy w' (some gb) := by
  have hz := hB.lt
  go_enter Try.func57, Try.ntmps57
  go_wp2_with (first | refine wpList_load_blk rfl 46 agg16 _ rfl rfl hB (fA_size _ _) ?_ | refine wpList_store_blk rfl 46 agg16 (.tmp 4) _ rfl rfl rfl (Blk.new _ _ _) (fA_size _ _) rfl (fA_one _ _) ?_)
  refine wp_forget (fun W0 => Blk W0 w.heap.size (fA 16 s) 46 ∧ Blk W0 gb (fA 16 s) 46 ∧ w.grownBy W0 (some gb)) ⟨(Blk.new _ _ _).setRow _, (hB.alloc _).setRow_other _ _ (by omega), onlyA_newRow (onlyA_alloc (World.grownBy.refl _ _) _) (Nat.le_refl _) _⟩ ?_
  rintro w0 ⟨hW, hB0, hg0⟩
  obtain ⟨H, hH⟩ : ∃ H, H = w.heap.size := ⟨_, rfl⟩
  rw [← hH] at hW ⊢
  have hHg : H ≠ gb := by omega
  clear hB hz hH
  go_loopw [10] (fun i wr => ∃ k : Nat, k ≤ 16 ∧ i = .int .i64 k ∧ Blk wr H (fA 16 s) 46 ∧ Blk wr gb (fA 16 (fun j => if too j < k then s (too j) else s j)) 46 ∧ w.grownBy wr (some gb)) (fun i _ => 16 - (intOf i).toNat)
  case atStart => exact ⟨0, by omega, rfl, hW, by simpa using hB0, hg0⟩
  case round =>
    clear hW hB0 hg0
    obtain ⟨k, hk, rfl, hW, hb, hg⟩ := hrel
    by_cases hlt : k < 16
    · have hfr : frm k < 16 := (too_frm k hlt).2.2.1
      have hfi := frm_int k
      have hfr' : (frm k : Int) < 16 := by omega
      have C1 : ∀ W, Old wr.drew W → W.cell? ⟨H, k, none⟩ = some (.int .u8 (B8 (s k))) := fun W h => (hW.drew.old h).atF hlt rfl
      go_wp2_with fail
      refine wp_region_treeR true Old Old.refl Old.trans (.step 0 (.step 1 (.step 2 (.step 3 (.step 4 (.step 5 (.step 6 (.step 7 .done)))))))) (by kernel_rfl) (by kernel_rfl) (fun c a d v w h => by cases d <;> exact h) ?_
      repeat (first | (refine tree_skip rfl (by rfl) ?_; simp only [Act.put, List.setIfInBounds_toArray, List.set]) | (refine tree_quiet (v := ?_) rfl rfl (by rfl) ?_ ?_; rotate_left; (intro W hW; go_simp); (try with_reducible rfl); simp only [Act.put, List.setIfInBounds_toArray, List.set]))
      have hbd := hb.drew
      have r2 := hbd.rule
      have f2 := hbd.free
      have ck := fA_at (fun j => if too j < k then s (too j) else s j) hfr
      refine tree_store rfl rfl (by rfl) (fun K hK => ?_); go_wp2_with fail; refine tree_done ?_
      clear r2 f2
      go_wp2_with fail
      go_roundw
      case rel =>
        refine ⟨k + 1, by omega, by go_num, hW.drew.other _ _ hHg, ?_, onlyA_setCell (onlyA_drew hg) (frm k) _⟩
        exact (hbd.setF hfr (s k)).ofF (step_too k hlt s)
      case measure => simp [intOf]; omega
    · go_wp2_with fail
      go_end0
      obtain rfl : k = 16 := by omega
      exact ⟨rfl, hb.ofF fun i h => by rw [nrt, tb_at _ h, if_pos (too_frm i h).2.2.2], hg⟩
end Go.Proofs.Ytiadhcipfgckoaa

