/- Blocks encrypted, in plain words: what comes of a block by a key. No program is named. -/
import Derived.Test.YtjkdgaehnachdaaAesPlain
namespace Go.Proofs.Ytjkdgaehnachdaa
open Go.RowKit

/-- The first n of f; nought behind them. -/
def tb (n : Nat) (f : Nat → BitVec 8) : Nat → BitVec 8 := fun j => if j < n then f j else 0#8
def lst (l : List (BitVec 8)) : Nat → BitVec 8 := fun j => l.getD j 0#8
theorem tb_at {n j : Nat} (f : Nat → BitVec 8) (h : j < n) : tb n f j = f j := if_pos h
theorem tb_eq {n : Nat} {f g : Nat → BitVec 8} (h : ∀ j, j < n → f j = g j) : tb n f = tb n g := by
  funext j
  unfold tb
  split
  · exact h j ‹_›
  · rfl
theorem tb_tb (n : Nat) (f : Nat → BitVec 8) : tb n (tb n f) = tb n f := tb_eq fun _ h => tb_at f h
theorem tb_lst {n : Nat} {f : Nat → BitVec 8} {l : List (BitVec 8)} (hl : l.length = n) (h : ∀ j, j < n → f j = l.getD j 0#8) : tb n f = lst l := by
  funext j
  unfold tb lst
  split
  · exact h j ‹_›
  · rw [List.getD_eq_getElem?_getD, List.getElem?_eq_none (by omega)]; rfl

/-! ### The steps -/
def sx (a b : Nat → BitVec 8) : Nat → BitVec 8 := tb 16 fun j => a j ^^^ b j
def thr (f : BitVec 8 → BitVec 8) (s : Nat → BitVec 8) : Nat → BitVec 8 := tb 16 fun j => f (s j)
def frm (i : Nat) : Nat := (i + 4 * (i % 4)) % 16
def too (j : Nat) : Nat := (j + 12 * (j % 4)) % 16
theorem too_frm : ∀ i, i < 16 → too (frm i) = i ∧ frm (too i) = i ∧ frm i < 16 ∧ too i < 16 := by decide
def trn (s : Nat → BitVec 8) : Nat → BitVec 8 := tb 16 fun j => s (frm j)
def nrt (s : Nat → BitVec 8) : Nat → BitVec 8 := tb 16 fun j => s (too j)
/-- One byte of a column, the sum of the first so many products. -/
def mxs (m s : Nat → BitVec 8) (i : Nat) : Nat → BitVec 8
  | 0 => 0#8
  | k + 1 => mxs m s i k ^^^ tim (m ((k + 4 - i % 4) % 4)) (s (i / 4 * 4 + k))
def mx (m s : Nat → BitVec 8) : Nat → BitVec 8 := tb 16 fun i => mxs m s i 4
/-- A round key out of the one ahead of it. -/
def nk0 (r : BitVec 8) (w : Nat → BitVec 8) (c : Nat) : BitVec 8 := bx (w (12 + (c + 1) % 4)) ^^^ (if c = 0 then r else 0#8)
def nkc (r : BitVec 8) (w : Nat → BitVec 8) (c : Nat) : Nat → BitVec 8
  | 0 => nk0 r w c ^^^ w c
  | q + 1 => nkc r w c q ^^^ w (4 * (q + 1) + c)
def nk (r : BitVec 8) (w : Nat → BitVec 8) : Nat → BitVec 8 := tb 16 fun j => nkc r w (j % 4) (j / 4)
def rc : Nat → BitVec 8
  | 0 => 1#8
  | k + 1 => tim (rc k) 2#8
def rk (key : Nat → BitVec 8) : Nat → Nat → BitVec 8
  | 0 => tb 16 key
  | k + 1 => nk (rc k) (rk key k)
def mE : Nat → BitVec 8 := lst [2#8, 3#8, 1#8, 1#8]
def mD : Nat → BitVec 8 := lst [14#8, 11#8, 13#8, 9#8]
/-- One round: the block behind round r (from 1). -/
def rnd (key : Nat → BitVec 8) (r : Nat) (s : Nat → BitVec 8) : Nat → BitVec 8 :=
  sx (if r < 10 then mx mE (trn (thr bx s)) else trn (thr bx s)) (rk key r)
def encs (key s : Nat → BitVec 8) : Nat → Nat → BitVec 8
  | 0 => sx s (rk key 0)
  | r + 1 => rnd key (r + 1) (encs key s r)
def enc (key s : Nat → BitVec 8) : Nat → BitVec 8 := encs key s 10

/-! ### The box turned round -/
def ibx (z : BitVec 8) : BitVec 8 := rotl z 1 ^^^ rotl z 3 ^^^ rotl z 6 ^^^ 5#8
theorem ibx_bxs : ∀ y : BitVec 8, ibx (bxs y 5) = y := by decide +kernel
theorem bxs_ibx : ∀ y : BitVec 8, bxs (ibx y) 5 = y := by decide +kernel
theorem pw_pw : ∀ x : BitVec 8, pw (pw x) = x := by decide +kernel
def un (z : BitVec 8) : BitVec 8 := pw (ibx z)
theorem un_bx (x : BitVec 8) : un (bx x) = x := by rw [un, bx, ibx_bxs, pw_pw]
theorem bx_un (x : BitVec 8) : bx (un x) = x := by rw [un, bx, pw_pw, bxs_ibx]
theorem bx_inj {x y : BitVec 8} (h : bx x = bx y) : x = y := by rw [← un_bx x, h, un_bx]

/-! ### Back -/
def dnd (key : Nat → BitVec 8) (r : Nat) (s : Nat → BitVec 8) : Nat → BitVec 8 :=
  thr un (nrt (if r < 10 then mx mD (sx s (rk key r)) else sx s (rk key r)))
/-- The block behind so many rounds back, from round 10 on. -/
def decs (key s : Nat → BitVec 8) : Nat → Nat → BitVec 8
  | 0 => tb 16 s
  | n + 1 => dnd key (10 - n) (decs key s n)
def dec (key s : Nat → BitVec 8) : Nat → BitVec 8 := sx (decs key s 10) (rk key 0)

/-! ### Encrypted and back -/
theorem sx_sx (s k : Nat → BitVec 8) : sx (sx s k) k = tb 16 s := tb_eq fun _ h => by rw [sx, tb_at _ h, BitVec.xor_assoc, BitVec.xor_self, BitVec.xor_zero]
theorem sx_tb (s k : Nat → BitVec 8) : sx (tb 16 s) k = sx s k := tb_eq fun j h => by rw [tb_at _ h]
theorem tb_sx (s k : Nat → BitVec 8) : tb 16 (sx s k) = sx s k := tb_tb _ _
theorem thr_un (s : Nat → BitVec 8) : thr un (thr bx s) = tb 16 s := tb_eq fun j h => by rw [thr, tb_at _ h, un_bx]
theorem thr_bx (s : Nat → BitVec 8) : thr bx (thr un s) = tb 16 s := tb_eq fun j h => by rw [thr, tb_at _ h, bx_un]
theorem nrt_trn (s : Nat → BitVec 8) : nrt (trn s) = tb 16 s := tb_eq fun j h => by
  obtain ⟨h1, h2, h3, h4⟩ := too_frm j h
  rw [trn, tb_at _ h4, h2]
theorem trn_nrt (s : Nat → BitVec 8) : trn (nrt s) = tb 16 s := tb_eq fun j h => by
  obtain ⟨h1, h2, h3, h4⟩ := too_frm j h
  rw [nrt, tb_at _ h3, h1]
theorem thr_tb (f : BitVec 8 → BitVec 8) (s : Nat → BitVec 8) : thr f (tb 16 s) = thr f s := tb_eq fun j h => by rw [tb_at _ h]
theorem trn_tb (s : Nat → BitVec 8) : trn (tb 16 s) = trn s := tb_eq fun j h => by rw [tb_at _ (too_frm j h).2.2.1]
theorem nrt_tb (s : Nat → BitVec 8) : nrt (tb 16 s) = nrt s := tb_eq fun j h => by rw [tb_at _ (too_frm j h).2.2.2]
theorem mxs4 (m s : Nat → BitVec 8) (i : Nat) : mxs m s i 4 = tim (m ((0 + 4 - i % 4) % 4)) (s (i / 4 * 4 + 0)) ^^^ tim (m ((1 + 4 - i % 4) % 4)) (s (i / 4 * 4 + 1)) ^^^ tim (m ((2 + 4 - i % 4) % 4)) (s (i / 4 * 4 + 2)) ^^^ tim (m ((3 + 4 - i % 4) % 4)) (s (i / 4 * 4 + 3)) := by
  simp only [mxs, BitVec.zero_xor]
theorem mx_tb (m s : Nat → BitVec 8) : mx m (tb 16 s) = mx m s := tb_eq fun j h => by
  rw [mxs4, mxs4, tb_at _ (by omega), tb_at _ (by omega), tb_at _ (by omega), tb_at _ (by omega)]

/-- A column mixed by the one and by the other: products with the products of the numbers. -/
def mm (a b : Nat → BitVec 8) (i k : Nat) : BitVec 8 := tim (a ((0 + 4 - i) % 4)) (b ((k + 4 - 0) % 4)) ^^^ tim (a ((1 + 4 - i) % 4)) (b ((k + 4 - 1) % 4)) ^^^ tim (a ((2 + 4 - i) % 4)) (b ((k + 4 - 2) % 4)) ^^^ tim (a ((3 + 4 - i) % 4)) (b ((k + 4 - 3) % 4))
theorem mm_ED : ∀ i, i < 4 → ∀ k, k < 4 → mm mD mE i k = if i = k then 1#8 else 0#8 := by decide +kernel
theorem mm_DE : ∀ i, i < 4 → ∀ k, k < 4 → mm mE mD i k = if i = k then 1#8 else 0#8 := by decide +kernel
theorem xor_four (a b c d e f g h i j k l m n o p : BitVec 8) :
    (a ^^^ b ^^^ c ^^^ d) ^^^ (e ^^^ f ^^^ g ^^^ h) ^^^ (i ^^^ j ^^^ k ^^^ l) ^^^ (m ^^^ n ^^^ o ^^^ p) = (a ^^^ e ^^^ i ^^^ m) ^^^ (b ^^^ f ^^^ j ^^^ n) ^^^ (c ^^^ g ^^^ k ^^^ o) ^^^ (d ^^^ h ^^^ l ^^^ p) := by
  ac_rfl
theorem col_at (m s : Nat → BitVec 8) (i q : Nat) (hi : i < 4) (hq : q < 4) : mx m s (4 * q + i) = tim (m ((0 + 4 - i) % 4)) (s (4 * q)) ^^^ tim (m ((1 + 4 - i) % 4)) (s (4 * q + 1)) ^^^ tim (m ((2 + 4 - i) % 4)) (s (4 * q + 2)) ^^^ tim (m ((3 + 4 - i) % 4)) (s (4 * q + 3)) := by
  rw [mx, tb_at _ (by omega), mxs4, show (4 * q + i) / 4 * 4 = 4 * q by omega, show (4 * q + i) % 4 = i by omega]; rfl
theorem mx_mx (a b s : Nat → BitVec 8) (hab : ∀ i, i < 4 → ∀ k, k < 4 → mm a b i k = if i = k then 1#8 else 0#8) : mx a (mx b s) = tb 16 s := by
  funext j
  by_cases hj : j < 16
  · obtain ⟨q, i, hi, hq, rfl⟩ : ∃ q i, i < 4 ∧ q < 4 ∧ j = 4 * q + i := ⟨j / 4, j % 4, by omega, by omega, by omega⟩
    rw [tb_at _ hj, col_at _ _ i q hi hq, show 4 * q = 4 * q + 0 by rfl, col_at b s 0 q (by omega) hq, col_at b s 1 q (by omega) hq, col_at b s 2 q (by omega) hq, col_at b s 3 q (by omega) hq]
    simp only [tim_xor, ← tim_assoc]
    rw [xor_four]
    simp only [← tim_xor_left]
    have h0 := hab i hi 0 (by omega)
    have h1 := hab i hi 1 (by omega)
    have h2 := hab i hi 2 (by omega)
    have h3 := hab i hi 3 (by omega)
    simp only [mm] at h0 h1 h2 h3
    have e0 : ∀ x, tim 0#8 x = 0#8 := tim_zero
    have e1 : ∀ x, tim 1#8 x = x := fun x => by rw [tim_comm, tim_one]
    have hcs : i = 0 ∨ i = 1 ∨ i = 2 ∨ i = 3 := by omega
    rcases hcs with rfl | rfl | rfl | rfl <;> simp at h0 h1 h2 h3 ⊢ <;> simp [h0, h1, h2, h3, e0, e1]
  · simp [mx, tb, hj]
theorem mx_back (s : Nat → BitVec 8) : mx mD (mx mE s) = tb 16 s := mx_mx _ _ _ mm_ED
theorem mx_forth (s : Nat → BitVec 8) : mx mE (mx mD s) = tb 16 s := mx_mx _ _ _ mm_DE

theorem dnd_rnd (key : Nat → BitVec 8) (r : Nat) (s : Nat → BitVec 8) : dnd key r (rnd key r s) = tb 16 s := by
  unfold dnd rnd
  rw [sx_sx]
  by_cases h : r < 10
  · simp only [if_pos h]
    rw [mx_tb, mx_back, nrt_tb, nrt_trn, thr_tb, thr_un]
  · simp only [if_neg h]
    rw [nrt_tb, nrt_trn, thr_tb, thr_un]
theorem rnd_dnd (key : Nat → BitVec 8) (r : Nat) (s : Nat → BitVec 8) : rnd key r (dnd key r s) = tb 16 s := by
  unfold dnd rnd
  rw [thr_bx, trn_tb, trn_nrt]
  by_cases h : r < 10
  · simp only [if_pos h]
    rw [mx_tb, mx_forth, sx_tb, sx_sx]
  · simp only [if_neg h]
    rw [sx_tb, sx_sx]
theorem rnd_tb (key : Nat → BitVec 8) (r : Nat) (s : Nat → BitVec 8) : rnd key r (tb 16 s) = rnd key r s := by unfold rnd; rw [thr_tb]
theorem dnd_tb (key : Nat → BitVec 8) (r : Nat) (s : Nat → BitVec 8) : dnd key r (tb 16 s) = dnd key r s := by unfold dnd; rw [sx_tb]
theorem tb_encs (key s : Nat → BitVec 8) (n : Nat) : tb 16 (encs key s n) = encs key s n := by
  cases n <;> exact tb_sx _ _
theorem tb_decs (key s : Nat → BitVec 8) (n : Nat) : tb 16 (decs key s n) = decs key s n := by
  cases n <;> exact tb_tb _ _
theorem decs_encs (key s : Nat → BitVec 8) : ∀ n, n ≤ 10 → decs key (encs key s 10) n = encs key s (10 - n)
  | 0, _ => tb_encs key s 10
  | n + 1, h => by
    rw [decs, decs_encs key s n (by omega), show 10 - n = (10 - (n + 1)) + 1 by omega, encs, dnd_rnd, tb_encs]
theorem dec_enc (key s : Nat → BitVec 8) : dec key (enc key s) = tb 16 s := by
  rw [dec, enc, decs_encs key s 10 (by omega), encs, sx_sx]
theorem encs_decs (key s : Nat → BitVec 8) : ∀ n, n ≤ 10 → encs key (dec key s) n = decs key s (10 - n)
  | 0, _ => by rw [encs, dec, sx_sx, tb_decs]
  | n + 1, h => by
    rw [encs, encs_decs key s n (by omega), show 10 - n = (10 - (n + 1)) + 1 by omega, decs, show 10 - (10 - (n + 1)) = n + 1 by omega, rnd_dnd, tb_decs]
theorem enc_dec (key s : Nat → BitVec 8) : enc key (dec key s) = tb 16 s := by
  rw [enc, encs_decs key s 10 (by omega)]; rfl
end Go.Proofs.Ytjkdgaehnachdaa
