/- What a block makes of the words of a sum, in plain words. No program is named. -/
import Derived.Test.YtdokkhjgmhcpkaaShaPlain
namespace Go.Proofs.Ytdokkhjgmhcpkaa
open Go.RowKit

def rr (x : BitVec 32) (n : Nat) : BitVec 32 := (x <<< (32 - n)) ||| (x >>> n)
def sg0 (x : BitVec 32) : BitVec 32 := rr x 7 ^^^ rr x 18 ^^^ x >>> 3
def sg1 (x : BitVec 32) : BitVec 32 := rr x 17 ^^^ rr x 19 ^^^ x >>> 10
/-- The words of a block, the first so many behind the 16 that stand in it. -/
def wx (w : Nat → BitVec 32) : Nat → Nat → BitVec 32
  | 0 => w
  | k + 1 => fun j => if j = 16 + k then wx w k (16 + k - 16) + wx w k (16 + k - 7) + sg0 (wx w k (16 + k - 15)) + sg1 (wx w k (16 + k - 2)) else wx w k j
def uu (v : Nat → BitVec 32) (k w : BitVec 32) : BitVec 32 := v 7 + (rr (v 4) 6 ^^^ rr (v 4) 11 ^^^ rr (v 4) 25) + ((v 4 &&& v 5) ^^^ (~~~ v 4 &&& v 6)) + k + w
def xx (v : Nat → BitVec 32) : BitVec 32 := (rr (v 0) 2 ^^^ rr (v 0) 13 ^^^ rr (v 0) 22) + ((v 0 &&& v 1) ^^^ (v 0 &&& v 2) ^^^ (v 1 &&& v 2))
def rd (v : Nat → BitVec 32) (k w : BitVec 32) : Nat → BitVec 32 := fun j => if j = 0 then uu v k w + xx v else if j = 4 then v 3 + uu v k w else v (j - 1)
def kwd (i : Nat) : BitVec 32 := kVal.getD i 0#32
def hwd (i : Nat) : BitVec 32 := hVal.getD i 0#32
/-- Behind so many rounds. -/
def vs (h w : Nat → BitVec 32) : Nat → Nat → BitVec 32
  | 0 => h
  | t + 1 => rd (vs h w t) (kwd t) (w t)
def cmp (h w : Nat → BitVec 32) : Nat → BitVec 32 := fun j => h j + vs h (wx w 48) 64 j
theorem wx_old (w : Nat → BitVec 32) : ∀ k j, j < 16 → wx w k j = w j
  | 0, _, _ => rfl
  | k + 1, j, h => by simp only [wx]; rw [if_neg (by omega), wx_old w k j h]
/-- A byte of a list; 0 behind it. -/
def byt (l : List UInt8) (i : Nat) : BitVec 8 := (l.getD i 0).toBitVec
/-- Four bytes as a word, the first so many. -/
def wpart (l : List UInt8) (p : Nat) : Nat → BitVec 32
  | 0 => 0#32
  | q + 1 => wpart l p q <<< 8 ||| (byt l (p + q)).setWidth 32
def wd (l : List UInt8) (o t : Nat) : BitVec 32 := wpart l (o + 4 * t) 4
/-- The words behind so many blocks. -/
def stt (l : List UInt8) : Nat → Nat → BitVec 32
  | 0 => hwd
  | i + 1 => cmp (stt l i) (wd l (64 * i))
theorem wpart_eq {l m : List UInt8} {p q : Nat} : ∀ {n : Nat}, (∀ i, i < n → byt l (p + i) = byt m (q + i)) → wpart l p n = wpart m q n
  | 0, _ => rfl
  | n + 1, h => by rw [wpart, wpart, wpart_eq (fun i hi => h i (by omega)), h n (by omega)]
theorem wx_eq {w u : Nat → BitVec 32} (h : ∀ t, t < 16 → w t = u t) : ∀ k, k ≤ 48 → ∀ j, j < 16 + k → wx w k j = wx u k j
  | 0, _, j, hj => h j (by omega)
  | k + 1, hk, j, hj => by
    have ih := wx_eq h k (by omega)
    simp only [wx]
    by_cases e : j = 16 + k
    · rw [if_pos e, if_pos e, ih _ (by omega), ih _ (by omega), ih _ (by omega), ih _ (by omega)]
    · rw [if_neg e, if_neg e, ih j (by omega)]
theorem rd_eq {v u : Nat → BitVec 32} (h : ∀ j, j < 8 → v j = u j) (k w : BitVec 32) : ∀ j, j < 8 → rd v k w j = rd u k w j := fun j hj => by
  unfold rd uu xx
  rw [h 0 (by omega), h 1 (by omega), h 2 (by omega), h 3 (by omega), h 4 (by omega), h 5 (by omega), h 6 (by omega), h 7 (by omega)]
  by_cases e : j = 0
  · rw [if_pos e, if_pos e]
  · rw [if_neg e, if_neg e, h (j - 1) (by omega)]
theorem vs_eq {h g w u : Nat → BitVec 32} (hh : ∀ j, j < 8 → h j = g j) (hw : ∀ t, t < 64 → w t = u t) : ∀ t, t ≤ 64 → ∀ j, j < 8 → vs h w t j = vs g u t j
  | 0, _, j, hj => hh j hj
  | t + 1, ht, j, hj => by
    rw [vs, vs, hw t (by omega)]
    exact rd_eq (vs_eq hh hw t (by omega)) _ _ j hj
theorem cmp_eq {h g w u : Nat → BitVec 32} (hh : ∀ j, j < 8 → h j = g j) (hw : ∀ t, t < 16 → w t = u t) : ∀ j, j < 8 → cmp h w j = cmp g u j := fun j hj => by
  unfold cmp
  rw [hh j hj, vs_eq hh (fun t ht => wx_eq hw 48 (by omega) t (by omega)) 64 (by omega) j hj]
theorem wd_eq {l m : List UInt8} {o p t : Nat} (h : ∀ i, i < 64 → byt l (o + i) = byt m (p + i)) (ht : t < 16) : wd l o t = wd m p t :=
  wpart_eq fun i hi => by
    have := h (4 * t + i) (by omega)
    rwa [show o + 4 * t + i = o + (4 * t + i) by omega, show p + 4 * t + i = p + (4 * t + i) by omega]
theorem stt_eq {l m : List UInt8} : ∀ i, (∀ k, k < 64 * i → byt l k = byt m k) → ∀ j, j < 8 → stt l i j = stt m i j
  | 0, _, _, _ => rfl
  | i + 1, h, j, hj => by
    rw [stt, stt]
    exact cmp_eq (stt_eq i fun k hk => h k (by omega)) (fun t ht => wd_eq (fun q hq => h (64 * i + q) (by omega)) ht) j hj
end Go.Proofs.Ytdokkhjgmhcpkaa
