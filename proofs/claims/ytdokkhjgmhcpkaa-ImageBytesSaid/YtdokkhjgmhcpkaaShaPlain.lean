/- Primes, roots, and the sum of bytes, in plain words. No program is named. -/
import Derived.WalkKit
namespace Go.Proofs.Ytdokkhjgmhcpkaa
open Go.RowKit

/-- Is the square (or the cube) of y, seen as so many 2^32ths, at most x? -/
def pwB (third : Bool) (y x : Nat) : Bool := if third then decide (y * y * y ≤ x * 79228162514264337593543950336) else decide (y * y ≤ x * 18446744073709551616)

/-! ### Primes -/
def psStep (l : List Nat) (x : Nat) : List Nat := if l.all (fun p => x % p != 0) then l ++ [x] else l
/-- Those below k + 2. -/
def ps : Nat → List Nat
  | 0 => []
  | k + 1 => psStep (ps k) (k + 2)
theorem psStep_prefix (l : List Nat) (x : Nat) : l <+: psStep l x := by
  unfold psStep
  split
  · exact List.prefix_append _ _
  · exact List.prefix_refl _
theorem ps_prefix (k : Nat) : ∀ j, ps k <+: ps (k + j)
  | 0 => List.prefix_refl _
  | j + 1 => (ps_prefix k j).trans (psStep_prefix _ _)
theorem ps_le {k m : Nat} (h : k ≤ m) : ps k <+: ps m := by
  have := ps_prefix k (m - k)
  rwa [Nat.add_sub_cancel' h] at this
theorem ps_len_step (k : Nat) : (ps (k + 1)).length ≤ (ps k).length + 1 := by
  rw [ps, psStep]
  split <;> simp
theorem ps_two (k : Nat) : ∀ p ∈ ps k, 2 ≤ p ∧ p < k + 2 := by
  induction k with
  | zero => intro p h; simp [ps] at h
  | succ k ih =>
    intro p h
    rw [ps, psStep] at h
    split at h
    · rcases List.mem_append.1 h with h | h
      · have := ih p h; omega
      · simp at h; omega
    · have := ih p h; omega
theorem ps_len (k : Nat) : (ps k).length ≤ k := by
  induction k with
  | zero => simp [ps]
  | succ k ih => have := ps_len_step k; omega
def psLit : List Nat := [2, 3, 5, 7, 11, 13, 17, 19, 23, 29, 31, 37, 41, 43, 47, 53, 59, 61, 67, 71, 73, 79, 83, 89, 97, 101, 103, 107, 109, 113, 127, 131, 137, 139, 149, 151, 157, 163, 167, 173, 179, 181, 191, 193, 197, 199, 211, 223, 227, 229, 233, 239, 241, 251, 257, 263, 269, 271, 277, 281, 283, 293, 307, 311]
/-- The list grows as it is said, from k on, n steps. -/
def growsTo : Nat → Nat → List Nat → Bool
  | 0, _, l => l == psLit
  | n + 1, k, l => growsTo n (k + 1) (psStep l (k + 2))
theorem growsTo_spec : ∀ (n k : Nat), growsTo n k (ps k) = true → ps (k + n) = psLit
  | 0, k, h => by simpa [growsTo] using h
  | n + 1, k, h => by
    have := growsTo_spec n (k + 1) h
    rwa [show k + 1 + n = k + (n + 1) by omega] at this
theorem ps_310 : ps 310 = psLit := growsTo_spec 310 0 (by decide +kernel)
theorem ps_lt {k : Nat} (h : (ps k).length < 64) : k < 310 := by
  rcases Nat.lt_or_ge k 310 with h1 | h1
  · exact h1
  · have := (ps_le h1).length_le
    rw [ps_310] at this
    have e : psLit.length = 64 := rfl
    omega
theorem ps_take {k n : Nat} (h : (ps k).length = n) (hn : n ≤ 64) : ps k = psLit.take n := by
  rcases Nat.lt_or_ge k 311 with h1 | h1
  · have := ps_le (show k ≤ 310 by omega)
    rw [ps_310] at this
    rw [← h]; exact List.prefix_iff_eq_take.1 this
  · have := ps_le (show 310 ≤ k by omega)
    rw [ps_310] at this
    have e : psLit.length = 64 := rfl
    have e2 := this.length_le
    have e3 : psLit = ps k := this.eq_of_length (by omega)
    rw [← e3, show n = 64 by omega]; rfl

/-! ### Roots -/
def bs (third : Bool) (x : Nat) : Nat → Nat → Nat → Nat
  | 0, lo, _ => lo
  | f + 1, lo, hi => if 1 < hi - lo then (if pwB third (lo + (hi - lo) / 2) x then bs third x f (lo + (hi - lo) / 2) hi else bs third x f lo (lo + (hi - lo) / 2)) else lo
def rt (third : Bool) (x : Nat) : Nat := bs third x 64 0 85899345920
theorem bs_done (third : Bool) (x lo hi : Nat) (h : ¬ 1 < hi - lo) : ∀ f, bs third x f lo hi = lo
  | 0 => rfl
  | f + 1 => by rw [bs, if_neg h]
def rtsF (third : Bool) (l : List Nat) : List (BitVec 32) := l.map fun x => BitVec.ofNat 32 (rt third x)
def kLit : List (BitVec 32) := rtsF true psLit
def hLit : List (BitVec 32) := rtsF false (psLit.take 8)
def kVal : List (BitVec 32) := [0x428a2f98#32, 0x71374491#32, 0xb5c0fbcf#32, 0xe9b5dba5#32, 0x3956c25b#32, 0x59f111f1#32, 0x923f82a4#32, 0xab1c5ed5#32, 0xd807aa98#32, 0x12835b01#32, 0x243185be#32, 0x550c7dc3#32, 0x72be5d74#32, 0x80deb1fe#32, 0x9bdc06a7#32, 0xc19bf174#32, 0xe49b69c1#32, 0xefbe4786#32, 0x0fc19dc6#32, 0x240ca1cc#32, 0x2de92c6f#32, 0x4a7484aa#32, 0x5cb0a9dc#32, 0x76f988da#32, 0x983e5152#32, 0xa831c66d#32, 0xb00327c8#32, 0xbf597fc7#32, 0xc6e00bf3#32, 0xd5a79147#32, 0x06ca6351#32, 0x14292967#32, 0x27b70a85#32, 0x2e1b2138#32, 0x4d2c6dfc#32, 0x53380d13#32, 0x650a7354#32, 0x766a0abb#32, 0x81c2c92e#32, 0x92722c85#32, 0xa2bfe8a1#32, 0xa81a664b#32, 0xc24b8b70#32, 0xc76c51a3#32, 0xd192e819#32, 0xd6990624#32, 0xf40e3585#32, 0x106aa070#32, 0x19a4c116#32, 0x1e376c08#32, 0x2748774c#32, 0x34b0bcb5#32, 0x391c0cb3#32, 0x4ed8aa4a#32, 0x5b9cca4f#32, 0x682e6ff3#32, 0x748f82ee#32, 0x78a5636f#32, 0x84c87814#32, 0x8cc70208#32, 0x90befffa#32, 0xa4506ceb#32, 0xbef9a3f7#32, 0xc67178f2#32]
def hVal : List (BitVec 32) := [0x6a09e667#32, 0xbb67ae85#32, 0x3c6ef372#32, 0xa54ff53a#32, 0x510e527f#32, 0x9b05688c#32, 0x1f83d9ab#32, 0x5be0cd19#32]
theorem kLit_eq : kLit = kVal := by decide +kernel
theorem hLit_eq : hLit = hVal := by decide +kernel
theorem rts_k {k : Nat} (h : (ps k).length = 64) : rtsF true (ps k) = kVal := by rw [ps_take h (by omega), ← kLit_eq]; rfl
theorem rts_h {k : Nat} (h : (ps k).length = 8) : rtsF false (ps k) = hVal := by rw [ps_take h (by omega), ← hLit_eq]; rfl
end Go.Proofs.Ytdokkhjgmhcpkaa
