/- Rows of values given by a function, in memory. No program is named. -/
import Derived.Test.YtdokkhjgmhcpkaaBase
namespace Go.Proofs.Ytdokkhjgmhcpkaa
open Go.RowKit

def vL (n : Nat) (f : Nat → Value) : List Value := (List.range n).map f
def vA (n : Nat) (f : Nat → Value) : Array Value := (vL n f).toArray
section
variable {n : Nat} {f g : Nat → Value}
theorem vL_length (n : Nat) (f : Nat → Value) : (vL n f).length = n := by simp [vL]
theorem vA_size (n : Nat) (f : Nat → Value) : (vA n f).size = n := by simp [vA, vL]
theorem vA_toList (n : Nat) (f : Nat → Value) : (vA n f).toList = vL n f := rfl
theorem vA_at (f : Nat → Value) {i : Nat} (h : i < n) : (vA n f)[i]? = some (f i) := by simp [vA, vL, h]
theorem vA_none (f : Nat → Value) {i : Nat} (h : n ≤ i) : (vA n f)[i]? = none := Array.getElem?_eq_none (by rw [vA_size]; exact h)
theorem vL_at (f : Nat → Value) {i : Nat} (h : i < n) : (vL n f)[i]? = some (f i) := by simp [vL, h]
theorem vL_eq (h : ∀ i, i < n → f i = g i) : vL n f = vL n g := by
  unfold vL
  apply List.map_congr_left
  intro i hi
  rw [h i (List.mem_range.1 hi)]
theorem vA_eq (h : ∀ i, i < n → f i = g i) : vA n f = vA n g := by unfold vA; rw [vL_eq h]
theorem vA_of {cs : Array Value} (hs : cs.size = n) (h : ∀ i, i < n → cs[i]? = some (f i)) : cs = vA n f := by
  apply Array.ext_getElem?
  intro i
  by_cases hi : i < n
  · rw [h i hi, vA_at f hi]
  · rw [vA_none f (by omega), Array.getElem?_eq_none (by omega)]
theorem vL_of {cs : List Value} (hs : cs.length = n) (h : ∀ i, i < n → cs[i]? = some (f i)) : cs = vL n f := by
  apply List.ext_getElem?
  intro i
  by_cases hi : i < n
  · rw [h i hi, vL_at f hi]
  · rw [List.getElem?_eq_none (by omega), List.getElem?_eq_none (by rw [vL_length]; omega)]
theorem vA_set (f : Nat → Value) {i : Nat} (v : Value) (_h : i < n) : (vA n f).setIfInBounds i v = vA n fun j => if j = i then v else f j := by
  refine vA_of (by simp [vA_size]) fun j hj => ?_
  by_cases e : i = j
  · subst e
    simp [vA_size, hj]
  · rw [Array.getElem?_setIfInBounds_ne e, vA_at _ hj, if_neg (Ne.symm e)]
theorem vA_one (h : ∀ i, i < n → (f i).oneCell' = true) : (vA n f).toList.all (·.oneCell') = true := by
  rw [vA_toList, List.all_eq_true]
  intro v hv
  obtain ⟨i, hi, rfl⟩ := List.mem_map.1 hv
  exact h i (List.mem_range.1 hi)
theorem vA_part (f : Nat → Value) {o m : Nat} (h : o + m ≤ n) : ((vA n f).toList.drop o).take m = vL m fun j => f (o + j) := by
  refine vL_of (by simp [vA_toList, vL_length]; omega) fun j hj => ?_
  rw [List.getElem?_take_of_lt hj, List.getElem?_drop, Array.getElem?_toList, vA_at _ (by omega)]
theorem vA_splice (f g : Nat → Value) {o m : Nat} (h : o + m ≤ n) : splice (vA n f) o (vA m g) = vA n fun j => if o ≤ j ∧ j < o + m then g (j - o) else f j := by
  refine vA_of (by simp [splice, vA_size]; omega) fun j hj => ?_
  simp only [splice, vA_size]
  have hl : (List.take o (vA n f).toList ++ (vA m g).toList ++ List.drop (o + m) (vA n f).toList).toArray[j]? = (List.take o (vA n f).toList ++ ((vA m g).toList ++ List.drop (o + m) (vA n f).toList))[j]? := by simp
  rw [hl]
  by_cases h1 : j < o
  · rw [List.getElem?_append_left (by simp [vA_size]; omega), List.getElem?_take_of_lt h1, Array.getElem?_toList, vA_at _ hj, if_neg (by omega)]
  · rw [List.getElem?_append_right (by simp [vA_size]; omega)]
    have e : (List.take o (vA n f).toList).length = o := by simp [vA_size]; omega
    rw [e]
    by_cases h2 : j < o + m
    · rw [List.getElem?_append_left (by simp [vA_size]; omega), Array.getElem?_toList, vA_at _ (by omega), if_pos ⟨by omega, h2⟩]
    · rw [List.getElem?_append_right (by simp [vA_size]; omega), List.getElem?_drop]
      have e2 : o + m + (j - o - (vA m g).toList.length) = j := by simp [vA_size]; omega
      rw [e2, Array.getElem?_toList, vA_at _ hj, if_neg (by omega)]
theorem splice_whole (old new : Array Value) (h : old.size = new.size) : splice old 0 new = new := by
  have e : List.drop new.size old.toList = [] := List.drop_eq_nil_of_le (by simp [h])
  simp [splice, e]
theorem Blk.ofV {w : World} {b : Nat} {ty : TypeId} (h : Blk w b (vA n f) ty) (e : ∀ i, i < n → f i = g i) : Blk w b (vA n g) ty := by rw [← vA_eq e]; exact h
theorem Blk.setV {w : World} {b k : Nat} {ty : TypeId} (h : Blk w b (vA n f) ty) (hk : k < n) (v : Value) : Blk (w.setCell ⟨b, k, none⟩ v) b (vA n fun j => if j = k then v else f j) ty := by
  have := h.set k v
  rwa [vA_set _ _ hk] at this
theorem Blk.atV {w : World} {b k : Nat} {ty : TypeId} (h : Blk w b (vA n f) ty) (hk : k < n) {v : Value} (hv : f k = v) : w.cell? ⟨b, k, none⟩ = some v := by rw [h.rule, vA_at _ hk, hv]
end
theorem step_of {α : Type} (k : Nat) (new old : Nat → α) : (fun j => if j = k then new k else if j < k then new j else old j) = fun j => if j < k + 1 then new j else old j := by
  funext j
  by_cases h : j = k
  · subst h; simp
  · by_cases h2 : j < k
    · simp [h, h2, show j < k + 1 by omega]
    · simp [h, h2, show ¬ j < k + 1 by omega]
/-- A world under a new name, whatever is said of it. -/
theorem g_forget {G : World → Prop} {W : World} (F : World → Prop) (hF : F W) (h : ∀ W0, F W0 → G W0) : G W := h W hF
theorem zero_run {P : Program} {ty : TypeId} {v : Value} (h : (P.info? ty).bind (·.zero) = some v) (W : World) : (zeroValue ty).run P W = .ok v W := by
  cases hq : P.info? ty with
  | none => simp [hq] at h
  | some i =>
    have hz : i.zero = some v := by simpa [hq] using h
    simp [zeroValue, typeInfo, hq, hz]
theorem sized_run {P : Program} {ty : TypeId} {n : Nat} (h : (P.info? ty).map (·.size) = some n) (W : World) : (sizeOf ty).run P W = .ok n W := by
  cases hq : P.info? ty with
  | none => simp [hq] at h
  | some i => simp [hq] at h; simp [sizeOf, typeInfo, hq, h]
/-- A word of 32 bits, as a value. -/
def wv (a : BitVec 32) : Value := .int .u32 (U32 a)
end Go.Proofs.Ytdokkhjgmhcpkaa
