/- slices.Sort of strings, by the shelf's contract (the laying below printed by wip/lays.py). -/
import Derived.Test.YtojmffpkaihmmaaDiskWake
import Derived.Shelf.Sort.Plain
import Derived.Shelf.Slices.In.SortNone
namespace Go.Proofs.Ytojmffpkaihmmaa
open Go.RowKit Go.Maps Go.Shelf Go.Sort
set_option linter.unusedVariables false
set_option linter.unusedSimpArgs false

def sortRen : Go.Shelf.Ren := ⟨fun | 125 => 63 | 128 => 73 | 129 => 74 | 190 => 61 | 258 => 62 | 302 => 64 | 303 => 65 | 304 => 66 | 305 => 67 | 306 => 68 | 307 => 69 | 308 => 70 | 309 => 71 | 310 => 72 | 329 => 76 | 330 => 77 | 333 => 75 | 334 => 78 | 335 => 79 | 336 => 80 | 344 => 81 | n => n, fun | 0 => 0 | 3 => 3 | 4 => 4 | 5 => 5 | 9 => 9 | 31 => 54 | 46 => 81 | 51 => 92 | 53 => 94 | 131 => 89 | 182 => 83 | 183 => 84 | 218 => 95 | 222 => 99 | 228 => 101 | 229 => 102 | n => n, fun n => n⟩
theorem sortLays : Lays.n190 Try.prog sortRen := {
  mixed := by kernel_rfl
  f125 := by kernel_rfl
  f128 := by kernel_rfl
  f129 := by kernel_rfl
  f190 := by kernel_rfl
  f258 := by kernel_rfl
  f302 := by kernel_rfl
  f303 := by kernel_rfl
  f304 := by kernel_rfl
  f305 := by kernel_rfl
  f306 := by kernel_rfl
  f307 := by kernel_rfl
  f308 := by kernel_rfl
  f309 := by kernel_rfl
  f310 := by kernel_rfl
  f329 := by kernel_rfl
  f330 := by kernel_rfl
  f333 := by kernel_rfl
  f334 := by kernel_rfl
  f335 := by kernel_rfl
  f336 := by kernel_rfl
  f344 := by kernel_rfl
  t0 := by kernel_rfl
  a0 := fun w => by kernel_rfl
  z0 := fun w => by kernel_rfl
  v0 := fun w => by kernel_rfl
  t3 := by kernel_rfl
  a3 := fun w => by kernel_rfl
  z3 := fun w => by kernel_rfl
  v3 := fun w => by kernel_rfl
  t4 := by kernel_rfl
  a4 := fun w => by kernel_rfl
  z4 := fun w => by kernel_rfl
  v4 := fun w => by kernel_rfl
  t5 := by kernel_rfl
  a5 := fun w => by kernel_rfl
  z5 := fun w => by kernel_rfl
  v5 := fun w => by kernel_rfl
  t9 := by kernel_rfl
  a9 := fun w => by kernel_rfl
  z9 := fun w => by kernel_rfl
  v9 := fun w => by kernel_rfl
  t31 := by kernel_rfl
  a31 := fun w => by kernel_rfl
  z31 := fun w => by kernel_rfl
  v31 := fun w => by kernel_rfl
  t46 := by kernel_rfl
  a46 := fun w => by kernel_rfl
  z46 := fun w => by kernel_rfl
  v46 := fun w => by kernel_rfl
  t51 := by kernel_rfl
  a51 := fun w => by kernel_rfl
  z51 := fun w => by kernel_rfl
  v51 := fun w => by kernel_rfl
  t53 := by kernel_rfl
  a53 := fun w => by kernel_rfl
  z53 := fun w => by kernel_rfl
  v53 := fun w => by kernel_rfl
  t131 := by kernel_rfl
  a131 := fun w => by kernel_rfl
  z131 := fun w => by kernel_rfl
  v131 := fun w => by kernel_rfl
  t182 := by kernel_rfl
  a182 := fun w => by kernel_rfl
  z182 := fun w => by kernel_rfl
  v182 := fun w => by kernel_rfl
  t183 := by kernel_rfl
  a183 := fun w => by kernel_rfl
  z183 := fun w => by kernel_rfl
  v183 := fun w => by kernel_rfl
  t218 := by kernel_rfl
  a218 := fun w => by kernel_rfl
  z218 := fun w => by kernel_rfl
  v218 := fun w => by kernel_rfl
  t222 := by kernel_rfl
  a222 := fun w => by kernel_rfl
  z222 := fun w => by kernel_rfl
  v222 := fun w => by kernel_rfl
  t228 := by kernel_rfl
  a228 := fun w => by kernel_rfl
  z228 := fun w => by kernel_rfl
  v228 := fun w => by kernel_rfl
  t229 := by kernel_rfl
  a229 := fun w => by kernel_rfl
  z229 := fun w => by kernel_rfl
  v229 := fun w => by kernel_rfl
}
theorem sort_any (blk off cap : Nat) (ss : List (List UInt8)) (w : World) (hH : Holds encStr w blk off ss.toArray) (hblk : blk < w.heap.size) (hsz : ss.length < 4611686018427387904) :
    Calls Try.prog 61 #[.slice (some ⟨blk, off, none⟩) ss.length cap] w fun e w' =>
      e = .returned (.tuple #[]) ∧ ∃ n os, w' = grow (putRow encStr (Sort.ahead w n) blk off (ss.mergeSort fun x y => decide (x ≤ y)).toArray) os :=
  Any.slices_Sort_string sortLays blk off cap ss w hH hblk hsz
theorem sort_none (p : Option Addr) (cap : Nat) (w : World) :
    Calls Try.prog 61 #[.slice p 0 cap] w fun e w' => e = .returned (.tuple #[]) ∧ w' = w :=
  Any.slices_Sort_string_none sortLays p cap w
/-- What a row put over cells leaves. -/
theorem put_turn {w : World} {g : Nat} {cur : Array Value} {t : TypeId} (hB : Blk w g cur t) (d : Array (List UInt8)) (n : Nat) (os : Array Obj) :
    Blk (grow (putRow encStr (Sort.ahead w n) g 0 d) os) g (putCells encStr 0 d cur) t ∧ Turn (fun x => x = g) w (grow (putRow encStr (Sort.ahead w n) g 0 d) os) := by
  have hl : g < w.heap.size := hB.lt
  have hh : (grow (putRow encStr (Sort.ahead w n) g 0 d) os).heap = (w.heap.modify g (onCells (putCells encStr 0 d))) ++ os := rfl
  refine ⟨?_, ⟨rfl, rfl, rfl, by rw [hh]; simp, fun x hx hn => ?_⟩⟩
  · unfold Blk
    rw [hh, Array.getElem?_append_left (by simpa using hl), Array.getElem?_modify, if_pos rfl, show w.heap[g]? = _ from hB]
    rfl
  · rw [hh, Array.getElem?_append_left (by simpa using hx), Array.getElem?_modify, if_neg (fun e => hn e.symm)]
theorem Own.putRow {w : World} {B g n c : Nat} {t : TypeId} {vs : List Value} (h : Own w B t 1 (some ⟨g, 0, none⟩) n c vs) (d : List (List UInt8)) (hd : d.length = n) (k : Nat) (os : Array Obj) :
    Own (grow (Go.Sort.putRow encStr (Sort.ahead w k) g 0 d.toArray) os) B t 1 (some ⟨g, 0, none⟩) n c (d.map encStr) := by
  refine ⟨by simp [hd], ?_⟩
  rcases h.2 with ⟨h0, h1⟩ | ⟨g', cap, cur, h0, hBg, hg, hnc, hm, hs, ht⟩
  · simp at h0
  · simp only [Value.slice.injEq, Option.some.injEq, Addr.mk.injEq] at h0
    obtain ⟨⟨rfl, -⟩, -, rfl⟩ := h0
    refine .inr ⟨g, c, _, rfl, hBg, (put_turn hg d.toArray k os).1, hnc, hm, by simpa [putCells] using hs, ?_⟩
    refine List.ext_getElem? fun i => ?_
    rw [List.getElem?_take, Array.getElem?_toList]
    by_cases hi : i < n
    · rw [if_pos (by omega)]
      unfold putCells
      rw [Array.getElem?_mapIdx, Array.getElem?_eq_getElem (show i < cur.size by omega), Option.map_some, if_pos ⟨by omega, by simp; omega⟩, List.getElem?_map, List.getElem?_eq_getElem (show i < d.length by omega)]
      simp [show i < d.length by omega]
    · rw [if_neg (by omega), List.getElem?_eq_none (by simp; omega)]
end Go.Proofs.Ytojmffpkaihmmaa
