/- slices.Sorted(maps.Keys(m)), laid from the shelf: a map's keys, rising. -/
import Derived.Test.YtepbeafbfbimlaaRows
import Derived.Test.YtepbeafbfbimlaaBase
import Derived.Shelf.SlIterI.Nil
import Derived.Shelf.SortM.Plain
import Derived.Shelf.SortM.SortNone
namespace Go.Proofs.Ytepbeafbfbimlaa
open Go.RowKit Go.Maps Go.Sort Go.Shelf
set_option maxRecDepth 20000

def keysL_ren : Go.Shelf.Ren := ⟨fun | 7 => 19 | 10 => 22 | n => n, fun | 0 => 0 | 3 => 24 | 4 => 4 | 23 => 48 | 26 => 3 | 27 => 61 | 28 => 62 | 33 => 65 | n => n, fun n => n⟩
theorem keysL : SlLaysZI.n7 Try.prog keysL_ren := {
  mixed := by kernel_rfl
  f7 := ⟨Try.f19.name, by kernel_rfl, by kernel_rfl⟩
  f10 := ⟨Try.f22.name, by kernel_rfl, by kernel_rfl⟩
  t0 := by kernel_rfl
  a0 := fun w => by kernel_rfl
  z0 := fun w => by kernel_rfl
  v0 := fun w => by kernel_rfl
  t4 := by kernel_rfl
  a4 := fun w => by kernel_rfl
  z4 := fun w => by kernel_rfl
  v4 := fun w => by kernel_rfl
  t23 := by kernel_rfl
  a23 := fun w => by kernel_rfl
  z23 := fun w => by kernel_rfl
  v23 := fun w => by kernel_rfl
  t26 := by kernel_rfl
  a26 := fun w => by kernel_rfl
  z26 := fun w => by kernel_rfl
  v26 := fun w => by kernel_rfl
  t27 := by kernel_rfl
  a27 := fun w => by kernel_rfl
  z27 := fun w => by kernel_rfl
  v27 := fun w => by kernel_rfl
  t28 := by kernel_rfl
  a28 := fun w => by kernel_rfl
  z28 := fun w => by kernel_rfl
  v28 := fun w => by kernel_rfl
  t33 := by kernel_rfl
  a33 := fun w => by kernel_rfl
  z33 := fun w => by kernel_rfl
  v33 := fun w => by kernel_rfl
}
def sortedL_ren : Go.Shelf.Ren := ⟨fun | 6 => 18 | 8 => 20 | 9 => 21 | 11 => 23 | n => n, fun | 0 => 0 | 24 => 33 | 26 => 3 | 28 => 62 | 33 => 65 | n => n, fun n => n⟩
theorem sortedL : SlLaysZI.n6 Try.prog sortedL_ren := {
  mixed := by kernel_rfl
  f6 := ⟨Try.f18.name, by kernel_rfl, by kernel_rfl⟩
  f8 := ⟨Try.f20.name, by kernel_rfl, by kernel_rfl⟩
  f11 := ⟨Try.f23.name, by kernel_rfl, by kernel_rfl⟩
  t0 := by kernel_rfl
  a0 := fun w => by kernel_rfl
  z0 := fun w => by kernel_rfl
  v0 := fun w => by kernel_rfl
  t24 := by kernel_rfl
  a24 := fun w => by kernel_rfl
  z24 := fun w => by kernel_rfl
  v24 := fun w => by kernel_rfl
  t26 := by kernel_rfl
  a26 := fun w => by kernel_rfl
  z26 := fun w => by kernel_rfl
  v26 := fun w => by kernel_rfl
  t28 := by kernel_rfl
  a28 := fun w => by kernel_rfl
  z28 := fun w => by kernel_rfl
  v28 := fun w => by kernel_rfl
  i26 := by kernel_rfl
}
def sortL_ren : Go.Shelf.Ren := ⟨fun | 5 => 21 | 7 => 24 | 8 => 25 | 10 => 26 | 11 => 27 | 12 => 28 | 13 => 29 | 14 => 30 | 15 => 31 | 16 => 32 | 17 => 33 | 18 => 34 | 19 => 35 | 20 => 36 | 30 => 37 | 31 => 38 | 32 => 39 | 33 => 40 | 34 => 41 | 35 => 42 | 40 => 43 | n => n, fun | 0 => 0 | 3 => 3 | 4 => 4 | 5 => 5 | 9 => 9 | 22 => 33 | 23 => 33 | 25 => 3 | 32 => 69 | 35 => 71 | 36 => 72 | 41 => 29 | 44 => 79 | 46 => 81 | 53 => 82 | 57 => 86 | 63 => 88 | 64 => 89 | n => n, fun n => n⟩
theorem sortL : SlLaysM.n5 Try.prog sortL_ren := {
  mixed := by kernel_rfl
  f5 := ⟨Try.f21.name, by kernel_rfl, by kernel_rfl⟩
  f7 := ⟨Try.f24.name, by kernel_rfl, by kernel_rfl⟩
  f8 := by kernel_rfl
  f10 := ⟨Try.f26.name, by kernel_rfl, by kernel_rfl⟩
  f11 := ⟨Try.f27.name, by kernel_rfl, by kernel_rfl⟩
  f12 := ⟨Try.f28.name, by kernel_rfl, by kernel_rfl⟩
  f13 := ⟨Try.f29.name, by kernel_rfl, by kernel_rfl⟩
  f14 := ⟨Try.f30.name, by kernel_rfl, by kernel_rfl⟩
  f15 := ⟨Try.f31.name, by kernel_rfl, by kernel_rfl⟩
  f16 := ⟨Try.f32.name, by kernel_rfl, by kernel_rfl⟩
  f17 := ⟨Try.f33.name, by kernel_rfl, by kernel_rfl⟩
  f18 := ⟨Try.f34.name, by kernel_rfl, by kernel_rfl⟩
  f19 := by kernel_rfl
  f20 := by kernel_rfl
  f30 := ⟨Try.f37.name, by kernel_rfl, by kernel_rfl⟩
  f31 := by kernel_rfl
  f32 := by kernel_rfl
  f33 := ⟨Try.f40.name, by kernel_rfl, by kernel_rfl⟩
  f34 := ⟨Try.f41.name, by kernel_rfl, by kernel_rfl⟩
  f35 := ⟨Try.f42.name, by kernel_rfl, by kernel_rfl⟩
  f40 := ⟨Try.f43.name, by kernel_rfl, by kernel_rfl⟩
  t0 := by kernel_rfl
  a0 := fun w => by kernel_rfl
  z0 := fun w => by kernel_rfl
  v0 := fun w => by kernel_rfl
  t3 := by kernel_rfl
  a3 := fun w => by kernel_rfl
  z3 := fun w => by kernel_rfl
  v3 := fun w => by kernel_rfl
  t4 := by kernel_rfl
  a4 := fun w => by kernel_rfl
  z4 := fun w => by kernel_rfl
  v4 := fun w => by kernel_rfl
  t5 := by kernel_rfl
  a5 := fun w => by kernel_rfl
  z5 := fun w => by kernel_rfl
  v5 := fun w => by kernel_rfl
  t9 := by kernel_rfl
  a9 := fun w => by kernel_rfl
  z9 := fun w => by kernel_rfl
  v9 := fun w => by kernel_rfl
  t22 := by kernel_rfl
  a22 := fun w => by kernel_rfl
  z22 := fun w => by kernel_rfl
  v22 := fun w => by kernel_rfl
  t23 := by kernel_rfl
  a23 := fun w => by kernel_rfl
  z23 := fun w => by kernel_rfl
  v23 := fun w => by kernel_rfl
  t25 := by kernel_rfl
  a25 := fun w => by kernel_rfl
  z25 := fun w => by kernel_rfl
  v25 := fun w => by kernel_rfl
  t32 := by kernel_rfl
  a32 := fun w => by kernel_rfl
  z32 := fun w => by kernel_rfl
  v32 := fun w => by kernel_rfl
  t35 := by kernel_rfl
  a35 := fun w => by kernel_rfl
  z35 := fun w => by kernel_rfl
  v35 := fun w => by kernel_rfl
  t36 := by kernel_rfl
  a36 := fun w => by kernel_rfl
  z36 := fun w => by kernel_rfl
  v36 := fun w => by kernel_rfl
  t41 := by kernel_rfl
  a41 := fun w => by kernel_rfl
  z41 := fun w => by kernel_rfl
  v41 := fun w => by kernel_rfl
  t44 := by kernel_rfl
  a44 := fun w => by kernel_rfl
  z44 := fun w => by kernel_rfl
  v44 := fun w => by kernel_rfl
  t46 := by kernel_rfl
  a46 := fun w => by kernel_rfl
  z46 := fun w => by kernel_rfl
  v46 := fun w => by kernel_rfl
  t53 := by kernel_rfl
  a53 := fun w => by kernel_rfl
  z53 := fun w => by kernel_rfl
  v53 := fun w => by kernel_rfl
  t57 := by kernel_rfl
  a57 := fun w => by kernel_rfl
  z57 := fun w => by kernel_rfl
  v57 := fun w => by kernel_rfl
  t63 := by kernel_rfl
  a63 := fun w => by kernel_rfl
  z63 := fun w => by kernel_rfl
  v63 := fun w => by kernel_rfl
  t64 := by kernel_rfl
  a64 := fun w => by kernel_rfl
  z64 := fun w => by kernel_rfl
  v64 := fun w => by kernel_rfl
}
theorem sortsL (m : Nat) : AnyZI.SortsIn Try.prog sortedL_ren Fence.wide m :=
  ⟨fun blk off cap ss W hH hblk hsz => callsIn_wide.2 (AnyM.slices_Sort_int sortL blk off cap ss W hH hblk hsz),
   fun p cap W => callsIn_wide.2 (AnyM.slices_Sort_int_none sortL p cap W)⟩
set_option maxHeartbeats 1000000 in
theorem rising_any {H : Type} (b nn : Nat) (D0 : DataW H) (R : Value → Option (DataW H × List MemPlace)) (w : World) (hown : w.ownsMap Try.prog 3 R b nn D0) (hmax : Maps.size D0 ≤ maxLen) (hbytes : Maps.size D0 * 8 ≤ 140737488355328) :
    Calls Try.prog 17 #[.map (some b)] w fun e w' => ∃ (v : Value) (ss : List Int), e = .returned v ∧ ss.Perm (intKeys D0) ∧
      w'.ownsRow w.heap.size 3 1 v ss.length ((ss.mergeSort (fun x y => decide (x ≤ y))).map encZ) ∧ (v = .slice none 0 0 ↔ ss = []) ∧ Below w.heap.size w w' := by
  refine (callsIn_wide (n := 6)).1 ?_
  have hbl := hown.lt
  have hseq : SeqGives Fence.wide 2 Try.prog 22 #[.pointer (some ⟨w.heap.size, 0, none⟩)] encZ (fun ss => ss.Perm (intKeys D0)) (Maps.size D0) (w.alloc (.cells #[.map (some b)] 48)) :=
    AnyZI.keys_gives (ρ := keysL_ren) { keysL with } Fence.wide _ trivial rfl (by omega) w.heap.size b nn D0 _ (by simp) (by simp) (by
      obtain ⟨es, clock, hb, Ft, hs, hD⟩ := hown
      exact ⟨es, clock, (Below.heap_alloc _ _ b hbl).trans hb, Ft, hs, hD⟩)
  have cK : ∀ mb W, CallsIn Fence.wide 5 Try.prog 19 #[.map mb] W fun e w' => e = .returned (.func (.func 22) #[] #[.pointer (some ⟨W.heap.size, 0, none⟩)]) ∧ w' = W.alloc (.cells #[.map mb] 48) := fun mb W => AnyZI.keys_in keysL Fence.wide 5 trivial rfl mb W
  have cS := AnyZI.sorted_in sortedL Fence.wide 5 trivial trivial trivial trivial rfl (by omega) (sortsL _) (enters_of Try.func21 (by kernel_rfl) rfl) 22 #[.pointer (some ⟨w.heap.size, 0, none⟩)] trivial (enters_of Try.func22 (by kernel_rfl) rfl) _ _ hmax hbytes _ hseq
  change CallsIn _ _ Try.prog 18 _ _ _ at cS
  have hfK : Fence.wide.fn 19 := trivial
  have hfS : Fence.wide.fn 18 := trivial
  refine callsIn_of_wp Try.func17 rfl trivial ?_ rfl
  simp only [Try.ntmps17, List.size_toArray, List.length_cons, List.length_nil, Nat.reduceAdd, Nat.reduceSub, Array.replicate_succ, Array.replicate_zero, List.push_toArray, List.append_toArray, List.nil_append, List.cons_append]
  gi_wp2_with (first
    | (gi_at_call 19; refine (cK _ _).mono ?_; rintro e w' ⟨rfl, rfl⟩)
    | (gi_at_call 18; refine cS.mono ?_; rintro e w' ⟨v, ss, rfl, hS, hrow, hnil, hb⟩))
  go_ret
  exact ⟨v, ss, rfl, hS, ownsRow_base_a hrow (by simp), hnil, ((Below.refl _ w).alloc (Nat.le_refl _) _).trans (hb.mono (by simp))⟩
end Go.Proofs.Ytepbeafbfbimlaa
