/- The walks through package disk: its calls. -/
import Derived.Test.YtnojeiklgjhkgaaDiskCrash
namespace Go.Proofs.Ytnojeiklgjhkgaa
open Go.RowKit Go.Maps
set_option linter.unusedVariables false
set_option linter.unusedSimpArgs false

theorem KeepNot.grownM {T : TypeId} {w w' : World} {B n c : Nat} {a : Option Addr} {vs : List Value} (h : Mid w B T a n c vs) (hg : w.grownBy w' (rowB a c)) : KeepNot T w w' :=
  ⟨hg.size, fun b cs t fr hb hne => hg.block b (Array.getElem?_eq_some_iff.1 hb).1 (fun e => by
    obtain ⟨_, _, cur, hcur⟩ := h.lt e.symm
    rw [hcur] at hb
    cases hb
    exact hne rfl)⟩
/-- The plan of the disk itself. -/
theorem DiskAt.planRow {w : World} {B : Nat} {r : DiskR} (h : DiskAt w B r) : RowAt w r.pa (r.plan.flatMap pieceV) ∧ (∀ ad, r.pa = some ad → ∀ f ∈ r.fs, f.blk ≠ ad.block) ∧ (∀ ad, r.pa = some ad → r.plan ≠ [] → ad.block < w.heap.size) :=
  ⟨h.plan.row, fun ad ha f hf => Ne.symm (h.ne_plan ha (h.files f hf).blk (by decide)), fun ad ha _ => (h.plan.block_lt ha).2.1⟩
set_option maxHeartbeats 1000000 in
theorem goes_any (w : World) (B : Nat) (r : DiskR) (h : DiskAt w B r) (hB : B ≤ w.heap.size) (hdn : r.down = false) :
    Calls Try.prog 54 #[.pointer (some ⟨r.d, 0, none⟩)] w fun e w' => e = .returned (.int .i64 (goesP r.p).2) ∧ ∃ r', r'.p = (goesP r.p).1 ∧ DStep B w r w' r' ∧ ((goesP r.p).2 = 0 → r'.fs = r.fs) := by
  have hb := h.blk.rule
  have hfr := h.blk.free
  have hpl := h.plan.le_max
  unfold headV at hb
  have hlf := h.ok.left
  cases har : r.armed with
  | false =>
    rw [har] at hb
    have HG := Lib.hid (show goesP r.p = (r.p, 0) from by simp [goesP, DiskR.p, har])
    go_enter Try.func54, Try.ntmps54
    go_wp2_with fail
    go_ret
    exact ⟨by rw [HG.out]; rfl, r, by rw [HG.out], DStep.refl h, fun _ => rfl⟩
  | true =>
    rw [har] at hb
    by_cases hl : 0 < r.left
    · have HG := Lib.hid (show goesP r.p = ({ r.p with left := r.left - 1 }, 0) from by simp [goesP, DiskR.p, har, hl])
      have hlf' : 0 ≤ r.left ∧ r.left ≤ 9223372036854775807 := hlf
      have hw1 : IntKind.i64.wrap (r.left - 1) = r.left - 1 := by rw [IntKind.wrap_i64]; omega
      go_enter Try.func54, Try.ntmps54
      go_wp2_with fail
      go_ret
      have hblk : Blk (w.setCell ⟨r.d, 3, none⟩ (.int .i64 (r.left - 1))) r.d (headV { r with left := r.left - 1 }) 81 := by
        have := h.blk.set 3 (.int .i64 (r.left - 1))
        exact this
      refine ⟨by rw [HG.out]; rfl, { r with left := r.left - 1 }, by rw [HG.out]; rfl, ⟨?_, ?_, fun x hx => .inl (foot_head rfl rfl rfl rfl hx), rfl⟩, fun _ => rfl⟩
      · exact (Turn.refl _ _).setCell (.inl (.inl rfl)) _
      · exact h.head _ rfl rfl rfl rfl rfl rfl (by show 0 ≤ r.left - 1 ∧ r.left - 1 ≤ _; omega) hblk fun x hx => heap_setCell_other _ _ _ _ hx
    · have HG := Lib.hid (show goesP r.p = (crashP r.p r.p.plan, 5) from by simp [goesP, DiskR.p, har, hl])
      obtain ⟨hp1, hp2, hp3⟩ := h.planRow
      go_enter Try.func54, Try.ntmps54
      go_wp2_with fail
      refine (crash_any w B r r.pa _ _ r.plan h hB hp1 rfl hpl (fun ad ha _ => hp2 ad ha) hp3).mono ?_
      rintro e w1 ⟨r', rfl, hr', hs⟩
      go_wp2_with fail
      go_ret
      have hc : crashAll r.p r.plan = (crashP r.p r.p.plan, 0) := by simp [crashAll, DiskR.p, hdn]
      exact ⟨by rw [HG.out]; rfl, r', by rw [HG.out, hr', hc], hs, fun e => by rw [HG.out] at e; cases e⟩
theorem open_any (w : World) (B : Nat) (r : DiskR) (h : DiskAt w B r) :
    Calls Try.prog 23 #[.pointer (some ⟨r.d, 0, none⟩)] w fun e w' => e = .returned (.int .i64 (openP r.p).2) ∧ ∃ r', r'.p = (openP r.p).1 ∧ DStep B w r w' r' := by
  have hb := h.blk.rule
  have hfr := h.blk.free
  unfold headV at hb
  cases hdn : r.down with
  | false =>
    rw [hdn] at hb
    have HG := Lib.hid (show openP r.p = (r.p, 2) from by simp [openP, DiskR.p, hdn])
    go_enter Try.func23, Try.ntmps23
    go_wp2_with fail
    go_ret
    exact ⟨by rw [HG.out]; rfl, r, by rw [HG.out], DStep.refl h⟩
  | true =>
    rw [hdn] at hb
    have HG := Lib.hid (show openP r.p = ({ r.p with down := false }, 0) from by simp [openP, DiskR.p, hdn])
    go_enter Try.func23, Try.ntmps23
    go_wp2_with fail
    go_ret
    have hblk : Blk (w.setCell ⟨r.d, 1, none⟩ (.bool false)) r.d (headV { r with down := false }) 81 := h.blk.set 1 (.bool false)
    refine ⟨by rw [HG.out]; rfl, { r with down := false }, by rw [HG.out]; rfl, ⟨?_, ?_, fun x hx => .inl (foot_head rfl rfl rfl rfl hx), rfl⟩⟩
    · exact (Turn.refl _ _).setCell (.inl (.inl rfl)) _
    · exact h.head _ rfl rfl rfl rfl rfl rfl h.ok.left hblk fun x hx => heap_setCell_other _ _ _ _ hx
def newR (w : World) : DiskR := ⟨w.heap.size + 1, w.heap.size, [], false, false, 0, none, 0, []⟩
theorem new_any (w : World) :
    Calls Try.prog 20 #[] w fun e w' => e = .returned (.pointer (some ⟨w.heap.size + 1, 0, none⟩)) ∧ DiskAt w' w.heap.size (newR w) ∧ Below w.heap.size w w' ∧ w'.heap.size = w.heap.size + 2 := by
  have hmm := @run_makeMap Try.prog
  go_enter Try.func20, Try.ntmps20
  go_wp2_with fail
  go_ret
  have hB2 : Blk ((w.alloc (.map #[] 0)).alloc (.cells #[.map (some w.heap.size), .bool false, .bool false, .int .i64 0, .slice none 0 0] 81)) (w.heap.size + 1) (headV (newR w)) 81 := Blk.new2' _ _ _ _
  refine ⟨rfl, ⟨by show w.heap.size ≤ w.heap.size + 1; omega, Nat.le_refl _, hB2, ?_, fun f hf => by simp [newR] at hf, List.Pairwise.nil, Own.nil _ _ _ _, ?_⟩, ((Below.refl _ _).alloc (Nat.le_refl _) _).alloc (by simp) _, by simp⟩
  · exact (GMap.made w Try.prog 9 Rp).keep (Below.heap_alloc _ _ _ (by simp [newR]))
  · exact ⟨List.nodup_nil, fun f hf => by simp [DiskR.p, newR] at hf, fun f hf => by simp [DiskR.p, newR] at hf, fun f hf => by simp [DiskR.p, newR] at hf, by simp [DiskR.p, newR], by simp [DiskR.p, newR]⟩
end Go.Proofs.Ytnojeiklgjhkgaa
