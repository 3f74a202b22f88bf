/- No seats: Late, told, and the law. -/
import Derived.Test.YtepbeafbfbimlaaSeatWake
namespace Go.Proofs.Ytepbeafbfbimlaa
open Go.RowKit Go.Shelf Go.Maps
attribute [local go_sem] Oper.semAt_some
set_option linter.unusedVariables false
set_option linter.unusedSimpArgs false

/-- What a loop that goes over nothing keeps: some cells, all that lay there. -/
structure CellsIn (w : World) (l : List (Nat × Value)) (W : World) : Prop where
  at' : ∀ x ∈ l, W.cell? ⟨x.1, 0, none⟩ = some x.2 ∧ W.frozen? ⟨x.1, 0, none⟩ = false
  below : Below w.heap.size w W
theorem CellsIn.own (w : World) (l : List (Nat × Value)) {C : Nat} (hC : w.heap.size ≤ C) : OwnFrom C (fun (_ : List Seat) W => CellsIn w l W) :=
  fun s X Y row hs hg hr => by
    have hr' : ∀ r, row = some r → ∃ o : Obj, X.heap[r]? = some o ∧ o.isCells = false := fun r e => (hr r e).2
    exact ⟨fun x hx => ⟨cell_kept (hs.at' x hx).1 hg hr', (frozen_kept (hs.at' x hx).1 hg hr').trans (hs.at' x hx).2⟩, hs.below.grown hg (by have := hs.below.size; omega) (fun r e => by have := (hr r e).1; omega)⟩
set_option maxRecDepth 100000 in
set_option maxHeartbeats 8000000 in
theorem late_nil (w : World) (now : Int) :
    Calls Try.prog 9 #[.pointer none, .int .i64 now] w fun e w' => e = .returned (.slice none 0 0) ∧ Below w.heap.size w w' := by
  refine (callsIn_wide (n := 3)).1 ?_
  have h1 : 1 ≤ 3 := by omega
  refine callsIn_of_wp_marks Try.func9 rfl trivial ?_ rfl
  simp only [Try.ntmps9, List.size_toArray, List.length_cons, List.length_nil, Nat.reduceAdd, Nat.reduceSub, Array.replicate_succ, Array.replicate_zero, List.push_toArray, List.append_toArray, List.nil_append, List.cons_append]
  gi_wp2_with (refine ⟨trivial, ?_⟩; gi_at_call 14; refine (callsIn_wide.2 (all_any _ _)).mono ?_; rintro e w' ⟨rfl, rfl⟩)
  have b := (((Below.refl _ w).alloc (Nat.le_refl _) (.cells #[.int .i64 now] 2)).alloc (by simp) (.cells #[.slice none 0 0] 33)).alloc (by simp; omega) (.cells #[.pointer none] 25)
  refine wpIn_rangeFunc_ownA rfl h1 (gf := 16) (lb := #[.pointer (some ⟨w.heap.size + 1 + 1, 0, none⟩)]) rfl trivial (enters_of Try.func16 (by kernel_rfl) rfl)
    (all1_nil (Kp := fun _ _ => True) 2 (w.heap.size + 1 + 1) _ (by go_simp)) (fun p X Y row hp _ _ => hp) (fun _ _ => trivial) (fun W l o o' hlo ho hc _ => trivial) (Below.refl _ _) (fun _ => rfl)
    (fun pre W => CellsIn w [(w.heap.size + 1, .slice none 0 0)] W)
    (fun c pre W => False)
    (CellsIn.own w _ (by simp; omega))
    (fun c s X Y row hs hg hr => hs) ?start
    (fun y a W => False) (fun p X Y row hp hg hr => hp) ?assign ?body ?done ?stop
  case start =>
    refine ⟨fun x hx => ?_, b⟩
    rw [List.mem_singleton.1 hx]
    exact ⟨by go_simp, by go_simp⟩
  case assign =>
    intro l pre y W K hI hM hK
    exact hM.elim
  case body =>
    intro l pre y a1 W hA
    exact hA.elim
  case done =>
    rintro D ys W hD hlen hT hdf
    obtain ⟨ht, tb⟩ := hT
    obtain ⟨t2, tF⟩ := ht (w.heap.size + 1, .slice none 0 0) (by simp)
    (try dsimp only at t2 tF)
    clear ht
    have hD1 : w.heap.size + 1 + 1 + 1 ≤ D := by simpa using hD
    have hDl : D < W.heap.size := (Array.getElem?_eq_some_iff.1 hdf).1
    gi_wp2
    gi_loopw [23] (fun p wr => p = .int .i64 0 ∧ wr = W) (fun p _ => 0)
    case atStart => exact ⟨rfl, rfl⟩
    case round =>
      obtain ⟨rfl, rfl⟩ := hrel
      gi_wp2
      have hdf2 : (wr.setCell ⟨w.heap.size + 1, 0, none⟩ (.slice none 0 0)).heap[D]? = some (.deferred (some [])) := (heap_setCell_other wr ⟨w.heap.size + 1, 0, none⟩ D _ (by show D ≠ w.heap.size + 1; omega)).trans hdf
      have hc9 : ((wr.setCell ⟨w.heap.size + 1, 0, none⟩ (.slice none 0 0)).putObj D (.deferred none)).cell? ⟨w.heap.size + 1, 0, none⟩ = some (.slice none 0 0) := (World.cell?_of_block (a := ⟨w.heap.size + 1, 0, none⟩) (World.putObj_heap_other (by show w.heap.size + 1 ≠ D; omega))).trans (World.cell?_setCell_same' wr ⟨w.heap.size + 1, 0, none⟩ _ (by rw [t2]; rfl))
      refine ⟨by simp, .inl ⟨_, _, rfl, run_takeDeferred hdf2, ?_⟩⟩
      refine ⟨.slice none 0 0, ?_, rfl, ?_⟩
      · simp [results, Try.f9, go_sem, hc9]
      · exact (tb.setCell (by simp) _).grown (grownBy_putObj' _ D (.deferred none)) (by have := tb.size; simpa [World.setCell] using this) (fun k e => by cases e; omega)
  case stop =>
    rintro D c pre W hD - hx hK
    exact hx.elim
set_option maxRecDepth 100000 in
set_option maxHeartbeats 8000000 in
theorem told_nil (w : World) :
    Calls Try.prog 11 #[.pointer none, .slice none 0 0, .int .i64 0] w fun e w' => e = .returned (.bool true) ∧ Below w.heap.size w w' := by
  refine (callsIn_wide (n := 3)).1 ?_
  have h1 : 1 ≤ 3 := by omega
  refine callsIn_of_wp_marks Try.func11 rfl trivial ?_ rfl
  simp only [Try.ntmps11, List.size_toArray, List.length_cons, List.length_nil, Nat.reduceAdd, Nat.reduceSub, Array.replicate_succ, Array.replicate_zero, List.push_toArray, List.append_toArray, List.nil_append, List.cons_append]
  have heq : ∀ (fn : Fn) (first cap : Array Value) (w : World), (binOp .eql 44 (.func fn first cap) .nilFunc).run Try.prog w = .ok (.bool false) w := fun fn first cap w => by rfl
  gi_wp2_with (refine ⟨trivial, ?_⟩; gi_at_call 14; refine (callsIn_wide.2 (all_any _ _)).mono ?_; rintro e w' ⟨rfl, rfl⟩)
  have b := (((((Below.refl _ w).alloc (Nat.le_refl _) (.cells #[.slice none 0 0] 54)).alloc (by simp) (.cells #[.int .i64 0] 3)).alloc (by simp; omega) (.cells #[.bool false] 4)).alloc (by simp; omega) (.cells #[.int .i64 0] 3)).alloc (by simp; omega) (.cells #[.pointer none] 25)
  refine wpIn_rangeFunc_ownA rfl h1 (gf := 16) (lb := #[.pointer (some ⟨w.heap.size + 1 + 1 + 1 + 1, 0, none⟩)]) rfl trivial (enters_of Try.func16 (by kernel_rfl) rfl)
    (all1_nil (Kp := fun _ _ => True) 2 (w.heap.size + 1 + 1 + 1 + 1) _ (by go_simp)) (fun p X Y row hp _ _ => hp) (fun _ _ => trivial) (fun W l o o' hlo ho hc _ => trivial) (Below.refl _ _) (fun _ => rfl)
    (fun pre W => CellsIn w [(w.heap.size, .slice none 0 0), (w.heap.size + 1, .int .i64 0), (w.heap.size + 1 + 1, .bool false), (w.heap.size + 1 + 1 + 1, .int .i64 0)] W)
    (fun c pre W => False)
    (CellsIn.own w _ (by simp; omega))
    (fun c s X Y row hs hg hr => hs) ?start
    (fun y a W => False) (fun p X Y row hp hg hr => hp) ?assign ?body ?done ?stop
  case start =>
    refine ⟨fun x hx => ?_, b⟩
    simp only [List.mem_cons, List.not_mem_nil, or_false] at hx
    rcases hx with rfl | rfl | rfl | rfl
    all_goals exact ⟨by go_simp, by go_simp⟩
  case assign =>
    intro l pre y W K hI hM hK
    exact hM.elim
  case body =>
    intro l pre y a1 W hA
    exact hA.elim
  case done =>
    rintro D ys W hD hlen ⟨ht, hB⟩ hK
    obtain ⟨t1, -⟩ := ht (w.heap.size, .slice none 0 0) (by simp)
    obtain ⟨t2, -⟩ := ht (w.heap.size + 1, .int .i64 0) (by simp)
    obtain ⟨t3, t3F⟩ := ht (w.heap.size + 1 + 1, .bool false) (by simp)
    obtain ⟨t4, -⟩ := ht (w.heap.size + 1 + 1 + 1, .int .i64 0) (by simp)
    (try dsimp only at t1 t2 t3 t3F t4)
    clear ht
    gi_wp2
    refine ⟨by simp, .inl ⟨_, _, rfl, run_takeDeferred ((KeepsOthers.setCell _ _ _).same D _ hK rfl), ?_⟩⟩
    have hc := cell_kept (World.cell?_setCell_same' W ⟨w.heap.size + 1 + 1, 0, none⟩ (.bool true) (by rw [t3]; rfl)) (grownBy_putObj' _ D (.deferred none)) (fun r e => by cases e; exact ⟨_, (KeepsOthers.setCell _ _ _).same D _ hK rfl, rfl⟩)
    refine ⟨.bool true, ?_, rfl, ?_⟩
    · simp [results, Try.f11, go_sem, hc]
    · exact (hB.setCell (by simp; omega) _).grown (grownBy_putObj' _ D (.deferred none)) (by have := hB.size; simpa [World.setCell] using this) (fun k e => by cases e; simp at hD; omega)
  case stop =>
    rintro D c pre W hD - hx hK
    exact hx.elim
set_option maxHeartbeats 4000000 in
theorem seatsNil_any (w : World) (n : Int) (t : TokL) (now : Int) : Calls Try.prog 3 #[.int .i64 n, tokVal t, .int .i64 now] w fun e w' => e = .returned (.bool true) ∧ Below w.heap.size w w' := by
  rw [show tokVal t = .agg (tokCells t).toArray from rfl]
  go_enter Try.func3, Try.ntmps3
  go_upto_region 2 with (fail)
  obtain ⟨T, hT⟩ : ∃ x, x = w.heap.size := ⟨_, rfl⟩
  rw [← hT]
  refine wp_forget (fun W => Blk W T (tokCells t).toArray 24 ∧ Below w.heap.size w W) ⟨by rw [hT]; exact Blk.new _ _ _, by (try unfold Kept); repeat (first | assumption | exact Below.refl _ _ | exact below_undrew (Below.refl _ _) | exact Below.mono (by assumption) (by first | (simp; done) | (simp; omega) | omega) | refine below_setRow ?_ (by first | (simp; done) | (simp; omega) | omega) _ | refine Below.setCell ?_ (by first | (simp; done) | (simp; omega) | omega) _ | refine Below.alloc ?_ (by first | (simp; done) | (simp; omega) | omega) _ | refine below_drewN ?_ _ | refine Below.drew ?_ | refine below_undrew ?_ | refine below_step ?_ (by assumption))⟩ ?_
  rintro W1 ⟨bt, hb1⟩
  clear hT
  have cw := who_nil W1 n
  rw [show tokVal tok0 = .agg (tokCells tok0).toArray from rfl] at cw
  go_wp2_with fail
  refine cw.mono ?_
  clear cw
  rintro e W2 ⟨rfl, hb2⟩
  replace bt := bt.old hb2
  have hbw2 := below_step hb1 hb2
  go_upto_region 3 with (refine wpList_store_blk rfl 24 tokT (.tmp 8) _ rfl rfl rfl (Blk.new _ _ _) rfl rfl (by rfl) ?_)
  refine wp_forget (fun W => Below W2.heap.size W2 W) (below_setRow ((Below.refl _ _).alloc (Nat.le_refl _) _) (Nat.le_refl _) _) ?_
  rintro W3 hb3
  replace bt := bt.old hb3
  have hbw3 := below_step hbw2 hb3
  have ct := bt.rule
  unfold tokCells at ct
  go_wp2_with fail
  refine (where_nil _ _ _).mono ?_
  rintro e W4 ⟨rfl, rfl⟩
  go_wp2_with (refine wpList_load_blk rfl 24 tokT (.tmp 4) rfl rfl bt rfl ?_)
  refine (login_nil _ n t now).mono ?_
  rintro e W5 ⟨rfl, hb5⟩
  have hbw5 := below_step hbw3 hb5
  go_wp2_with fail
  refine (logout_nil _ n).mono ?_
  rintro e W6 ⟨rfl, hb6⟩
  have hbw6 := below_step hbw5 hb6
  go_wp2_with fail
  refine (late_nil _ now).mono ?_
  rintro e W7 ⟨rfl, hb7⟩
  have hbw7 := below_step hbw6 hb7
  go_wp2_with fail
  refine (len_nil _).mono ?_
  rintro e W8 ⟨rfl, rfl⟩
  go_wp2_with fail
  refine (told_nil _).mono ?_
  rintro e W9 ⟨rfl, hb9⟩
  have hbw9 := below_step hbw7 hb9
  go_wp2_with fail
  refine (wakes_any _).mono ?_
  rintro e W10 ⟨rfl, hb10⟩
  go_wp2_with fail
  go_ret
  exact ⟨rfl, below_step hbw9 hb10⟩
end Go.Proofs.Ytepbeafbfbimlaa
