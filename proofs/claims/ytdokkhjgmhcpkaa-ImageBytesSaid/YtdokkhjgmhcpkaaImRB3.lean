/- The document's bytes of a state, of an action. -/
import Derived.Test.YtdokkhjgmhcpkaaImRB2
namespace Go.Proofs.Ytdokkhjgmhcpkaa
open Go.RowKit
set_option linter.unusedVariables false
set_option linter.unusedSimpArgs false
set_option maxRecDepth 20000

theorem sideT8 : AggT Try.prog 26 8 := ⟨⟨_, Try.underlying26, rfl⟩, by kernel_rfl⟩
theorem wf8_wrap {n : Int} (h : wf8 n) : IntKind.i64.wrap n = n := by
  simp [wf8, Lit.wf, IntKind.min, IntKind.max, IntKind.signed, IntKind.bits] at h
  exact IntWalk.i64_in _ (by omega)
theorem sideI_len (p : SideP) : (sideI p).length = 64 + 8 * p.deck.length + 8 * p.hand.length + 8 * p.grave.length + 25 * p.units.length + 8 * p.told.length := by
  simp only [sideI, List.length_append, be8_length, encL_len, encU_len]
  omega
set_option maxHeartbeats 4000000 in
theorem stbytes_any (w : World) (p : StateP) (h : StateH) (ha : StateIn w w.heap.size p h) (hz : (stateI p).length + 5000 < 100000000) :
    Calls Try.prog 18 #[stateVal p h] w (OutB w.heap.size w (stateI p)) := by
  have hlen : (stateI p).length = 49 + 8 * p.attack.length + (sideI p.x).length + (sideI p.y).length := by
    simp only [stateI, List.length_append, be8_length, tr1_len, encL_len]
    omega
  rw [hlen] at hz
  clear hlen
  have ha00 := ha
  obtain ⟨B, hBe⟩ : ∃ B, B = w.heap.size := ⟨_, rfl⟩
  rw [← hBe] at ha ⊢
  have hB : B ≤ w.heap.size := Nat.le_of_eq hBe
  have p1 := wf8_wrap ha.phase
  have p2 := wf8_wrap ha.result
  clear ha00
  obtain ⟨turn, mover, phase, struck, result, attack, next, x, y⟩ := p
  dsimp only at hz p1 p2
  have d1 : attack.length = h.attack.n := ha.attack.2.1
  rw [d1] at hz
  have D1 := Lib.hid d1
  clear d1
  rw [stateVal_cells]
  go_enter Try.func18, Try.ntmps18
  go_upto_region 1 with (fail)
  obtain ⟨X, hX⟩ : ∃ X, X = w.heap.size := ⟨_, rfl⟩
  rw [← hX]
  refine wp_forget (fun W => Blk W X (stateCells ⟨turn, mover, phase, struck, result, attack, next, x, y⟩ h).toArray 29 ∧ Below w.heap.size w W) ⟨by rw [hX]; exact Blk.new w (stateCells ⟨turn, mover, phase, struck, result, attack, next, x, y⟩ h).toArray _, by (try unfold Kept); repeat (first | assumption | exact Below.refl _ _ | exact below_undrew (Below.refl _ _) | exact Below.mono (by assumption) (by first | (simp; done) | (simp; omega) | omega) | refine below_setRow ?_ (by first | (simp; done) | (simp; omega) | omega) _ | refine Below.setCell ?_ (by first | (simp; done) | (simp; omega) | omega) _ | refine Below.alloc ?_ (by first | (simp; done) | (simp; omega) | omega) _ | refine below_drewN ?_ _ | refine Below.drew ?_ | refine below_undrew ?_ | refine below_step ?_ (by assumption))⟩ ?_
  rintro w0 ⟨hx0, hb0⟩
  clear hX
  have hB0 := Nat.le_trans hB hb0.size
  have R0 : Rx B 5 w w0 := Rx.old hb0 hB
  have ha0 := ha.low R0.1
  clear ha hBe
  obtain ⟨l0, hl0⟩ : ∃ l : List UInt8, l = [] := ⟨_, rfl⟩
  have o0 : Own w0 B 5 1 none l0.length 0 (l0.map bv) := by rw [hl0]; exact Own.nil _ _ _ _
  have z0 : l0.length ≤ 0 := by rw [hl0]; exact Nat.le_refl _
  have x0 : ∀ W, Rx B 5 w0.drew W → W.cell? ⟨X, 0, none⟩ = some (.int .i64 turn) := fun W hW => (hW.blk hx0.drew (by decide)).rule 0
  have x1 : ∀ W, Rx B 5 w0.drew W → W.cell? ⟨X, 1, none⟩ = some (.int .i64 mover) := fun W hW => (hW.blk hx0.drew (by decide)).rule 1
  have x2 : ∀ W, Rx B 5 w0.drew W → W.cell? ⟨X, 2, none⟩ = some (.int .i8 phase) := fun W hW => (hW.blk hx0.drew (by decide)).rule 2
  have HL0 := Lib.hid hl0
  have c1 := rnum_any w0.drew B none l0.length 0 l0 turn o0 rfl hB0 (by omega)
  have hln : l0.length = 0 := by rw [hl0]; rfl
  rw [hln] at c1
  clear hl0 hln
  go_wp2_with fail
  refine wp_region_treeX B 5 (.step 0 (.step 1 (.step 2 (.step 4 (.step 5 (.step 7 (.step 8 (.step 9 (.step 3 (.step 6 (.step 10 (.step 11 .done)))))))))))) (by kernel_rfl) (by kernel_rfl) (fun c a d v w h => by cases d <;> exact h) ?_
  repeat (first | (refine tree_skip rfl (by rfl) ?_; simp only [Act.put, List.setIfInBounds_toArray, List.set]) | (refine tree_quiet (v := ?_) rfl rfl (by rfl) ?_ ?_; rotate_left; (intro W hW; go_simp); (try with_reducible rfl); simp only [Act.put, List.setIfInBounds_toArray, List.set]))
  refine tree_loud rfl rfl (by rfl) (fun K hK => ?_)
  go_wp2_with fail
  refine c1.mono ?_
  clear c1
  intro e1 w1 g1
  obtain ⟨l1, a1, c1, rfl, o1, r1, H1, z1⟩ := g1.get (be8_length _)
  have hB1 := Nat.le_trans hB0 r1.1.size
  go_wp2_with fail
  refine hK _ _ r1 ?_
  clear hK K
  replace r1 := Rx.undrew r1
  have R1 := Rx.trans _ _ _ R0 r1
  refine tree_loud rfl rfl (by rfl) (fun K hK => ?_)
  go_wp2_with fail
  have c2 := rnum_any w1 B a1 l1.length c1 l1 mover o1 rfl hB1 (by omega)
  refine c2.mono ?_
  clear c2
  intro e2 w2 g2
  obtain ⟨l2, a2, c2, rfl, o2, r2, H2, z2⟩ := g2.get (be8_length _)
  have hB2 := Nat.le_trans hB1 r2.1.size
  go_wp2_with fail
  refine hK _ _ r2 ?_
  clear hK K
  have R2 := Rx.trans _ _ _ R1 r2
  refine tree_loud rfl rfl (by rfl) (fun K hK => ?_)
  go_wp2_with fail
  have c3 := rnum_any w2 B a2 l2.length c2 l2 phase o2 rfl hB2 (by omega)
  refine c3.mono ?_
  clear c3
  intro e3 w3 g3
  obtain ⟨l3, a3, c3, rfl, o3, r3, H3, z3⟩ := g3.get (be8_length _)
  have hB3 := Nat.le_trans hB2 r3.1.size
  go_wp2_with fail
  refine hK _ _ r3 ?_
  clear hK K
  have R3 := Rx.trans _ _ _ R2 r3
  clear x0 x1 x2
  repeat (first | (refine tree_skip rfl (by rfl) ?_; simp only [Act.put, List.setIfInBounds_toArray, List.set]) | (refine tree_quiet (v := ?_) rfl rfl (by rfl) ?_ ?_; rotate_left; (intro W hW; go_simp); (try with_reducible rfl); simp only [Act.put, List.setIfInBounds_toArray, List.set]))
  refine tree_done ?_
  have hx3 := (Rx.trans _ _ _ r1 (Rx.trans _ _ _ r2 r3)).blk hx0.drew (by decide)
  have ha3 := ha0.low (Rx.trans _ _ _ r1 (Rx.trans _ _ _ r2 r3)).1
  have E3 := Lib.hid (show l3 = be8 turn ++ be8 mover ++ be8 phase by rw [H3.out, H2.out, H1.out, HL0.out]; simp)
  clear H1 H2 H3 hx0 ha0
  have x3 : ∀ W, Rx B 5 w3.drew W → W.cell? ⟨X, 3, none⟩ = some (.bool struck) := fun W hW => (hW.blk hx3.drew (by decide)).rule 3
  have x4 : ∀ W, Rx B 5 w3.drew W → W.cell? ⟨X, 4, none⟩ = some (.int .i8 result) := fun W hW => (hW.blk hx3.drew (by decide)).rule 4
  go_wp2_with fail
  refine wp_region_treeX B 5 (.step 0 (.step 1 (.step 2 (.step 4 (.step 5 (.step 6 (.step 3 (.step 7 (.step 8 .done))))))))) (by kernel_rfl) (by kernel_rfl) (fun c a d v w h => by cases d <;> exact h) ?_
  repeat (first | (refine tree_skip rfl (by rfl) ?_; simp only [Act.put, List.setIfInBounds_toArray, List.set]) | (refine tree_quiet (v := ?_) rfl rfl (by rfl) ?_ ?_; rotate_left; (intro W hW; go_simp); (try with_reducible rfl); simp only [Act.put, List.setIfInBounds_toArray, List.set]))
  refine tree_loud rfl rfl (by rfl) (fun K hK => ?_)
  go_wp2_with fail
  have c4 := rtruth_any w3.drew B a3 l3.length c3 l3 struck o3 rfl hB3 (by omega)
  refine c4.mono ?_
  clear c4
  intro e4 w4 g4
  obtain ⟨l4, a4, c4, rfl, o4, r4, H4, z4⟩ := g4.get (tr1_len _)
  have hB4 := Nat.le_trans hB3 r4.1.size
  go_wp2_with fail
  refine hK _ _ r4 ?_
  clear hK K
  replace r4 := Rx.undrew r4
  have R4 := Rx.trans _ _ _ R3 r4
  refine tree_loud rfl rfl (by rfl) (fun K hK => ?_)
  go_wp2_with fail
  have c5 := rnum_any w4 B a4 l4.length c4 l4 result o4 rfl hB4 (by omega)
  refine c5.mono ?_
  clear c5
  intro e5 w5 g5
  obtain ⟨l5, a5, c5, rfl, o5, r5, H5, z5⟩ := g5.get (be8_length _)
  have hB5 := Nat.le_trans hB4 r5.1.size
  go_wp2_with fail
  refine hK _ _ r5 ?_
  clear hK K
  have R5 := Rx.trans _ _ _ R4 r5
  clear x3 x4
  repeat (first | (refine tree_skip rfl (by rfl) ?_; simp only [Act.put, List.setIfInBounds_toArray, List.set]) | (refine tree_quiet (v := ?_) rfl rfl (by rfl) ?_ ?_; rotate_left; (intro W hW; go_simp); (try with_reducible rfl); simp only [Act.put, List.setIfInBounds_toArray, List.set]))
  refine tree_done ?_
  have hx5 := (Rx.trans _ _ _ r4 r5).blk hx3.drew (by decide)
  have ha5 := ha3.low (Rx.trans _ _ _ r4 r5).1
  have E5 := Lib.hid (show l5 = be8 turn ++ be8 mover ++ be8 phase ++ tr1 struck ++ be8 result by rw [H5.out, H4.out, E3.out])
  clear H4 H5 E3 hx3 ha3
  have x5 : ∀ W, Rx B 5 w5.drew W → W.cell? ⟨X, 5, none⟩ = some (.slice h.attack.a h.attack.n h.attack.c) := fun W hW => (hW.blk hx5.drew (by decide)).rule 5
  have x6 : ∀ W, Rx B 5 w5.drew W → W.cell? ⟨X, 6, none⟩ = some (.int .i64 next) := fun W hW => (hW.blk hx5.drew (by decide)).rule 6
  go_wp2_with fail
  refine wp_region_treeX B 5 (.step 0 (.step 1 (.step 2 (.step 4 (.step 5 (.step 3 (.step 6 (.step 7 .done)))))))) (by kernel_rfl) (by kernel_rfl) (fun c a d v w h => by cases d <;> exact h) ?_
  repeat (first | (refine tree_skip rfl (by rfl) ?_; simp only [Act.put, List.setIfInBounds_toArray, List.set]) | (refine tree_quiet (v := ?_) rfl rfl (by rfl) ?_ ?_; rotate_left; (intro W hW; go_simp); (try with_reducible rfl); simp only [Act.put, List.setIfInBounds_toArray, List.set]))
  refine tree_loud rfl rfl (by rfl) (fun K hK => ?_)
  go_wp2_with fail
  have c6 := rnums_any w5.drew B a5 l5.length c5 l5 h.attack attack o5 rfl hB5 ha5.attack ha5.attackB (by omega)
  refine c6.mono ?_
  clear c6
  intro e6 w6 g6
  obtain ⟨l6, a6, c6, rfl, o6, r6, H6, z6⟩ := g6.get (encL_len _)
  have hB6 := Nat.le_trans hB5 r6.1.size
  go_wp2_with fail
  refine hK _ _ r6 ?_
  clear hK K
  replace r6 := Rx.undrew r6
  have R6 := Rx.trans _ _ _ R5 r6
  rw [D1.out] at z6
  refine tree_loud rfl rfl (by rfl) (fun K hK => ?_)
  go_wp2_with fail
  have c7 := rnum_any w6 B a6 l6.length c6 l6 next o6 rfl hB6 (by omega)
  refine c7.mono ?_
  clear c7
  intro e7 w7 g7
  obtain ⟨l7, a7, c7, rfl, o7, r7, H7, z7⟩ := g7.get (be8_length _)
  have hB7 := Nat.le_trans hB6 r7.1.size
  go_wp2_with fail
  refine hK _ _ r7 ?_
  clear hK K
  have R7 := Rx.trans _ _ _ R6 r7
  clear x5 x6
  repeat (first | (refine tree_skip rfl (by rfl) ?_; simp only [Act.put, List.setIfInBounds_toArray, List.set]) | (refine tree_quiet (v := ?_) rfl rfl (by rfl) ?_ ?_; rotate_left; (intro W hW; go_simp); (try with_reducible rfl); simp only [Act.put, List.setIfInBounds_toArray, List.set]))
  refine tree_done ?_
  have hx7 := (Rx.trans _ _ _ r6 r7).blk hx5.drew (by decide)
  have ha7 := ha5.low (Rx.trans _ _ _ r6 r7).1
  have E7 := Lib.hid (show l7 = be8 turn ++ be8 mover ++ be8 phase ++ tr1 struck ++ be8 result ++ encL attack ++ be8 next by rw [H7.out, H6.out, E5.out])
  clear H6 H7 E5 hx5 ha5
  go_wp2_with fail
  have f0 : ∀ W, Rx B 5 w7.drew W → ∀ j (hj : j < (sideCells x h.x).length), W.cell? ⟨X, 7 + j, none⟩ = some (sideCells x h.x)[j] := fun W hW j hj => by
    have hj8 : j < 8 := hj
    have e := (hW.blk hx7.drew (by decide)).rule (7 + j)
    rw [e]
    match j, hj8 with
    | 0, _ => rfl
    | 1, _ => rfl
    | 2, _ => rfl
    | 3, _ => rfl
    | 4, _ => rfl
    | 5, _ => rfl
    | 6, _ => rfl
    | 7, _ => rfl
  have f1 : ∀ W, Rx B 5 w7.drew W → ∀ j (hj : j < (sideCells y h.y).length), W.cell? ⟨X, 15 + j, none⟩ = some (sideCells y h.y)[j] := fun W hW j hj => by
    have hj8 : j < 8 := hj
    have e := (hW.blk hx7.drew (by decide)).rule (15 + j)
    rw [e]
    match j, hj8 with
    | 0, _ => rfl
    | 1, _ => rfl
    | 2, _ => rfl
    | 3, _ => rfl
    | 4, _ => rfl
    | 5, _ => rfl
    | 6, _ => rfl
    | 7, _ => rfl
  have F0 := Lib.hid f0
  have F1 := Lib.hid f1
  clear f0 f1
  refine wp_region_treeX B 5 (.step 0 (.step 1 (.step 2 (.step 3 (.step 5 (.step 6 (.step 7 (.step 4 (.step 8 (.step 9 .done)))))))))) (by kernel_rfl) (by kernel_rfl) (fun c a d v w h => by cases d <;> exact h) ?_
  iterate 3 (refine tree_quiet (v := ?_) rfl rfl (by rfl) ?_ ?_; rotate_left; (intro W hW; go_simp); (try with_reducible rfl); simp only [Act.put, List.setIfInBounds_toArray, List.set])
  refine tree_quiet (v := sideVal x h.x) rfl rfl (by rfl) (fun W hW => exec_load_as 26 sideT8 _ rfl rfl (cs := sideCells x h.x) rfl (F0.out W hW) rfl) ?_
  simp only [Act.put, List.setIfInBounds_toArray, List.set]
  iterate 2 (refine tree_quiet (v := ?_) rfl rfl (by rfl) ?_ ?_; rotate_left; (intro W hW; go_simp); (try with_reducible rfl); simp only [Act.put, List.setIfInBounds_toArray, List.set])
  refine tree_quiet (v := sideVal y h.y) rfl rfl (by rfl) (fun W hW => exec_load_as 26 sideT8 _ rfl rfl (cs := sideCells y h.y) rfl (F1.out W hW) rfl) ?_
  simp only [Act.put, List.setIfInBounds_toArray, List.set]
  refine tree_loud rfl rfl (by rfl) (fun K hK => ?_)
  go_wp2_with fail
  have c8 := rside_any w7.drew B a7 l7.length c7 l7 x h.x o7 rfl hB7 (ha7.x.low ⟨rfl, rfl, rfl, Nat.le_refl _, fun _ _ => rfl⟩) (by omega)
  refine c8.mono ?_
  clear c8
  intro e8 w8 g8
  obtain ⟨l8, a8, c8, rfl, o8, r8, H8, z8⟩ := g8.get rfl
  have hB8 := Nat.le_trans hB7 r8.1.size
  go_wp2_with fail
  refine hK _ _ r8 ?_
  clear hK K
  replace r8 := Rx.undrew r8
  have R8 := Rx.trans _ _ _ R7 r8
  refine tree_loud rfl rfl (by rfl) (fun K hK => ?_)
  go_wp2_with fail
  have c9 := rside_any w8 B a8 l8.length c8 l8 y h.y o8 rfl hB8 (ha7.y.low r8.1) (by omega)
  refine c9.mono ?_
  clear c9
  intro e9 w9 g9
  obtain ⟨l9, a9, c9, rfl, o9, r9, H9, z9⟩ := g9.get rfl
  have hB9 := Nat.le_trans hB8 r9.1.size
  go_wp2_with fail
  refine hK _ _ r9 ?_
  clear hK K
  have R9 := Rx.trans _ _ _ R8 r9
  repeat (first | (refine tree_skip rfl (by rfl) ?_; simp only [Act.put, List.setIfInBounds_toArray, List.set]) | (refine tree_quiet (v := ?_) rfl rfl (by rfl) ?_ ?_; rotate_left; (intro W hW; go_simp); (try with_reducible rfl); simp only [Act.put, List.setIfInBounds_toArray, List.set]))
  refine tree_done ?_
  have E9 := Lib.hid (show l9 = stateI ⟨turn, mover, phase, struck, result, attack, next, x, y⟩ by rw [H9.out, H8.out, E7.out]; rfl)
  clear H8 H9 E7 F0 F1
  go_wp2_with fail
  go_ret
  rw [← E9.out]
  exact ⟨a9, c9, rfl, o9, R9⟩
def PairsB (w : World) (B : Nat) (bs : List UInt8) (l : List PairL) (f : Nat) (v0 v5 : Value) (wr : World) : Prop :=
  ∃ (k : Nat) (a : Option Addr) (c : Nat) (cs : List UInt8), k + f = l.length ∧ v5 = .int .i64 (k : Int) ∧ v0 = .slice a cs.length c ∧ Hid (cs = bs ++ (l.take k).flatMap pairB) ∧ Own wr B 5 1 a cs.length c (cs.map bv) ∧ Rx B 5 w wr
set_option maxHeartbeats 4000000 in
theorem dactbytes_any (w : World) (p : ActionP) (h : ActionH) (ha : ActionIn w w.heap.size p h) (hz : (actionI p).length + 5000 < 100000000) :
    Calls Try.prog 19 #[actionVal p h] w (OutB w.heap.size w (actionI p)) := by
  have hlen : (actionI p).length = 48 + 8 * p.ids.length + 16 * p.pairs.length := by
    simp only [actionI, List.length_append, be8_length, tr1_len, encL_len, encP_len]
    omega
  rw [hlen] at hz
  clear hlen
  obtain ⟨B, hBe⟩ : ∃ B, B = w.heap.size := ⟨_, rfl⟩
  rw [← hBe] at ha ⊢
  have hB : B ≤ w.heap.size := Nat.le_of_eq hBe
  have p1 := wf8_wrap ha.at'.op
  obtain ⟨op, side, place, target, ids, pairs⟩ := p
  dsimp only at hz p1
  have d1 : ids.length = h.ids.n := ha.at'.ids.2.1
  have d2 : pairs.length = h.pairs.n := ha.at'.pairs.2.1
  rw [d1, d2] at hz
  have D1 := Lib.hid d1
  have D2 := Lib.hid d2
  clear d1 d2
  rw [actionVal_cells]
  go_enter Try.func19, Try.ntmps19
  go_upto_region 1 with (fail)
  obtain ⟨X, hX⟩ : ∃ X, X = w.heap.size := ⟨_, rfl⟩
  rw [← hX]
  refine wp_forget (fun W => Blk W X (actionCells ⟨op, side, place, target, ids, pairs⟩ h).toArray 41 ∧ Below w.heap.size w W) ⟨by rw [hX]; exact Blk.new w (actionCells ⟨op, side, place, target, ids, pairs⟩ h).toArray _, by (try unfold Kept); repeat (first | assumption | exact Below.refl _ _ | exact below_undrew (Below.refl _ _) | exact Below.mono (by assumption) (by first | (simp; done) | (simp; omega) | omega) | refine below_setRow ?_ (by first | (simp; done) | (simp; omega) | omega) _ | refine Below.setCell ?_ (by first | (simp; done) | (simp; omega) | omega) _ | refine Below.alloc ?_ (by first | (simp; done) | (simp; omega) | omega) _ | refine below_drewN ?_ _ | refine Below.drew ?_ | refine below_undrew ?_ | refine below_step ?_ (by assumption))⟩ ?_
  rintro w0 ⟨hx0, hb0⟩
  clear hX
  have hB0 := Nat.le_trans hB hb0.size
  have R0 : Rx B 5 w w0 := Rx.old hb0 hB
  have ha0 := ha.low R0.1
  clear ha hBe
  obtain ⟨l0, hl0⟩ : ∃ l : List UInt8, l = [] := ⟨_, rfl⟩
  have o0 : Own w0 B 5 1 none l0.length 0 (l0.map bv) := by rw [hl0]; exact Own.nil _ _ _ _
  have z0 : l0.length ≤ 0 := by rw [hl0]; exact Nat.le_refl _
  have x0 : ∀ W, Rx B 5 w0.drew W → W.cell? ⟨X, 0, none⟩ = some (.int .i8 op) := fun W hW => (hW.blk hx0.drew (by decide)).rule 0
  have x1 : ∀ W, Rx B 5 w0.drew W → W.cell? ⟨X, 1, none⟩ = some (.int .i64 side) := fun W hW => (hW.blk hx0.drew (by decide)).rule 1
  have x2 : ∀ W, Rx B 5 w0.drew W → W.cell? ⟨X, 2, none⟩ = some (.int .i64 place) := fun W hW => (hW.blk hx0.drew (by decide)).rule 2
  have x3 : ∀ W, Rx B 5 w0.drew W → W.cell? ⟨X, 3, none⟩ = some (.int .i64 target) := fun W hW => (hW.blk hx0.drew (by decide)).rule 3
  have HL0 := Lib.hid hl0
  have c1 := rnum_any w0.drew B none l0.length 0 l0 op o0 rfl hB0 (by omega)
  have hln : l0.length = 0 := by rw [hl0]; rfl
  rw [hln] at c1
  clear hl0 hln
  go_wp2_with fail
  refine wp_region_treeX B 5 (.step 0 (.step 1 (.step 2 (.step 3 (.step 5 (.step 6 (.step 8 (.step 9 (.step 11 (.step 12 (.step 4 (.step 7 (.step 10 (.step 13 (.step 14 .done))))))))))))))) (by kernel_rfl) (by kernel_rfl) (fun c a d v w h => by cases d <;> exact h) ?_
  repeat (first | (refine tree_skip rfl (by rfl) ?_; simp only [Act.put, List.setIfInBounds_toArray, List.set]) | (refine tree_quiet (v := ?_) rfl rfl (by rfl) ?_ ?_; rotate_left; (intro W hW; go_simp); (try with_reducible rfl); simp only [Act.put, List.setIfInBounds_toArray, List.set]))
  refine tree_loud rfl rfl (by rfl) (fun K hK => ?_)
  go_wp2_with fail
  refine c1.mono ?_
  clear c1
  intro e1 w1 g1
  obtain ⟨l1, a1, c1, rfl, o1, r1, H1, z1⟩ := g1.get (be8_length _)
  have hB1 := Nat.le_trans hB0 r1.1.size
  go_wp2_with fail
  refine hK _ _ r1 ?_
  clear hK K
  replace r1 := Rx.undrew r1
  have R1 := Rx.trans _ _ _ R0 r1
  refine tree_loud rfl rfl (by rfl) (fun K hK => ?_)
  go_wp2_with fail
  have c2 := rnum_any w1 B a1 l1.length c1 l1 side o1 rfl hB1 (by omega)
  refine c2.mono ?_
  clear c2
  intro e2 w2 g2
  obtain ⟨l2, a2, c2, rfl, o2, r2, H2, z2⟩ := g2.get (be8_length _)
  have hB2 := Nat.le_trans hB1 r2.1.size
  go_wp2_with fail
  refine hK _ _ r2 ?_
  clear hK K
  have R2 := Rx.trans _ _ _ R1 r2
  refine tree_loud rfl rfl (by rfl) (fun K hK => ?_)
  go_wp2_with fail
  have c3 := rnum_any w2 B a2 l2.length c2 l2 place o2 rfl hB2 (by omega)
  refine c3.mono ?_
  clear c3
  intro e3 w3 g3
  obtain ⟨l3, a3, c3, rfl, o3, r3, H3, z3⟩ := g3.get (be8_length _)
  have hB3 := Nat.le_trans hB2 r3.1.size
  go_wp2_with fail
  refine hK _ _ r3 ?_
  clear hK K
  have R3 := Rx.trans _ _ _ R2 r3
  refine tree_loud rfl rfl (by rfl) (fun K hK => ?_)
  go_wp2_with fail
  have c4 := rnum_any w3 B a3 l3.length c3 l3 target o3 rfl hB3 (by omega)
  refine c4.mono ?_
  clear c4
  intro e4 w4 g4
  obtain ⟨l4, a4, c4, rfl, o4, r4, H4, z4⟩ := g4.get (be8_length _)
  have hB4 := Nat.le_trans hB3 r4.1.size
  go_wp2_with fail
  refine hK _ _ r4 ?_
  clear hK K
  have R4 := Rx.trans _ _ _ R3 r4
  clear x0 x1 x2 x3
  repeat (first | (refine tree_skip rfl (by rfl) ?_; simp only [Act.put, List.setIfInBounds_toArray, List.set]) | (refine tree_quiet (v := ?_) rfl rfl (by rfl) ?_ ?_; rotate_left; (intro W hW; go_simp); (try with_reducible rfl); simp only [Act.put, List.setIfInBounds_toArray, List.set]))
  refine tree_done ?_
  have r14 := Rx.trans _ _ _ r1 (Rx.trans _ _ _ r2 (Rx.trans _ _ _ r3 r4))
  have hx4 := r14.blk hx0.drew (by decide)
  have ha4 := ha0.low r14.1
  have E4 := Lib.hid (show l4 = be8 op ++ be8 side ++ be8 place ++ be8 target by rw [H4.out, H3.out, H2.out, H1.out, HL0.out]; simp)
  clear H1 H2 H3 H4 hx0 ha0
  have x4 : ∀ W, Rx B 5 w4.drew W → W.cell? ⟨X, 4, none⟩ = some (.slice h.ids.a h.ids.n h.ids.c) := fun W hW => (hW.blk hx4.drew (by decide)).rule 4
  have x5 : ∀ W, Rx B 5 w4.drew W → W.cell? ⟨X, 5, none⟩ = some (.slice h.pairs.a h.pairs.n h.pairs.c) := fun W hW => (hW.blk hx4.drew (by decide)).rule 5
  go_wp2_with fail
  refine wp_region_treeX B 5 (.step 0 (.step 1 (.step 2 (.step 4 (.step 5 (.step 6 (.step 3 (.step 7 (.step 8 .done))))))))) (by kernel_rfl) (by kernel_rfl) (fun c a d v w h => by cases d <;> exact h) ?_
  repeat (first | (refine tree_skip rfl (by rfl) ?_; simp only [Act.put, List.setIfInBounds_toArray, List.set]) | (refine tree_quiet (v := ?_) rfl rfl (by rfl) ?_ ?_; rotate_left; (intro W hW; go_simp); (try with_reducible rfl); simp only [Act.put, List.setIfInBounds_toArray, List.set]))
  refine tree_loud rfl rfl (by rfl) (fun K hK => ?_)
  go_wp2_with fail
  have c5 := rnums_any w4.drew B a4 l4.length c4 l4 h.ids ids o4 rfl hB4 ha4.at'.ids ha4.ids (by omega)
  refine c5.mono ?_
  clear c5
  intro e5 w5 g5
  obtain ⟨l5, a5, c5, rfl, o5, r5, H5, z5⟩ := g5.get (encL_len _)
  have hB5 := Nat.le_trans hB4 r5.1.size
  go_wp2_with fail
  refine hK _ _ r5 ?_
  clear hK K
  replace r5 := Rx.undrew r5
  have R5 := Rx.trans _ _ _ R4 r5
  rw [D1.out] at z5
  refine tree_loud rfl rfl (by rfl) (fun K hK => ?_)
  go_wp2_with fail
  have c6 := rnum_any w5 B a5 l5.length c5 l5 h.pairs.n o5 rfl hB5 (by omega)
  refine c6.mono ?_
  clear c6
  intro e6 w6 g6
  obtain ⟨l6, a6, c6, rfl, o6, r6, H6, z6⟩ := g6.get (be8_length _)
  have hB6 := Nat.le_trans hB5 r6.1.size
  go_wp2_with fail
  refine hK _ _ r6 ?_
  clear hK K
  have R6 := Rx.trans _ _ _ R5 r6
  clear x4 x5
  repeat (first | (refine tree_skip rfl (by rfl) ?_; simp only [Act.put, List.setIfInBounds_toArray, List.set]) | (refine tree_quiet (v := ?_) rfl rfl (by rfl) ?_ ?_; rotate_left; (intro W hW; go_simp); (try with_reducible rfl); simp only [Act.put, List.setIfInBounds_toArray, List.set]))
  refine tree_done ?_
  have hx6 := (Rx.trans _ _ _ r5 r6).blk hx4.drew (by decide)
  have ha6 := ha4.low (Rx.trans _ _ _ r5 r6).1
  have E6 := Lib.hid (show l6 = be8 op ++ be8 side ++ be8 place ++ be8 target ++ encL ids ++ be8 pairs.length by rw [H6.out, H5.out, E4.out, D2.out])
  clear H5 H6 E4 hx4 ha4
  have hst : PairsB w6 B l6 pairs h.pairs.n (.slice a6 l6.length c6) (.int .i64 0) w6 := ⟨0, a6, c6, l6, by rw [D2.out]; omega, rfl, rfl, Lib.hid (by simp), o6, Rx.refl _⟩
  go_wp2_with fail
  go_loopg [3, 4] h.pairs.n (PairsB w6 B l6 pairs)
  case atStart => exact hst
  case round =>
    clear hst o6
    obtain ⟨k, a8, c8, l8, hk, rfl, rfl, H8, o8, r8⟩ := hrel
    rw [D2.out] at hk
    have z8 : l8.length ≤ l6.length + 16 * k := by
      rw [H8.out, List.length_append, enc_len (n := 16) (fun x => by simp [pairB, be8_length]), List.length_take, D2.out]
      omega
    have hB8 := Nat.le_trans hB6 r8.1.size
    have hx8 := r8.blk hx6 (by decide)
    have cx5 : wr.cell? ⟨X, 5, none⟩ = some (.slice h.pairs.a h.pairs.n h.pairs.c) := hx8.rule 5
    by_cases hlt : k < h.pairs.n
    · have t0 : decide ((k : Int) < (h.pairs.n : Int)) = true := by simp; omega
      have hkl : k < pairs.length := by rw [D2.out]; exact hlt
      obtain ⟨b, o, hab, hbl, hc⟩ := RowAt.elem (g := PairL.cells) (sz := 2) (fun _ => rfl) ha6.at'.pairs.1 (by omega) k hkl
      have hbB : b < B := ha6.pairs (by omega) _ hab
      have y5 : ∀ W, Rx B 5 wr.drew W → W.cell? ⟨X, 5, none⟩ = some (.slice (some ⟨b, o, none⟩) h.pairs.n h.pairs.c) := fun W hW => by rw [← hab]; exact (hW.blk hx8.drew (by decide)).rule 5
      rw [hab] at cx5
      clear hab
      have HT := Lib.hid (List.take_succ_eq_append_getElem hkl)
      generalize pairs[k] = u at *
      have hcw : ∀ j (hj : j < u.cells.length), ∀ W, Rx B 5 wr.drew W → W.cell? ⟨b, o + k * 2 + j, none⟩ = some u.cells[j] := fun j hj W hW => hW.cell hbB (r8.cell hbB (hc j hj))
      clear hc
      obtain ⟨x, y⟩ := u
      have y0 : ∀ W, Rx B 5 wr.drew W → W.cell? ⟨b, o + k * 2, none⟩ = some (.int .i64 x) := hcw 0 (by show 0 < 2; omega)
      have y1 : ∀ W, Rx B 5 wr.drew W → W.cell? ⟨b, o + k * 2 + 1, none⟩ = some (.int .i64 y) := hcw 1 (by show 1 < 2; omega)
      clear hcw
      go_wp2_with fail
      refine wp_region_treeX B 5 (.step 0 (.step 1 (.step 2 (.step 3 (.step 4 (.step 5 (.step 6 (.step 8 (.step 9 (.step 10 (.step 11 (.step 12 (.step 13 (.step 7 (.step 14 (.step 15 .done)))))))))))))))) (by kernel_rfl) (by kernel_rfl) (fun c a d v w h => by cases d <;> exact h) ?_
      repeat (first | (refine tree_skip rfl (by rfl) ?_; simp only [Act.put, List.setIfInBounds_toArray, List.set]) | (refine tree_quiet (v := ?_) rfl rfl (by rfl) ?_ ?_; rotate_left; (intro W hW; go_simp); (try with_reducible rfl); simp only [Act.put, List.setIfInBounds_toArray, List.set]))
      refine tree_loud rfl rfl (by rfl) (fun K hK => ?_)
      go_wp2_with fail
      have c9 := rnum_any wr.drew B a8 l8.length c8 l8 x o8 rfl hB8 (by omega)
      refine c9.mono ?_
      clear c9
      intro e9 w9 g9
      obtain ⟨l9, a9, c9, rfl, o9, r9, H9, z9⟩ := g9.get (be8_length _)
      have hB9 := Nat.le_trans hB8 r9.1.size
      go_wp2_with fail
      refine hK _ _ r9 ?_
      clear hK K
      replace r9 := Rx.undrew r9
      refine tree_loud rfl rfl (by rfl) (fun K hK => ?_)
      go_wp2_with fail
      have c10 := rnum_any w9 B a9 l9.length c9 l9 y o9 rfl hB9 (by omega)
      refine c10.mono ?_
      clear c10
      intro e10 w10 g10
      obtain ⟨l10, a10, c10, rfl, o10, r10, H10, z10⟩ := g10.get (be8_length _)
      have hB10 := Nat.le_trans hB9 r10.1.size
      go_wp2_with fail
      refine hK _ _ r10 ?_
      clear hK K
      clear y0 y1 y5
      repeat (first | (refine tree_skip rfl (by rfl) ?_; simp only [Act.put, List.setIfInBounds_toArray, List.set]) | (refine tree_quiet (v := ?_) rfl rfl (by rfl) ?_ ?_; rotate_left; (intro W hW; go_simp); (try with_reducible rfl); simp only [Act.put, List.setIfInBounds_toArray, List.set]))
      refine tree_done ?_
      have r12 := Rx.trans _ _ _ r8 (Rx.trans _ _ _ r9 r10)
      have H12 := Lib.hid (show l10 = l6 ++ (pairs.take (k + 1)).flatMap pairB by rw [H10.out, H9.out, H8.out, HT.out, List.flatMap_append]; simp [pairB])
      clear H8 H9 H10 r8 r9 r10
      go_wp2_with fail
      go_roundg (gk - 1)
      case measure => omega
      case rel => exact ⟨k + 1, a10, c10, l10, by rw [D2.out]; omega, by go_num, rfl, H12, o10, r12⟩
    · have t0 : decide ((k : Int) < (h.pairs.n : Int)) = false := by simp; omega
      have HF := Lib.hid (show l8 = actionI ⟨op, side, place, target, ids, pairs⟩ by rw [H8.out, List.take_of_length_le (by rw [D2.out]; omega), E6.out, actionI, encP]; simp)
      have R8 := Rx.trans _ _ _ R6 r8
      clear H8 E6 hx6
      go_wp2_with fail
      go_ret
      rw [← HF.out]
      exact ⟨a8, c8, rfl, o8, R8⟩
end Go.Proofs.Ytdokkhjgmhcpkaa
