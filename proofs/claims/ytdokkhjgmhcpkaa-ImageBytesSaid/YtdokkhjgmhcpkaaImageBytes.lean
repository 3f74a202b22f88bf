/- A state and an action as bytes; the state's sum: the law. -/
import Derived.Test.YtdokkhjgmhcpkaaImSum
import Derived.Test.YtdokkhjgmhcpkaaImageOne
import Derived.Test.YtdokkhjgmhcpkaaImWakes
import Derived.Laws.StructEq
namespace Go.Proofs.Ytdokkhjgmhcpkaa
open Go.RowKit
set_option linter.unusedVariables false
set_option linter.unusedSimpArgs false
set_option maxRecDepth 20000

theorem run_equalIn_vA (d : Nat) (t e : TypeId) {P : Program} (n : Nat) (ht : P.underlying t = some (.array n e)) (he : P.underlying e = some (.int .u8)) (hsz : ∀ w, (sizeOf e).run P w = .ok 1 w)
    (s u : Nat → UInt8) (w : World) :
    (Op.equalIn (d + 2) t (.agg (vA n fun i => bv (s i))) (.agg (vA n fun i => bv (u i)))).run P w = .ok ((List.range n).all fun i => s i == u i) w := by
  rw [List.range_eq_range', Op.equalIn]
  simp only [Sem.run_bind, run_underlying ht, Result.andThen_ok, hsz, Std.Legacy.Range.forIn_eq_forIn_range', Std.Legacy.Range.size, Nat.sub_zero, Nat.add_sub_cancel, Nat.div_one]
  have hl : ∀ i ∈ List.range' 0 n 1, i < n := fun i hi => by simpa using (List.mem_range'_1.1 hi).2
  generalize List.range' 0 n 1 = l at hl ⊢
  induction l with
  | nil => simp
  | cons i l ih =>
    have hi : i < n := hl i (by simp)
    have px : (part e (vA n fun i => bv (s i)) (i * 1)).run P w = .ok (.int .u8 (U8 (s i))) w := by
      simp [part, isAgg, run_underlying he, vA_at _ hi, bv]
    have py : (part e (vA n fun i => bv (u i)) (i * 1)).run P w = .ok (.int .u8 (U8 (u i))) w := by
      simp [part, isAgg, run_underlying he, vA_at _ hi, bv]
    have pe : (Op.equalIn (d + 1) e (.int .u8 (U8 (s i))) (.int .u8 (U8 (u i)))).run P w = .ok (s i == u i) w := by
      rw [run_equalIn_int w d e .u8 .u8 _ _ he, U8_beq]
    simp only [List.forIn_cons, Sem.run_bind, px, py, pe, Result.andThen_ok, List.all_cons]
    cases hb : (s i == u i)
    · simp
    · simp only [Bool.not_true, Bool.false_eq_true, if_false, Sem.run_pure, Result.andThen_ok, Bool.true_and]
      exact ih fun j hj => hl j (by simp [hj])
theorem eqIn32 (f : Nat → UInt8) (W : World) : (Op.equalIn 10000 48 (.agg (vA 32 fun i => bv (f i))) (.agg (vA 32 fun i => bv (f i)))).run Try.prog W = .ok true W := by
  rw [run_equalIn_vA 9998 48 5 32 Try.underlying48 Try.underlying5 (sized_run u8Info) f f W]
  simp
theorem eq32 (f : Nat → UInt8) (W : World) : (binOp .eql 48 (.agg (vA 32 fun i => bv (f i))) (.agg (vA 32 fun i => bv (f i)))).run Try.prog W = .ok (.bool true) W := by
  rw [run_eql_struct, eqIn32]; rfl
theorem eqDg (l : List UInt8) (W : World) : (binOp .eql 48 (.agg (dgA l)) (.agg (dgA l))).run Try.prog W = .ok (.bool true) W := eq32 (dgb l) W
theorem actionI_small {w : World} {p : ActionP} {h : ActionH} (hn : p.ids.length + p.pairs.length ≤ 500) : (actionI p).length ≤ 9000 := by
  simp only [actionI, List.length_append, be8_length, encL_len, encP_len]
  omega
set_option maxHeartbeats 8000000 in
theorem imageBytes_any (w : World) (p : StateP) (h : StateH) (q : ActionP) (g : ActionH) (ha : StateAt w p h) (hq : ActionAt w q g) (hp : FreeU w h.x.units ∧ FreeU w h.y.units) :
    Calls Try.prog 7 #[stateVal p h, actionVal q g] w fun e w' => e = .returned (.bool true) ∧ Below w.heap.size w w' := by
  have kp : decide (1000 < stateCount p) = true ∨ decide (1000 < stateCount p) = false ∧ stateCount p ≤ 1000 := by by_cases h : 1000 < stateCount p <;> simp [h]; omega
  have key1 := fun (w1 : World) (h1 : Below w.heap.size w w1) => great_any p h w1 (ha.old h1)
  generalize decide (1000 < stateCount p) = gp at key1 kp
  have HG1 := Lib.hid key1
  clear key1
  have hil : q.ids.length = g.ids.n := hq.ids.2.1
  have hpl : q.pairs.length = g.pairs.n := hq.pairs.2.1
  have hib := hq.ids.2.2.2.2.1
  have hpb := hq.pairs.2.2.2.2.1
  have HIL := Lib.hid hil
  have HPL := Lib.hid hpl
  clear hil hpl
  rw [stateVal_cells] at HG1 ⊢
  rw [actionVal_cells]
  go_enter Try.func7, Try.ntmps7
  go_upto_region 1 with (fail)
  obtain ⟨S2, h3⟩ : ∃ x, x = w.heap.size := ⟨_, rfl⟩
  obtain ⟨S3, h4⟩ : ∃ x, x = w.heap.size + 1 := ⟨_, rfl⟩
  rw [← h4, ← h3]
  refine wp_forget (fun W => Blk W S2 (stateCells p h).toArray 29 ∧ Blk W S3 (actionCells q g).toArray 41 ∧ Below w.heap.size w W) ⟨by rw [h3]; exact Blk.new2 _ _ _ _, by rw [h4]; exact Blk.new2' _ _ _ _, by (try unfold Kept); repeat (first | assumption | exact Below.refl _ _ | exact below_undrew (Below.refl _ _) | exact Below.mono (by assumption) (by first | (simp; done) | (simp; omega) | omega) | refine below_setRow ?_ (by first | (simp; done) | (simp; omega) | omega) _ | refine Below.setCell ?_ (by first | (simp; done) | (simp; omega) | omega) _ | refine Below.alloc ?_ (by first | (simp; done) | (simp; omega) | omega) _ | refine below_drewN ?_ _ | refine Below.drew ?_ | refine below_undrew ?_ | refine below_step ?_ (by assumption))⟩ ?_
  rintro w0 ⟨hS2, hS3, hbw0⟩
  clear h3 h4
  have r3 := hS3.rule
  unfold actionCells at r3
  go_wp2_with (refine wpList_load_blkw (by rfl) 29 stateT (.tmp 2) rfl rfl hS2 rfl ?_)
  refine (HG1.out _ hbw0).mono ?_
  rintro e w1 ⟨rfl, hb1⟩
  replace hS2 := hS2.old hb1
  replace hS3 := hS3.old hb1
  clear r3
  have r3 := hS3.rule
  unfold actionCells at r3
  have hbw1 := below_step hbw0 hb1
  clear hb1 hbw0
  rcases kp with rfl | ⟨rfl, kp⟩
  · go_wp2_with fail
    refine (wakes_any _).mono ?_
    rintro e w2 ⟨rfl, hb2⟩
    go_wp2_with fail
    go_ret
    exact ⟨rfl, below_step hbw1 hb2⟩
  have hsum : IntKind.i64.wrap ((g.ids.n : Int) + (g.pairs.n : Int)) = (g.ids.n : Int) + (g.pairs.n : Int) := by rw [IntKind.wrap_i64]; omega
  by_cases hm : 500 < g.ids.n + g.pairs.n
  · have d1 : decide ((500 : Int) < (g.ids.n : Int) + (g.pairs.n : Int)) = true := by simp; omega
    go_wp2_with fail
    refine (wakes_any _).mono ?_
    rintro e w2 ⟨rfl, hb2⟩
    go_wp2_with fail
    go_ret
    exact ⟨rfl, below_step hbw1 hb2⟩
  have d1 : decide ((500 : Int) < (g.ids.n : Int) + (g.pairs.n : Int)) = false := by simp; omega
  have hsm := stateI_small (w := w) (h := h) kp
  have hsa := actionI_small (w := w) (h := g) (p := q) (by rw [HIL.out, HPL.out]; omega)
  go_wp2_with fail
  clear r3 d1 hsum
  have sin : ∀ W, Below w.heap.size w W → StateIn W W.heap.size p h := fun W hW => (StateIn.of (ha.old hW) (hp.1.low ha.x.units.inB hW) (hp.2.low ha.y.units.inB hW))
  have ain : ∀ W, Below w.heap.size w W → ActionIn W W.heap.size q g := fun W hW => ActionIn.of (hq.old hW)
  refine wp_region_old (0 :: 3 :: 1 :: 2 :: 4 :: 5 :: 6 :: 7 :: 8 :: 11 :: 9 :: 10 :: 12 :: 13 :: 14 :: 15 :: 16 :: 17 :: 19 :: 18 :: 20 :: 21 :: 22 :: 23 :: 24 :: 25 :: 26 :: []) (by kernel_rfl) (by kernel_rfl) (fun c a d v w h => by cases d <;> exact h) ?_
  replace hS2 := hS2.drew
  replace hS3 := hS3.drew
  refine lex_quiet (v := .agg (stateCells p h).toArray) rfl rfl (by rfl) (fun W hW => exec_load_as 29 stateT (.tmp 2) rfl rfl rfl (Blk.cells (hS2.old hW)) rfl) ?_
  simp only [Act.put, List.setIfInBounds_toArray, List.set]
  refine lex_quiet (v := .agg (stateCells p h).toArray) rfl rfl (by rfl) (fun W hW => exec_load_as 29 stateT (.tmp 2) rfl rfl rfl (Blk.cells (hS2.old hW)) rfl) ?_
  simp only [Act.put, List.setIfInBounds_toArray, List.set]
  refine lex_loud rfl rfl (by rfl) (fun K hK => ?_); go_wp2_with fail
  have cc := bytes_w w1.drew p h (ha.old (hbw1.drew)) (hp.1.low ha.x.units.inB (hbw1.drew)) (hp.2.low ha.y.units.inB (hbw1.drew)) (by omega)
  try simp only [stateVal_cells, actionVal_cells] at cc
  refine cc.mono ?_
  clear cc
  rintro e w2 ⟨a2, c2, rfl, o2, hb2⟩
  have hbw2 := below_step hbw1.drew hb2
  replace hS2 := hS2.old hb2
  replace hS3 := hS3.old hb2
  have k2 := str_of w2 a2 _ c2 (stateI p) o2.row rfl
  go_wp2_with fail
  refine hK _ _ hb2 ?_
  clear hK K
  -- convert
  (first | (refine lex_quiet (v := ?_) rfl rfl (by rfl) ?_ ?_; rotate_left; (intro W hW; go_simp); (try with_reducible rfl); simp only [Act.put, List.setIfInBounds_toArray, List.set]))
  refine lex_loud rfl rfl (by rfl) (fun K hK => ?_); go_wp2_with fail
  have cc := stbytes_any w2 p h (sin _ (hbw2)) (by omega)
  try simp only [stateVal_cells, actionVal_cells] at cc
  refine cc.mono ?_
  clear cc
  rintro e w3 ⟨a3, c3, rfl, o3, hr3⟩
  have hb3 := hr3.1
  have hbw3 := below_step hbw2 hb3
  replace hS2 := hS2.old hb3
  replace hS3 := hS3.old hb3
  have k3 := str_of w3 a3 _ c3 (stateI p) o3.row rfl
  go_wp2_with fail
  refine hK _ _ hb3 ?_
  clear hK K
  (first | (refine lex_quiet (v := ?_) rfl rfl (by rfl) ?_ ?_; rotate_left; (intro W hW; go_simp); (try with_reducible rfl); simp only [Act.put, List.setIfInBounds_toArray, List.set]))
  (first | (refine lex_quiet (v := ?_) rfl rfl (by rfl) ?_ ?_; rotate_left; (intro W hW; go_simp); (try with_reducible rfl); simp only [Act.put, List.setIfInBounds_toArray, List.set]))
  (first | (refine lex_quiet (v := ?_) rfl rfl (by rfl) ?_ ?_; rotate_left; (intro W hW; go_simp); (try with_reducible rfl); simp only [Act.put, List.setIfInBounds_toArray, List.set]))
  refine lex_quiet (v := .agg (actionCells q g).toArray) rfl rfl (by rfl) (fun W hW => exec_load_as 41 actionT (.tmp 3) rfl rfl rfl (Blk.cells (hS3.old hW)) rfl) ?_
  simp only [Act.put, List.setIfInBounds_toArray, List.set]
  refine lex_quiet (v := .agg (actionCells q g).toArray) rfl rfl (by rfl) (fun W hW => exec_load_as 41 actionT (.tmp 3) rfl rfl rfl (Blk.cells (hS3.old hW)) rfl) ?_
  simp only [Act.put, List.setIfInBounds_toArray, List.set]
  refine lex_loud rfl rfl (by rfl) (fun K hK => ?_); go_wp2_with fail
  have cc := actbytes_w w3 q g (hq.old (hbw3)) (by omega)
  try simp only [stateVal_cells, actionVal_cells] at cc
  refine cc.mono ?_
  clear cc
  rintro e w4 ⟨a4, c4, rfl, o4, hb4⟩
  have hbw4 := below_step hbw3 hb4
  replace hS2 := hS2.old hb4
  replace hS3 := hS3.old hb4
  have k4 := str_of w4 a4 _ c4 (actionI q) o4.row rfl
  go_wp2_with fail
  refine hK _ _ hb4 ?_
  clear hK K
  (first | (refine lex_quiet (v := ?_) rfl rfl (by rfl) ?_ ?_; rotate_left; (intro W hW; go_simp); (try with_reducible rfl); simp only [Act.put, List.setIfInBounds_toArray, List.set]))
  refine lex_loud rfl rfl (by rfl) (fun K hK => ?_); go_wp2_with fail
  have cc := dactbytes_any w4 q g (ain _ (hbw4)) (by omega)
  try simp only [stateVal_cells, actionVal_cells] at cc
  refine cc.mono ?_
  clear cc
  rintro e w5 ⟨a5, c5, rfl, o5, hr5⟩
  have hb5 := hr5.1
  have hbw5 := below_step hbw4 hb5
  replace hS2 := hS2.old hb5
  replace hS3 := hS3.old hb5
  have k5 := str_of w5 a5 _ c5 (actionI q) o5.row rfl
  go_wp2_with fail
  refine hK _ _ hb5 ?_
  clear hK K
  (first | (refine lex_quiet (v := ?_) rfl rfl (by rfl) ?_ ?_; rotate_left; (intro W hW; go_simp); (try with_reducible rfl); simp only [Act.put, List.setIfInBounds_toArray, List.set]))
  (first | (refine lex_quiet (v := ?_) rfl rfl (by rfl) ?_ ?_; rotate_left; (intro W hW; go_simp); (try with_reducible rfl); simp only [Act.put, List.setIfInBounds_toArray, List.set]))
  (first | (refine lex_quiet (v := ?_) rfl rfl (by rfl) ?_ ?_; rotate_left; (intro W hW; go_simp); (try with_reducible rfl); simp only [Act.put, List.setIfInBounds_toArray, List.set]))
  (first | (refine lex_quiet (v := ?_) rfl rfl (by rfl) ?_ ?_; rotate_left; (intro W hW; go_simp); (try with_reducible rfl); simp only [Act.put, List.setIfInBounds_toArray, List.set]))
  refine lex_quiet (v := .agg (stateCells p h).toArray) rfl rfl (by rfl) (fun W hW => exec_load_as 29 stateT (.tmp 2) rfl rfl rfl (Blk.cells (hS2.old hW)) rfl) ?_
  simp only [Act.put, List.setIfInBounds_toArray, List.set]
  refine lex_quiet (v := .agg (stateCells p h).toArray) rfl rfl (by rfl) (fun W hW => exec_load_as 29 stateT (.tmp 2) rfl rfl rfl (Blk.cells (hS2.old hW)) rfl) ?_
  simp only [Act.put, List.setIfInBounds_toArray, List.set]
  refine lex_loud rfl rfl (by rfl) (fun K hK => ?_); go_wp2_with fail
  have cc := isum_any w5 p h (ha.old (hbw5)) (hp.1.low ha.x.units.inB (hbw5)) (hp.2.low ha.y.units.inB (hbw5)) (by omega)
  try simp only [stateVal_cells, actionVal_cells] at cc
  refine cc.mono ?_
  clear cc
  rintro e w6 ⟨rfl, hb6⟩
  have hbw6 := below_step hbw5 hb6
  replace hS2 := hS2.old hb6
  replace hS3 := hS3.old hb6
  go_wp2_with fail
  refine hK _ _ hb6 ?_
  clear hK K
  refine lex_loud rfl rfl (by rfl) (fun K hK => ?_); go_wp2_with fail
  have cc := dsum_any w6 p h (sin _ (hbw6)) (by omega)
  try simp only [stateVal_cells, actionVal_cells] at cc
  refine cc.mono ?_
  clear cc
  rintro e w7 ⟨rfl, hb7⟩
  have hbw7 := below_step hbw6 hb7
  replace hS2 := hS2.old hb7
  replace hS3 := hS3.old hb7
  go_wp2_with fail
  refine hK _ _ hb7 ?_
  clear hK K
  refine lex_quiet (v := .bool true) rfl rfl (by rfl) (fun W hW => exec_cmp .eql 48 _ _ rfl rfl rfl (by kernel_rfl) (eqDg _ W)) ?_
  simp only [Act.put, List.setIfInBounds_toArray, List.set]
  (first | (refine lex_quiet (v := ?_) rfl rfl (by rfl) ?_ ?_; rotate_left; (intro W hW; go_simp); (try with_reducible rfl); simp only [Act.put, List.setIfInBounds_toArray, List.set]))
  (first | (refine lex_quiet (v := ?_) rfl rfl (by rfl) ?_ ?_; rotate_left; (intro W hW; go_simp); (try with_reducible rfl); simp only [Act.put, List.setIfInBounds_toArray, List.set]))
  refine lex_loud rfl rfl (by rfl) (fun K hK => ?_); go_wp2_with fail
  have cc := wakes_any w7
  try simp only [stateVal_cells, actionVal_cells] at cc
  refine cc.mono ?_
  clear cc
  rintro e w8 ⟨rfl, hb8⟩
  have hbw8 := below_step hbw7 hb8
  replace hS2 := hS2.old hb8
  replace hS3 := hS3.old hb8
  go_wp2_with fail
  refine hK _ _ hb8 ?_
  clear hK K
  repeat (first | (refine lex_skip rfl (by rfl) ?_; simp only [Act.put, List.setIfInBounds_toArray, List.set]) | (refine lex_quiet (v := ?_) rfl rfl (by rfl) ?_ ?_; rotate_left; (intro W hW; go_simp); (try with_reducible rfl); simp only [Act.put, List.setIfInBounds_toArray, List.set]))
  refine lex_nil ?_
  go_wp2_with fail
  go_ret
  exact ⟨rfl, hbw8⟩
end Go.Proofs.Ytdokkhjgmhcpkaa
