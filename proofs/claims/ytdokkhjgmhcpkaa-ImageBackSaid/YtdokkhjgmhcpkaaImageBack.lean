/- What is written is read as it was; bytes that are read are written as they were. -/
import Derived.Test.YtdokkhjgmhcpkaaSameAct
namespace Go.Proofs.Ytdokkhjgmhcpkaa
open Go.RowKit
set_option linter.unusedVariables false
set_option linter.unusedSimpArgs false
set_option maxRecDepth 20000

theorem OwnThings.free {w : World} {B : Nat} {s : Sl} {l : List ThingL} (h : OwnThings w B s l) : FreeU w s := fun ad ha i hi => by
  obtain ⟨_, _, cur, hcur⟩ := h.1.block_lt ha
  exact hcur.free _
theorem actionI_small {w : World} {p : ActionP} {h : ActionH} (hn : p.ids.length + p.pairs.length ≤ 500) : (actionI p).length ≤ 9000 := by
  simp only [actionI, List.length_append, be8_length, encL_len, encP_len]
  omega
theorem readS_back {p : StateP} (hp : okState p) : readS (stateI p) = (p, 0, 0) := by unfold readS; rw [codec_state.whole_back hp]
theorem readA_back {p : ActionP} (hp : okAction p) : readA (actionI p) = (p, 0, 0) := by unfold readA; rw [codec_action.whole_back hp]
theorem readS_cases (bs : List UInt8) : (∃ k, readS bs = (zeroS, k, 180)) ∨ ∃ p, readS bs = (p, 0, 0) ∧ stateI p = bs := by
  unfold readS
  cases hr : rdWhole rdState bs with
  | error k => exact .inl ⟨k, rfl⟩
  | ok p => exact .inr ⟨p, rfl, (codec_state.whole_fwd hr).2⟩
theorem readA_cases (bs : List UInt8) : (∃ k, readA bs = (zeroA, k, 180)) ∨ ∃ p, readA bs = (p, 0, 0) ∧ actionI p = bs := by
  unfold readA
  cases hr : rdWhole rdAction bs with
  | error k => exact .inl ⟨k, rfl⟩
  | ok p => exact .inr ⟨p, rfl, (codec_action.whole_fwd hr).2⟩
set_option maxHeartbeats 8000000 in
theorem imageBack_any (w : World) (p : StateP) (h : StateH) (q : ActionP) (g : ActionH) (a2 : Option Addr) (n2 c2 : Nat) (l2 : List UInt8) (ha : StateAt w p h) (hq : ActionAt w q g) (hp : FreeU w h.x.units ∧ FreeU w h.y.units) (hl : BytesAt w a2 l2) (hn2 : l2.length = n2) :
    Calls Try.prog 6 #[stateVal p h, actionVal q g, .slice a2 n2 c2] w fun e w' => e = .returned (.bool true) ∧ Below w.heap.size w w' := by
  have HN2 := Lib.hid hn2
  clear hn2
  have kp : decide (1000 < stateCount p) = true ∨ decide (1000 < stateCount p) = false ∧ stateCount p ≤ 1000 := by by_cases h : 1000 < stateCount p <;> simp [h]; omega
  have key1 := fun (w1 : World) (h1 : Below w.heap.size w w1) => great_any p h w1 (ha.old h1)
  generalize decide (1000 < stateCount p) = gp at key1 kp
  have hb1 := fun (w1 : World) (h1 : Below w.heap.size w w1) (hn : stateCount p ≤ 1000) => bytes_at ha hp h1 hn
  have hok := ha.ok
  have hqk := hq.ok
  have HB1 := Lib.hid hb1
  have HG1 := Lib.hid key1
  clear hb1 key1
  have hil : q.ids.length = g.ids.n := hq.ids.2.1
  have hpl : q.pairs.length = g.pairs.n := hq.pairs.2.1
  have hib := hq.ids.2.2.2.2.1
  have hpb := hq.pairs.2.2.2.2.1
  have HIL := Lib.hid hil
  have HPL := Lib.hid hpl
  rw [stateVal_cells] at HG1 HB1 ⊢
  rw [actionVal_cells]
  go_enter Try.func6, Try.ntmps6
  go_upto_region 1 with (fail)
  obtain ⟨S3, h3⟩ : ∃ x, x = w.heap.size := ⟨_, rfl⟩
  obtain ⟨S4, h4⟩ : ∃ x, x = w.heap.size + 1 := ⟨_, rfl⟩
  rw [← h4, ← h3]
  refine wp_forget (fun W => Blk W S3 (stateCells p h).toArray 29 ∧ Blk W S4 (actionCells q g).toArray 41 ∧ Below w.heap.size w W) ⟨by rw [h3]; exact Blk.new2 _ _ _ _, by rw [h4]; exact Blk.new2' _ _ _ _, by (try unfold Kept); repeat (first | assumption | exact Below.refl _ _ | exact below_undrew (Below.refl _ _) | exact Below.mono (by assumption) (by first | (simp; done) | (simp; omega) | omega) | refine below_setRow ?_ (by first | (simp; done) | (simp; omega) | omega) _ | refine Below.setCell ?_ (by first | (simp; done) | (simp; omega) | omega) _ | refine Below.alloc ?_ (by first | (simp; done) | (simp; omega) | omega) _ | refine below_drewN ?_ _ | refine Below.drew ?_ | refine below_undrew ?_ | refine below_step ?_ (by assumption))⟩ ?_
  rintro w0 ⟨hS3, hS4, hbw0⟩
  have hge3 : w.heap.size ≤ S3 := by omega
  have hge4 : w.heap.size ≤ S4 := by omega
  clear h3 h4
  have r4 := hS4.rule
  unfold actionCells at r4
  go_wp2_with (refine wpList_load_blkw (by rfl) 29 stateT (.tmp 3) rfl rfl hS3 rfl ?_)
  refine (HG1.out _ hbw0).mono ?_
  rintro e w1 ⟨rfl, hb1⟩
  replace hS3 := hS3.old hb1
  replace hS4 := hS4.old hb1
  clear r4
  have r4 := hS4.rule
  unfold actionCells at r4
  have hbw1 := below_step hbw0 hb1
  clear hb1 hbw0
  rcases kp with rfl | ⟨rfl, kp⟩
  · go_wp2_with fail
    refine (wakes_any _).mono ?_
    rintro e w2 ⟨rfl, hb2⟩
    go_wp2_with fail
    go_ret
    exact ⟨rfl, below_step hbw1 hb2⟩
  have hsum : IntKind.i64.wrap ((g.ids.n : Int) + (g.pairs.n : Int)) = (g.ids.n : Int) + (g.pairs.n : Int) := by rw [IntKind.wrap_i64]; omega
  by_cases hm : 500 < g.ids.n + g.pairs.n
  · have d1 : decide ((500 : Int) < (g.ids.n : Int) + (g.pairs.n : Int)) = true := by simp; omega
    go_wp2_with fail
    refine (wakes_any _).mono ?_
    rintro e w2 ⟨rfl, hb2⟩
    go_wp2_with fail
    go_ret
    exact ⟨rfl, below_step hbw1 hb2⟩
  have d1 : decide ((500 : Int) < (g.ids.n : Int) + (g.pairs.n : Int)) = false := by simp; omega
  by_cases hm2 : 20000 < n2
  · have d2 : decide ((20000 : Int) < (n2 : Int)) = true := by simp; omega
    go_wp2_with fail
    refine (wakes_any _).mono ?_
    rintro e w2 ⟨rfl, hb2⟩
    go_wp2_with fail
    go_ret
    exact ⟨rfl, below_step hbw1 hb2⟩
  have d2 : decide ((20000 : Int) < (n2 : Int)) = false := by simp; omega
  have hsm := stateI_small (w := w) (h := h) kp
  have hsa := actionI_small (w := w) (h := g) (p := q) (by rw [HIL.out, HPL.out]; omega)
  go_wp2_with (refine wpList_load_blkw (by rfl) 29 stateT (.tmp 3) rfl rfl hS3 rfl ?_)
  refine (HB1.out _ hbw1 kp).mono ?_
  rintro e w2 ⟨a1, c1, rfl, hown, hb2⟩
  have hbw2 : Below w.heap.size w w2 := below_step hbw1 hb2
  replace hS3 := hS3.old hb2
  replace hS4 := hS4.old hb2
  have cr := read_any w2 a1 _ c1 _ hown.row rfl (by omega)
  rw [readS_back hok] at cr
  clear r4 d1 d2 hsum hb2 hbw1
  go_wp2_with fail
  refine cr.mono ?_
  clear cr
  rintro e w3 ⟨h5, rfl, hown5, hb3⟩
  have hst5 := hown5.at
  replace hS3 := hS3.old hb3
  replace hS4 := hS4.old hb3
  have hbw3 := below_step hbw2 hb3
  rw [stateVal_cells]
  go_upto_region 4 with (refine wpList_store_blk rfl 29 stateT (.tmp 7) _ rfl rfl rfl (Blk.new _ _ _) rfl rfl (by rfl) ?_)
  obtain ⟨T7, h7⟩ : ∃ x, x = w3.heap.size := ⟨_, rfl⟩
  rw [← h7]
  refine wp_forget (fun W => Blk W T7 (stateCells p h5).toArray 29 ∧ Below w3.heap.size w3 W) ⟨by rw [h7]; exact (Blk.new _ _ _).setRow _, by rw [h7]; exact below_setRow ((Below.refl _ _).alloc (Nat.le_refl _) _) (Nat.le_refl _) _⟩ ?_
  rintro w4 ⟨hT7, hb4⟩
  have hge7 : w.heap.size ≤ T7 := by have := hbw3.size; omega
  clear h7 hown hown5 hb3
  replace hst5 := hst5.old hb4
  replace hS3 := hS3.old hb4
  replace hS4 := hS4.old hb4
  have hbw4 := below_step hbw3 hb4
  clear hb4 hbw3 hbw2
  have ca := actbytes_w w4 q g (hq.old hbw4) (by omega)
  rw [actionVal_cells] at ca
  go_wp2_with (refine wpList_load_blkw (by rfl) 41 actionT (.tmp 4) rfl rfl hS4 rfl ?_)
  refine ca.mono ?_
  clear ca
  rintro e w5 ⟨a5, c5, rfl, hown, hb5⟩
  have hbw5 : Below w.heap.size w w5 := below_step hbw4 hb5
  replace hS3 := hS3.old hb5
  replace hS4 := hS4.old hb5
  replace hT7 := hT7.old hb5
  replace hst5 := hst5.old hb5
  have cr := readact_any w5 a5 _ c5 _ hown.row rfl (by omega)
  rw [readA_back hqk] at cr
  clear hb5 hbw4
  go_wp2_with fail
  refine cr.mono ?_
  clear cr
  rintro e w6 ⟨g6, rfl, hown6, hb6⟩
  have hat6 := hown6.at
  have hbw6 : Below w.heap.size w w6 := below_step hbw5 hb6
  replace hS3 := hS3.old hb6
  replace hS4 := hS4.old hb6
  replace hT7 := hT7.old hb6
  replace hst5 := hst5.old hb6
  rw [actionVal_cells]
  go_upto_region 5 with (refine wpList_store_blk rfl 41 actionT (.tmp 10) _ rfl rfl rfl (Blk.new _ _ _) rfl rfl (by rfl) ?_)
  obtain ⟨T10, h10⟩ : ∃ x, x = w6.heap.size := ⟨_, rfl⟩
  rw [← h10]
  refine wp_forget (fun W => Blk W T10 (actionCells q g6).toArray 41 ∧ Below w6.heap.size w6 W) ⟨by rw [h10]; exact (Blk.new _ _ _).setRow _, by rw [h10]; exact below_setRow ((Below.refl _ _).alloc (Nat.le_refl _) _) (Nat.le_refl _) _⟩ ?_
  rintro w7 ⟨hT10, hb7⟩
  have hge10 : w.heap.size ≤ T10 := by have := hbw6.size; omega
  clear h10 hown hown6 hb6
  have hbw7 := below_step hbw6 hb7
  replace hS3 := hS3.old hb7
  replace hS4 := hS4.old hb7
  replace hT7 := hT7.old hb7
  replace hst5 := hst5.old hb7
  replace hat6 := hat6.old hb7
  clear hb7 hbw6 hbw5
  have cs := sameState_any p p h h5 w7 (ha.old hbw7) hst5
  rw [decide_eq_true rfl, stateVal_cells, stateVal_cells] at cs
  go_wp2_with (first | refine wpList_load_blkw (by rfl) 29 stateT (.tmp 3) rfl rfl hS3 rfl ?_ | refine wpList_load_blkw (by rfl) 29 stateT (.tmp 7) rfl rfl hT7 rfl ?_)
  refine cs.mono ?_
  clear cs
  rintro e w8 ⟨rfl, hb8⟩
  have hbw8 := below_step hbw7 hb8
  replace hS4 := hS4.old hb8
  replace hT7 := hT7.old hb8
  replace hT10 := hT10.old hb8
  replace hat6 := hat6.old hb8
  have cs := sameAct_any w8 q g g6 (hq.old hbw8) hat6
  rw [actionVal_cells, actionVal_cells] at cs
  clear hb8 hbw7 hS3
  go_wp2_with (first | refine wpList_load_blkw (by rfl) 41 actionT (.tmp 4) rfl rfl hS4 rfl ?_ | refine wpList_load_blkw (by rfl) 41 actionT (.tmp 10) rfl rfl hT10 rfl ?_)
  refine cs.mono ?_
  clear cs
  rintro e w9 ⟨rfl, hb9⟩
  have hbw9 := below_step hbw8 hb9
  replace hT7 := hT7.old hb9
  replace hT10 := hT10.old hb9
  clear hb9 hbw8 hS4 hat6
  have cr := read_any w9 a2 n2 c2 l2 (hl.below hbw9) HN2.out (by omega)
  have h107 : T10 ≠ T7 := hT10.ne hT7 (by decide)
  rcases readS_cases l2 with ⟨k, hR⟩ | ⟨p2, hR, henc⟩
  · rw [hR] at cr
    go_wp2_with fail
    refine cr.mono ?_
    clear cr
    rintro e w10 ⟨h9, rfl, hown9, hb10⟩
    have hbw10 := below_step hbw9 hb10
    replace hT7 := hT7.old hb10
    replace hT10 := hT10.old hb10
    rw [stateVal_cells]
    go_upto_region 8 with (refine wpList_store_blk rfl 29 stateT (.tmp 7) _ rfl rfl rfl hT7 rfl rfl (by rfl) ?_)
    refine wp_forget (fun W => Blk W T10 (actionCells q g6).toArray 41 ∧ Below w.heap.size w W) ⟨(Go.setRow_other _ _ _ _ h107).trans hT10, below_setRow hbw10 hge7 _⟩ ?_
    clear hT7 hT10 hbw10 hbw9 hown9 hb10
    rintro w11 ⟨hT10, hbw11⟩
    go_quiet (fail)
    go_upto_region 10 with (fail)
    refine wp_forget (fun W => Blk W T10 (actionCells q g6).toArray 41 ∧ Below w.heap.size w W) ⟨hT10, below_drewN hbw11 _⟩ ?_
    clear hT10 hbw11
    rintro w12 ⟨hT10, hbwX⟩
    have ca := readact_any w12 a2 n2 c2 l2 (hl.below hbwX) HN2.out (by omega)
    rcases readA_cases l2 with ⟨k2, hR2⟩ | ⟨q2, hR2, henc2⟩
    · rw [hR2] at ca
      go_wp2_with fail
      refine ca.mono ?_
      clear ca
      rintro e wa ⟨ga, rfl, howna, hba⟩
      have hbwa := below_step hbwX hba
      replace hT10 := hT10.old hba
      rw [actionVal_cells]
      go_upto_region 11 with (refine wpList_store_blk rfl 41 actionT (.tmp 10) _ rfl rfl rfl hT10 rfl rfl (by rfl) ?_)
      refine wp_forget (fun W => Below w.heap.size w W) (below_setRow hbwa hge10 _) ?_
      intro wb hbwb
      go_quiet (fail)
      go_wp2_with fail
      refine (wakes_any _).mono ?_
      rintro e wc ⟨rfl, hbc⟩
      go_wp2_with fail
      go_ret
      exact ⟨rfl, below_step (below_drewN hbwb _) hbc⟩
    · rw [hR2] at ca
      go_wp2_with fail
      refine ca.mono ?_
      clear ca
      rintro e wa ⟨ga, rfl, howna, hba⟩
      have hbwa := below_step hbwX hba
      have hT10z : T10 < w12.heap.size := hT10.lt
      replace hT10 := hT10.old hba
      rw [actionVal_cells]
      go_upto_region 11 with (refine wpList_store_blk rfl 41 actionT (.tmp 10) _ rfl rfl rfl hT10 rfl rfl (by rfl) ?_)
      refine wp_forget (fun W => Blk W T10 (actionCells q2 ga).toArray 41 ∧ ActionAt W q2 ga ∧ Below w.heap.size w W) ⟨hT10.setRow _, (howna.setRow T10 _ hT10z).at, below_setRow hbwa hge10 _⟩ ?_
      rintro wb ⟨hTb, hatb, hbwb⟩
      have k2 := str_of wb.drew a2 n2 c2 l2 (hl.below hbwb.drew) HN2.out
      have hTl := hTb.lt
      go_upto_region 11 with (fail)
      refine wp_region_old (0 :: 1 :: 2 :: 3 :: 6 :: 7 :: 4 :: 5 :: 8 :: 9 :: []) (by kernel_rfl) (by kernel_rfl) (fun c a d v w h => by cases d <;> exact h) ?_
      repeat (first | (refine lex_skip rfl (by rfl) ?_; simp only [Act.put, List.setIfInBounds_toArray, List.set]) | (refine lex_quiet (v := ?_) rfl rfl (by rfl) ?_ ?_; rotate_left; (intro W hW; go_simp); (try with_reducible rfl); simp only [Act.put, List.setIfInBounds_toArray, List.set]))
      refine lex_quiet (v := .agg (actionCells q2 ga).toArray) rfl rfl (by rfl) (fun W hW => exec_load_as 41 actionT (.tmp 10) rfl rfl rfl (Blk.cells (hTb.drew.old hW)) rfl) ?_
      simp only [Act.put, List.setIfInBounds_toArray, List.set]
      repeat (first | (refine lex_skip rfl (by rfl) ?_; simp only [Act.put, List.setIfInBounds_toArray, List.set]) | (refine lex_quiet (v := ?_) rfl rfl (by rfl) ?_ ?_; rotate_left; (intro W hW; go_simp); (try with_reducible rfl); simp only [Act.put, List.setIfInBounds_toArray, List.set]))
      refine lex_loud rfl rfl (by rfl) (fun K hK => ?_); go_wp2_with fail
      have cc := actbytes_w wb.drew q2 ga (hatb.old (by (try unfold Kept); repeat (first | assumption | exact Below.refl _ _ | exact below_undrew (Below.refl _ _) | exact Below.mono (by assumption) (by first | (simp; done) | (simp; omega) | omega) | refine below_setRow ?_ (by first | (simp; done) | (simp; omega) | omega) _ | refine Below.setCell ?_ (by first | (simp; done) | (simp; omega) | omega) _ | refine Below.alloc ?_ (by first | (simp; done) | (simp; omega) | omega) _ | refine below_drewN ?_ _ | refine Below.drew ?_ | refine below_undrew ?_ | refine below_step ?_ (by assumption)))) (by rw [henc2, HN2.out]; omega)
      rw [actionVal_cells, henc2, HN2.out] at cc
      refine cc.mono ?_
      clear cc
      rintro e wc ⟨ac, cc, rfl, hownc, hbc⟩
      have k1 := str_of wc ac n2 cc l2 hownc.row HN2.out
      have hbwc := below_step hbwb.drew hbc
      go_wp2_with fail
      refine hK _ _ hbc ?_
      clear hK K
      repeat (first | (refine lex_skip rfl (by rfl) ?_; simp only [Act.put, List.setIfInBounds_toArray, List.set]) | (refine lex_quiet (v := ?_) rfl rfl (by rfl) ?_ ?_; rotate_left; (intro W hW; go_simp); (try with_reducible rfl); simp only [Act.put, List.setIfInBounds_toArray, List.set]))
      refine lex_nil ?_
      clear k1 k2
      go_wp2_with fail
      refine (wakes_any _).mono ?_
      rintro e wd ⟨rfl, hbd⟩
      go_wp2_with fail
      go_ret
      exact ⟨rfl, below_step hbwc hbd⟩
  · rw [hR] at cr
    go_wp2_with fail
    refine cr.mono ?_
    clear cr
    rintro e w10 ⟨h9, rfl, hown9, hb10⟩
    have hbw10 := below_step hbw9 hb10
    have hT7z : T7 < w9.heap.size := hT7.lt
    replace hT7 := hT7.old hb10
    replace hT10 := hT10.old hb10
    rw [stateVal_cells]
    go_upto_region 8 with (refine wpList_store_blk rfl 29 stateT (.tmp 7) _ rfl rfl rfl hT7 rfl rfl (by rfl) ?_)
    refine wp_forget (fun W => Blk W T10 (actionCells q g6).toArray 41 ∧ Blk W T7 (stateCells p2 h9).toArray 29 ∧ StateOwn W w9.heap.size p2 h9 ∧ Below w.heap.size w W) ⟨(Go.setRow_other _ _ _ _ h107).trans hT10, hT7.setRow _, hown9.setRow T7 _ hT7z, below_setRow hbw10 hge7 _⟩ ?_
    clear hT7 hT10 hbw10 hbw9 hown9 hb10
    rintro w11 ⟨hT10, hT7, hown, hbw11⟩
    have k2 := str_of w11.drew a2 n2 c2 l2 (hl.below hbw11.drew) HN2.out
    refine wp_region_old (0 :: 1 :: 2 :: 3 :: 6 :: 7 :: 4 :: 5 :: 8 :: 9 :: []) (by kernel_rfl) (by kernel_rfl) (fun c a d v w h => by cases d <;> exact h) ?_
    repeat (first | (refine lex_skip rfl (by rfl) ?_; simp only [Act.put, List.setIfInBounds_toArray, List.set]) | (refine lex_quiet (v := ?_) rfl rfl (by rfl) ?_ ?_; rotate_left; (intro W hW; go_simp); (try with_reducible rfl); simp only [Act.put, List.setIfInBounds_toArray, List.set]))
    refine lex_quiet (v := .agg (stateCells p2 h9).toArray) rfl rfl (by rfl) (fun W hW => exec_load_as 29 stateT (.tmp 7) rfl rfl rfl (Blk.cells (hT7.drew.old hW)) rfl) ?_
    simp only [Act.put, List.setIfInBounds_toArray, List.set]
    repeat (first | (refine lex_skip rfl (by rfl) ?_; simp only [Act.put, List.setIfInBounds_toArray, List.set]) | (refine lex_quiet (v := ?_) rfl rfl (by rfl) ?_ ?_; rotate_left; (intro W hW; go_simp); (try with_reducible rfl); simp only [Act.put, List.setIfInBounds_toArray, List.set]))
    refine lex_loud rfl rfl (by rfl) (fun K hK => ?_); go_wp2_with fail
    have hd : Below w11.heap.size w11 w11.drew := by (try unfold Kept); repeat (first | assumption | exact Below.refl _ _ | exact below_undrew (Below.refl _ _) | exact Below.mono (by assumption) (by first | (simp; done) | (simp; omega) | omega) | refine below_setRow ?_ (by first | (simp; done) | (simp; omega) | omega) _ | refine Below.setCell ?_ (by first | (simp; done) | (simp; omega) | omega) _ | refine Below.alloc ?_ (by first | (simp; done) | (simp; omega) | omega) _ | refine below_drewN ?_ _ | refine Below.drew ?_ | refine below_undrew ?_ | refine below_step ?_ (by assumption))
    have hat := hown.at.old hd
    have cc := bytes_w w11.drew p2 h9 hat (OwnThings.free (hown.x.units.old hd)) (OwnThings.free (hown.y.units.old hd)) (by rw [henc, HN2.out]; omega)
    rw [stateVal_cells, henc, HN2.out] at cc
    refine cc.mono ?_
    clear cc
    rintro e w12 ⟨ac, cc, rfl, hownc, hbc⟩
    have k1 := str_of w12 ac n2 cc l2 hownc.row HN2.out
    have hbw12 := below_step hbw11.drew hbc
    replace hT10 := hT10.drew.old hbc
    go_wp2_with fail
    refine hK _ _ hbc ?_
    clear hK K
    repeat (first | (refine lex_skip rfl (by rfl) ?_; simp only [Act.put, List.setIfInBounds_toArray, List.set]) | (refine lex_quiet (v := ?_) rfl rfl (by rfl) ?_ ?_; rotate_left; (intro W hW; go_simp); (try with_reducible rfl); simp only [Act.put, List.setIfInBounds_toArray, List.set]))
    refine lex_nil ?_
    clear k1 k2 hown hat
    go_upto_region 10 with (fail)
    have hbwX := hbw12
    have ca := readact_any w12 a2 n2 c2 l2 (hl.below hbwX) HN2.out (by omega)
    rcases readA_cases l2 with ⟨k2, hR2⟩ | ⟨q2, hR2, henc2⟩
    · rw [hR2] at ca
      go_wp2_with fail
      refine ca.mono ?_
      clear ca
      rintro e wa ⟨ga, rfl, howna, hba⟩
      have hbwa := below_step hbwX hba
      replace hT10 := hT10.old hba
      rw [actionVal_cells]
      go_upto_region 11 with (refine wpList_store_blk rfl 41 actionT (.tmp 10) _ rfl rfl rfl hT10 rfl rfl (by rfl) ?_)
      refine wp_forget (fun W => Below w.heap.size w W) (below_setRow hbwa hge10 _) ?_
      intro wb hbwb
      go_quiet (fail)
      go_wp2_with fail
      refine (wakes_any _).mono ?_
      rintro e wc ⟨rfl, hbc⟩
      go_wp2_with fail
      go_ret
      exact ⟨rfl, below_step (below_drewN hbwb _) hbc⟩
    · rw [hR2] at ca
      go_wp2_with fail
      refine ca.mono ?_
      clear ca
      rintro e wa ⟨ga, rfl, howna, hba⟩
      have hbwa := below_step hbwX hba
      have hT10z : T10 < w12.heap.size := hT10.lt
      replace hT10 := hT10.old hba
      rw [actionVal_cells]
      go_upto_region 11 with (refine wpList_store_blk rfl 41 actionT (.tmp 10) _ rfl rfl rfl hT10 rfl rfl (by rfl) ?_)
      refine wp_forget (fun W => Blk W T10 (actionCells q2 ga).toArray 41 ∧ ActionAt W q2 ga ∧ Below w.heap.size w W) ⟨hT10.setRow _, (howna.setRow T10 _ hT10z).at, below_setRow hbwa hge10 _⟩ ?_
      rintro wb ⟨hTb, hatb, hbwb⟩
      have k2 := str_of wb.drew a2 n2 c2 l2 (hl.below hbwb.drew) HN2.out
      have hTl := hTb.lt
      go_upto_region 11 with (fail)
      refine wp_region_old (0 :: 1 :: 2 :: 3 :: 6 :: 7 :: 4 :: 5 :: 8 :: 9 :: []) (by kernel_rfl) (by kernel_rfl) (fun c a d v w h => by cases d <;> exact h) ?_
      repeat (first | (refine lex_skip rfl (by rfl) ?_; simp only [Act.put, List.setIfInBounds_toArray, List.set]) | (refine lex_quiet (v := ?_) rfl rfl (by rfl) ?_ ?_; rotate_left; (intro W hW; go_simp); (try with_reducible rfl); simp only [Act.put, List.setIfInBounds_toArray, List.set]))
      refine lex_quiet (v := .agg (actionCells q2 ga).toArray) rfl rfl (by rfl) (fun W hW => exec_load_as 41 actionT (.tmp 10) rfl rfl rfl (Blk.cells (hTb.drew.old hW)) rfl) ?_
      simp only [Act.put, List.setIfInBounds_toArray, List.set]
      repeat (first | (refine lex_skip rfl (by rfl) ?_; simp only [Act.put, List.setIfInBounds_toArray, List.set]) | (refine lex_quiet (v := ?_) rfl rfl (by rfl) ?_ ?_; rotate_left; (intro W hW; go_simp); (try with_reducible rfl); simp only [Act.put, List.setIfInBounds_toArray, List.set]))
      refine lex_loud rfl rfl (by rfl) (fun K hK => ?_); go_wp2_with fail
      have cc := actbytes_w wb.drew q2 ga (hatb.old (by (try unfold Kept); repeat (first | assumption | exact Below.refl _ _ | exact below_undrew (Below.refl _ _) | exact Below.mono (by assumption) (by first | (simp; done) | (simp; omega) | omega) | refine below_setRow ?_ (by first | (simp; done) | (simp; omega) | omega) _ | refine Below.setCell ?_ (by first | (simp; done) | (simp; omega) | omega) _ | refine Below.alloc ?_ (by first | (simp; done) | (simp; omega) | omega) _ | refine below_drewN ?_ _ | refine Below.drew ?_ | refine below_undrew ?_ | refine below_step ?_ (by assumption)))) (by rw [henc2, HN2.out]; omega)
      rw [actionVal_cells, henc2, HN2.out] at cc
      refine cc.mono ?_
      clear cc
      rintro e wc ⟨ac, cc, rfl, hownc, hbc⟩
      have k1 := str_of wc ac n2 cc l2 hownc.row HN2.out
      have hbwc := below_step hbwb.drew hbc
      go_wp2_with fail
      refine hK _ _ hbc ?_
      clear hK K
      repeat (first | (refine lex_skip rfl (by rfl) ?_; simp only [Act.put, List.setIfInBounds_toArray, List.set]) | (refine lex_quiet (v := ?_) rfl rfl (by rfl) ?_ ?_; rotate_left; (intro W hW; go_simp); (try with_reducible rfl); simp only [Act.put, List.setIfInBounds_toArray, List.set]))
      refine lex_nil ?_
      clear k1 k2
      go_wp2_with fail
      refine (wakes_any _).mono ?_
      rintro e wd ⟨rfl, hbd⟩
      go_wp2_with fail
      go_ret
      exact ⟨rfl, below_step hbwc hbd⟩
end Go.Proofs.Ytdokkhjgmhcpkaa
