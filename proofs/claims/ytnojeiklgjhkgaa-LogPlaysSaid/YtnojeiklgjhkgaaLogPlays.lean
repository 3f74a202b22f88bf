/- A log on a disk that crashes, act by act. -/
import Derived.Test.YtnojeiklgjhkgaaLogStep
namespace Go.Proofs.Ytnojeiklgjhkgaa
open Go.RowKit Go.Maps
set_option linter.unusedVariables false
set_option linter.unusedSimpArgs false

/-- Whoever reads behind the first great call: a row stays; once anything has been laid, all stays. -/
structure RelS (b : Nat) (w0 X Y : World) : Prop where
  size : X.heap.size ≤ Y.heap.size
  row : b < w0.heap.size → X.heap[b]? = w0.heap[b]? → Y.heap[b]? = w0.heap[b]?
  all : w0.heap.size < X.heap.size → Old X Y
theorem RelS.refl (b : Nat) (w0 X : World) : RelS b w0 X X := ⟨Nat.le_refl _, fun _ h => h, fun _ => Old.refl _⟩
theorem RelS.trans {b : Nat} {w0 X Y Z : World} (h : RelS b w0 X Y) (h' : RelS b w0 Y Z) : RelS b w0 X Z :=
  ⟨Nat.le_trans h.size h'.size, fun h1 h2 => h'.row h1 (h.row h1 h2), fun h1 => Old.trans _ _ _ (h.all h1) (h'.all (Nat.lt_of_lt_of_le h1 h.size))⟩
def BoolRes (e : Ending) : Prop := ∃ b, e = .returned (.bool b)
theorem BoolRes.of (b : Bool) : BoolRes (.returned (.bool b)) := ⟨b, rfl⟩
def GrQ (w : World) (n : Nat) (f : Nat) (v3 v4 : Value) (wr : World) : Prop := ∃ (k : Nat) (v : Int), k + f = n ∧ v4 = .int .i64 (k : Int) ∧ v3 = .int .i64 v ∧ Below w.heap.size w wr
set_option maxRecDepth 20000 in
set_option maxHeartbeats 4000000 in
theorem greatQ_any (w : World) (a : Option Addr) (n c : Nat) (l : List ActQ) (h : ActQRow w a n c l) :
    Calls Try.prog 24 #[.slice a n c] w fun e w' => BoolRes e ∧ Below w.heap.size w w' := by
  obtain ⟨hrow, hll, hle, hcm, hok⟩ := h
  have hst : GrQ w n n (.int .i64 0) (.int .i64 0) w := ⟨0, 0, by omega, rfl, rfl, Below.refl _ _⟩
  go_enter Try.func24, Try.ntmps24
  go_wp2_with fail
  go_loopg [3, 4] n (GrQ w n)
  case atStart => exact hst
  case round =>
    clear hst
    obtain ⟨k, v, hk, rfl, rfl, hb⟩ := hrel
    have hout : ∀ W, Below w.heap.size w W → True := fun _ _ => trivial
    by_cases hv : 5000 < v
    · have g1 : decide (v ≤ 5000) = false := by simp; omega
      have g2 : decide (5000 < v) = true := by simpa using hv
      by_cases hn : 100 < n
      · have g3 : decide ((100 : Int) < (n : Int)) = true := by simp; omega
        by_cases hlt : k < n
        · have t0 : decide ((k : Int) < (n : Int)) = true := by simp; omega
          by_cases h1 : k ≤ 100
          · have t1 : decide ((k : Int) ≤ 100) = true := by simp; omega
            go_wp2_with fail
            go_ret
            exact ⟨BoolRes.of _, hb⟩
          · have t1 : decide ((k : Int) ≤ 100) = false := by simp; omega
            go_wp2_with fail
            go_ret
            exact ⟨BoolRes.of _, hb⟩
        · have t0 : decide ((k : Int) < (n : Int)) = false := by simp; omega
          go_wp2_with fail
          go_ret
          exact ⟨BoolRes.of _, hb⟩
      · have g3 : decide ((100 : Int) < (n : Int)) = false := by simp; omega
        by_cases hlt : k < n
        · have t0 : decide ((k : Int) < (n : Int)) = true := by simp; omega
          have t1 : decide ((k : Int) ≤ 100) = true := by simp; omega
          go_wp2_with fail
          go_ret
          exact ⟨BoolRes.of _, hb⟩
        · have t0 : decide ((k : Int) < (n : Int)) = false := by simp; omega
          go_wp2_with fail
          go_ret
          exact ⟨BoolRes.of _, hb⟩
    · have g1 : decide (v ≤ 5000) = true := by simp; omega
      have g2 : decide (5000 < v) = false := by simpa using hv
      by_cases hlt : k < n
      · have t0 : decide ((k : Int) < (n : Int)) = true := by simp; omega
        by_cases h1 : k ≤ 100
        · have t1 : decide ((k : Int) ≤ 100) = true := by simp; omega
          obtain ⟨b, o, hab, hbl, hc⟩ := RowAt.elem (g := actQCells) (sz := 4) (fun _ => rfl) hrow (by omega) k (by omega)
          generalize l[k]'(by omega) = x at hc
          obtain ⟨gf, hgf⟩ : ∃ z, gk = z + 1 := ⟨gk - 1, by omega⟩
          have L2 : ∀ V, Old wr.drew V → V.cell? ⟨b, o + k * 4 + 2, none⟩ = some (.slice x.ba x.b.length x.bc) := fun V hV => ((below_step hb.drew hV).cell (p := ⟨b, o + k * 4 + 2, none⟩) hbl).trans (hc 2 (by simp [actQCells]))
          have L3 : ∀ V, Old wr.drew V → V.cell? ⟨b, o + k * 4 + 3, none⟩ = some (.slice x.pa x.plan.length x.pc) := fun V hV => ((below_step hb.drew hV).cell (p := ⟨b, o + k * 4 + 3, none⟩) hbl).trans (hc 3 (by simp [actQCells]))
          subst hab
          clear hc
          go_upto_region 5 with (fail)
          refine wp_region_old (0 :: 1 :: 2 :: 3 :: 4 :: 5 :: 6 :: 7 :: 8 :: 9 :: 10 :: 11 :: 12 :: 13 :: 14 :: 15 :: []) (by kernel_rfl) (by kernel_rfl) (fun c a d v w h => by cases d <;> exact h) ?_
          repeat (first | (refine lex_skip rfl (by rfl) ?_; simp only [Act.put, List.setIfInBounds_toArray, List.set]) | (refine lex_quiet (v := ?_) rfl rfl (by rfl) ?_ ?_; rotate_left; (intro W hW; go_simp); (try with_reducible rfl); simp only [Act.put, List.setIfInBounds_toArray, List.set]))
          refine lex_nil ?_
          clear L2 L3
          go_wp2_with fail
          go_roundg gf
          case measure => omega
          case rel => exact ⟨k + 1, _, by omega, by go_num, rfl, hb.drew⟩
        · have t1 : decide ((k : Int) ≤ 100) = false := by simp; omega
          have g3 : decide ((100 : Int) < (n : Int)) = true := by simp; omega
          go_wp2_with fail
          go_ret
          exact ⟨BoolRes.of _, hb⟩
      · have t0 : decide ((k : Int) < (n : Int)) = false := by simp; omega
        by_cases hn : 100 < n
        · have g3 : decide ((100 : Int) < (n : Int)) = true := by simp; omega
          go_wp2_with fail
          go_ret
          exact ⟨BoolRes.of _, hb⟩
        · have g3 : decide ((100 : Int) < (n : Int)) = false := by simp; omega
          go_wp2_with fail
          go_ret
          exact ⟨BoolRes.of _, hb⟩
theorem actT26 : AggT Try.prog 61 4 := ⟨⟨_, Try.underlying61, rfl⟩, by kernel_rfl⟩
def newRefQ (d : Nat) : RefR := { d := d, la := none, lc := 0, fs := [], down := false, armed := false, left := 0, pa := none, pc := 0, plan := [] }
theorem newRefQ_at (w : World) : RefAt (w.alloc (.cells (refHead (newRefQ w.heap.size)) 55)) w.heap.size (newRefQ w.heap.size) := by
  refine ⟨Nat.le_refl _, Blk.new _ _ _, Own.nil _ _ _ _, fun f hf => by simp [newRefQ] at hf, Own.nil _ _ _ _, ?_⟩
  exact ⟨List.nodup_nil, fun f hf => by simp [RefR.p, newRefQ] at hf, fun f hf => by simp [RefR.p, newRefQ] at hf, fun f hf => by simp [RefR.p, newRefQ] at hf, by simp [RefR.p, newRefQ], by simp [RefR.p, newRefQ]⟩
theorem newRefQ_foot {d y : Nat} (h : rfoot (newRefQ d) y) : y = d := by
  rcases h with rfl | ⟨ad, ha, rfl⟩ | ⟨f, hf, _⟩ | ⟨ad, ha, rfl⟩
  · rfl
  · simp [newRefQ] at ha
  · simp [newRefQ] at hf
  · simp [newRefQ] at ha
def PlayQ (w : World) (x n : Nat) (f : Nat) (v4 : Value) (wr : World) : Prop :=
  ∃ (k : Nat) (r : DiskR) (R : RefR) (P Q : LogR), k + f = n ∧ v4 = .int .i64 (k : Int) ∧ BothAt wr w.heap.size x r R P Q ∧ Below w.heap.size w wr
set_option maxRecDepth 20000 in
set_option maxHeartbeats 8000000 in
theorem logPlays_any (w : World) (a : Option Addr) (n c : Nat) (l : List ActQ) (h : ActQRow w a n c l) :
    Calls Try.prog 7 #[.slice a n c] w fun e w' => e = .returned (.bool true) ∧ Below w.heap.size w w' := by
  have hg := greatQ_any w a n c l h
  obtain ⟨hrow, hll, hle, hcm, hok⟩ := h
  go_enter Try.func7, Try.ntmps7
  go_wp2_with fail
  refine hg.mono ?_
  clear hg
  rintro e w1 ⟨⟨gb, rfl⟩, hb1⟩
  cases gb with
  | true =>
    go_wp2_with fail
    refine (wakes_any _).mono ?_
    rintro e w2 ⟨rfl, hb2⟩
    go_wp2_with fail
    go_ret
    exact ⟨rfl, below_step hb1 hb2⟩
  | false =>
  go_wp2_with fail
  refine (new_any' w1).mono ?_
  rintro e w2 ⟨r, rfl, hwk, hd, hb2⟩
  go_upto_region 4 with (fail)
  obtain ⟨D, hD⟩ : ∃ z, z = w2.heap.size := ⟨_, rfl⟩
  obtain ⟨x, hx⟩ : ∃ z, z = w2.heap.size + 1 := ⟨_, rfl⟩
  rw [← hx, ← hD]
  refine wp_forget (fun W => RefAt W w.heap.size (newRefQ D) ∧ Blk W x #[.pointer (some ⟨r.d, 0, none⟩), .pointer none, .pointer (some ⟨D, 0, none⟩), .pointer none] 58 ∧ Below w2.heap.size w2 W) ⟨?_, ?_, by (try unfold Kept); repeat (first | assumption | exact Below.refl _ _ | exact below_undrew (Below.refl _ _) | exact Below.mono (by assumption) (by first | (simp; done) | (simp; omega) | omega) | refine below_setRow ?_ (by first | (simp; done) | (simp; omega) | omega) _ | refine Below.setCell ?_ (by first | (simp; done) | (simp; omega) | omega) _ | refine Below.alloc ?_ (by first | (simp; done) | (simp; omega) | omega) _ | refine below_drewN ?_ _ | refine Below.drew ?_ | refine below_undrew ?_ | refine below_step ?_ (by assumption))⟩ ?_
  · have h1 := newRefQ_at w2
    rw [← hD] at h1
    have h2 := h1.old (w' := (w2.alloc (.cells (refHead (newRefQ D)) 55)).alloc (.cells #[.pointer (some ⟨r.d, 0, none⟩), .pointer none, .pointer (some ⟨D, 0, none⟩), .pointer none] 58)) ((Below.refl _ _).alloc (Nat.le_refl _) _)
    exact h2.lower (by have := hb1.size; have := hb2.size; omega)
  · rw [hx]
    have := Blk.new (w2.alloc (.cells (refHead (newRefQ D)) 55)) #[.pointer (some ⟨r.d, 0, none⟩), .pointer none, .pointer (some ⟨D, 0, none⟩), .pointer none] 58
    rw [show (w2.alloc (.cells (refHead (newRefQ D)) 55)).heap.size = w2.heap.size + 1 by simp] at this
    exact this
  rintro w3 ⟨hR, bx, hb3⟩
  have z1 := hb1.size
  have z2 := hb2.size
  have hfd : ∀ y, foot r y → y < w2.heap.size := fun y hy => (hd.lt hy).2
  have hwx : w.heap.size ≤ x := by omega
  have hap : ∀ y, foot r y → rfoot (newRefQ D) y → False := fun y h1 h2 => by have := hfd y h1; have := newRefQ_foot h2; omega
  have ho : ¬ foot r x := fun hf => by have := hfd x hf; omega
  have ho' : ¬ rfoot (newRefQ D) x := fun hf => by have := newRefQ_foot hf; omega
  have hd3 : DiskAt w3 w.heap.size r := (hd.old hb3).lower (by omega)
  have hbw3 : Below w.heap.size w w3 := below_step (below_step hb1 hb2) hb3
  clear hx hD hd hb1 hb2 hb3 z1 z2 hfd
  have hwk' := hwk.out
  have hone : OneN r.p nmLog := by rw [hwk']; intro f hf; simp [wk0] at hf
  have hE : openE r.p nmLog = 0 := by rw [hwk']; exact open_new.1
  have co := open_core w3 w.heap.size x r (newRefQ D) _ _ hd3 hR hap bx ho ho' (by rw [hwk']; rfl) hone hbw3.size
  clear hwk'
  go_wp2_with fail
  refine co.mono ?_
  clear co
  rintro e w4 ⟨rfl, hop⟩
  obtain ⟨r1, R1, P1, Q1, hB1, hbw4⟩ := open_both hd3 hR hap bx ho ho' hone hbw3.size hwx hE hop
  have c4 := hB1.blk.rule
  have hst : PlayQ w x n n (.int .i64 0) w4 := ⟨0, r1, R1, P1, Q1, by omega, rfl, hB1, hbw3.trans hbw4⟩
  clear hop hE hone ho ho' hap hd3 bx hR hbw3 hbw4 hB1
  go_upto_region 6 with (fail)
  clear c4
  go_wp2_with fail
  go_loopg [4] n (PlayQ w x n)
  case atStart => exact hst
  case round =>
    clear hst
    obtain ⟨k, r, R, P, Q, hk, rfl, hA, hb⟩ := hrel
    by_cases hlt : k < n
    · have t0 : decide ((k : Int) < (n : Int)) = true := by simp; omega
      obtain ⟨gf, hgf⟩ : ∃ z, gk = z + 1 := ⟨gk - 1, by omega⟩
      have HK1 := Lib.hid (show k + 1 + gf = n by omega)
      have hn63 : k + 1 ≤ 9223372036854775807 := by unfold maxLen at hcm; omega
      obtain ⟨b, o, hab, hbl, hc⟩ := RowAt.elem (g := actQCells) (sz := 4) (fun _ => rfl) hrow (by omega) k (by omega)
      have hokx := hok _ (List.getElem_mem (show k < l.length by omega))
      generalize l[k]'(by omega) = y at hc hokx
      have hbr : b < wr.drew.heap.size := Nat.lt_of_lt_of_le hbl hb.size
      have hrowb : wr.heap[b]? = w.heap[b]? := hb.block b hbl
      have hcw : ∀ V, RelS b wr.drew wr.drew V → ∀ j (hj : j < (actQCells y).length), V.cell? ⟨b, o + k * 4 + j, none⟩ = some (actQCells y)[j] := fun V hV j hj => by
        have h2 : V.heap[b]? = w.heap[b]? := (hV.row hbr rfl).trans hrowb
        exact (World.cell?_of_block (a := ⟨b, o + k * 4 + j, none⟩) h2).trans (hc j hj)
      subst hab
      go_upto_region 9 with (fail)
      refine wp_region_treeR false (RelS b wr.drew) (RelS.refl _ _) (fun _ _ _ h1 h2 => RelS.trans h1 h2) (.step 0 (.step 1 (.step 2 (.step 3 (.step 4 (.step 5 (.step 6 (.step 7 (.step 8 (.step 9 (.step 10 (.step 11 (.step 13 (.step 14 (.step 15 (.step 16 (.step 17 (.step 18 (.step 19 (.step 20 (.step 12 (.step 21 (.step 22 (.step 23 (.step 24 (.step 25 (.step 26 (.step 27 (.step 29 (.step 30 (.step 31 (.step 32 (.step 33 (.step 34 (.step 35 (.step 28 (.step 36 (.step 37 .done)))))))))))))))))))))))))))))))))))))) (by kernel_rfl) (by kernel_rfl) (fun c a d v w h => by cases d <;> exact h) ?_
      repeat (first | (refine tree_skip rfl (by rfl) ?_; simp only [Act.put, List.setIfInBounds_toArray, List.set]) | (refine tree_quiet (v := ?_) rfl rfl (by rfl) ?_ ?_; rotate_left; (intro W hW; go_simp); (try with_reducible rfl); simp only [Act.put, List.setIfInBounds_toArray, List.set]))
      refine tree_quiet (v := .agg (actQCells y).toArray) rfl rfl (by rfl) (fun V hV => exec_load_as 61 actT26 _ rfl rfl (cs := actQCells y) rfl (fun j hj => hcw V hV j hj) rfl) ?_
      simp only [Act.put, List.setIfInBounds_toArray, List.set]
      refine tree_loud rfl rfl (by rfl) (fun K hK => ?_)
      go_wp2_with fail
      refine (bstep_any w wr.drew x r R P Q y hb.drew (hA.keep fun _ _ => rfl) hokx).mono ?_
      rintro e w5 ⟨rfl, ⟨r5, R5, P5, Q5, hB5, hbw5⟩, hlt5⟩
      refine hK _ _ ⟨hbw5.size, fun _ _ => hbw5.block b hbl, fun h => absurd h (Nat.lt_irrefl _)⟩ ?_
      clear hK K hcw
      have hq := hB5.rdl.log.blk
      rw [hB5.ls, hB5.sure] at hq
      have L1 := fun V (hV : RelS b wr.drew w5 V) => (hB5.blk.old (hV.all hlt5)).rule
      have L3 := fun V (hV : RelS b wr.drew w5 V) => (hq.old (hV.all hlt5)).rule
      have hlen := len_any w5 w.heap.size r5.d P5 hB5.dl.log
      have hsur := lsure_any w5 w.heap.size r5.d P5 hB5.dl.log
      have hcnt := hB5.dl.log.cnt
      have hPL := hB5.dl.log.blk.lt
      obtain ⟨pn, hpn⟩ : ∃ z, z = P5.ls.length := ⟨_, rfl⟩
      rw [← hpn] at hlen L3
      clear hpn hcnt hq
      repeat (first | (refine tree_skip rfl (by rfl) ?_; simp only [Act.put, List.setIfInBounds_toArray, List.set]) | (refine tree_quiet (v := ?_) rfl rfl (by rfl) ?_ ?_; rotate_left; (intro W hW; go_simp); (try with_reducible rfl); simp only [Act.put, List.setIfInBounds_toArray, List.set]))
      refine tree_loud rfl rfl (by rfl) (fun K hK => ?_)
      go_wp2_with fail
      refine hlen.mono ?_
      rintro e V ⟨rfl, rfl⟩
      refine hK _ _ (RelS.refl _ _ _) ?_
      clear hK K hlen
      repeat (first | (refine tree_skip rfl (by rfl) ?_; simp only [Act.put, List.setIfInBounds_toArray, List.set]) | (refine tree_quiet (v := ?_) rfl rfl (by rfl) ?_ ?_; rotate_left; (intro W hW; go_simp); (try with_reducible rfl); simp only [Act.put, List.setIfInBounds_toArray, List.set]))
      refine tree_loud rfl rfl (by rfl) (fun K hK => ?_)
      go_wp2_with fail
      refine hsur.mono ?_
      rintro e V ⟨rfl, rfl⟩
      refine hK _ _ (RelS.refl _ _ _) ?_
      clear hK K hsur L1 L3
      repeat (first | (refine tree_skip rfl (by rfl) ?_; simp only [Act.put, List.setIfInBounds_toArray, List.set]) | (refine tree_quiet (v := ?_) rfl rfl (by rfl) ?_ ?_; rotate_left; (intro W hW; go_simp); (try with_reducible rfl); simp only [Act.put, List.setIfInBounds_toArray, List.set]))
      refine tree_done ?_
      go_wp2_with fail
      go_roundg gf
      case measure => omega
      case rel => exact ⟨k + 1, r5, R5, P5, Q5, HK1.out, by go_num, hB5, hb.drew.trans hbw5⟩
    · have t0 : decide ((k : Int) < (n : Int)) = false := by simp; omega
      clear hrow hok
      go_upto_region 11 with (fail)
      have hAd : BothAt wr.drew w.heap.size x r R P Q := hA.keep fun _ _ => rfl
      have L1 := fun V (hV : Old wr.drew V) => (hAd.blk.old hV).rule
      have L3 := fun V (hV : Old wr.drew V) => (hAd.rdl.log.blk.old hV).rule
      have ct := told_any wr.drew w.heap.size r.d P hAd.dl.log Q.a Q.ls.length Q.c 0 (by rw [← hA.ls]; exact hAd.rdl.log.rows.pieces) (by rw [hA.ls])
      refine wp_region_treeR true Old Old.refl Old.trans (.step 0 (.step 1 (.step 2 (.step 3 (.step 4 (.step 5 (.step 6 (.step 7 (.step 8 (.step 9 (.step 10 (.step 11 (.step 12 (.step 13 (.step 14 (.step 15 .done)))))))))))))))) (by kernel_rfl) (by kernel_rfl) (fun c a d v w h => by cases d <;> exact h) ?_
      repeat (first | (refine tree_skip rfl (by rfl) ?_; simp only [Act.put, List.setIfInBounds_toArray, List.set]) | (refine tree_quiet (v := ?_) rfl rfl (by rfl) ?_ ?_; rotate_left; (intro W hW; go_simp); (try with_reducible rfl); simp only [Act.put, List.setIfInBounds_toArray, List.set]))
      refine tree_loud rfl rfl (by rfl) (fun K hK => ?_)
      go_wp2_with fail
      refine ct.mono ?_
      clear ct
      rintro e V ⟨rfl, hv1⟩
      refine hK _ _ hv1 ?_
      clear hK K L1 L3
      repeat (first | (refine tree_skip rfl (by rfl) ?_; simp only [Act.put, List.setIfInBounds_toArray, List.set]) | (refine tree_quiet (v := ?_) rfl rfl (by rfl) ?_ ?_; rotate_left; (intro W hW; go_simp); (try with_reducible rfl); simp only [Act.put, List.setIfInBounds_toArray, List.set]))
      refine tree_loud rfl rfl (by rfl) (fun K hK => ?_)
      go_wp2_with fail
      refine (wakes_any _).mono ?_
      rintro e V2 ⟨rfl, hv2⟩
      refine hK _ _ hv2 ?_
      clear hK K
      repeat (first | (refine tree_skip rfl (by rfl) ?_; simp only [Act.put, List.setIfInBounds_toArray, List.set]) | (refine tree_quiet (v := ?_) rfl rfl (by rfl) ?_ ?_; rotate_left; (intro W hW; go_simp); (try with_reducible rfl); simp only [Act.put, List.setIfInBounds_toArray, List.set]))
      refine tree_done ?_
      go_wp2_with fail
      go_ret
      exact ⟨rfl, below_step (below_step hb.drew hv1) hv2⟩
end Go.Proofs.Ytnojeiklgjhkgaa
