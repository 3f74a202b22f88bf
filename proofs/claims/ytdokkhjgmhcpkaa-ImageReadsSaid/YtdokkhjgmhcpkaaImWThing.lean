/- Package image, writing: a thing, a pair, lists. -/
import Derived.Test.YtdokkhjgmhcpkaaImW
namespace Go.Proofs.Ytdokkhjgmhcpkaa
open Go.RowKit
set_option linter.unusedVariables false
set_option linter.unusedSimpArgs false
set_option maxRecDepth 20000

theorem WStep.cell {w w' : World} {B : Nat} {q q' : WC} (h : WStep B w q w' q') {b o : Nat} {v : Value} (hc : w.cell? ⟨b, o, none⟩ = some v) (hf : ¬ wfoot q b) : w'.cell? ⟨b, o, none⟩ = some v :=
  (World.cell?_of_block (a := ⟨b, o, none⟩) (h.turn.block b (World.block_lt_of_cell? w _ hc) hf)).trans hc
theorem WStep.frozen {w w' : World} {B : Nat} {q q' : WC} (h : WStep B w q w' q') {b o : Nat} (hb : b < w.heap.size) (hf : ¬ wfoot q b) : w'.frozen? ⟨b, o, none⟩ = w.frozen? ⟨b, o, none⟩ :=
  frozen_of_block (h.turn.block b hb hf)
theorem WStep.off {w w' : World} {B : Nat} {q q' : WC} (h : WStep B w q w' q') {b : Nat} (hb : b < w.heap.size) (hf : ¬ wfoot q b) : ¬ wfoot q' b := fun hx => by
  rcases h.foot' b hx with h1 | h1
  · exact hf h1
  · omega
theorem WAt.fresh {w : World} {B : Nat} {q : WC} (h : WAt w B q) : ¬ wfoot q w.heap.size := fun hx => by have := (h.lt hx).2; omega
theorem enc_len {α : Type} {g : α → List UInt8} {n : Nat} (h : ∀ x, (g x).length = n) : ∀ l : List α, (l.flatMap g).length = n * l.length
  | [] => rfl
  | x :: l => by rw [List.flatMap_cons, List.length_append, h, enc_len h l, List.length_cons, Nat.mul_add, Nat.mul_one, Nat.add_comm]
theorem ints_flat (l : List Int) : l.flatMap bi = l.map (Value.int .i64) := by
  induction l with
  | nil => rfl
  | cons x l ih => rw [List.flatMap_cons, ih]; rfl
/-- Cells in one block, at their places. -/
def CellsAt (w : World) (b o : Nat) (l : List Value) : Prop := ∀ j (hj : j < l.length), w.cell? ⟨b, o + j, none⟩ = some l[j]
theorem WStep.cells {w w' : World} {B : Nat} {q q' : WC} (h : WStep B w q w' q') {b o : Nat} {l : List Value} (hc : CellsAt w b o l) (hf : ¬ wfoot q b) : CellsAt w' b o l := fun j hj => h.cell (hc j hj) hf
set_option maxHeartbeats 2000000 in
theorem thing_w (w : World) (B : Nat) (q : WC) (b o : Nat) (u : ThingL) (hq : WAt w B q) (hB : B ≤ w.heap.size) (hx : CellsAt w b o u.cells) (hfz : w.frozen? ⟨b, o + 3, none⟩ = false) (hf : ¬ wfoot q b) (hz : q.bs.length + 100 < 1000000000000) :
    Calls Try.prog 63 #[.pointer (some ⟨q.c, 0, none⟩), .pointer (some ⟨b, o, none⟩)] w fun e w' => e = .returned (.tuple #[]) ∧ ∃ q', Hid (q'.bs = q.bs ++ thingB u) ∧ WStep B w q w' q' := by
  obtain ⟨i, c, h, t⟩ := u
  have x0 : w.cell? ⟨b, o, none⟩ = some (.int .i64 i) := hx 0 (by show 0 < 4; omega)
  have x1 : w.cell? ⟨b, o + 1, none⟩ = some (.int .i64 c) := hx 1 (by show 1 < 4; omega)
  have x2 : w.cell? ⟨b, o + 2, none⟩ = some (.int .i64 h) := hx 2 (by show 2 < 4; omega)
  have x3 : w.cell? ⟨b, o + 3, none⟩ = some (.bool t) := hx 3 (by show 3 < 4; omega)
  have hbl := World.block_lt_of_cell? w _ x0
  clear hx
  go_enter Try.func63, Try.ntmps63
  go_wp2_with fail
  refine wp_region_treeR false (KeepAt (fun _ => False)) (KeepAt.refl _) (fun _ _ _ h1 h2 => KeepAt.trans h1 h2) (.step 0 (.step 1 (.step 2 (.step 3 (.step 4 (.step 5 (.step 6 (.step 7 (.step 8 (.step 9 (.step 10 (.step 11 .done)))))))))))) (by kernel_rfl) (by kernel_rfl) (fun c a d v w h => by cases d <;> exact h) ?_
  repeat (first | (refine tree_skip rfl (by rfl) ?_; simp only [Act.put, List.setIfInBounds_toArray, List.set]) | (refine tree_quiet (v := ?_) rfl rfl (by rfl) ?_ ?_; rotate_left; (intro W hW; go_simp); (try with_reducible rfl); simp only [Act.put, List.setIfInBounds_toArray, List.set]))
  refine tree_loud rfl rfl (by rfl) (fun K hK => ?_); go_wp2_with fail
  refine hK _ _ ⟨by simp, fun _ h => h.elim⟩ ?_
  clear hK K
  repeat (first | (refine tree_skip rfl (by rfl) ?_; simp only [Act.put, List.setIfInBounds_toArray, List.set]) | (refine tree_quiet (v := ?_) rfl rfl (by rfl) ?_ ?_; rotate_left; (intro W hW; go_simp); (try with_reducible rfl); simp only [Act.put, List.setIfInBounds_toArray, List.set]))
  refine tree_loud rfl rfl (by rfl) (fun K hK => ?_); go_wp2_with fail
  have hb1 : Below w.heap.size w (w.alloc (.cells #[.pointer (some ⟨b, o, none⟩), .pointer (some ⟨b, o + 1, none⟩), .pointer (some ⟨b, o + 2, none⟩)] 80)).drew := by (try unfold Kept); repeat (first | assumption | exact Below.refl _ _ | exact below_undrew (Below.refl _ _) | exact Below.mono (by assumption) (by first | (simp; done) | (simp; omega) | omega) | refine below_setRow ?_ (by first | (simp; done) | (simp; omega) | omega) _ | refine Below.setCell ?_ (by first | (simp; done) | (simp; omega) | omega) _ | refine Below.alloc ?_ (by first | (simp; done) | (simp; omega) | omega) _ | refine below_drewN ?_ _ | refine Below.drew ?_ | refine below_undrew ?_ | refine below_step ?_ (by assumption))
  have cb := nums_w _ B q w.heap.size 3 [(b, o, i), (b, o + 1, c), (b, o + 2, h)] (hq.old hb1) (Nat.le_trans hB hb1.size) (Blk.new w #[.pointer (some ⟨b, o, none⟩), .pointer (some ⟨b, o + 1, none⟩), .pointer (some ⟨b, o + 2, none⟩)] 80).drew hq.fresh rfl (fun x hx => by
    simp only [List.mem_cons, List.mem_nil_iff, or_false] at hx
    rcases hx with rfl | rfl | rfl
    · exact ⟨by rw [hb1.cell (p := ⟨b, _, none⟩) hbl]; exact x0, hf⟩
    · exact ⟨by rw [hb1.cell (p := ⟨b, _, none⟩) hbl]; exact x1, hf⟩
    · exact ⟨by rw [hb1.cell (p := ⟨b, _, none⟩) hbl]; exact x2, hf⟩) (by omega)
  refine cb.mono ?_
  clear cb
  rintro e w2 ⟨rfl, q2, hbs2, hs2⟩
  have hz2 := hs2.turn.size
  replace hs2 := hs2.pre hb1
  go_wp2_with fail
  refine hK _ _ ⟨by simpa using hz2, fun _ h => h.elim⟩ ?_
  clear hK K
  refine tree_done ?_
  have x32 := hs2.cell x3 hf
  have z32 := (hs2.frozen (o := o + 3) hbl hf).trans hfz
  have hl2 : q2.bs.length + 8 < 1000000000000 := by rw [hbs2.out]; simp [be8_length]; omega
  have cb := truth_w w2 B q2 b (o + 3) t hs2.at' (Nat.le_trans hB hs2.turn.size) x32 z32 (hs2.off hbl hf) hl2
  rw [hs2.c] at cb
  go_wp2_with fail
  refine cb.mono ?_
  rintro e w3 ⟨rfl, q3, hbs3, hs3⟩
  go_wp2_with fail
  refine bodyPost_end (v := .tuple #[]) (results_none rfl _ _ _) rfl ⟨rfl, q3, Lib.hid ?_, hs2.trans hs3⟩
  rw [hbs3.out, hbs2.out]
  simp [thingB]
set_option maxHeartbeats 2000000 in
theorem pair_w (w : World) (B : Nat) (q : WC) (b o : Nat) (u : PairL) (hq : WAt w B q) (hB : B ≤ w.heap.size) (hx : CellsAt w b o u.cells) (hf : ¬ wfoot q b) (hz : q.bs.length + 100 < 1000000000000) :
    Calls Try.prog 53 #[.pointer (some ⟨q.c, 0, none⟩), .pointer (some ⟨b, o, none⟩)] w fun e w' => e = .returned (.tuple #[]) ∧ ∃ q', Hid (q'.bs = q.bs ++ pairB u) ∧ WStep B w q w' q' := by
  obtain ⟨i, c⟩ := u
  have x0 : w.cell? ⟨b, o, none⟩ = some (.int .i64 i) := hx 0 (by show 0 < 2; omega)
  have x1 : w.cell? ⟨b, o + 1, none⟩ = some (.int .i64 c) := hx 1 (by show 1 < 2; omega)
  have hbl := World.block_lt_of_cell? w _ x0
  clear hx
  go_enter Try.func53, Try.ntmps53
  go_wp2_with fail
  refine wp_region_treeR false (KeepAt (fun _ => False)) (KeepAt.refl _) (fun _ _ _ h1 h2 => KeepAt.trans h1 h2) (.step 0 (.step 1 (.step 2 (.step 3 (.step 4 (.step 5 (.step 6 (.step 7 (.step 8 .done))))))))) (by kernel_rfl) (by kernel_rfl) (fun c a d v w h => by cases d <;> exact h) ?_
  repeat (first | (refine tree_skip rfl (by rfl) ?_; simp only [Act.put, List.setIfInBounds_toArray, List.set]) | (refine tree_quiet (v := ?_) rfl rfl (by rfl) ?_ ?_; rotate_left; (intro W hW; go_simp); (try with_reducible rfl); simp only [Act.put, List.setIfInBounds_toArray, List.set]))
  refine tree_loud rfl rfl (by rfl) (fun K hK => ?_); go_wp2_with fail
  refine hK _ _ ⟨by simp, fun _ h => h.elim⟩ ?_
  clear hK K
  repeat (first | (refine tree_skip rfl (by rfl) ?_; simp only [Act.put, List.setIfInBounds_toArray, List.set]) | (refine tree_quiet (v := ?_) rfl rfl (by rfl) ?_ ?_; rotate_left; (intro W hW; go_simp); (try with_reducible rfl); simp only [Act.put, List.setIfInBounds_toArray, List.set]))
  refine tree_loud rfl rfl (by rfl) (fun K hK => ?_); go_wp2_with fail
  have hb1 : Below w.heap.size w (w.alloc (.cells #[.pointer (some ⟨b, o, none⟩), .pointer (some ⟨b, o + 1, none⟩)] 80)).drew := by (try unfold Kept); repeat (first | assumption | exact Below.refl _ _ | exact below_undrew (Below.refl _ _) | exact Below.mono (by assumption) (by first | (simp; done) | (simp; omega) | omega) | refine below_setRow ?_ (by first | (simp; done) | (simp; omega) | omega) _ | refine Below.setCell ?_ (by first | (simp; done) | (simp; omega) | omega) _ | refine Below.alloc ?_ (by first | (simp; done) | (simp; omega) | omega) _ | refine below_drewN ?_ _ | refine Below.drew ?_ | refine below_undrew ?_ | refine below_step ?_ (by assumption))
  have cb := nums_w _ B q w.heap.size 2 [(b, o, i), (b, o + 1, c)] (hq.old hb1) (Nat.le_trans hB hb1.size) (Blk.new w #[.pointer (some ⟨b, o, none⟩), .pointer (some ⟨b, o + 1, none⟩)] 80).drew hq.fresh rfl (fun x hx => by
    simp only [List.mem_cons, List.mem_nil_iff, or_false] at hx
    rcases hx with rfl | rfl
    · exact ⟨by rw [hb1.cell (p := ⟨b, _, none⟩) hbl]; exact x0, hf⟩
    · exact ⟨by rw [hb1.cell (p := ⟨b, _, none⟩) hbl]; exact x1, hf⟩) (by omega)
  refine cb.mono ?_
  clear cb
  rintro e w2 ⟨rfl, q2, hbs2, hs2⟩
  have hz2 := hs2.turn.size
  replace hs2 := hs2.pre hb1
  go_wp2_with fail
  refine hK _ _ ⟨by simpa using hz2, fun _ h => h.elim⟩ ?_
  clear hK K
  refine tree_done ?_
  go_wp2_with fail
  refine bodyPost_end (v := .tuple #[]) (results_none rfl _ _ _) rfl ⟨rfl, q2, Lib.hid ?_, hs2⟩
  rw [hbs2.out]
  simp [pairB]
def ListintW (w : World) (B : Nat) (q : WC) (l : List Int) (f : Nat) (v50 : Value) (wr : World) : Prop :=
  ∃ (k : Nat) (q' : WC), k + f = l.length ∧ v50 = .int .i64 (k : Int) ∧ Hid (q'.bs = q.bs ++ be8 l.length ++ (l.take k).flatMap be8) ∧ WStep B w q wr q'
set_option maxHeartbeats 4000000 in
theorem list_int_w (w : World) (B : Nat) (q : WC) (xb xo : Nat) (s : Sl) (l : List Int) (hq : WAt w B q) (hB : B ≤ w.heap.size) (hx : w.cell? ⟨xb, xo, none⟩ = some (.slice s.a s.n s.c)) (hl : Ints w s l) (hfx : ¬ wfoot q xb) (hfl : l ≠ [] → ∀ ad, s.a = some ad → ¬ wfoot q ad.block) (hz : q.bs.length + 8 * s.n + 200 < 1000000000000) :
    Calls Try.prog 45 #[.pointer (some ⟨q.c, 0, none⟩), .pointer (some ⟨xb, xo, none⟩), .int .i64 8, .func (.func 46) #[.pointer (some ⟨q.c, 0, none⟩)] #[]] w fun e w' => e = .returned (.tuple #[]) ∧ ∃ q', Hid (q'.bs = q.bs ++ (be8 l.length ++ l.flatMap be8)) ∧ WStep B w q w' q' := by
  have hxl := World.block_lt_of_cell? w _ hx
  have hc := hq.blk.rule
  unfold wcells at hc
  have HL := Lib.hid hl.2.1
  have hnm := hl.2.2.2.2.1
  obtain ⟨sa, sn, sc⟩ := s
  dsimp only at *
  go_enter Try.func45, Try.ntmps45
  go_wp2_with fail
  have r1 : ∀ W, Old w.drew W → W.cell? ⟨q.c, 1, none⟩ = some (.int .i64 0) := fun W hW => by rw [hW.cell (p := ⟨q.c, 1, none⟩) hq.blk.lt]; exact hc 1
  have r2 : ∀ W, Old w.drew W → W.cell? ⟨xb, xo, none⟩ = some (.slice sa sn sc) := fun W hW => by rw [hW.cell (p := ⟨xb, xo, none⟩) hxl]; exact hx
  refine wp_region_treeR true Old Old.refl Old.trans (.step 0 (.step 1 (.step 2 (.step 3 (.step 4 (.step 5 (.step 6 (.step 7 (.step 8 (.step 9 (.step 10 .done))))))))))) (by kernel_rfl) (by kernel_rfl) (fun c a d v w h => by cases d <;> exact h) ?_
  repeat (first | (refine tree_skip rfl (by rfl) ?_; simp only [Act.put, List.setIfInBounds_toArray, List.set]) | (refine tree_quiet (v := ?_) rfl rfl (by rfl) ?_ ?_; rotate_left; (intro W hW; go_simp); (try with_reducible rfl); simp only [Act.put, List.setIfInBounds_toArray, List.set]))
  refine tree_loud rfl rfl (by rfl) (fun K hK => ?_); go_wp2_with fail
  refine hK _ _ ((Below.refl _ _).alloc (Nat.le_refl _) _) ?_
  clear hK K r1 r2
  repeat (first | (refine tree_skip rfl (by rfl) ?_; simp only [Act.put, List.setIfInBounds_toArray, List.set]) | (refine tree_quiet (v := ?_) rfl rfl (by rfl) ?_ ?_; rotate_left; (intro W hW; go_simp); (try with_reducible rfl); simp only [Act.put, List.setIfInBounds_toArray, List.set]))
  refine tree_store rfl rfl (by rfl) (fun K hK => ?_); go_wp2_with fail; refine tree_done ?_
  go_upto_region 1 with (fail)
  obtain ⟨Y, hY⟩ : ∃ Y, Y = w.heap.size := ⟨_, rfl⟩
  rw [← hY]
  refine wp_forget (fun W => Blk W Y #[.int .i64 (sn : Int)] 3 ∧ Below w.heap.size w W) ⟨by rw [hY]; exact (Blk.new w #[.int .i64 (sn : Int)] 3).drew, by (try unfold Kept); repeat (first | assumption | exact Below.refl _ _ | exact below_undrew (Below.refl _ _) | exact Below.mono (by assumption) (by first | (simp; done) | (simp; omega) | omega) | refine below_setRow ?_ (by first | (simp; done) | (simp; omega) | omega) _ | refine Below.setCell ?_ (by first | (simp; done) | (simp; omega) | omega) _ | refine Below.alloc ?_ (by first | (simp; done) | (simp; omega) | omega) _ | refine below_drewN ?_ _ | refine Below.drew ?_ | refine below_undrew ?_ | refine below_step ?_ (by assumption))⟩ ?_
  rintro W1 ⟨hn1, hb1⟩
  have hnf : ¬ wfoot q Y := by rw [hY]; exact hq.fresh
  have HYW := Lib.hid hY
  clear hY
  have cb := num_w W1 B q Y 0 sn (hq.old hb1) (Nat.le_trans hB hb1.size) (hn1.rule 0) hnf (by omega)
  clear hc
  go_wp2_with fail
  refine cb.mono ?_
  clear cb
  rintro e w2 ⟨rfl, q2, hbs2, hs2⟩
  have hs02 := hs2.pre hb1
  have hn2 := (hs2.blk hn1 hnf).1
  have cn := hn2.rule
  have cq := hs2.at'.blk.rule
  unfold wcells at cq
  rw [hs2.c] at cq
  have hst : ListintW w B q l sn (.int .i64 0) w2 := ⟨0, q2, by rw [HL.out]; omega, rfl, Lib.hid (by rw [hbs2.out, HL.out]; simp), hs02⟩
  go_wp2_with fail
  go_loopg [50] sn (ListintW w B q l)
  case atStart => exact hst
  case round =>
    clear hst cn cq hn2 hn1
    obtain ⟨k, q', hk, rfl, hbs, hs⟩ := hrel
    rw [HL.out] at hk
    by_cases hlt : k < sn
    · have t0 : decide ((k : Int) < (sn : Int)) = true := by simp; omega
      have hkl : k < l.length := by rw [HL.out]; exact hlt
      have hel := RowAt.elem (g := bi) (sz := 1) (fun _ => rfl) (by first | exact hl.1 | (have := hl.1; rw [ints_flat]; exact this)) (by omega) k hkl
      obtain ⟨b, o, rfl, hbl, hc⟩ := hel
      have hf := hfl (List.ne_nil_of_length_pos (by omega)) _ rfl
      have HT := Lib.hid (List.take_succ_eq_append_getElem hkl)
      have HSZ := Lib.hid (show ∀ k, ((l.take k).flatMap be8).length ≤ 8 * sn from fun k => by
        rw [enc_len (fun x => show (be8 x).length = 8 by simp [be8_length]), List.length_take, HL.out]
        exact Nat.mul_le_mul_left _ (Nat.min_le_right _ _))
      generalize l[k] = x at hc HT
      have cxr := hs.cell hx hfx
      have ccr : CellsAt wr b (o + k) (bi x) := hs.cells (by first | exact hc | simpa [CellsAt] using hc) hf
      have cq := hs.at'.blk.rule
      unfold wcells at cq
      rw [hs.c] at cq
      have hl2 : q'.bs.length + 108 < 1000000000000 := by
        have := HSZ.out k
        rw [hbs.out, List.length_append, List.length_append, be8_length]
        omega
      have cb := num_w wr B q' b (o + k) x hs.at' (Nat.le_trans hB hs.turn.size) (ccr 0 (by show 0 < 1; omega)) (hs.off hbl hf) (by omega)
      rw [hs.c] at cb
      clear hc
      go_wp2_with fail
      refine cb.mono ?_
      clear cb
      rintro e w3 ⟨rfl, q3, hbs3, hs3⟩
      have HB3 := Lib.hid (show q3.bs = q.bs ++ be8 l.length ++ (l.take (k + 1)).flatMap be8 by rw [hbs3.out, hbs.out, HT.out, List.flatMap_append]; simp)
      have hs03 := hs.trans hs3
      go_wp2_with fail
      go_roundg (gk - 1)
      case measure => omega
      case rel => exact ⟨k + 1, q3, by rw [HL.out]; omega, by go_num, HB3, hs03⟩
    · have t0 : decide ((k : Int) < (sn : Int)) = false := by simp; omega
      have HB3 := Lib.hid (show q'.bs = q.bs ++ (be8 l.length ++ l.flatMap be8) by rw [hbs.out, List.take_of_length_le (by rw [HL.out]; omega), List.append_assoc])
      go_wp2_with fail
      refine bodyPost_end (v := .tuple #[]) (results_none rfl _ _ _) rfl ⟨rfl, q', HB3, hs⟩
def ListthingW (w : World) (B : Nat) (q : WC) (l : List ThingL) (f : Nat) (v50 : Value) (wr : World) : Prop :=
  ∃ (k : Nat) (q' : WC), k + f = l.length ∧ v50 = .int .i64 (k : Int) ∧ Hid (q'.bs = q.bs ++ be8 l.length ++ (l.take k).flatMap thingB) ∧ WStep B w q wr q'
set_option maxHeartbeats 4000000 in
theorem list_thing_w (w : World) (B : Nat) (q : WC) (xb xo : Nat) (s : Sl) (l : List ThingL) (hq : WAt w B q) (hB : B ≤ w.heap.size) (hx : w.cell? ⟨xb, xo, none⟩ = some (.slice s.a s.n s.c)) (hl : Things w s l) (hfx : ¬ wfoot q xb) (hfl : l ≠ [] → ∀ ad, s.a = some ad → ¬ wfoot q ad.block) (hfr : ∀ ad, s.a = some ad → ∀ i, i < s.n * 4 → w.frozen? ⟨ad.block, ad.off + i, none⟩ = false) (hz : q.bs.length + 25 * s.n + 200 < 1000000000000) :
    Calls Try.prog 62 #[.pointer (some ⟨q.c, 0, none⟩), .pointer (some ⟨xb, xo, none⟩), .int .i64 25, .func (.func 63) #[.pointer (some ⟨q.c, 0, none⟩)] #[]] w fun e w' => e = .returned (.tuple #[]) ∧ ∃ q', Hid (q'.bs = q.bs ++ (be8 l.length ++ l.flatMap thingB)) ∧ WStep B w q w' q' := by
  have hxl := World.block_lt_of_cell? w _ hx
  have hc := hq.blk.rule
  unfold wcells at hc
  have HL := Lib.hid hl.2.1
  have hnm := hl.2.2.2.2.1
  obtain ⟨sa, sn, sc⟩ := s
  dsimp only at *
  go_enter Try.func62, Try.ntmps62
  go_wp2_with fail
  have r1 : ∀ W, Old w.drew W → W.cell? ⟨q.c, 1, none⟩ = some (.int .i64 0) := fun W hW => by rw [hW.cell (p := ⟨q.c, 1, none⟩) hq.blk.lt]; exact hc 1
  have r2 : ∀ W, Old w.drew W → W.cell? ⟨xb, xo, none⟩ = some (.slice sa sn sc) := fun W hW => by rw [hW.cell (p := ⟨xb, xo, none⟩) hxl]; exact hx
  refine wp_region_treeR true Old Old.refl Old.trans (.step 0 (.step 1 (.step 2 (.step 3 (.step 4 (.step 5 (.step 6 (.step 7 (.step 8 (.step 9 (.step 10 .done))))))))))) (by kernel_rfl) (by kernel_rfl) (fun c a d v w h => by cases d <;> exact h) ?_
  repeat (first | (refine tree_skip rfl (by rfl) ?_; simp only [Act.put, List.setIfInBounds_toArray, List.set]) | (refine tree_quiet (v := ?_) rfl rfl (by rfl) ?_ ?_; rotate_left; (intro W hW; go_simp); (try with_reducible rfl); simp only [Act.put, List.setIfInBounds_toArray, List.set]))
  refine tree_loud rfl rfl (by rfl) (fun K hK => ?_); go_wp2_with fail
  refine hK _ _ ((Below.refl _ _).alloc (Nat.le_refl _) _) ?_
  clear hK K r1 r2
  repeat (first | (refine tree_skip rfl (by rfl) ?_; simp only [Act.put, List.setIfInBounds_toArray, List.set]) | (refine tree_quiet (v := ?_) rfl rfl (by rfl) ?_ ?_; rotate_left; (intro W hW; go_simp); (try with_reducible rfl); simp only [Act.put, List.setIfInBounds_toArray, List.set]))
  refine tree_store rfl rfl (by rfl) (fun K hK => ?_); go_wp2_with fail; refine tree_done ?_
  go_upto_region 1 with (fail)
  obtain ⟨Y, hY⟩ : ∃ Y, Y = w.heap.size := ⟨_, rfl⟩
  rw [← hY]
  refine wp_forget (fun W => Blk W Y #[.int .i64 (sn : Int)] 3 ∧ Below w.heap.size w W) ⟨by rw [hY]; exact (Blk.new w #[.int .i64 (sn : Int)] 3).drew, by (try unfold Kept); repeat (first | assumption | exact Below.refl _ _ | exact below_undrew (Below.refl _ _) | exact Below.mono (by assumption) (by first | (simp; done) | (simp; omega) | omega) | refine below_setRow ?_ (by first | (simp; done) | (simp; omega) | omega) _ | refine Below.setCell ?_ (by first | (simp; done) | (simp; omega) | omega) _ | refine Below.alloc ?_ (by first | (simp; done) | (simp; omega) | omega) _ | refine below_drewN ?_ _ | refine Below.drew ?_ | refine below_undrew ?_ | refine below_step ?_ (by assumption))⟩ ?_
  rintro W1 ⟨hn1, hb1⟩
  have hnf : ¬ wfoot q Y := by rw [hY]; exact hq.fresh
  have HYW := Lib.hid hY
  clear hY
  have cb := num_w W1 B q Y 0 sn (hq.old hb1) (Nat.le_trans hB hb1.size) (hn1.rule 0) hnf (by omega)
  clear hc
  go_wp2_with fail
  refine cb.mono ?_
  clear cb
  rintro e w2 ⟨rfl, q2, hbs2, hs2⟩
  have hs02 := hs2.pre hb1
  have hn2 := (hs2.blk hn1 hnf).1
  have cn := hn2.rule
  have cq := hs2.at'.blk.rule
  unfold wcells at cq
  rw [hs2.c] at cq
  have hst : ListthingW w B q l sn (.int .i64 0) w2 := ⟨0, q2, by rw [HL.out]; omega, rfl, Lib.hid (by rw [hbs2.out, HL.out]; simp), hs02⟩
  go_wp2_with fail
  go_loopg [50] sn (ListthingW w B q l)
  case atStart => exact hst
  case round =>
    clear hst cn cq hn2 hn1
    obtain ⟨k, q', hk, rfl, hbs, hs⟩ := hrel
    rw [HL.out] at hk
    by_cases hlt : k < sn
    · have t0 : decide ((k : Int) < (sn : Int)) = true := by simp; omega
      have hkl : k < l.length := by rw [HL.out]; exact hlt
      have hel := RowAt.elem (g := ThingL.cells) (sz := 4) (fun _ => rfl) (by first | exact hl.1 | (have := hl.1; rw [ints_flat]; exact this)) (by omega) k hkl
      obtain ⟨b, o, rfl, hbl, hc⟩ := hel
      have hf := hfl (List.ne_nil_of_length_pos (by omega)) _ rfl
      have HT := Lib.hid (List.take_succ_eq_append_getElem hkl)
      have HSZ := Lib.hid (show ∀ k, ((l.take k).flatMap thingB).length ≤ 25 * sn from fun k => by
        rw [enc_len (fun x => show (thingB x).length = 25 by simp [thingB, be8_length, tr1]), List.length_take, HL.out]
        exact Nat.mul_le_mul_left _ (Nat.min_le_right _ _))
      generalize l[k] = x at hc HT
      have cxr := hs.cell hx hfx
      have ccr : CellsAt wr b (o + k * 4) (ThingL.cells x) := hs.cells (by first | exact hc | simpa [CellsAt] using hc) hf
      have cq := hs.at'.blk.rule
      unfold wcells at cq
      rw [hs.c] at cq
      have hl2 : q'.bs.length + 108 < 1000000000000 := by
        have := HSZ.out k
        rw [hbs.out, List.length_append, List.length_append, be8_length]
        omega
      have cb := thing_w wr B q' b (o + k * 4) x hs.at' (Nat.le_trans hB hs.turn.size) ccr ((hs.frozen hbl hf).trans (by have := hfr _ rfl (k * 4 + 3) (by omega); rwa [← Nat.add_assoc] at this)) (hs.off hbl hf) (by omega)
      rw [hs.c] at cb
      clear hc
      go_wp2_with fail
      refine cb.mono ?_
      clear cb
      rintro e w3 ⟨rfl, q3, hbs3, hs3⟩
      have HB3 := Lib.hid (show q3.bs = q.bs ++ be8 l.length ++ (l.take (k + 1)).flatMap thingB by rw [hbs3.out, hbs.out, HT.out, List.flatMap_append]; simp)
      have hs03 := hs.trans hs3
      go_wp2_with fail
      go_roundg (gk - 1)
      case measure => omega
      case rel => exact ⟨k + 1, q3, by rw [HL.out]; omega, by go_num, HB3, hs03⟩
    · have t0 : decide ((k : Int) < (sn : Int)) = false := by simp; omega
      have HB3 := Lib.hid (show q'.bs = q.bs ++ (be8 l.length ++ l.flatMap thingB) by rw [hbs.out, List.take_of_length_le (by rw [HL.out]; omega), List.append_assoc])
      go_wp2_with fail
      refine bodyPost_end (v := .tuple #[]) (results_none rfl _ _ _) rfl ⟨rfl, q', HB3, hs⟩
def ListpairW (w : World) (B : Nat) (q : WC) (l : List PairL) (f : Nat) (v50 : Value) (wr : World) : Prop :=
  ∃ (k : Nat) (q' : WC), k + f = l.length ∧ v50 = .int .i64 (k : Int) ∧ Hid (q'.bs = q.bs ++ be8 l.length ++ (l.take k).flatMap pairB) ∧ WStep B w q wr q'
set_option maxHeartbeats 4000000 in
theorem list_pair_w (w : World) (B : Nat) (q : WC) (xb xo : Nat) (s : Sl) (l : List PairL) (hq : WAt w B q) (hB : B ≤ w.heap.size) (hx : w.cell? ⟨xb, xo, none⟩ = some (.slice s.a s.n s.c)) (hl : Pairs w s l) (hfx : ¬ wfoot q xb) (hfl : l ≠ [] → ∀ ad, s.a = some ad → ¬ wfoot q ad.block) (hz : q.bs.length + 16 * s.n + 200 < 1000000000000) :
    Calls Try.prog 52 #[.pointer (some ⟨q.c, 0, none⟩), .pointer (some ⟨xb, xo, none⟩), .int .i64 16, .func (.func 53) #[.pointer (some ⟨q.c, 0, none⟩)] #[]] w fun e w' => e = .returned (.tuple #[]) ∧ ∃ q', Hid (q'.bs = q.bs ++ (be8 l.length ++ l.flatMap pairB)) ∧ WStep B w q w' q' := by
  have hxl := World.block_lt_of_cell? w _ hx
  have hc := hq.blk.rule
  unfold wcells at hc
  have HL := Lib.hid hl.2.1
  have hnm := hl.2.2.2.2.1
  obtain ⟨sa, sn, sc⟩ := s
  dsimp only at *
  go_enter Try.func52, Try.ntmps52
  go_wp2_with fail
  have r1 : ∀ W, Old w.drew W → W.cell? ⟨q.c, 1, none⟩ = some (.int .i64 0) := fun W hW => by rw [hW.cell (p := ⟨q.c, 1, none⟩) hq.blk.lt]; exact hc 1
  have r2 : ∀ W, Old w.drew W → W.cell? ⟨xb, xo, none⟩ = some (.slice sa sn sc) := fun W hW => by rw [hW.cell (p := ⟨xb, xo, none⟩) hxl]; exact hx
  refine wp_region_treeR true Old Old.refl Old.trans (.step 0 (.step 1 (.step 2 (.step 3 (.step 4 (.step 5 (.step 6 (.step 7 (.step 8 (.step 9 (.step 10 .done))))))))))) (by kernel_rfl) (by kernel_rfl) (fun c a d v w h => by cases d <;> exact h) ?_
  repeat (first | (refine tree_skip rfl (by rfl) ?_; simp only [Act.put, List.setIfInBounds_toArray, List.set]) | (refine tree_quiet (v := ?_) rfl rfl (by rfl) ?_ ?_; rotate_left; (intro W hW; go_simp); (try with_reducible rfl); simp only [Act.put, List.setIfInBounds_toArray, List.set]))
  refine tree_loud rfl rfl (by rfl) (fun K hK => ?_); go_wp2_with fail
  refine hK _ _ ((Below.refl _ _).alloc (Nat.le_refl _) _) ?_
  clear hK K r1 r2
  repeat (first | (refine tree_skip rfl (by rfl) ?_; simp only [Act.put, List.setIfInBounds_toArray, List.set]) | (refine tree_quiet (v := ?_) rfl rfl (by rfl) ?_ ?_; rotate_left; (intro W hW; go_simp); (try with_reducible rfl); simp only [Act.put, List.setIfInBounds_toArray, List.set]))
  refine tree_store rfl rfl (by rfl) (fun K hK => ?_); go_wp2_with fail; refine tree_done ?_
  go_upto_region 1 with (fail)
  obtain ⟨Y, hY⟩ : ∃ Y, Y = w.heap.size := ⟨_, rfl⟩
  rw [← hY]
  refine wp_forget (fun W => Blk W Y #[.int .i64 (sn : Int)] 3 ∧ Below w.heap.size w W) ⟨by rw [hY]; exact (Blk.new w #[.int .i64 (sn : Int)] 3).drew, by (try unfold Kept); repeat (first | assumption | exact Below.refl _ _ | exact below_undrew (Below.refl _ _) | exact Below.mono (by assumption) (by first | (simp; done) | (simp; omega) | omega) | refine below_setRow ?_ (by first | (simp; done) | (simp; omega) | omega) _ | refine Below.setCell ?_ (by first | (simp; done) | (simp; omega) | omega) _ | refine Below.alloc ?_ (by first | (simp; done) | (simp; omega) | omega) _ | refine below_drewN ?_ _ | refine Below.drew ?_ | refine below_undrew ?_ | refine below_step ?_ (by assumption))⟩ ?_
  rintro W1 ⟨hn1, hb1⟩
  have hnf : ¬ wfoot q Y := by rw [hY]; exact hq.fresh
  have HYW := Lib.hid hY
  clear hY
  have cb := num_w W1 B q Y 0 sn (hq.old hb1) (Nat.le_trans hB hb1.size) (hn1.rule 0) hnf (by omega)
  clear hc
  go_wp2_with fail
  refine cb.mono ?_
  clear cb
  rintro e w2 ⟨rfl, q2, hbs2, hs2⟩
  have hs02 := hs2.pre hb1
  have hn2 := (hs2.blk hn1 hnf).1
  have cn := hn2.rule
  have cq := hs2.at'.blk.rule
  unfold wcells at cq
  rw [hs2.c] at cq
  have hst : ListpairW w B q l sn (.int .i64 0) w2 := ⟨0, q2, by rw [HL.out]; omega, rfl, Lib.hid (by rw [hbs2.out, HL.out]; simp), hs02⟩
  go_wp2_with fail
  go_loopg [50] sn (ListpairW w B q l)
  case atStart => exact hst
  case round =>
    clear hst cn cq hn2 hn1
    obtain ⟨k, q', hk, rfl, hbs, hs⟩ := hrel
    rw [HL.out] at hk
    by_cases hlt : k < sn
    · have t0 : decide ((k : Int) < (sn : Int)) = true := by simp; omega
      have hkl : k < l.length := by rw [HL.out]; exact hlt
      have hel := RowAt.elem (g := PairL.cells) (sz := 2) (fun _ => rfl) (by first | exact hl.1 | (have := hl.1; rw [ints_flat]; exact this)) (by omega) k hkl
      obtain ⟨b, o, rfl, hbl, hc⟩ := hel
      have hf := hfl (List.ne_nil_of_length_pos (by omega)) _ rfl
      have HT := Lib.hid (List.take_succ_eq_append_getElem hkl)
      have HSZ := Lib.hid (show ∀ k, ((l.take k).flatMap pairB).length ≤ 16 * sn from fun k => by
        rw [enc_len (fun x => show (pairB x).length = 16 by simp [pairB, be8_length]), List.length_take, HL.out]
        exact Nat.mul_le_mul_left _ (Nat.min_le_right _ _))
      generalize l[k] = x at hc HT
      have cxr := hs.cell hx hfx
      have ccr : CellsAt wr b (o + k * 2) (PairL.cells x) := hs.cells (by first | exact hc | simpa [CellsAt] using hc) hf
      have cq := hs.at'.blk.rule
      unfold wcells at cq
      rw [hs.c] at cq
      have hl2 : q'.bs.length + 108 < 1000000000000 := by
        have := HSZ.out k
        rw [hbs.out, List.length_append, List.length_append, be8_length]
        omega
      have cb := pair_w wr B q' b (o + k * 2) x hs.at' (Nat.le_trans hB hs.turn.size) ccr (hs.off hbl hf) (by omega)
      rw [hs.c] at cb
      clear hc
      go_wp2_with fail
      refine cb.mono ?_
      clear cb
      rintro e w3 ⟨rfl, q3, hbs3, hs3⟩
      have HB3 := Lib.hid (show q3.bs = q.bs ++ be8 l.length ++ (l.take (k + 1)).flatMap pairB by rw [hbs3.out, hbs.out, HT.out, List.flatMap_append]; simp)
      have hs03 := hs.trans hs3
      go_wp2_with fail
      go_roundg (gk - 1)
      case measure => omega
      case rel => exact ⟨k + 1, q3, by rw [HL.out]; omega, by go_num, HB3, hs03⟩
    · have t0 : decide ((k : Int) < (sn : Int)) = false := by simp; omega
      have HB3 := Lib.hid (show q'.bs = q.bs ++ (be8 l.length ++ l.flatMap pairB) by rw [hbs.out, List.take_of_length_le (by rw [HL.out]; omega), List.append_assoc])
      go_wp2_with fail
      refine bodyPost_end (v := .tuple #[]) (results_none rfl _ _ _) rfl ⟨rfl, q', HB3, hs⟩
end Go.Proofs.Ytdokkhjgmhcpkaa
