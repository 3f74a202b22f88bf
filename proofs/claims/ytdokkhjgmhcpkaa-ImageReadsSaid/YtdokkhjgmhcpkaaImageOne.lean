/- Two states have the same bytes just if they are the same. -/
import Derived.Test.YtdokkhjgmhcpkaaImWakes
import Derived.Test.YtdokkhjgmhcpkaaImLaws2
import Derived.Test.YtdokkhjgmhcpkaaCame
import Derived.Test.YtdokkhjgmhcpkaaArgs
import Derived.Test.YtdokkhjgmhcpkaaImFree
namespace Go.Proofs.Ytdokkhjgmhcpkaa
open Go.RowKit
set_option linter.unusedVariables false
set_option linter.unusedSimpArgs false
set_option maxRecDepth 20000

theorem stateI_small {w : World} {p : StateP} {h : StateH} (hn : stateCount p ≤ 1000) : (stateI p).length ≤ 26000 := by
  have h1 : ∀ x : SideP, (sideI x).length = 64 + 8 * x.deck.length + 8 * x.hand.length + 8 * x.grave.length + 25 * x.units.length + 8 * x.told.length := fun x => by
    simp only [sideI, List.length_append, be8_length, encL_len, encU_len]
    omega
  simp only [stateI, List.length_append, be8_length, encL_len, tr1_len, h1]
  simp only [stateCount, sideCount] at hn
  omega
theorem wpList_load_blkw {P : Program} {ops : Array Oper} {rest : List Oper} {o : Oper} {a : Act} {w : World} {Q : Exit → Act → World → Prop} (hw : Region.wanted o (yielded ops a.tmps) = true) (ty : TypeId) {n : Nat} (hT : AggT P ty n) (x : Operand) (ho : o.op = .load ty x)
    {g : Nat} (hx : a.eval x = .pointer (some ⟨g, 0, none⟩)) {t : TypeId} {cs : Array Value} (hB : Blk w g cs t) (hn : cs.size = n)
    (h : wpList P ops Q rest (a.put o.dst (.agg cs)) w) : wpList P ops Q (o :: rest) a w := by
  obtain ⟨⟨d, hu, hd⟩, hi⟩ := hT
  unfold wpList
  rw [if_pos hw]
  exact .inl (wp_load_row ty x ho g hx t cs (0, 0) d hB hu (by cases d <;> simp_all [aggD]) (by rw [hi, hn]) h)
theorem strOf_beq (l m : List UInt8) : ((strOf l).toList == (strOf m).toList) = (l == m) := by rw [strOf_toList, strOf_toList]
theorem str_of (w : World) (a : Option Addr) (n c : Nat) (l : List UInt8) (hl : BytesAt w a l) (hn : l.length = n) : ∀ W, Old w W → (convert 32 9 (.slice a n c)).run Try.prog W = .ok (.string (strOf l)) W := fun W hW =>
  run_string_of (P := Try.prog) W (c := c) Try.underlying32 Try.underlying5 Try.underlying9 (hl.below hW) hn
theorem bytes_at {w w1 : World} {p : StateP} {h : StateH} (ha : StateAt w p h) (hp : FreeU w h.x.units ∧ FreeU w h.y.units) (h1 : Below w.heap.size w w1) (hn : stateCount p ≤ 1000) :
    Calls Try.prog 10 #[stateVal p h] w1 fun e w' => ∃ a c, e = .returned (.slice a (stateI p).length c) ∧ Own w' w1.heap.size 5 1 a (stateI p).length c ((stateI p).map bv) ∧ Below w1.heap.size w1 w' :=
  bytes_w w1 p h (ha.old h1) (hp.1.low ha.x.units.inB h1) (hp.2.low ha.y.units.inB h1) (by have := stateI_small (w := w) (h := h) hn; omega)
set_option maxHeartbeats 4000000 in
theorem imageOne_any (w : World) (p : StateP) (h : StateH) (q : StateP) (g : StateH) (ha : StateAt w p h) (hb : StateAt w q g) (hp : FreeU w h.x.units ∧ FreeU w h.y.units) (hq : FreeU w g.x.units ∧ FreeU w g.y.units) :
    Calls Try.prog 3 #[stateVal p h, stateVal q g] w fun e w' => e = .returned (.bool true) ∧ Below w.heap.size w w' := by
  have key1 := fun (w1 : World) (h1 : Below w.heap.size w w1) => great_any p h w1 (ha.old h1)
  have key2 := fun (w1 : World) (h1 : Below w.heap.size w w1) => great_any q g w1 (hb.old h1)
  have kp : decide (1000 < stateCount p) = true ∨ decide (1000 < stateCount p) = false ∧ stateCount p ≤ 1000 := by by_cases h : 1000 < stateCount p <;> simp [h]; omega
  have kq : decide (1000 < stateCount q) = true ∨ decide (1000 < stateCount q) = false ∧ stateCount q ≤ 1000 := by by_cases h : 1000 < stateCount q <;> simp [h]; omega
  generalize decide (1000 < stateCount p) = gp at key1 kp
  generalize decide (1000 < stateCount q) = gq at key2 kq
  have hs := fun (w1 : World) (h1 : Below w.heap.size w w1) => sameState_any p q h g w1 (ha.old h1) (hb.old h1)
  have hb1 := fun (w1 : World) (h1 : Below w.heap.size w w1) (hn : stateCount p ≤ 1000) => bytes_at ha hp h1 hn
  have hb2 := fun (w1 : World) (h1 : Below w.heap.size w w1) (hn : stateCount q ≤ 1000) => bytes_at hb hq h1 hn
  have heq : (stateI p == stateI q) = decide (p = q) := by
    rw [Bool.eq_iff_iff, beq_iff_eq, decide_eq_true_iff]
    exact ⟨fun e => codec_state.inj ha.ok hb.ok e, fun e => by rw [e]⟩
  have HEQ := Lib.hid ((strOf_beq (stateI p) (stateI q)).trans heq)
  clear heq
  generalize decide (p = q) = same at hs HEQ
  have HS := Lib.hid hs
  have HB1 := Lib.hid hb1
  have HB2 := Lib.hid hb2
  have HG1 := Lib.hid key1
  have HG2 := Lib.hid key2
  clear hs hb1 hb2 key1 key2
  rw [stateVal_cells, stateVal_cells] at HS ⊢
  rw [stateVal_cells] at HG1 HG2 HB1 HB2
  go_enter Try.func3, Try.ntmps3
  go_wp2_with (refine wpList_load_blkw (by rfl) 29 stateT (.tmp 2) rfl rfl (Blk.new2 _ _ _ _) rfl ?_)
  refine (HG1.out _ (by (try unfold Kept); repeat (first | assumption | exact Below.refl _ _ | exact below_undrew (Below.refl _ _) | exact Below.mono (by assumption) (by first | (simp; done) | (simp; omega) | omega) | refine below_setRow ?_ (by first | (simp; done) | (simp; omega) | omega) _ | refine Below.setCell ?_ (by first | (simp; done) | (simp; omega) | omega) _ | refine Below.alloc ?_ (by first | (simp; done) | (simp; omega) | omega) _ | refine below_drewN ?_ _ | refine Below.drew ?_ | refine below_undrew ?_ | refine below_step ?_ (by assumption)))).mono ?_
  rintro e w1 ⟨rfl, hb1⟩
  have hA := (Blk.new2 _ _ _ _).old hb1
  have hB := (Blk.new2' _ _ _ _).old hb1
  have hbw1 : Below w.heap.size w w1 := by (try unfold Kept); repeat (first | assumption | exact Below.refl _ _ | exact below_undrew (Below.refl _ _) | exact Below.mono (by assumption) (by first | (simp; done) | (simp; omega) | omega) | refine below_setRow ?_ (by first | (simp; done) | (simp; omega) | omega) _ | refine Below.setCell ?_ (by first | (simp; done) | (simp; omega) | omega) _ | refine Below.alloc ?_ (by first | (simp; done) | (simp; omega) | omega) _ | refine below_drewN ?_ _ | refine Below.drew ?_ | refine below_undrew ?_ | refine below_step ?_ (by assumption))
  clear hb1
  rcases kp with rfl | ⟨rfl, kp⟩
  · go_wp2_with fail
    refine (wakes_any _).mono ?_
    rintro e w2 ⟨rfl, hb2⟩
    go_wp2_with fail
    go_ret
    exact ⟨rfl, by (try unfold Kept); repeat (first | assumption | exact Below.refl _ _ | exact below_undrew (Below.refl _ _) | exact Below.mono (by assumption) (by first | (simp; done) | (simp; omega) | omega) | refine below_setRow ?_ (by first | (simp; done) | (simp; omega) | omega) _ | refine Below.setCell ?_ (by first | (simp; done) | (simp; omega) | omega) _ | refine Below.alloc ?_ (by first | (simp; done) | (simp; omega) | omega) _ | refine below_drewN ?_ _ | refine Below.drew ?_ | refine below_undrew ?_ | refine below_step ?_ (by assumption))⟩
  go_wp2_with (refine wpList_load_blkw (by rfl) 29 stateT (.tmp 3) rfl rfl hB rfl ?_)
  refine (HG2.out _ hbw1).mono ?_
  rintro e w2 ⟨rfl, hb2⟩
  have hA := hA.old hb2
  have hB := hB.old hb2
  have hbw2 : Below w.heap.size w w2 := by (try unfold Kept); repeat (first | assumption | exact Below.refl _ _ | exact below_undrew (Below.refl _ _) | exact Below.mono (by assumption) (by first | (simp; done) | (simp; omega) | omega) | refine below_setRow ?_ (by first | (simp; done) | (simp; omega) | omega) _ | refine Below.setCell ?_ (by first | (simp; done) | (simp; omega) | omega) _ | refine Below.alloc ?_ (by first | (simp; done) | (simp; omega) | omega) _ | refine below_drewN ?_ _ | refine Below.drew ?_ | refine below_undrew ?_ | refine below_step ?_ (by assumption))
  clear hb2 hbw1
  rcases kq with rfl | ⟨rfl, kq⟩
  · go_wp2_with fail
    refine (wakes_any _).mono ?_
    rintro e w3 ⟨rfl, hb3⟩
    go_wp2_with fail
    go_ret
    exact ⟨rfl, by (try unfold Kept); repeat (first | assumption | exact Below.refl _ _ | exact below_undrew (Below.refl _ _) | exact Below.mono (by assumption) (by first | (simp; done) | (simp; omega) | omega) | refine below_setRow ?_ (by first | (simp; done) | (simp; omega) | omega) _ | refine Below.setCell ?_ (by first | (simp; done) | (simp; omega) | omega) _ | refine Below.alloc ?_ (by first | (simp; done) | (simp; omega) | omega) _ | refine below_drewN ?_ _ | refine Below.drew ?_ | refine below_undrew ?_ | refine below_step ?_ (by assumption))⟩
  go_wp2_with fail
  refine wp_region_old (0 :: 3 :: 7 :: 8 :: 1 :: 2 :: 4 :: 5 :: 6 :: 9 :: 10 :: 11 :: 12 :: 13 :: 14 :: []) (by kernel_rfl) (by kernel_rfl) (fun c a d v w h => by cases d <;> exact h) ?_
  refine lex_quiet (v := .agg (stateCells p h).toArray) rfl rfl (by rfl) (fun W hW => exec_load_as 29 stateT (.tmp 2) rfl rfl rfl (Blk.cells (hA.drew.old hW)) rfl) ?_
  simp only [Act.put, List.setIfInBounds_toArray, List.set]
  refine lex_quiet (v := .agg (stateCells q g).toArray) rfl rfl (by rfl) (fun W hW => exec_load_as 29 stateT (.tmp 3) rfl rfl rfl (Blk.cells (hB.drew.old hW)) rfl) ?_
  simp only [Act.put, List.setIfInBounds_toArray, List.set]
  refine lex_quiet (v := .agg (stateCells p h).toArray) rfl rfl (by rfl) (fun W hW => exec_load_as 29 stateT (.tmp 2) rfl rfl rfl (Blk.cells (hA.drew.old hW)) rfl) ?_
  simp only [Act.put, List.setIfInBounds_toArray, List.set]
  refine lex_quiet (v := .agg (stateCells q g).toArray) rfl rfl (by rfl) (fun W hW => exec_load_as 29 stateT (.tmp 3) rfl rfl rfl (Blk.cells (hB.drew.old hW)) rfl) ?_
  simp only [Act.put, List.setIfInBounds_toArray, List.set]
  refine lex_loud rfl rfl (by rfl) (fun K hK => ?_); go_wp2_with fail
  refine (HB1.out _ hbw2.drew kp).mono ?_
  rintro e w3 ⟨a1, c1, rfl, ho1, hb3⟩
  have k1 := str_of w3 a1 _ c1 _ ho1.row rfl
  have hbw3 : Below w.heap.size w w3 := below_step hbw2.drew hb3
  go_wp2_with fail
  refine hK _ _ hb3 ?_
  clear hK K
  repeat (first | (refine lex_skip rfl (by rfl) ?_; simp only [Act.put, List.setIfInBounds_toArray, List.set]) | (refine lex_quiet (v := ?_) rfl rfl (by rfl) ?_ ?_; rotate_left; (intro W hW; go_simp); (try with_reducible rfl); simp only [Act.put, List.setIfInBounds_toArray, List.set]))
  refine lex_loud rfl rfl (by rfl) (fun K hK => ?_); go_wp2_with fail
  refine (HB2.out _ hbw3 kq).mono ?_
  rintro e w4 ⟨a2, c2, rfl, ho2, hb4⟩
  have k2 := str_of w4 a2 _ c2 _ ho2.row rfl
  have hbw4 : Below w.heap.size w w4 := below_step hbw3 hb4
  go_wp2_with fail
  refine hK _ _ hb4 ?_
  clear hK K
  have hcmp := HEQ.out
  repeat (first | (refine lex_skip rfl (by rfl) ?_; simp only [Act.put, List.setIfInBounds_toArray, List.set]) | (refine lex_quiet (v := ?_) rfl rfl (by rfl) ?_ ?_; rotate_left; (intro W hW; go_simp); (try with_reducible rfl); simp only [Act.put, List.setIfInBounds_toArray, List.set]))
  refine lex_loud rfl rfl (by rfl) (fun K hK => ?_); go_wp2_with fail
  refine (HS.out _ hbw4).mono ?_
  rintro e w5 ⟨rfl, hb5⟩
  have hbw5 : Below w.heap.size w w5 := below_step hbw4 hb5
  go_wp2_with fail
  refine hK _ _ hb5 ?_
  clear hK K k1 k2
  repeat (first | (refine lex_skip rfl (by rfl) ?_; simp only [Act.put, List.setIfInBounds_toArray, List.set]) | (refine lex_quiet (v := ?_) rfl rfl (by rfl) ?_ ?_; rotate_left; (intro W hW; go_simp); (try with_reducible rfl); simp only [Act.put, List.setIfInBounds_toArray, List.set]))
  refine lex_loud rfl rfl (by rfl) (fun K hK => ?_); go_wp2_with fail
  refine (wakes_any _).mono ?_
  rintro e w6 ⟨rfl, hb6⟩
  go_wp2_with fail
  refine hK _ _ hb6 ?_
  clear hK K
  repeat (first | (refine lex_skip rfl (by rfl) ?_; simp only [Act.put, List.setIfInBounds_toArray, List.set]) | (refine lex_quiet (v := ?_) rfl rfl (by rfl) ?_ ?_; rotate_left; (intro W hW; go_simp); (try with_reducible rfl); simp only [Act.put, List.setIfInBounds_toArray, List.set]))
  refine lex_nil ?_
  go_wp2_with fail
  go_ret
  exact ⟨rfl, below_step hbw5 hb6⟩
end Go.Proofs.Ytdokkhjgmhcpkaa
