/- What the document says of ann and bob; no seats. -/
import Derived.Test.YtepbeafbfbimlaaSeatLate
namespace Go.Proofs.Ytepbeafbfbimlaa
open Go.RowKit Go.Shelf Go.Maps
attribute [local go_sem] Oper.semAt_some
set_option linter.unusedVariables false
set_option linter.unusedSimpArgs false

def annT (u : Int) : TokL := ⟨⟨#[97, 110, 110]⟩, 0, u⟩
def bobT (u : Int) : TokL := ⟨⟨#[98, 111, 98]⟩, 0, u⟩
theorem wake1 : loginP 4 [] 3 (annT 9) 1 = ([(3, annT 9)], 0) := rfl
theorem wake2 : loginP 4 [(3, annT 9)] 4 (annT 9) 1 = ([(3, annT 9)], 101) := rfl
theorem wake3 : loginP 4 [(3, annT 9)] 3 (bobT 9) 1 = ([(3, annT 9)], 101) := rfl
set_option maxHeartbeats 4000000 in
theorem wakes_any (w : World) : Calls Try.prog 12 #[] w fun e w' => e = .returned (.bool true) ∧ Below w.heap.size w w' := by
  have i3 : (Lit.int .i64 3).wf = true := by decide
  have i4 : (Lit.int .i64 4).wf = true := by decide
  have oA : TokOk (annT 9) := ⟨by decide, by decide, by decide⟩
  have oB : TokOk (bobT 9) := ⟨by decide, by decide, by decide⟩
  have WK1 := Lib.hid wake1
  have WK2 := Lib.hid wake2
  have WK3 := Lib.hid wake3
  go_enter Try.func12, Try.ntmps12
  go_wp2_with fail
  refine (new_any w 4 (by omega) (by omega)).mono ?_
  rintro e W1 ⟨r, rfl, h1, hl1, hm1, hb1⟩
  have hm4 : r.most = 4 := by rw [hm1]; decide
  clear hm1
  go_wp2_with fail
  refine (ann_any W1 ⟨#[97, 110, 110]⟩ 9).mono ?_
  rintro e W2 ⟨rfl, hb2⟩
  have h2 := h1.old hb2
  have cl := login_any W2 w.heap.size r h2 (by have := hb1.size; have := hb2.size; omega) 3 (annT 9) 1 i3 oA
  rw [hl1, hm4, WK1.out] at cl
  go_wp2_with fail
  refine cl.mono ?_
  clear cl
  rintro e W3 ⟨rfl, s3⟩
  have k2 : w.heap.size ≤ W2.heap.size := by have := hb1.size; have := hb2.size; omega
  have b3 : Below w.heap.size w W3 := (below_step hb1 hb2).trans (s3.below h2 k2)
  have k3 := b3.size
  go_wp2_with fail
  refine (ann_any W3 ⟨#[97, 110, 110]⟩ 9).mono ?_
  rintro e W4 ⟨rfl, hb4⟩
  have h4 := s3.at'.old hb4
  have b4 := below_step b3 hb4
  have cl := login_any W4 w.heap.size _ h4 b4.size 4 (annT 9) 1 i4 oA
  dsimp only at cl
  rw [WK2.out] at cl
  clear s3 h2 hb2 k2 h1 hb1 b3 k3
  go_wp2_with fail
  refine cl.mono ?_
  clear cl
  rintro e W5 ⟨rfl, s5⟩
  have b5 : Below w.heap.size w W5 := b4.trans (s5.below h4 b4.size)
  go_wp2_with fail
  refine (ann_any W5 ⟨#[98, 111, 98]⟩ 9).mono ?_
  rintro e W6 ⟨rfl, hb6⟩
  have h6 := s5.at'.old hb6
  have b6 := below_step b5 hb6
  have cl := login_any W6 w.heap.size _ h6 b6.size 3 (bobT 9) 1 i3 oB
  dsimp only at cl
  rw [WK3.out] at cl
  clear s5 h4 hb4 b5
  go_wp2_with fail
  refine cl.mono ?_
  clear cl
  rintro e W7 ⟨rfl, s7⟩
  have b7 : Below w.heap.size w W7 := b6.trans (s7.below h6 b6.size)
  have h7 := s7.at'
  clear s7 h6 hb6 b6
  have cw := where_in W7 w.heap.size _ h7 (x := (3, annT 9)) (by simp) ⟨#[97, 110, 110]⟩ 0 rfl rfl
  (try dsimp only at cw)
  go_wp2_with fail
  refine cw.mono ?_
  clear cw
  rintro e W8 ⟨rfl, rfl⟩
  have ct := late_one W8 w.heap.size _ h7 b7.size (3, annT 9) rfl 10 (by decide)
  (try dsimp only at ct)
  go_wp2_with fail
  refine ct.mono ?_
  clear ct
  rintro e W9 ⟨a, c, rfl, hown, s9⟩
  have b9 : Below w.heap.size w W9 := b7.trans (s9.below h7 b7.size)
  obtain ⟨rb, ro, e2, hcell⟩ := hown.row 0 (by simp)
  simp only [List.getElem_cons_zero, Nat.add_zero] at hcell
  subst e2
  have cn := len_any W9 w.heap.size _ s9.at'
  (try dsimp only at cn)
  go_wp2_with fail
  refine cn.mono ?_
  clear cn
  rintro e W10 ⟨rfl, rfl⟩
  go_wp2_with fail
  go_ret
  exact ⟨rfl, b9⟩
theorem who_nil (w : World) (n : Int) : Calls Try.prog 5 #[.pointer none, .int .i64 n] w fun e w' => e = .returned (.tuple #[tokVal tok0, .int .i64 1]) ∧ Below w.heap.size w w' := by
  go_enter Try.func5, Try.ntmps5
  go_upto_region 1 with (fail)
  obtain ⟨T, hT⟩ : ∃ x, x = w.heap.size := ⟨_, rfl⟩
  rw [← hT]
  refine wp_forget (fun W => Blk W T (tokCells tok0).toArray 24 ∧ Below w.heap.size w W) ⟨by rw [hT]; exact Blk.new _ _ _, by (try unfold Kept); repeat (first | assumption | exact Below.refl _ _ | exact below_undrew (Below.refl _ _) | exact Below.mono (by assumption) (by first | (simp; done) | (simp; omega) | omega) | refine below_setRow ?_ (by first | (simp; done) | (simp; omega) | omega) _ | refine Below.setCell ?_ (by first | (simp; done) | (simp; omega) | omega) _ | refine Below.alloc ?_ (by first | (simp; done) | (simp; omega) | omega) _ | refine below_drewN ?_ _ | refine Below.drew ?_ | refine below_undrew ?_ | refine below_step ?_ (by assumption))⟩ ?_
  rintro W1 ⟨bt, hb1⟩
  have hTw : w.heap.size ≤ T := Nat.le_of_eq hT.symm
  clear hT
  go_wp2_with (refine wpList_store_blk rfl 24 tokT (.tmp 4) _ rfl rfl rfl bt rfl rfl (by rfl) ?_)
  exact post_blk_tmp rfl tokT rfl (bt.setRow _) rfl rfl rfl ⟨rfl, below_setRow hb1 hTw _⟩
theorem where_nil (w : World) (nm : ByteArray) (ro : Int) : Calls Try.prog 6 #[.pointer none, .string nm, .int .i8 ro] w fun e w' => e = .returned (.tuple #[.int .i64 0, .bool false]) ∧ w' = w := by
  go_enter Try.func6, Try.ntmps6
  go_wp2_with fail
  go_ret2
  exact ⟨rfl, rfl⟩
theorem len_nil (w : World) : Calls Try.prog 10 #[.pointer none] w fun e w' => e = .returned (.int .i64 0) ∧ w' = w := by
  go_enter Try.func10, Try.ntmps10
  go_wp2_with fail
  go_ret
  exact ⟨rfl, rfl⟩
theorem login_nil (w : World) (n : Int) (t : TokL) (now : Int) : Calls Try.prog 7 #[.pointer none, .int .i64 n, .agg (tokCells t).toArray, .int .i64 now] w fun e w' => e = .returned (.int .i64 1) ∧ Below w.heap.size w w' := by
  go_enter Try.func7, Try.ntmps7
  go_wp2_with fail
  go_ret
  exact ⟨rfl, by (try unfold Kept); repeat (first | assumption | exact Below.refl _ _ | exact below_undrew (Below.refl _ _) | exact Below.mono (by assumption) (by first | (simp; done) | (simp; omega) | omega) | refine below_setRow ?_ (by first | (simp; done) | (simp; omega) | omega) _ | refine Below.setCell ?_ (by first | (simp; done) | (simp; omega) | omega) _ | refine Below.alloc ?_ (by first | (simp; done) | (simp; omega) | omega) _ | refine below_drewN ?_ _ | refine Below.drew ?_ | refine below_undrew ?_ | refine below_step ?_ (by assumption))⟩
theorem logout_nil (w : World) (n : Int) : Calls Try.prog 8 #[.pointer none, .int .i64 n] w fun e w' => e = .returned (.int .i64 1) ∧ Below w.heap.size w w' := by
  have cw := who_nil w n
  rw [show tokVal tok0 = .agg (tokCells tok0).toArray from rfl] at cw
  go_enter Try.func8, Try.ntmps8
  go_wp2_with fail
  refine cw.mono ?_
  clear cw
  rintro e W1 ⟨rfl, hb1⟩
  go_upto_region 2 with (refine wpList_store_blk rfl 24 tokT (.tmp 5) _ rfl rfl rfl (Blk.new _ _ _) rfl rfl (by rfl) ?_)
  refine wp_forget (fun W => Below W1.heap.size W1 W) (below_setRow ((Below.refl _ _).alloc (Nat.le_refl _) _) (Nat.le_refl _) _) ?_
  rintro W2 hb2
  go_wp2_with fail
  go_ret
  exact ⟨rfl, below_step hb1 hb2⟩
set_option maxRecDepth 100000 in
theorem all1_nil {Kp : World → World → Prop} (n : Nat) (bx : Nat) (w : World) (hbx : w.cell? ⟨bx, 0, none⟩ = some (.pointer none)) :
    SeqStopsM Fence.wide n Try.prog 16 #[.pointer (some ⟨bx, 0, none⟩)] encSeat (fun _ _ _ => False) Kp (fun xs => xs = []) (fun _ => True) w := fun l J Jx W hW hJ _ hY h0 => by
  have hbl := World.block_lt_of_cell? w _ hbx
  refine callsIn_of_wp Try.func16 rfl trivial ?_ rfl
  simp only [Try.ntmps16, List.size_toArray, List.length_cons, List.length_nil, Nat.reduceAdd, Nat.reduceSub, Array.replicate_succ, Array.replicate_zero, List.push_toArray, List.append_toArray, List.nil_append, List.cons_append]
  have hB' : W.cell? ⟨bx, 0, none⟩ = some (.pointer none) := (hW.cell (p := ⟨bx, 0, none⟩) hbl).trans hbx
  gi_wp2
  refine bodyPost_ret (results_none rfl _ _ _) rfl ?_
  first | exact ⟨⟨_, rfl⟩, .inl ⟨_, rfl, h0⟩⟩ | exact ⟨⟨_, rfl⟩, .inl h0⟩ | exact h0
end Go.Proofs.Ytepbeafbfbimlaa
