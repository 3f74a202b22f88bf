/- The document's Read. -/
import Derived.Test.YtdokkhjgmhcpkaaImD5
namespace Go.Proofs.Ytdokkhjgmhcpkaa
open Go.RowKit
set_option linter.unusedVariables false
set_option linter.unusedSimpArgs false
set_option maxRecDepth 20000

def endK (n k : Nat) (b : Int) : Int := if b < 0 ∧ k < n then (k : Int) else b
theorem endB_to (q : DC) (k : Nat) (b : Int) : endB (q.to k b) = endK q.bs.length k b := rfl
theorem After.whole {α : Type} {bs : List UInt8} {rd : List UInt8 → Nat → Rd α} {x : α} {k : Nat} {b : Int} (h : After 0 (-1) (rd bs) x k b) :
    (endK bs.length k b < 0 ∧ rdWhole rd bs = .ok x) ∨ (¬ endK bs.length k b < 0 ∧ ∃ p : Nat, endK bs.length k b = (p : Int) ∧ rdWhole rd bs = .error p) := by
  have e := h.2 (by decide)
  unfold rdWhole endK
  cases hr : rd bs 0 with
  | error p =>
    rw [hr] at e
    have e : b = (p : Int) := e
    subst e
    rw [if_neg (by omega)]
    exact .inr ⟨by omega, p, rfl, rfl⟩
  | ok y =>
    rw [hr] at e
    obtain ⟨y1, y2⟩ := y
    obtain ⟨rfl, rfl, rfl⟩ : y1 = x ∧ b = -1 ∧ k = y2 := e
    dsimp only
    by_cases hk : k < bs.length
    · rw [if_pos ⟨by decide, hk⟩, if_pos hk]
      exact .inr ⟨by omega, k, rfl, rfl⟩
    · rw [if_neg (fun h => hk h.2), if_neg hk]
      exact .inl ⟨by decide, rfl⟩
def zSd : SideP := ⟨0, 0, 0, [], [], [], [], []⟩
theorem own_nilS (W : World) (B : Nat) : StateOwn W B zeroS nilS := by
  have h0 : OwnInts W B nilSl [] := OwnInts.nil _ _
  have h1 : OwnThings W B nilSl [] := OwnThings.nil _ _
  have hz : wf64 0 := by show (Lit.int .i64 0).wf = true; decide
  have hz8 : wf8 0 := by show (Lit.int .i8 0).wf = true; decide
  have h2 : SideOwn W B ⟨0, 0, 0, [], [], [], [], []⟩ nilSH := ⟨hz, hz, hz, h0, h0, h0, h1, h0⟩
  exact ⟨hz, hz, hz8, hz8, h0, hz, h2, h2⟩
set_option maxHeartbeats 4000000 in
theorem read_d (w : World) (a : Option Addr) (n cap : Nat) (bs : List UInt8) (hb : BytesAt w a bs) (hn : bs.length = n) (hm : n ≤ 1048576) :
    Calls Try.prog 13 #[.slice a n cap] w fun e w' => ∃ h, e = .returned (.tuple #[stateVal (readS bs).1 h, .int .i64 ((readS bs).2.1 : Int), .int .i64 (readS bs).2.2]) ∧ StateOwn w' w.heap.size (readS bs).1 h ∧ Below w.heap.size w w' := by
  have HN := Lib.hid hn
  clear hn
  have d0 : decide ((1048576 : Int) < (n : Int)) = false := by simp; omega
  go_enter Try.func13, Try.ntmps13
  go_upto_region 1 with (fail)
  obtain ⟨X, hX⟩ : ∃ X, X = w.heap.size := ⟨_, rfl⟩
  rw [← hX]
  refine wp_forget (fun W => Blk W X (stateCells zeroS nilS).toArray 29 ∧ Below w.heap.size w W) ⟨by rw [hX]; exact Blk.new w (stateCells zeroS nilS).toArray _, by (try unfold Kept); repeat (first | assumption | exact Below.refl _ _ | exact below_undrew (Below.refl _ _) | exact Below.mono (by assumption) (by first | (simp; done) | (simp; omega) | omega) | refine below_setRow ?_ (by first | (simp; done) | (simp; omega) | omega) _ | refine Below.setCell ?_ (by first | (simp; done) | (simp; omega) | omega) _ | refine Below.alloc ?_ (by first | (simp; done) | (simp; omega) | omega) _ | refine below_drewN ?_ _ | refine Below.drew ?_ | refine below_undrew ?_ | refine below_step ?_ (by assumption))⟩ ?_
  rintro W0 ⟨bx0, hb0⟩
  have hXl := bx0.lt
  have hgX : w.heap.size ≤ X := Nat.le_of_eq hX.symm
  clear hX
  go_upto_region 4 with (fail)
  obtain ⟨C, hC⟩ : ∃ C, C = W0.heap.size := ⟨_, rfl⟩
  rw [← hC]
  refine wp_forget (fun W => Blk W C #[.slice a n cap, .int .i64 0, .int .i64 (-1)] 62 ∧ Below W0.heap.size W0 W) ⟨by rw [hC]; exact Blk.new W0 _ _, by (try unfold Kept); repeat (first | assumption | exact Below.refl _ _ | exact below_undrew (Below.refl _ _) | exact Below.mono (by assumption) (by first | (simp; done) | (simp; omega) | omega) | refine below_setRow ?_ (by first | (simp; done) | (simp; omega) | omega) _ | refine Below.setCell ?_ (by first | (simp; done) | (simp; omega) | omega) _ | refine Below.alloc ?_ (by first | (simp; done) | (simp; omega) | omega) _ | refine below_drewN ?_ _ | refine Below.drew ?_ | refine below_undrew ?_ | refine below_step ?_ (by assumption))⟩ ?_
  rintro W1 ⟨hc1, hb1⟩
  have hXC : X ≠ C := by omega
  have hwC : w.heap.size ≤ C := by have := hb0.size; omega
  clear hC
  have hbz : BytesAt W1 a bs := hb.below (below_step hb0 hb1)
  have hlow : InB w.heap.size a bs.length := fun hp ad ha => by
    obtain ⟨b', o', e1, e2⟩ := hb 0 (by simpa using hp)
    rw [ha] at e1
    cases e1
    exact World.block_lt_of_cell? w _ e2
  obtain ⟨q, hqd⟩ : ∃ q : DC, q = ⟨C, a, cap, bs, 0, -1⟩ := ⟨_, rfl⟩
  have hB : w.heap.size ≤ w.heap.size := Nat.le_refl _
  have s1 : DStep w.heap.size w q W1 0 (-1) := by
    subst hqd
    exact ⟨⟨hwC, by show Blk W1 C #[.slice a bs.length cap, _, _] _; rw [HN.out]; exact hc1, hbz, hlow, Nat.zero_le _, by show bs.length ≤ _; rw [HN.out]; exact hm, by show (-1 : Int) ≤ -1; decide, by show (-1 : Int) ≤ 1048576; decide⟩, Turn.of_below (below_step hb0 hb1)⟩
  have hcc : ∀ k b, (q.to k b).c = C := by subst hqd; intros; rfl
  have hXc : X ≠ q.c := by subst hqd; exact hXC
  have hqs : q.bs = bs := by subst hqd; rfl
  have hqC : C = q.c := by subst hqd; rfl
  have bx1 := bx0.old hb1
  obtain ⟨B', hB'⟩ : ∃ x, x = W1.heap.size := ⟨_, rfl⟩
  have z1 : B' ≤ W1.heap.size := Nat.le_of_eq hB'
  have hXB : X < B' := by have := hb1.size; omega
  have hwB : w.heap.size ≤ B' := by omega
  have hF : ∀ x, x = q.c → x < B' := fun x hx => by rw [hx, ← hqC, hB']; exact hc1.lt
  have HQS := Lib.hid hqs
  have HQC := Lib.hid hqC
  clear hqd bx0 hb0 hb1 hc1 hbz hlow hB' hqs hqC
  have cb := num_d W1 w.heap.size (q.to 0 (-1)) s1.at' (Nat.le_trans hB s1.turn.size)
  rw [hcc] at cb
  go_wp2_with fail
  refine cb.mono ?_
  clear cb
  rintro e V ⟨m, k2, b2, rfl, t, g2⟩
  have f2 := toInt_wf m
  generalize m.toInt = turn at *
  have by' := t.blk bx1 hXc
  have fy := by'.free
  have cy : V.cell? ⟨X, 0, none⟩ = some (.int .i64 0) := by'.rule 0
  go_upto_region 5 with (fail)
  refine wp_forget (fun W => Blk W X (stateCells ⟨turn, 0, 0, false, 0, [], 0, zSd, zSd⟩ ⟨nilSl, nilSH, nilSH⟩).toArray 29 ∧ DStep w.heap.size w q W k2 b2 ∧ B' ≤ W.heap.size) ⟨by'.set 0 (.int .i64 turn), (s1.trans t).set hB hgX hXc (.int .i64 turn), by have := t.turn.size; simp [World.setRow]; omega⟩ ?_
  clear by' t bx1 s1 z1 fy cy
  rintro W2 ⟨bx2, s2,  z2⟩
  have cb := num_d W2 w.heap.size (q.to k2 b2) s2.at' (Nat.le_trans hB s2.turn.size)
  rw [hcc] at cb
  go_wp2_with fail
  refine cb.mono ?_
  clear cb
  rintro e V ⟨m, k3, b3, rfl, t, g3⟩
  have f3 := toInt_wf m
  generalize m.toInt = mover at *
  have by' := t.blk bx2 hXc
  have fy := by'.free
  have cy : V.cell? ⟨X, 1, none⟩ = some (.int .i64 0) := by'.rule 1
  go_upto_region 6 with (fail)
  refine wp_forget (fun W => Blk W X (stateCells ⟨turn, mover, 0, false, 0, [], 0, zSd, zSd⟩ ⟨nilSl, nilSH, nilSH⟩).toArray 29 ∧ DStep w.heap.size w q W k3 b3 ∧ B' ≤ W.heap.size) ⟨by'.set 1 (.int .i64 mover), (s2.trans t).set hB hgX hXc (.int .i64 mover), by have := t.turn.size; simp [World.setRow]; omega⟩ ?_
  clear by' t bx2 s2 z2 fy cy
  rintro W3 ⟨bx3, s3,  z3⟩
  have cb := small_d W3 w.heap.size (q.to k3 b3) s3.at' (Nat.le_trans hB s3.turn.size)
  rw [hcc] at cb
  go_wp2_with fail
  refine cb.mono ?_
  clear cb
  rintro e V ⟨phase, k4, b4, rfl, f4, t, g4⟩
  have by' := t.blk bx3 hXc
  have fy := by'.free
  have cy : V.cell? ⟨X, 2, none⟩ = some (.int .i8 0) := by'.rule 2
  go_upto_region 7 with (fail)
  refine wp_forget (fun W => Blk W X (stateCells ⟨turn, mover, phase, false, 0, [], 0, zSd, zSd⟩ ⟨nilSl, nilSH, nilSH⟩).toArray 29 ∧ DStep w.heap.size w q W k4 b4 ∧ B' ≤ W.heap.size) ⟨by'.set 2 (.int .i8 phase), (s3.trans t).set hB hgX hXc (.int .i8 phase), by have := t.turn.size; simp [World.setRow]; omega⟩ ?_
  clear by' t bx3 s3 z3 fy cy
  rintro W4 ⟨bx4, s4,  z4⟩
  have cb := truth_d W4 w.heap.size (q.to k4 b4) s4.at' (Nat.le_trans hB s4.turn.size)
  rw [hcc] at cb
  go_wp2_with fail
  refine cb.mono ?_
  clear cb
  rintro e V ⟨struck, k5, b5, rfl, t, g5⟩
  have by' := t.blk bx4 hXc
  have fy := by'.free
  have cy : V.cell? ⟨X, 3, none⟩ = some (.bool false) := by'.rule 3
  go_upto_region 8 with (fail)
  refine wp_forget (fun W => Blk W X (stateCells ⟨turn, mover, phase, struck, 0, [], 0, zSd, zSd⟩ ⟨nilSl, nilSH, nilSH⟩).toArray 29 ∧ DStep w.heap.size w q W k5 b5 ∧ B' ≤ W.heap.size) ⟨by'.set 3 (.bool struck), (s4.trans t).set hB hgX hXc (.bool struck), by have := t.turn.size; simp [World.setRow]; omega⟩ ?_
  clear by' t bx4 s4 z4 fy cy
  rintro W5 ⟨bx5, s5,  z5⟩
  have cb := small_d W5 w.heap.size (q.to k5 b5) s5.at' (Nat.le_trans hB s5.turn.size)
  rw [hcc] at cb
  go_wp2_with fail
  refine cb.mono ?_
  clear cb
  rintro e V ⟨result, k6, b6, rfl, f6, t, g6⟩
  have by' := t.blk bx5 hXc
  have fy := by'.free
  have cy : V.cell? ⟨X, 4, none⟩ = some (.int .i8 0) := by'.rule 4
  go_upto_region 9 with (fail)
  refine wp_forget (fun W => Blk W X (stateCells ⟨turn, mover, phase, struck, result, [], 0, zSd, zSd⟩ ⟨nilSl, nilSH, nilSH⟩).toArray 29 ∧ DStep w.heap.size w q W k6 b6 ∧ B' ≤ W.heap.size) ⟨by'.set 4 (.int .i8 result), (s5.trans t).set hB hgX hXc (.int .i8 result), by have := t.turn.size; simp [World.setRow]; omega⟩ ?_
  clear by' t bx5 s5 z5 fy cy
  rintro W6 ⟨bx6, s6,  z6⟩
  have cb := nums_d W6 w.heap.size (q.to k6 b6) s6.at' (Nat.le_trans hB s6.turn.size)
  rw [hcc] at cb
  go_wp2_with fail
  refine cb.mono ?_
  clear cb
  rintro e V ⟨attackS, attack, k7, b7, rfl, on, t, g7⟩
  replace on := on.lower z6
  have by' := t.blk bx6 hXc
  have fy := by'.free
  have cy : V.cell? ⟨X, 5, none⟩ = some (.slice none 0 0) := by'.rule 5
  go_upto_region 10 with (fail)
  refine wp_forget (fun W => Blk W X (stateCells ⟨turn, mover, phase, struck, result, attack, 0, zSd, zSd⟩ ⟨attackS, nilSH, nilSH⟩).toArray 29 ∧ DStep w.heap.size w q W k7 b7 ∧ OwnInts W B' attackS attack ∧ B' ≤ W.heap.size) ⟨by'.set 5 (.slice attackS.a attackS.n attackS.c), (s6.trans t).set hB hgX hXc (.slice attackS.a attackS.n attackS.c), (on).set ⟨X, 5, none⟩ (.slice attackS.a attackS.n attackS.c) hXB, by have := t.turn.size; simp [World.setRow]; omega⟩ ?_
  clear by' t bx6 s6 z6 fy cy on
  rintro W7 ⟨bx7, s7, oattack, z7⟩
  have cb := num_d W7 w.heap.size (q.to k7 b7) s7.at' (Nat.le_trans hB s7.turn.size)
  rw [hcc] at cb
  go_wp2_with fail
  refine cb.mono ?_
  clear cb
  rintro e V ⟨m, k8, b8, rfl, t, g8⟩
  have f8 := toInt_wf m
  generalize m.toInt = next at *
  have by' := t.blk bx7 hXc
  have fy := by'.free
  have cy : V.cell? ⟨X, 6, none⟩ = some (.int .i64 0) := by'.rule 6
  go_upto_region 11 with (fail)
  refine wp_forget (fun W => Blk W X (stateCells ⟨turn, mover, phase, struck, result, attack, next, zSd, zSd⟩ ⟨attackS, nilSH, nilSH⟩).toArray 29 ∧ DStep w.heap.size w q W k8 b8 ∧ OwnInts W B' attackS attack ∧ B' ≤ W.heap.size) ⟨by'.set 6 (.int .i64 next), (s7.trans t).set hB hgX hXc (.int .i64 next), (OwnInts.turn oattack t.turn hF).set ⟨X, 6, none⟩ (.int .i64 next) hXB, by have := t.turn.size; simp [World.setRow]; omega⟩ ?_
  clear by' t bx7 s7 z7 fy cy oattack
  rintro W8 ⟨bx8, s8, oattack, z8⟩
  have cb := side_d W8 w.heap.size (q.to k8 b8) s8.at' (Nat.le_trans hB s8.turn.size)
  rw [hcc] at cb
  go_wp2_with fail
  refine cb.mono ?_
  clear cb
  rintro e V ⟨x, xS, k9, b9, rfl, on, t, g9⟩
  replace on := on.lower z8
  rw [sideVal_cells]
  have by' := t.blk bx8 hXc
  go_upto_region 12 with (refine wpList_store_at rfl 26 sideT9 (.tmp 37) _ rfl rfl rfl by' rfl (by show 7 + 8 ≤ 23; omega) rfl ?_)
  refine wp_forget (fun W => Blk W X (stateCells ⟨turn, mover, phase, struck, result, attack, next, x, zSd⟩ ⟨attackS, xS, nilSH⟩).toArray 29 ∧ DStep w.heap.size w q W k9 b9 ∧ OwnInts W B' attackS attack ∧ SideOwn W B' x xS ∧ B' ≤ W.heap.size) ⟨by'.setRow _, (s8.trans t).setRow hB hgX hXc _, (OwnInts.turn oattack t.turn hF).setRow X _ hXB, (on).setRow X _ hXB, by have := t.turn.size; simp [World.setRow]; omega⟩ ?_
  clear by' t bx8 s8 z8 on oattack
  rintro W9 ⟨bx9, s9, oattack, ox, z9⟩
  have cb := side_d W9 w.heap.size (q.to k9 b9) s9.at' (Nat.le_trans hB s9.turn.size)
  rw [hcc] at cb
  go_wp2_with fail
  refine cb.mono ?_
  clear cb
  rintro e V ⟨y, yS, k10, b10, rfl, on, t, g10⟩
  replace on := on.lower z9
  rw [sideVal_cells]
  have by' := t.blk bx9 hXc
  go_upto_region 13 with (refine wpList_store_at rfl 26 sideT9 (.tmp 41) _ rfl rfl rfl by' rfl (by show 15 + 8 ≤ 23; omega) rfl ?_)
  refine wp_forget (fun W => Blk W X (stateCells ⟨turn, mover, phase, struck, result, attack, next, x, y⟩ ⟨attackS, xS, yS⟩).toArray 29 ∧ DStep w.heap.size w q W k10 b10 ∧ OwnInts W B' attackS attack ∧ SideOwn W B' x xS ∧ SideOwn W B' y yS ∧ B' ≤ W.heap.size) ⟨by'.setRow _, (s9.trans t).setRow hB hgX hXc _, (OwnInts.turn oattack t.turn hF).setRow X _ hXB, (SideOwn.turn ox t.turn hF).setRow X _ hXB, (on).setRow X _ hXB, by have := t.turn.size; simp [World.setRow]; omega⟩ ?_
  clear by' t bx9 s9 z9 on oattack ox
  rintro W10 ⟨bx10, s10, oattack, ox, oy, z10⟩
  have hall : After 0 (-1) (rdState bs) ⟨turn, mover, phase, struck, result, attack, next, x, y⟩ k10 b10 := by
    rw [← HQS.out]
    exact After.seq g2 (After.seq g3 (After.seq g4 (After.seq g5 (After.seq g6 (After.seq g7 (After.seq g8 (After.seq g9 (After.seq g10 (After.ret s10.at'.lo)))))))))
  clear g2 g3 g4 g5 g6 g7 g8 g9 g10
  have cb := end_d W10 w.heap.size (q.to k10 b10) s10.at' (Nat.le_trans hB s10.turn.size)
  rw [hcc, endB_to, HQS.out] at cb
  have has : ∀ (ad : Addr) (w : World), (asAddr (.pointer (some ad))).run Try.prog w = .ok ad w := fun _ _ => rfl
  have hwh := hall.whole
  clear hall
  generalize endK bs.length k10 b10 = E at cb hwh
  rcases hwh with ⟨hE, hr⟩ | ⟨hE, p, rfl, hr⟩
  · have d1 : decide (E < 0) = true := by simpa using hE
    rw [d1] at cb
    have HR := Lib.hid (show readS bs = (⟨turn, mover, phase, struck, result, attack, next, x, y⟩, 0, 0) by unfold readS; rw [hr])
    clear hr hE
    go_wp2_with fail
    refine cb.mono ?_
    clear cb
    rintro e V ⟨rfl, t⟩
    have by' := t.blk bx10 hXc
    have hself := setRow_same by'
    have hst := s10.trans t
    have own : StateOwn V B' ⟨turn, mover, phase, struck, result, attack, next, x, y⟩ ⟨attackS, xS, yS⟩ := ⟨f2, f3, f4, f6, OwnInts.turn oattack t.turn hF, f8, SideOwn.turn ox t.turn hF, SideOwn.turn oy t.turn hF⟩
    clear t s10 bx10 oattack ox oy
    go_wp2_with (first | refine wpList_load_blk rfl 29 stateT (.tmp 2) rfl rfl by' rfl ?_ | (refine wpList_store_blk rfl 29 stateT (.tmp 2) _ rfl rfl rfl by' rfl rfl rfl ?_; rw [hself]))
    have cx : (loadVar 29 ⟨X, 0, none⟩).run Try.prog V = .ok (stateVal ⟨turn, mover, phase, struck, result, attack, next, x, y⟩ ⟨attackS, xS, yS⟩) V := run_load_cells stateT (cs := stateCells ⟨turn, mover, phase, struck, result, attack, next, x, y⟩ ⟨attackS, xS, yS⟩) (fun j hj => by rw [Nat.zero_add, by'.rule j]; simp [hj]) rfl
    refine bodyPost_ret (v := .tuple #[stateVal ⟨turn, mover, phase, struck, result, attack, next, x, y⟩ ⟨attackS, xS, yS⟩, .int .i64 0, .int .i64 0]) ?_ rfl ?_
    · simp [results, Try.results13, has, cx]
    · rw [HR.out]
      exact ⟨⟨attackS, xS, yS⟩, rfl, own.lower hwB, hst.turn.below (fun x hx => by subst hx; rw [← HQC.out]; exact hwC) hB⟩
  · have d1 : decide ((p : Int) < 0) = false := by simp
    rw [d1] at cb
    have HR := Lib.hid (show readS bs = (zeroS, p, 180) by unfold readS; rw [hr])
    clear hr hE
    go_wp2_with fail
    refine cb.mono ?_
    clear cb
    rintro e V ⟨rfl, t⟩
    have by' := t.blk bx10 hXc
    have hst := s10.trans t
    clear t s10 bx10 oattack ox oy
    go_upto_region 14 with (fail)
    have hcd : Blk V C (dcells (q.to k10 (p : Int))) 62 := by rw [HQC.out]; exact hst.at'.blk
    refine wp_region_treeR false (KeepAt (fun x => x = C)) (KeepAt.refl _) (fun _ _ _ h1 h2 => KeepAt.trans h1 h2) (.step 0 (.step 1 (.step 2 (.step 3 (.step 4 (.step 5 (.step 6 (.step 7 .done)))))))) (by kernel_rfl) (by kernel_rfl) (fun c a d v w h => by cases d <;> exact h) ?_
    have kc : ∀ W, KeepAt (fun x => x = C) V.drew W → ∀ i, W.cell? ⟨C, i, none⟩ = (dcells (q.to k10 (p : Int)))[i]? := fun W hW => (show Blk W C _ _ from (hW.2 _ rfl).trans hcd).rule
    unfold dcells DC.to at kc
    dsimp only at kc
    repeat (first | (refine tree_skip rfl (by rfl) ?_; simp only [Act.put, List.setIfInBounds_toArray, List.set]) | (refine tree_quiet (v := ?_) rfl rfl (by rfl) ?_ ?_; rotate_left; (intro W hW; go_simp); (try with_reducible rfl); simp only [Act.put, List.setIfInBounds_toArray, List.set]))
    refine tree_loud rfl rfl (by rfl) (fun K hK => ?_)
    refine wp_store_at (cells := (stateCells zeroS nilS).toArray) 29 stateT _ _ rfl rfl rfl by'.drew rfl (by first | (show 0 + 23 ≤ 23; omega) | (show 0 + 6 ≤ 6; omega)) rfl ?_
    obtain ⟨cs0, hcs0⟩ : ∃ cs, cs = splice (stateCells ⟨turn, mover, phase, struck, result, attack, next, x, y⟩ ⟨attackS, xS, yS⟩).toArray 0 (stateCells zeroS nilS).toArray := ⟨_, rfl⟩
    rw [← hcs0]
    have hx2 : Blk (V.drew.setRow X cs0) X cs0 29 := by'.drew.setRow cs0
    have hb2 : ∀ x, x ≠ X → (V.drew.setRow X cs0).heap[x]? = V.heap[x]? := fun x hx => Go.setRow_other _ _ _ _ hx
    have hbV : Below w.heap.size w V := hst.turn.below (fun x hx => by subst hx; rw [← HQC.out]; exact hwC) hB
    have hb3 : Below w.heap.size w (V.drew.setRow X cs0) := below_setRow hbV.drew hgX _
    have hsz : V.heap.size ≤ (V.drew.setRow X cs0).heap.size := by simp [World.setRow]
    obtain ⟨w2, hw2⟩ : ∃ W, W = V.drew.setRow X cs0 := ⟨_, rfl⟩
    rw [← hw2] at hx2 hb2 hb3 hsz ⊢
    clear hw2
    have hcs : cs0 = (stateCells zeroS nilS).toArray := by rw [hcs0]; rfl
    rw [hcs] at hx2
    clear hcs0 hcs
    refine hK _ _ ⟨hsz, fun x hx => hb2 x (by rw [show x = C from hx]; exact Ne.symm hXC)⟩ ?_
    clear hK K
    repeat (first | (refine tree_skip rfl (by rfl) ?_; simp only [Act.put, List.setIfInBounds_toArray, List.set]) | (refine tree_quiet (v := ?_) rfl rfl (by rfl) ?_ ?_; rotate_left; (intro W hW; go_simp); (try with_reducible rfl); simp only [Act.put, List.setIfInBounds_toArray, List.set]))
    refine tree_done ?_
    go_wp2_with fail
    have cx : (loadVar 29 ⟨X, 0, none⟩).run Try.prog w2 = .ok (stateVal zeroS nilS) w2 := run_load_cells stateT (cs := stateCells zeroS nilS) (fun j hj => by rw [Nat.zero_add, hx2.rule j]; simp [hj]) rfl
    refine bodyPost_ret (v := .tuple #[stateVal zeroS nilS, .int .i64 (p : Int), .int .i64 180]) ?_ rfl ?_
    · simp [results, Try.results13, has, cx]
    · rw [HR.out]
      exact ⟨nilS, rfl, own_nilS _ _, hb3⟩
end Go.Proofs.Ytdokkhjgmhcpkaa
