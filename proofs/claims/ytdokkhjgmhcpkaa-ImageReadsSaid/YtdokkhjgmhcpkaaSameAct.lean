/- Two readings of one action are the same (the document's answer). -/
import Derived.Test.YtdokkhjgmhcpkaaImageOne
namespace Go.Proofs.Ytdokkhjgmhcpkaa
open Go.RowKit
set_option linter.unusedVariables false
set_option linter.unusedSimpArgs false
set_option maxRecDepth 20000

theorem pairT : AggT Try.prog 72 2 := ⟨⟨_, Try.underlying72, rfl⟩, by kernel_rfl⟩
def KRel (w : World) (n : Nat) (f : Nat) (i : Value) (w' : World) : Prop := ∃ k : Nat, k + f = n ∧ i = .int .i64 (k : Int) ∧ Below w.heap.size w w'
set_option maxHeartbeats 1000000 in
theorem row8_same (a b : Option Addr) (n c c' : Nat) (l : List Int) (w : World) (hl : IntRow w a n c l) (hm : IntRow w b n c' l) :
    Calls Try.prog 35 #[.slice a n c, .slice b n c'] w fun e w' => e = .returned (.bool true) ∧ Below w.heap.size w w' := by
  have HL := Lib.hid hl.2.1
  have hsm := hl.2.2.2.2.1
  go_enter Try.func35, Try.ntmps35
  go_wp2_with fail
  go_loopg [5] n (KRel w n)
  case atStart => exact ⟨0, Nat.zero_add _, rfl, Below.refl _ _⟩
  case round =>
    obtain ⟨k, hk, rfl, hbw⟩ := hrel
    by_cases hlt : k < n
    · have t0 : decide ((k : Int) < (n : Int)) = true := by simp; omega
      have hkl : k < l.length := by rw [HL.out]; exact hlt
      obtain ⟨b1, o1, rfl, hc1⟩ := hl.cell k hkl
      obtain ⟨b2, o2, rfl, hc2⟩ := hm.cell k hkl
      have L1 : ∀ W, Old wr.drew W → W.cell? ⟨b1, o1 + k, none⟩ = some (.int .i64 l[k]) := fun W h => by
        rw [(below_step (below_step hbw (Below.refl _ _).drew) h).cell (World.block_lt_of_cell? w _ hc1)]; exact hc1
      have L2 : ∀ W, Old wr.drew W → W.cell? ⟨b2, o2 + k, none⟩ = some (.int .i64 l[k]) := fun W h => by
        rw [(below_step (below_step hbw (Below.refl _ _).drew) h).cell (World.block_lt_of_cell? w _ hc2)]; exact hc2
      clear hc1 hc2
      generalize l[k] = x at *
      go_wp2_with fail
      refine wp_region_old (0 :: 1 :: 2 :: 3 :: 4 :: 5 :: 6 :: 7 :: 8 :: []) (by kernel_rfl) (by kernel_rfl) (fun c a d v w h => by cases d <;> exact h) ?_
      repeat (first | (refine lex_skip rfl (by rfl) ?_; simp only [Act.put, List.setIfInBounds_toArray, List.set]) | (refine lex_quiet (v := ?_) rfl rfl (by rfl) ?_ ?_; rotate_left; (intro W hW; go_simp); (try with_reducible rfl); simp only [Act.put, List.setIfInBounds_toArray, List.set]))
      refine lex_nil ?_
      go_wp2_with fail
      go_roundg (gk - 1)
      case measure => omega
      case rel => exact ⟨k + 1, by omega, by go_num, below_step hbw (Below.refl _ _).drew⟩
    · have t0 : decide ((k : Int) < (n : Int)) = false := by simp; omega
      go_wp2_with fail
      go_ret
      exact ⟨rfl, hbw⟩
def pairVal (x : PairL) : Value := .agg #[.int .i64 x.at_, .int .i64 x.by_]
theorem neq_pair (x : PairL) (w : World) : (binOp .neq 72 (pairVal x) (pairVal x)).run Try.prog w = .ok (.bool false) w := by
  have m1 : Try.prog.eqGuardType Try.prog.depth 72 = false := by kernel_rfl
  have m2 : Try.prog.stoodInHeld 72 = false := by kernel_rfl
  unfold pairVal
  go_simp
theorem PairsAt.elem {w : World} {s : Sl} {l : List PairL} (h : Pairs w s l) (k : Nat) (hk : k < l.length) :
    ∃ b o, s.a = some ⟨b, o, none⟩ ∧ b < w.heap.size ∧ ∀ j (hj : j < l[k].cells.length), w.cell? ⟨b, o + k * 2 + j, none⟩ = some l[k].cells[j] :=
  RowAt.elem (g := PairL.cells) (sz := 2) (fun _ => rfl) h.1 (by omega) k hk
def ActRel (w : World) (cs ds : Array Value) (n : Nat) (f : Nat) (i : Value) (w' : World) : Prop :=
  ∃ k : Nat, k + f = n ∧ i = .int .i64 (k : Int) ∧ Blk w' w.heap.size cs 41 ∧ Blk w' (w.heap.size + 1) ds 41 ∧ Below w.heap.size w w'
set_option maxHeartbeats 4000000 in
theorem sameAct_any (w : World) (p : ActionP) (h g : ActionH) (ha : ActionAt w p h) (hb : ActionAt w p g) :
    Calls Try.prog 16 #[actionVal p h, actionVal p g] w fun e w' => e = .returned (.bool true) ∧ Below w.heap.size w w' := by
  obtain ⟨op, side, place, target, ids, pairs⟩ := p
  obtain ⟨⟨ia, inn, ic⟩, ⟨pa, pn, pc⟩⟩ := h
  obtain ⟨⟨ja, jn, jc⟩, ⟨qa, qn, qc⟩⟩ := g
  have hi1 : Ints w ⟨ia, inn, ic⟩ ids := ha.ids
  have hi2 : Ints w ⟨ja, jn, jc⟩ ids := hb.ids
  have hp1 : Pairs w ⟨pa, pn, pc⟩ pairs := ha.pairs
  have hp2 : Pairs w ⟨qa, qn, qc⟩ pairs := hb.pairs
  obtain rfl : inn = jn := hi1.2.1.symm.trans hi2.2.1
  obtain rfl : pn = qn := hp1.2.1.symm.trans hp2.2.1
  have HL := Lib.hid hp1.2.1
  have hsm : pn ≤ 8796093021952 := hp1.2.2.2.2.1
  clear ha hb
  unfold actionVal
  dsimp only
  go_enter Try.func16, Try.ntmps16
  go_wp2_with fail
  refine (row8_same ia ja inn ic jc ids _ (IntRow.below hi1 (by (try unfold Kept); repeat (first | assumption | exact Below.refl _ _ | exact below_undrew (Below.refl _ _) | exact Below.mono (by assumption) (by first | (simp; done) | (simp; omega) | omega) | refine below_setRow ?_ (by first | (simp; done) | (simp; omega) | omega) _ | refine Below.setCell ?_ (by first | (simp; done) | (simp; omega) | omega) _ | refine Below.alloc ?_ (by first | (simp; done) | (simp; omega) | omega) _ | refine below_drewN ?_ _ | refine Below.drew ?_ | refine below_undrew ?_ | refine below_step ?_ (by assumption)))) (IntRow.below hi2 (by (try unfold Kept); repeat (first | assumption | exact Below.refl _ _ | exact below_undrew (Below.refl _ _) | exact Below.mono (by assumption) (by first | (simp; done) | (simp; omega) | omega) | refine below_setRow ?_ (by first | (simp; done) | (simp; omega) | omega) _ | refine Below.setCell ?_ (by first | (simp; done) | (simp; omega) | omega) _ | refine Below.alloc ?_ (by first | (simp; done) | (simp; omega) | omega) _ | refine below_drewN ?_ _ | refine Below.drew ?_ | refine below_undrew ?_ | refine below_step ?_ (by assumption))))).mono ?_
  rintro e w1 ⟨rfl, hb1⟩
  have hA := (Blk.new2 _ _ _ _).old hb1
  have hB := (Blk.new2' _ _ _ _).old hb1
  have hbw1 : Below w.heap.size w w1 := by (try unfold Kept); repeat (first | assumption | exact Below.refl _ _ | exact below_undrew (Below.refl _ _) | exact Below.mono (by assumption) (by first | (simp; done) | (simp; omega) | omega) | refine below_setRow ?_ (by first | (simp; done) | (simp; omega) | omega) _ | refine Below.setCell ?_ (by first | (simp; done) | (simp; omega) | omega) _ | refine Below.alloc ?_ (by first | (simp; done) | (simp; omega) | omega) _ | refine below_drewN ?_ _ | refine Below.drew ?_ | refine below_undrew ?_ | refine below_step ?_ (by assumption))
  clear hb1 hi1 hi2
  have rA := hA.rule
  have rB := hB.rule
  go_wp2_with fail
  go_loopg [5] pn (ActRel w _ _ pn)
  case atStart => exact ⟨0, Nat.zero_add _, rfl, hA, hB, hbw1⟩
  case round =>
    clear hA hB rA rB
    obtain ⟨k, hk, rfl, hA, hB, hbw⟩ := hrel
    have rA := hA.rule
    have rB := hB.rule
    by_cases hlt : k < pn
    · have t0 : decide ((k : Int) < (pn : Int)) = true := by simp; omega
      have hkl : k < pairs.length := by rw [HL.out]; exact hlt
      obtain ⟨b1, o1, e1, hbl1, hc1⟩ := PairsAt.elem hp1 k hkl
      obtain ⟨b2, o2, e2, hbl2, hc2⟩ := PairsAt.elem hp2 k hkl
      dsimp only at e1 e2
      subst e1 e2
      have L1 : ∀ W, Old wr.drew W → ∀ j (hj : j < pairs[k].cells.length), W.cell? ⟨b1, o1 + k * 2 + j, none⟩ = some pairs[k].cells[j] := fun W h j hj => by
        rw [(below_step (below_step hbw (Below.refl _ _).drew) h).cell (show b1 < w.heap.size from hbl1)]; exact hc1 j hj
      have L2 : ∀ W, Old wr.drew W → ∀ j (hj : j < pairs[k].cells.length), W.cell? ⟨b2, o2 + k * 2 + j, none⟩ = some pairs[k].cells[j] := fun W h j hj => by
        rw [(below_step (below_step hbw (Below.refl _ _).drew) h).cell (show b2 < w.heap.size from hbl2)]; exact hc2 j hj
      clear hc1 hc2
      generalize pairs[k] = x at *
      have hq := fun W => neq_pair x W
      have HL1 := Lib.hid L1
      have HL2 := Lib.hid L2
      clear L1 L2
      have s1 : ∀ W, Old wr.drew W → W.cell? ⟨w.heap.size, 5, none⟩ = some (.slice (some ⟨b1, o1, none⟩) pn pc) := fun W hW => by rw [(hA.drew.old hW).rule]; rfl
      have s2 : ∀ W, Old wr.drew W → W.cell? ⟨w.heap.size + 1, 5, none⟩ = some (.slice (some ⟨b2, o2, none⟩) pn qc) := fun W hW => by rw [(hB.drew.old hW).rule]; rfl
      go_wp2_with fail
      refine wp_region_old (0 :: 1 :: 2 :: 3 :: 4 :: 5 :: 6 :: 7 :: 8 :: 9 :: 10 :: []) (by kernel_rfl) (by kernel_rfl) (fun c a d v w h => by cases d <;> exact h) ?_
      repeat (first | (refine lex_skip rfl (by rfl) ?_; simp only [Act.put, List.setIfInBounds_toArray, List.set]) | (refine lex_quiet (v := ?_) rfl rfl (by rfl) ?_ ?_; rotate_left; (intro W hW; go_simp); (try with_reducible rfl); simp only [Act.put, List.setIfInBounds_toArray, List.set]))
      refine lex_quiet (v := pairVal x) rfl rfl (by rfl) (fun W hW => exec_load_as 72 pairT (.tmp 59) rfl rfl rfl (HL1.out W hW) rfl) ?_
      simp only [Act.put, List.setIfInBounds_toArray, List.set]
      repeat (first | (refine lex_skip rfl (by rfl) ?_; simp only [Act.put, List.setIfInBounds_toArray, List.set]) | (refine lex_quiet (v := ?_) rfl rfl (by rfl) ?_ ?_; rotate_left; (intro W hW; go_simp); (try with_reducible rfl); simp only [Act.put, List.setIfInBounds_toArray, List.set]))
      refine lex_quiet (v := pairVal x) rfl rfl (by rfl) (fun W hW => exec_load_as 72 pairT (.tmp 64) rfl rfl rfl (HL2.out W hW) rfl) ?_
      simp only [Act.put, List.setIfInBounds_toArray, List.set]
      refine lex_quiet (v := .bool false) rfl rfl (by rfl) (fun W hW => exec_cmp .neq 72 (.tmp 60) (.tmp 65) rfl rfl rfl (by kernel_rfl) (hq W)) ?_
      simp only [Act.put, List.setIfInBounds_toArray, List.set]
      refine lex_nil ?_
      go_wp2_with fail
      go_roundg (gk - 1)
      case measure => omega
      case rel => exact ⟨k + 1, by omega, by go_num, hA.drew, hB.drew, below_step hbw (Below.refl _ _).drew⟩
    · have t0 : decide ((k : Int) < (pn : Int)) = false := by simp; omega
      go_wp2_with fail
      go_ret
      exact ⟨rfl, hbw⟩
end Go.Proofs.Ytdokkhjgmhcpkaa
