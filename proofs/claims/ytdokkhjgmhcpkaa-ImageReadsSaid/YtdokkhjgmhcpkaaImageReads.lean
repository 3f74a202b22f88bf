/- Bytes are read as a state, as an action, or refused at the first that can't stand there. -/
import Derived.Test.YtdokkhjgmhcpkaaImD7
import Derived.Test.YtdokkhjgmhcpkaaSameAct
namespace Go.Proofs.Ytdokkhjgmhcpkaa
open Go.RowKit
set_option linter.unusedVariables false
set_option linter.unusedSimpArgs false
set_option maxRecDepth 20000

set_option maxHeartbeats 8000000 in
theorem imageReads_any (w : World) (a : Option Addr) (n cap : Nat) (bs : List UInt8) (hb : BytesAt w a bs) (hn : bs.length = n) :
    Calls Try.prog 5 #[.slice a n cap] w fun e w' => e = .returned (.bool true) ∧ Below w.heap.size w w' := by
  have c1 := fun (W : World) (h : Below w.heap.size w W) (hm : n ≤ 1048576) => read_any W a n cap bs (hb.below h) hn hm
  have c2 := fun (W : World) (h : Below w.heap.size w W) (hm : n ≤ 1048576) => read_d W a n cap bs (hb.below h) hn hm
  have c3 := fun (W : World) (h : Below w.heap.size w W) (hm : n ≤ 1048576) => readact_any W a n cap bs (hb.below h) hn hm
  have c4 := fun (W : World) (h : Below w.heap.size w W) (hm : n ≤ 1048576) => readact_d W a n cap bs (hb.below h) hn hm
  generalize readS bs = r at c1 c2
  generalize readA bs = s at c3 c4
  obtain ⟨p, k, er⟩ := r
  obtain ⟨x, j, es⟩ := s
  dsimp only at c1 c2 c3 c4
  have C1 := Lib.hid c1
  have C2 := Lib.hid c2
  have C3 := Lib.hid c3
  have C4 := Lib.hid c4
  clear c1 c2 c3 c4 hn hb
  by_cases hm : 20000 < n
  · have d1 : decide ((20000 : Int) < (n : Int)) = true := by simp; omega
    go_enter Try.func5, Try.ntmps5
    go_wp2_with fail
    refine (wakes_any _).mono ?_
    rintro e w2 ⟨rfl, hb2⟩
    go_wp2_with fail
    go_ret
    exact ⟨rfl, hb2⟩
  have d1 : decide ((20000 : Int) < (n : Int)) = false := by simp; omega
  have hm2 : n ≤ 1048576 := by omega
  go_enter Try.func5, Try.ntmps5
  have hbw0 : Below w.heap.size w w := Below.refl _ _
  go_upto_region 3 with (fail)
  have cb := C1.out w hbw0 hm2
  go_wp2_with fail
  refine cb.mono ?_
  clear cb
  rintro e V1 ⟨h1, rfl, hown, hb⟩
  have hat1 := hown.at
  rw [stateVal_cells]
  go_upto_region 4 with (refine wpList_store_blk rfl 29 stateT (.tmp 3) _ rfl rfl rfl (Blk.new _ _ _) rfl rfl (by rfl) ?_)
  obtain ⟨T1, hT⟩ : ∃ x, x = V1.heap.size := ⟨_, rfl⟩
  rw [← hT]
  refine wp_forget (fun W => Blk W T1 (stateCells p h1).toArray 29 ∧ Below V1.heap.size V1 W) ⟨by rw [hT]; exact (Blk.new _ _ _).setRow _, by rw [hT]; exact below_setRow ((Below.refl _ _).alloc (Nat.le_refl _) _) (Nat.le_refl _) _⟩ ?_
  rintro W1 ⟨bt1, hb'⟩
  have hbw1 := below_step (below_step hbw0 hb) hb'
  clear hT hown
  replace hat1 := hat1.old hb'
  clear hb hb' hbw0
  have cb := C2.out W1 hbw1 hm2
  go_wp2_with fail
  refine cb.mono ?_
  clear cb
  rintro e V2 ⟨h2, rfl, hown, hb⟩
  have hat2 := hown.at
  rw [stateVal_cells]
  go_upto_region 5 with (refine wpList_store_blk rfl 29 stateT (.tmp 6) _ rfl rfl rfl (Blk.new _ _ _) rfl rfl (by rfl) ?_)
  obtain ⟨T2, hT⟩ : ∃ x, x = V2.heap.size := ⟨_, rfl⟩
  rw [← hT]
  refine wp_forget (fun W => Blk W T2 (stateCells p h2).toArray 29 ∧ Below V2.heap.size V2 W) ⟨by rw [hT]; exact (Blk.new _ _ _).setRow _, by rw [hT]; exact below_setRow ((Below.refl _ _).alloc (Nat.le_refl _) _) (Nat.le_refl _) _⟩ ?_
  rintro W2 ⟨bt2, hb'⟩
  have hbw2 := below_step (below_step hbw1 hb) hb'
  clear hT hown
  replace hat2 := hat2.old hb'
  replace bt1 := (bt1.old hb).old hb'
  replace hat1 := (hat1.old hb).old hb'
  clear hb hb' hbw1
  have cb := C3.out W2 hbw2 hm2
  go_wp2_with fail
  refine cb.mono ?_
  clear cb
  rintro e V3 ⟨g1, rfl, hown, hb⟩
  have hat3 := hown.at
  rw [actionVal_cells]
  go_upto_region 6 with (refine wpList_store_blk rfl 41 actionT (.tmp 9) _ rfl rfl rfl (Blk.new _ _ _) rfl rfl (by rfl) ?_)
  obtain ⟨T3, hT⟩ : ∃ x, x = V3.heap.size := ⟨_, rfl⟩
  rw [← hT]
  refine wp_forget (fun W => Blk W T3 (actionCells x g1).toArray 41 ∧ Below V3.heap.size V3 W) ⟨by rw [hT]; exact (Blk.new _ _ _).setRow _, by rw [hT]; exact below_setRow ((Below.refl _ _).alloc (Nat.le_refl _) _) (Nat.le_refl _) _⟩ ?_
  rintro W3 ⟨bt3, hb'⟩
  have hbw3 := below_step (below_step hbw2 hb) hb'
  clear hT hown
  replace hat3 := hat3.old hb'
  replace bt1 := (bt1.old hb).old hb'
  replace hat1 := (hat1.old hb).old hb'
  replace bt2 := (bt2.old hb).old hb'
  replace hat2 := (hat2.old hb).old hb'
  clear hb hb' hbw2
  have cb := C4.out W3 hbw3 hm2
  go_wp2_with fail
  refine cb.mono ?_
  clear cb
  rintro e V4 ⟨g2, rfl, hown, hb⟩
  have hat4 := hown.at
  rw [actionVal_cells]
  go_upto_region 7 with (refine wpList_store_blk rfl 41 actionT (.tmp 12) _ rfl rfl rfl (Blk.new _ _ _) rfl rfl (by rfl) ?_)
  obtain ⟨T4, hT⟩ : ∃ x, x = V4.heap.size := ⟨_, rfl⟩
  rw [← hT]
  refine wp_forget (fun W => Blk W T4 (actionCells x g2).toArray 41 ∧ Below V4.heap.size V4 W) ⟨by rw [hT]; exact (Blk.new _ _ _).setRow _, by rw [hT]; exact below_setRow ((Below.refl _ _).alloc (Nat.le_refl _) _) (Nat.le_refl _) _⟩ ?_
  rintro W4 ⟨bt4, hb'⟩
  have hbw4 := below_step (below_step hbw3 hb) hb'
  clear hT hown
  replace hat4 := hat4.old hb'
  replace bt1 := (bt1.old hb).old hb'
  replace hat1 := (hat1.old hb).old hb'
  replace bt2 := (bt2.old hb).old hb'
  replace hat2 := (hat2.old hb).old hb'
  replace bt3 := (bt3.old hb).old hb'
  replace hat3 := (hat3.old hb).old hb'
  clear hb hb' hbw3
  have cs := sameState_any p p h1 h2 W4 hat1 hat2
  rw [decide_eq_true rfl, stateVal_cells, stateVal_cells] at cs
  go_wp2_with (first | refine wpList_load_blkw (by rfl) 29 stateT (.tmp 3) rfl rfl bt1 rfl ?_ | refine wpList_load_blkw (by rfl) 29 stateT (.tmp 6) rfl rfl bt2 rfl ?_)
  refine cs.mono ?_
  clear cs
  rintro e w8 ⟨rfl, hb8⟩
  have hbw8 := below_step hbw4 hb8
  replace bt3 := bt3.old hb8
  replace bt4 := bt4.old hb8
  have cs := sameAct_any w8 x g1 g2 (hat3.old hb8) (hat4.old hb8)
  rw [actionVal_cells, actionVal_cells] at cs
  go_wp2_with (first | refine wpList_load_blkw (by rfl) 41 actionT (.tmp 9) rfl rfl bt3 rfl ?_ | refine wpList_load_blkw (by rfl) 41 actionT (.tmp 12) rfl rfl bt4 rfl ?_)
  refine cs.mono ?_
  clear cs
  rintro e w9 ⟨rfl, hb9⟩
  have hbw9 := below_step hbw8 hb9
  go_wp2_with fail
  refine (wakes_any _).mono ?_
  rintro e w2 ⟨rfl, hb2⟩
  go_wp2_with fail
  go_ret
  exact ⟨rfl, below_step hbw9 hb2⟩
end Go.Proofs.Ytdokkhjgmhcpkaa
