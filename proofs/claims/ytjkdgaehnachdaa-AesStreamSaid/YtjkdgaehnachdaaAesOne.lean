/- Block and Back of the program: the walks. -/
import Derived.Test.YtjkdgaehnachdaaAesBlock
namespace Go.Proofs.Ytjkdgaehnachdaa
open Go.RowKit
attribute [local go_sem] bits_xor_B8 bits_and_B8 bits_or_B8 ofInt_B8

theorem splice_all (old new : Array Value) (h : old.size = new.size) : splice old 0 new = new := by
  have e : List.drop new.size old.toList = [] := List.drop_eq_nil_of_le (by simp [h])
  simp [splice, e]
set_option maxHeartbeats 1000000 in
set_option maxRecDepth 100000 in
theorem aes_block (key s : Nat → BitVec 8) (w : World) :
    Calls Try.prog 13 #[.agg (fA 16 key), .agg (fA 16 s)] w fun e w' => e = .returned (.agg (fA 16 (enc key s))) ∧ Below w.heap.size w w' := by
  go_enter Try.func13, Try.ntmps13
  go_wp2_with fail
  refine wp_forget (fun W0 => Blk W0 w.heap.size (fA 16 key) 27 ∧ Blk W0 (w.heap.size + 1) (fA 16 s) 27 ∧ (∃ z : Array Value, z.size = 16 ∧ Blk W0 (w.heap.size + 2) z 27) ∧ Below w.heap.size w W0) ⟨Blk.new3 _ _ _ _ _, Blk.new3' _ _ _ _ _, ⟨_, rfl, Blk.new3'' w #[.int .u8 0, .int .u8 0, .int .u8 0, .int .u8 0, .int .u8 0, .int .u8 0, .int .u8 0, .int .u8 0, .int .u8 0, .int .u8 0, .int .u8 0, .int .u8 0, .int .u8 0, .int .u8 0, .int .u8 0, .int .u8 0] _ _ _⟩, by (try unfold Kept); repeat (first | assumption | exact Below.refl _ _ | exact below_undrew (Below.refl _ _) | exact Below.mono (by assumption) (by first | (simp; done) | (simp; omega) | omega) | refine below_setRow ?_ (by first | (simp; done) | (simp; omega) | omega) _ | refine Below.setCell ?_ (by first | (simp; done) | (simp; omega) | omega) _ | refine Below.alloc ?_ (by first | (simp; done) | (simp; omega) | omega) _ | refine below_drewN ?_ _ | refine Below.drew ?_ | refine below_undrew ?_ | refine below_step ?_ (by assumption))⟩ ?_
  rintro w0 ⟨hK, hS, ⟨z, hz, hZ⟩, hb⟩
  obtain ⟨H, hH⟩ : ∃ H, H = w.heap.size := ⟨_, rfl⟩
  rw [← hH] at hK hS hZ hb ⊢
  have HH := Lib.hid hH
  clear hH
  refine wp_region_treeR true Old Old.refl Old.trans (.step 0 (.step 2 (.step 1 (.step 3 (.step 4 .done))))) (by kernel_rfl) (by kernel_rfl) (fun c a d v w h => by cases d <;> exact h) ?_
  refine tree_quiet (v := .agg (fA 16 key)) rfl rfl (by rfl) (fun W hW => exec_load_as 27 agg16 _ rfl rfl rfl (hK.drew.old hW).cells (fL_length _ _)) ?_
  simp only [Act.put, List.setIfInBounds_toArray, List.set]
  refine tree_quiet (v := .agg (fA 16 s)) rfl rfl (by rfl) (fun W hW => exec_load_as 27 agg16 _ rfl rfl rfl (hS.drew.old hW).cells (fL_length _ _)) ?_
  simp only [Act.put, List.setIfInBounds_toArray, List.set]
  refine tree_loud rfl rfl (by rfl) (fun K hK => ?_); go_wp2_with fail
  refine (ready_any key _).mono ?_
  rintro e w1 ⟨g, rfl, hg, hC, hb1⟩
  go_wp2_with fail
  refine hK _ _ hb1 ?_
  clear hK K
  refine tree_loud rfl rfl (by rfl) (fun K hK => ?_); go_wp2_with fail
  refine (block_any g s key _ hC).mono ?_
  rintro e w2 ⟨rfl, hb2⟩
  have hZ2 := (hZ.drew.old hb1).old hb2
  go_wp2_with fail
  refine hK _ _ hb2 ?_
  clear hK K
  refine tree_store rfl rfl (by rfl) (fun K hK => ?_)
  refine wp_store_at 27 agg16 _ _ rfl rfl rfl hZ2 (fA_size _ _) (by omega) (fA_one _ _) ?_
  refine hK _ _ ?_
  clear hK K
  refine tree_done ?_
  rw [splice_all _ _ (by rw [hz, fA_size])]
  go_wp2_with fail
  refine post_blk rfl agg16 rfl (hZ2.setRow _) (fA_size _ _) rfl ⟨rfl, ?_⟩
  rw [HH.out] at hb ⊢
  exact below_setRow ((below_step (below_step hb (Below.refl _ _).drew) (below_step hb1 hb2))) (by omega) _

def BackRel (w : World) (H g G : Nat) (z : Array Value) (key s : Nat → BitVec 8) (f : Nat) (i : Value) (wr : World) : Prop :=
  ∃ n : Nat, f = n ∧ n ≤ 10 ∧ i = .int .i64 (n : Int) ∧ Blk wr g (fA 688 (cph key)) 55 ∧ Blk wr G (fA 16 (decs key s (10 - n))) 27 ∧ Blk wr (H + 2) z 27 ∧ Below H w wr
set_option maxHeartbeats 1000000 in
set_option maxRecDepth 100000 in
theorem aes_back (key s : Nat → BitVec 8) (w : World) :
    Calls Try.prog 15 #[.agg (fA 16 key), .agg (fA 16 s)] w fun e w' => e = .returned (.agg (fA 16 (dec key s))) ∧ Below w.heap.size w w' := by
  go_enter Try.func15, Try.ntmps15
  go_wp2_with fail
  refine wp_forget (fun W0 => Blk W0 w.heap.size (fA 16 key) 27 ∧ Blk W0 (w.heap.size + 1) (fA 16 s) 27 ∧ (∃ z : Array Value, z.size = 16 ∧ Blk W0 (w.heap.size + 2) z 27) ∧ Below w.heap.size w W0) ⟨Blk.new3 _ _ _ _ _, Blk.new3' _ _ _ _ _, ⟨_, rfl, Blk.new3'' w #[.int .u8 0, .int .u8 0, .int .u8 0, .int .u8 0, .int .u8 0, .int .u8 0, .int .u8 0, .int .u8 0, .int .u8 0, .int .u8 0, .int .u8 0, .int .u8 0, .int .u8 0, .int .u8 0, .int .u8 0, .int .u8 0] _ _ _⟩, by (try unfold Kept); repeat (first | assumption | exact Below.refl _ _ | exact below_undrew (Below.refl _ _) | exact Below.mono (by assumption) (by first | (simp; done) | (simp; omega) | omega) | refine below_setRow ?_ (by first | (simp; done) | (simp; omega) | omega) _ | refine Below.setCell ?_ (by first | (simp; done) | (simp; omega) | omega) _ | refine Below.alloc ?_ (by first | (simp; done) | (simp; omega) | omega) _ | refine below_drewN ?_ _ | refine Below.drew ?_ | refine below_undrew ?_ | refine below_step ?_ (by assumption))⟩ ?_
  rintro w0 ⟨hK, hS, ⟨z, hz, hZ⟩, hb⟩
  obtain ⟨H, hH⟩ : ∃ H, H = w.heap.size := ⟨_, rfl⟩
  rw [← hH] at hK hS hZ hb ⊢
  have HH := Lib.hid hH
  clear hH
  go_cut [5, 6] (fun c p wr => ∃ g G : Nat, c = .pointer (some ⟨g, 0, none⟩) ∧ p = .pointer (some ⟨G, 0, none⟩) ∧ H + 2 < G ∧ g ≠ G ∧ Blk wr g (fA 688 (cph key)) 55 ∧ Blk wr G (fA 16 s) 27 ∧ Blk wr (H + 2) z 27 ∧ H + 2 < g ∧ Below H w wr)
  case first =>
    refine wp_region_treeR true Old Old.refl Old.trans (.step 0 (.step 2 (.fork [(1, (.step 3 (.step 4 (.step 5 .done)))), (3, (.step 1 (.step 4 (.step 5 .done))))]))) (by kernel_rfl) (by kernel_rfl) (fun c a d v w h => by cases d <;> exact h) ?_
    refine tree_quiet (v := .agg (fA 16 key)) rfl rfl (by rfl) (fun W hW => exec_load_as 27 agg16 _ rfl rfl rfl (hK.drew.old hW).cells (fL_length _ _)) ?_
    simp only [Act.put, List.setIfInBounds_toArray, List.set]
    refine tree_quiet (v := .agg (fA 16 s)) rfl rfl (by rfl) (fun W hW => exec_load_as 27 agg16 _ rfl rfl rfl (hS.drew.old hW).cells (fL_length _ _)) ?_
    simp only [Act.put, List.setIfInBounds_toArray, List.set]
    refine tree_fork ?_
    refine tree_arm rfl (by rfl) (fun K hK => ?_) ?_
    · go_wp2_with fail
      refine (ready_any key _).mono ?_
      rintro e w1 ⟨g, rfl, hg, hC, hb1⟩
      go_wp2_with fail
      refine hK _ _ hb1 ?_
      clear hK K
      refine tree_loud rfl rfl (by rfl) (fun K hK => ?_); go_wp2_with fail
      refine hK _ _ (by (try unfold Kept); repeat (first | assumption | exact Below.refl _ _ | exact below_undrew (Below.refl _ _) | exact Below.mono (by assumption) (by first | (simp; done) | (simp; omega) | omega) | refine below_setRow ?_ (by first | (simp; done) | (simp; omega) | omega) _ | refine Below.setCell ?_ (by first | (simp; done) | (simp; omega) | omega) _ | refine Below.alloc ?_ (by first | (simp; done) | (simp; omega) | omega) _ | refine below_drewN ?_ _ | refine Below.drew ?_ | refine below_undrew ?_ | refine below_step ?_ (by assumption))) ?_
      clear hK K
      repeat (first | (refine tree_skip rfl (by rfl) ?_; simp only [Act.put, List.setIfInBounds_toArray, List.set]) | (refine tree_quiet (v := ?_) rfl rfl (by rfl) ?_ ?_; rotate_left; (intro W hW; go_simp); (try with_reducible rfl); simp only [Act.put, List.setIfInBounds_toArray, List.set]))
      refine tree_store rfl rfl (by rfl) (fun K hK => ?_)
      refine wp_store_at 27 agg16 _ _ rfl rfl rfl (Blk.new _ _ _) (fA_size _ _) (by simp) (fA_one _ _) ?_
      refine hK _ _ ?_
      clear hK K
      refine tree_done ?_
      rw [splice_all _ _ (by rw [fA_size]; rfl)]
      have hsz := hZ.lt
      have hsz1 := hb1.size
      have e1 : w0.drew.heap.size = w0.heap.size := rfl
      go_wp2_with fail
      go_meet
      exact ⟨g, w1.heap.size, rfl, rfl, by omega, by have := hC.lt; omega, (hC.alloc _).setRow_other _ _ (by have := hC.lt; omega), (Blk.new _ _ _).setRow _, ((hZ.drew.old hb1).alloc _).setRow_other _ _ (by omega), by omega, below_setRow ((hb.drew.trans (hb1.mono (by omega))).alloc (by omega) _) (by omega) _⟩
    · refine tree_arm rfl (by rfl) (fun K hK => ?_) ?_
      · go_wp2_with fail
        refine hK _ _ (by (try unfold Kept); repeat (first | assumption | exact Below.refl _ _ | exact below_undrew (Below.refl _ _) | exact Below.mono (by assumption) (by first | (simp; done) | (simp; omega) | omega) | refine below_setRow ?_ (by first | (simp; done) | (simp; omega) | omega) _ | refine Below.setCell ?_ (by first | (simp; done) | (simp; omega) | omega) _ | refine Below.alloc ?_ (by first | (simp; done) | (simp; omega) | omega) _ | refine below_drewN ?_ _ | refine Below.drew ?_ | refine below_undrew ?_ | refine below_step ?_ (by assumption))) ?_
        clear hK K
        refine tree_loud rfl rfl (by rfl) (fun K hK => ?_); go_wp2_with fail
        refine (ready_any key _).mono ?_
        rintro e w1 ⟨g, rfl, hg, hC, hb1⟩
        go_wp2_with fail
        refine hK _ _ hb1 ?_
        clear hK K
        repeat (first | (refine tree_skip rfl (by rfl) ?_; simp only [Act.put, List.setIfInBounds_toArray, List.set]) | (refine tree_quiet (v := ?_) rfl rfl (by rfl) ?_ ?_; rotate_left; (intro W hW; go_simp); (try with_reducible rfl); simp only [Act.put, List.setIfInBounds_toArray, List.set]))
        have hsz := hZ.lt
        have hsz1 := hb1.size
        have e1 : w0.drew.heap.size = w0.heap.size := rfl
        have hG := (Blk.new w0.drew #[.int .u8 0, .int .u8 0, .int .u8 0, .int .u8 0, .int .u8 0, .int .u8 0, .int .u8 0, .int .u8 0, .int .u8 0, .int .u8 0, .int .u8 0, .int .u8 0, .int .u8 0, .int .u8 0, .int .u8 0, .int .u8 0] 27).old hb1
        simp at hsz1 hg
        refine tree_store rfl rfl (by rfl) (fun K hK => ?_)
        refine wp_store_at 27 agg16 _ _ rfl rfl rfl hG (fA_size _ _) (by simp) (fA_one _ _) ?_
        refine hK _ _ ?_
        clear hK K
        refine tree_done ?_
        rw [splice_all _ _ (by rw [fA_size]; rfl)]
        go_wp2_with fail
        go_meet
        exact ⟨g, w0.heap.size, rfl, rfl, by omega, by omega, hC.setRow_other _ _ (by omega), hG.setRow _, (((hZ.drew.alloc _).old hb1)).setRow_other _ _ (by omega), by omega, below_setRow ((hb.drew.alloc (by omega) _).trans (hb1.mono (by simp; omega))) (by omega) _⟩
      · exact tree_nil
  case rest =>
    clear hK hS hZ hb
    obtain ⟨g, G, rfl, rfl, hHG, hgG, hC, hB, hZ, hHg, hb⟩ := hcut
    go_wp2_with fail
    go_loopg [7] 10 (BackRel w H g G z key s)
    case atStart => exact ⟨10, rfl, by omega, rfl, hC, by rw [show decs key s (10 - 10) = tb 16 s from rfl, fA_tb]; exact hB, hZ, hb⟩
    case round =>
      clear hC hB hZ hb
      obtain ⟨n, hgn, hn, rfl, hC, hB, hZ, hb⟩ := hrel
      have HG := Lib.hid hgn
      clear hgn
      have hsz := hC.lt
      have hsz2 := hB.lt
      by_cases h1 : 1 ≤ n
      · have tn : decide ((1 : Int) ≤ (n : Int)) = true := by simp; omega
        have e0 : decs key s (10 - (n - 1)) = dnd key n (decs key s (10 - n)) := by
          rw [show 10 - (n - 1) = (10 - n) + 1 by omega, decs, show 10 - (10 - n) = n by omega]
        have E0 := Lib.hid e0
        obtain ⟨t, ht⟩ : ∃ t, t = decs key s (10 - n) := ⟨_, rfl⟩
        rw [← ht] at hB
        have HT := Lib.hid ht
        clear e0 ht
        have keep : ∀ {a b : World}, Blk a g (fA 688 (cph key)) 55 ∧ Blk a (H + 2) z 27 ∧ Below H w a → a.grownBy b (some G) → Blk b g (fA 688 (cph key)) 55 ∧ Blk b (H + 2) z 27 ∧ Below H w b := fun h k =>
          ⟨h.1.grown k (by simp; omega), h.2.1.grown k (by simp; omega), below_only h.2.2 (by have := h.2.1.lt; omega) k (by omega)⟩
        by_cases h10 : n < 10
        · have tn2 : decide ((n : Int) < 10) = true := by simp; omega
          have e1 : dnd key n t = thr un (nrt (mx mD (sx t (rk key n)))) := by rw [dnd, if_pos h10]
          have E1 := Lib.hid e1
          clear e1
          go_wp2_with fail
          refine (key_rk G g n t key _ (by omega) hB hC).mono ?_
          rintro e w1 ⟨rfl, hB1, hg1⟩
          obtain ⟨hC1, hZ1, hb1⟩ := keep ⟨hC, hZ, hb⟩ hg1
          go_wp2_with fail
          refine (mix_any G mD _ _ hB1).mono ?_
          rintro e w2 ⟨rfl, hB2, hg2⟩
          obtain ⟨hC2, hZ2, hb2⟩ := keep ⟨hC1, hZ1, hb1⟩ hg2
          go_wp2_with fail
          refine (turn_back G _ _ hB2).mono ?_
          rintro e w3 ⟨rfl, hB3, hg3⟩
          obtain ⟨hC3, hZ3, hb3⟩ := keep ⟨hC2, hZ2, hb2⟩ hg3
          go_wp2_with fail
          refine (through_un G g _ key _ hB3 hC3).mono ?_
          rintro e w4 ⟨rfl, hB4, hg4⟩
          obtain ⟨hC4, hZ4, hb4⟩ := keep ⟨hC3, hZ3, hb3⟩ hg4
          go_wp2_with fail
          go_roundg (n - 1)
          case rel => exact ⟨n - 1, rfl, by omega, by go_num, hC4, by rw [E0.out, ← HT.out, E1.out]; exact hB4, hZ4, hb4⟩
          case measure => have := HG.out; omega
        · have tn2 : decide ((n : Int) < 10) = false := by simp; omega
          have e1 : dnd key n t = thr un (nrt (sx t (rk key n))) := by rw [dnd, if_neg h10]
          have E1 := Lib.hid e1
          clear e1
          go_wp2_with fail
          refine (key_rk G g n t key _ (by omega) hB hC).mono ?_
          rintro e w1 ⟨rfl, hB1, hg1⟩
          obtain ⟨hC1, hZ1, hb1⟩ := keep ⟨hC, hZ, hb⟩ hg1
          go_wp2_with fail
          refine (turn_back G _ _ hB1).mono ?_
          rintro e w3 ⟨rfl, hB3, hg3⟩
          obtain ⟨hC3, hZ3, hb3⟩ := keep ⟨hC1, hZ1, hb1⟩ hg3
          go_wp2_with fail
          refine (through_un G g _ key _ hB3 hC3).mono ?_
          rintro e w4 ⟨rfl, hB4, hg4⟩
          obtain ⟨hC4, hZ4, hb4⟩ := keep ⟨hC3, hZ3, hb3⟩ hg4
          go_wp2_with fail
          go_roundg (n - 1)
          case rel => exact ⟨n - 1, rfl, by omega, by go_num, hC4, by rw [E0.out, ← HT.out, E1.out]; exact hB4, hZ4, hb4⟩
          case measure => have := HG.out; omega
      · obtain rfl : n = 0 := by omega
        have tn : decide ((1 : Int) ≤ ((0 : Nat) : Int)) = false := by simp
        go_wp2_with fail
        refine (key_rk G g 0 _ key _ (by omega) hB hC).mono ?_
        rintro e w1 ⟨rfl, hB1, hg1⟩
        have hZ1 := hZ.grown hg1 (by simp; omega)
        have hb1 := below_only hb (by omega) hg1 (by omega)
        go_wp2_with (first | refine wpList_load_blk rfl 27 agg16 _ rfl rfl hB1 (fA_size _ _) ?_ | refine wpList_store_blk rfl 27 agg16 (.tmp 4) _ (cells := fA 16 (dec key s)) rfl rfl rfl hZ1 (fA_size _ _) hz (fA_one _ _) ?_)
        refine post_blk rfl agg16 rfl (hZ1.setRow _) (fA_size _ _) rfl ⟨rfl, ?_⟩
        rw [HH.out] at hb1 ⊢
        exact below_setRow hb1 (by omega) _
end Go.Proofs.Ytjkdgaehnachdaa
