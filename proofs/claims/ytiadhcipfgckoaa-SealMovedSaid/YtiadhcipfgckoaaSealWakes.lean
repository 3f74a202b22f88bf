/- What the document says of a record. -/
import Derived.Test.YtiadhcipfgckoaaSealOpen
import Derived.Test.YtiadhcipfgckoaaSealWakeNum
namespace Go.Proofs.Ytiadhcipfgckoaa
open Go.RowKit

theorem openL_seal (m : List UInt8) (g n : Nat) (b : List UInt8) (h : b.length ≤ 65504) : openL m g n (sealL m g n b) = (b, 0) := by
  have e1 : (sealL m g n b).length - 32 = (stm (ckB m g) (nonB g n) b).length := by rw [sealL_length, stm_length]; omega
  have e2 : (sealL m g n b).take ((sealL m g n b).length - 32) = stm (ckB m g) (nonB g n) b := by rw [e1, sealL, List.take_left]
  have e3 : (sealL m g n b).drop ((sealL m g n b).length - 32) = dgl (markL m g n (stm (ckB m g) (nonB g n) b)) := by rw [e1, sealL, List.drop_left]
  unfold openL
  rw [e2, e3, if_pos ⟨by rw [sealL_length]; omega, by rw [sealL_length]; omega, rfl⟩, stm_stm]
theorem openL_wake : openL mast 5 8 (sealL mast 5 7 hello) = ([], 60) := by
  have e1 : (sealL mast 5 7 hello).length - 32 = (stm (ckB mast 5) (nonB 5 7) hello).length := by rw [sealL_length, stm_length]; omega
  have e2 : (sealL mast 5 7 hello).take ((sealL mast 5 7 hello).length - 32) = sc5 := by rw [e1, sealL, List.take_left, s_stm]
  have e3 : (sealL mast 5 7 hello).drop ((sealL mast 5 7 hello).length - 32) = dgl (markL mast 5 7 sc5) := by rw [e1, sealL, List.drop_left, s_stm]
  unfold openL
  rw [e2, e3, if_neg]
  rintro ⟨_, _, h⟩
  have h0 := congrArg (fun l => l.getD 0 0) h
  unfold markL at h0
  rw [s_tk] at h0
  exact s_marks (by simpa [dgl] using h0.symm)
theorem game_any (B : Nat) (m : List UInt8) (g : Nat) (w : World) (hB : BoxAt w B m g) : Calls Try.prog 11 #[.pointer (some ⟨B, 0, none⟩)] w fun e w' => e = .returned (.int .u64 (g : Int)) ∧ w = w' := by
  have c0 := hB.game
  go_enter Try.func11, Try.ntmps11
  go_wp2_with fail
  go_ret
  exact ⟨rfl, rfl⟩
theorem game_nil (w : World) : Calls Try.prog 11 #[.pointer none] w fun e w' => e = .returned (.int .u64 0) ∧ w = w' := by
  go_enter Try.func11, Try.ntmps11
  go_wp2_with fail
  go_ret
  exact ⟨rfl, rfl⟩
set_option maxHeartbeats 2000000 in
set_option maxRecDepth 100000 in
theorem seal_wakes (w : World) : Calls Try.prog 8 #[] w fun e w' => e = .returned (.bool true) ∧ Below w.heap.size w w' := by
  have kc := fun (w : World) (C : Array Value) (n c : Nat) => Lib.run_convert_bytes_const (P := Try.prog) w 22 5 C n c Try.underlying22 Try.underlying5
  go_enter Try.func8, Try.ntmps8
  go_wp2_with fail
  have hn1 := BytesAt.new w #[.int .u8 109, .int .u8 97, .int .u8 115, .int .u8 116, .int .u8 101, .int .u8 114] 5 (6, 7) mast rfl
  refine (snew_any _ 6 _ mast 5 _ hn1 rfl (by omega) (by omega)).mono ?_
  rintro e w1 ⟨B, rfl, hBl, hB, hb1⟩
  have hw1 := ((Below.refl w.heap.size w).alloc (Nat.le_refl _) (.cells #[.int .u8 109, .int .u8 97, .int .u8 115, .int .u8 116, .int .u8 101, .int .u8 114] 5 (6, 7))).trans (hb1.mono (by simp))
  clear hn1 hb1 hBl
  have hs1 := hw1.size
  go_wp2_with fail
  have hn2 := BytesAt.new w1 #[.int .u8 104, .int .u8 101, .int .u8 108, .int .u8 108, .int .u8 111] 5 (5, 6) hello rfl
  have hB1 := hB.old ((Below.refl w1.heap.size w1).alloc (Nat.le_refl _) (.cells #[.int .u8 104, .int .u8 101, .int .u8 108, .int .u8 108, .int .u8 111] 5 (5, 6)))
  refine (seal_any B mast 5 7 _ 5 _ hello _ hB1 hn2 rfl (by omega) (by omega) (by omega)).mono ?_
  rintro e w2 ⟨a2, c2, rfl, ho2, hb2⟩
  have hB2 := hB1.old hb2
  have hw2 := (hw1.alloc hs1 (.cells #[.int .u8 104, .int .u8 101, .int .u8 108, .int .u8 108, .int .u8 111] 5 (5, 6))).trans (hb2.mono (by simp; omega))
  clear hn2 hB hB1 hw1 hb2 hs1 kc
  rw [show hello.length + 32 = 37 from rfl] at ho2 ⊢
  obtain ⟨R, hR⟩ : ∃ R, R = sealL mast 5 7 hello := ⟨_, rfl⟩
  have ho7 := openL_seal mast 5 7 hello (by decide)
  have ho8 := openL_wake
  have hRl : R.length = 37 := by rw [hR, sealL_length]; rfl
  rw [← hR] at ho2 ho7 ho8
  have HO7 := Lib.hid ho7
  have HO8 := Lib.hid ho8
  have HRL := Lib.hid hRl
  have hc2 : 37 ≤ c2 := ho2.le
  have hr2 : BytesAt w2 a2 R := ho2.row
  clear ho7 ho8 hR hRl ho2
  go_wp2_with fail
  refine (open_any B mast 5 7 a2 37 c2 R _ hB2 hr2 HRL.out hc2 (by omega) (by omega) (by omega)).mono ?_
  rintro e w3 ⟨a3, k3, c3, l3, er3, rfl, hl3, hk3, hr3, hb3⟩
  rw [HO7.out] at hl3
  obtain ⟨rfl, rfl⟩ := Prod.mk.inj hl3
  obtain rfl : k3 = 5 := by rw [← hk3]; rfl
  have hB3 := hB2.old hb3
  have hr23 := hr2.below hb3
  have hw3 := below_step hw2 hb3
  clear hl3 hk3 hB2 hr2 hw2 hb3
  go_wp2_with fail
  refine (open_any B mast 5 8 a2 37 c2 R _ hB3 hr23 HRL.out hc2 (by omega) (by omega) (by omega)).mono ?_
  rintro e w4 ⟨a4, k4, c4, l4, er4, rfl, hl4, hk4, hr4, hb4⟩
  rw [HO8.out] at hl4
  obtain ⟨rfl, rfl⟩ := Prod.mk.inj hl4
  have hB4 := hB3.old hb4
  have hr34 := hr3.below hb4
  have hw4 := below_step hw3 hb4
  clear hl4 hk4 hB3 hr23 hw3 hb4 hr4 hr3
  have s1 := run_string_of (P := Try.prog) w4 (src := 22) (dst := 9) (e := 5) (len := 5) (c := c3) Try.underlying22 Try.underlying5 Try.underlying9 hr34 (rfl : hello.length = 5)
  have hz5 := fun W => size_any 5 (by omega) (by omega) W
  have hz0 := fun W => size_any 0 (by omega) (by omega) W
  rw [show sizeI 5 = 37 from rfl] at hz5
  rw [show sizeI 0 = 32 from rfl] at hz0
  have HZ5 := Lib.hid hz5
  have HZ0 := Lib.hid hz0
  have hst : (strOf hello).toList = [104, 101, 108, 108, 111] := strOf_toList hello
  clear hz5 hz0 hr34
  go_wp2_with fail
  refine (HZ5.out _).mono ?_
  rintro e w' ⟨rfl, rfl⟩
  go_wp2_with fail
  refine (HZ0.out _).mono ?_
  rintro e w' ⟨rfl, rfl⟩
  go_wp2_with fail
  refine (game_any B mast 5 _ hB4).mono ?_
  rintro e w' ⟨rfl, rfl⟩
  go_wp2_with fail
  go_ret
  exact ⟨rfl, hw4⟩
end Go.Proofs.Ytiadhcipfgckoaa
