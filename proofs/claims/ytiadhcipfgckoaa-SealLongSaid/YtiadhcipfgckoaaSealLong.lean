/- Bytes that are too many are refused; nil boxes answer: the walk of the law. -/
import Derived.Test.YtiadhcipfgckoaaSealWakes
import Derived.OwnWalk
namespace Go.Proofs.Ytiadhcipfgckoaa
open Go.RowKit

theorem rem100 (z : Int) : ∃ r : Nat, (z.tmod 100 + 100).tmod 100 = (r : Int) ∧ r < 100 ∧ 0 < z.tmod 100 + 100 ∧ z.tmod 100 + 100 < 200 := by
  have h1 := Int.lt_tmod_of_pos z (show (0 : Int) < 100 by omega)
  have h2 := Int.tmod_lt_of_pos z (show (0 : Int) < 100 by omega)
  refine ⟨((z.tmod 100 + 100) % 100).toNat, ?_, by omega, by omega, by omega⟩
  rw [Int.tmod_eq_emod_of_nonneg (by omega)]
  omega
theorem i0Info : ∃ i0, Try.prog.info? 5 = some i0 ∧ i0.zero = some (.int .u8 0) ∧ i0.size = 1 ∧ i0.bytes = 1 := by
  obtain ⟨i0, h1, h2, h3, h4⟩ := info_parts (show (Try.prog.info? 5).map (fun i => (i.zero, i.size, i.bytes)) = some (some (.int .u8 0), 1, 1) by kernel_rfl)
  exact ⟨i0, h1, h2, h3, h4⟩
theorem made_zero (K : Nat) : (madeCells (Value.int .u8 0).cells (K * 1)).toList = (List.replicate K (0 : UInt8)).map bv := by
  apply List.ext_getElem
  · simp [madeCells]
  · intro i h1 h2
    simp [madeCells, Value.cells, Nat.mod_one, bv, U8]
set_option maxHeartbeats 2000000 in
set_option maxRecDepth 100000 in
theorem sealLong_any (n : Nat) (z : Int) (w : World) (hn : n < 18446744073709551616) :
    Calls Try.prog 4 #[.int .u64 (n : Int), .int .i64 z] w fun e w' => e = .returned (.bool true) ∧ Below w.heap.size w w' := by
  obtain ⟨r, hr, hr1, hr2, hr3⟩ := rem100 z
  obtain ⟨i0, hi, hz0, hsz, hby⟩ := i0Info
  have HI := Lib.hid hi
  have HZ := Lib.hid hz0
  have HS := Lib.hid hsz
  have HBY := Lib.hid hby
  clear hi hz0 hsz hby
  go_enter Try.func4, Try.ntmps4
  go_wp2_with fail
  refine (seal_nil n _ _ _ _).mono ?_
  rintro e w' ⟨rfl, rfl⟩
  go_wp2_with fail
  refine (open_nil n _ _ _ _).mono ?_
  rintro e w' ⟨rfl, rfl⟩
  go_wp2_with fail
  refine (game_nil _).mono ?_
  rintro e w' ⟨rfl, rfl⟩
  go_wp2_with fail
  refine (snew_any none 0 0 [] n _ (RowAt.nil _ _) rfl (by omega) hn).mono ?_
  rintro e w1 ⟨B, rfl, -, hB, hw1⟩
  have HR := Lib.hid hr
  clear hr hr2 hr3
  have hs1 := hw1.size
  obtain ⟨K1, hK1⟩ : ∃ K, K = 65505 + r := ⟨_, rfl⟩
  obtain ⟨K2, hK2⟩ : ∃ K, K = 65537 + r := ⟨_, rfl⟩
  have HK1 := Lib.hid hK1
  have HK2 := Lib.hid hK2
  clear hK1 hK2
  go_wp2_with (at_make; refine wpList_make_full _ rfl _ _ 22 rfl w.heap.size 5 i0 (.int .u8 0) 1 Try.underlying22 HI.out HZ.out HS.out .i64 .i64 _ _ K1 rfl rfl (by have := HK1.out; omega) (by have := HK1.out; omega) (by rw [HBY.out]; have := HK1.out; omega) (by unfold maxLen; have := HK1.out; omega) hs1 ?_; intro w2 hown hgrow)
  have hw2 := hw1.grown hgrow hs1 (by simp)
  have hB2 : BoxAt w2 B [] n := Blk.grown hB hgrow (by simp)
  have hs2 := hw2.size
  clear hown hgrow hB hw1
  refine (seal_long B n _ K1 _ _ (by have := HK1.out; omega) (by unfold maxLen; have := HK1.out; omega)).mono ?_
  rintro e w' ⟨rfl, rfl⟩
  go_wp2_with (at_make; refine wpList_make_full _ rfl _ _ 22 rfl w.heap.size 5 i0 (.int .u8 0) 1 Try.underlying22 HI.out HZ.out HS.out .i64 .i64 _ _ K2 rfl rfl (by have := HK2.out; omega) (by have := HK2.out; omega) (by rw [HBY.out]; have := HK2.out; omega) (by unfold maxLen; have := HK2.out; omega) hs2 ?_; intro w3 hown hgrow)
  have hw3 := hw2.grown hgrow hs2 (by simp)
  have hB3 : BoxAt w3 B [] n := Blk.grown hB2 hgrow (by simp)
  have hrd : BytesAt w3 (some ⟨w2.heap.size, 0, none⟩) (List.replicate K2 0) := by
    have := Own.row hown
    rw [made_zero] at this
    exact this
  clear hown hgrow hB2 hw2
  refine (open_any B [] n n _ K2 K2 (List.replicate K2 0) _ hB3 hrd (by rw [List.length_replicate]) (Nat.le_refl _) hn hn (by have := HK2.out; omega)).mono ?_
  rintro e w4 ⟨a4, k4, c4, l4, er4, rfl, hl4, hk4, hr4, hb4⟩
  have hop : openL [] n n (List.replicate K2 0) = ([], 60) := by
    unfold openL
    rw [if_neg (fun h => by have := h.2.1; rw [List.length_replicate] at this; have := HK2.out; omega)]
  rw [hop] at hl4
  obtain ⟨rfl, rfl⟩ := Prod.mk.inj hl4
  have hw4 := hw3.trans (hb4.mono hw3.size)
  have hz := fun W => size_any (65505 + (r : Int)) (by omega) (by omega) W
  rw [show sizeI (65505 + (r : Int)) = 0 by rw [sizeI, if_pos (.inr (by omega))]] at hz
  have HZ2 := Lib.hid hz
  clear hz hop hl4 hk4 hr4 hb4 hw3 hB3 hrd
  go_wp2_with fail
  refine (HZ2.out _).mono ?_
  rintro e w' ⟨rfl, rfl⟩
  go_wp2_with fail
  refine (seal_wakes _).mono ?_
  rintro e w5 ⟨rfl, hb5⟩
  go_wp2_with fail
  go_ret
  exact ⟨rfl, below_step hw4 hb5⟩
end Go.Proofs.Ytiadhcipfgckoaa
