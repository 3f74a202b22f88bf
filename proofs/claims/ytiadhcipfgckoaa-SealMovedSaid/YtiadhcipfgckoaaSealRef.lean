/- The document's boxes: nonces walked. -/
import Derived.Test.YtiadhcipfgckoaaSealLens
namespace Go.Proofs.Ytiadhcipfgckoaa
open Go.RowKit

theorem nonL_lo (g n j : Nat) (h : j < 4) : (nonL g n).getD j 0 = (be64 g).getD (4 + j) 0 := by
  rw [List.getD_eq_getElem?_getD, List.getD_eq_getElem?_getD, nonL, List.getElem?_append_left (by rw [List.length_drop, be64_length]; omega), List.getElem?_drop]
theorem nonL_hi (g n j : Nat) : (nonL g n).getD (4 + j) 0 = (be64 n).getD j 0 := by
  rw [List.getD_eq_getElem?_getD, List.getD_eq_getElem?_getD, nonL, List.getElem?_append_right (by rw [List.length_drop, be64_length]; omega), List.length_drop, be64_length]
  congr 2; omega
structure RnI (w : World) (H g n : Nat) (ga na : Option Addr) (gc nc t : Nat) (wr : World) : Prop where
  res : Blk wr H (vA 12 fun _ => .int .u8 0) 54
  out : Blk wr (H + 1) (vA 12 fun j => if j < t then bv ((nonL g n).getD j 0) else .int .u8 0) 54
  og : Own wr H 5 1 ga 8 gc ((be64 g).map bv)
  on : Own wr H 5 1 na 8 nc ((be64 n).map bv)
  below : Below H w wr
theorem RnI.step {w : World} {H g n : Nat} {ga na : Option Addr} {gc nc t : Nat} {wr : World} (h : RnI w H g n ga na gc nc t wr) (ht : t < 12) (x : UInt8) (hx : x = (nonL g n).getD t 0) : RnI w H g n ga na gc nc (t + 1) (wr.setCell ⟨H + 1, t, none⟩ (.int .u8 (U8 x))) :=
  ⟨h.res.other _ _ (by show H ≠ H + 1; omega), (h.out.setV ht _).ofV fun j _ => by
    by_cases e : j = t
    · subst e; rw [if_pos rfl, if_pos (by omega), hx]; rfl
    · rw [if_neg e]
      by_cases e2 : j < t
      · rw [if_pos e2, if_pos (by omega)]
      · rw [if_neg e2, if_neg (by omega)], h.og.setCell_apart h.out (by decide) _ _, h.on.setCell_apart h.out (by decide) _ _, h.below.setCell (by show H ≤ H + 1; omega) _⟩
def Rq1 (w : World) (H g n : Nat) (ga na : Option Addr) (gc nc : Nat) (f : Nat) (i : Value) (wr : World) : Prop := ∃ t : Nat, f + t = 4 ∧ i = .int .i64 (t : Int) ∧ RnI w H g n ga na gc nc t wr
def Rq2 (w : World) (H g n : Nat) (ga na : Option Addr) (gc nc : Nat) (f : Nat) (i : Value) (wr : World) : Prop := ∃ t : Nat, f + t = 8 ∧ i = .int .i64 (t : Int) ∧ RnI w H g n ga na gc nc (4 + t) wr
set_option maxHeartbeats 2000000 in
set_option maxRecDepth 100000 in
theorem rnonce_any (B g n : Nat) (w : World) (hB : w.cell? ⟨B, 0, none⟩ = some (.int .u64 (g : Int))) (hg : g < 18446744073709551616) (hn : n < 18446744073709551616) :
    Calls Try.prog 28 #[.pointer (some ⟨B, 0, none⟩), .int .u64 (n : Int)] w (NonP w g n) := by
  obtain ⟨H, hH⟩ : ∃ H, H = w.heap.size := ⟨_, rfl⟩
  have HH := Lib.hid hH
  have hBl := World.block_lt_of_cell? w _ hB
  have hR0 := (Blk.new w (vA 12 fun _ => .int .u8 0) 54).alloc (.cells (vA 12 fun _ => .int .u8 0) 54)
  have hO0 := Blk.new (w.alloc (.cells (vA 12 fun _ => .int .u8 0) 54)) (vA 12 fun _ => .int .u8 0) 54
  have hw0 := ((Below.refl w.heap.size w).alloc (Nat.le_refl _) (.cells (vA 12 fun _ => .int .u8 0) 54)).alloc (by simp) (.cells (vA 12 fun _ => .int .u8 0) 54)
  simp only [World.size_alloc] at hO0
  have c0 : ((w.alloc (.cells (vA 12 fun _ => .int .u8 0) 54)).alloc (.cells (vA 12 fun _ => .int .u8 0) 54)).cell? ⟨B, 0, none⟩ = some (.int .u64 (g : Int)) := by rw [hw0.cell hBl]; exact hB
  rw [← hH] at hR0 hO0 hw0
  have hz := zero_run zero12b
  clear hH hB hBl
  go_enter Try.func28, Try.ntmps28
  go_upto_region 2 with fail
  clear hz
  rw [← HH.out]
  refine wp_forget (fun W0 => Blk W0 H (vA 12 fun _ => .int .u8 0) 54 ∧ Blk W0 (H + 1) (vA 12 fun _ => .int .u8 0) 54 ∧ W0.cell? ⟨B, 0, none⟩ = some (.int .u64 (g : Int)) ∧ Below H w W0) ⟨hR0, hO0, c0, hw0⟩ ?_
  clear hR0 hO0 c0 hw0
  rintro w1 ⟨hR, hO, c0, hw⟩
  have hsz : H + 1 < w1.heap.size := hO.lt
  go_wp2_with fail
  refine (reight_any g hg _).mono ?_
  rintro e w2 ⟨ga, gc, rfl, hg2, hb2⟩
  have hs2 := hb2.size
  go_wp2_with fail
  refine (reight_any n hn _).mono ?_
  rintro e w3 ⟨na, nc, rfl, hn3, hb3⟩
  have hI : RnI w H g n ga na gc nc 0 w3 := ⟨(hR.old hb2).old hb3, ((hO.old hb2).old hb3).ofV fun j _ => by rw [if_neg (by omega)], (hg2.lower (by omega)).old hb3, hn3.lower (by omega), (hw.trans (hb2.mono (by omega))).trans (hb3.mono (by omega))⟩
  clear hR hO c0 hw hb2 hb3 hg2 hn3 hs2
  go_wp2_with fail
  go_loopg [8] 4 (Rq1 w H g n ga na gc nc)
  case atStart => exact ⟨0, by omega, rfl, hI⟩
  case round =>
    clear hI
    obtain ⟨t, hf, rfl, hI⟩ := hrel
    have HF := Lib.hid hf
    clear hf
    by_cases ht : t < 4
    · have tt : decide ((t : Int) < 4) = true := decide_eq_true (by omega)
      have htI : (t : Int) < 4 := by omega
      obtain ⟨x, hx⟩ : ∃ x, x = (be64 g).getD (4 + t) 0 := ⟨_, rfl⟩
      obtain ⟨b1, o1, rfl, c1⟩ := BytesAt.cellAt hI.og.row (4 + t) (by rw [be64_length]; omega)
      rw [← hx] at c1
      have c2 := hI.out.atV (show t < 12 by omega) rfl
      have f2 := hI.out.free
      have HX := Lib.hid hx
      clear hx
      go_wp2_with fail
      clear c1 c2 f2
      go_roundg (gk - 1)
      case rel => exact ⟨t + 1, by have := HF.out; omega, by go_num, hI.step (by omega) x (by rw [HX.out, nonL_lo g n t ht])⟩
      case measure => have := HF.out; omega
    · obtain rfl : t = 4 := by have := HF.out; omega
      have tt : decide (((4 : Nat) : Int) < 4) = false := by simp
      go_wp2_with fail
      go_loopg [9] 8 (Rq2 w H g n ga na gc nc)
      case atStart => exact ⟨0, by omega, rfl, hI⟩
      case round =>
        clear hI
        obtain ⟨t, hf, rfl, hI⟩ := hrel
        have HF := Lib.hid hf
        clear hf
        by_cases ht : t < 8
        · have tt : decide ((t : Int) < 8) = true := decide_eq_true (by omega)
          have htI : (t : Int) < 8 := by omega
          obtain ⟨x, hx⟩ : ∃ x, x = (be64 n).getD t 0 := ⟨_, rfl⟩
          obtain ⟨b1, o1, rfl, c1⟩ := BytesAt.cellAt hI.on.row t (by rw [be64_length]; omega)
          rw [← hx] at c1
          have c2 := hI.out.atV (show 4 + t < 12 by omega) rfl
          have f2 := hI.out.free
          have HX := Lib.hid hx
          clear hx
          go_wp2_with fail
          clear c1 c2 f2
          go_roundg (gk - 1)
          case rel => exact ⟨t + 1, by have := HF.out; omega, by go_num, hI.step (by omega) x (by rw [HX.out, nonL_hi g n t])⟩
          case measure => have := HF.out; omega
        · obtain rfl : t = 8 := by have := HF.out; omega
          have tt : decide (((8 : Nat) : Int) < 8) = false := by simp
          have hO2 := hI.out.ofV (g := fun j => bv ((nonL g n).getD j 0)) fun j hj => if_pos hj
          have hR2 := hI.res
          have hw2 := hI.below
          rw [nonA] at hO2
          clear hI
          go_wp2_with (first | refine wpList_load_blk rfl 54 agg12 _ rfl rfl hO2 (fA_size _ _) ?_ | refine wpList_store_blk rfl 54 agg12 (.tmp 4) _ (cells := fA 12 (nonB g n)) rfl rfl rfl hR2 (fA_size _ _) (vA_size _ _) (fA_one _ _) ?_)
          exact post_blk rfl agg12 rfl (hR2.setRow _) (fA_size _ _) rfl ⟨rfl, HH.out ▸ below_setRow hw2 (Nat.le_refl _) _⟩
end Go.Proofs.Ytiadhcipfgckoaa
