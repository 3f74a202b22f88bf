/- The walks through the words that the reference begins with. -/
import Derived.Test.YtdokkhjgmhcpkaaShaRefWords
namespace Go.Proofs.Ytdokkhjgmhcpkaa
open Go.RowKit

def frF (third : Bool) (l : List Nat) (j : Nat) : BitVec 32 := BitVec.ofNat 32 (hfx third (l.getD j 0) 40)
structure FrI (w : World) (H n t : Nat) (ty : TypeId) (third : Bool) (l : List Nat) (pa : Option Addr) (pc : Nat) (wr : World) : Prop where
  res : Blk wr H (vA n fun _ => .int .u32 0) ty
  out : Blk wr (H + 1) (vA n fun j => if j < t then wv (frF third l j) else .int .u32 0) ty
  own : Own wr (H + 2) 94 1 pa n pc (l.map nv)
  below : Below H w wr
def Fr1 (w : World) (H n : Nat) (ty : TypeId) (third : Bool) (l : List Nat) (pa : Option Addr) (pc : Nat) (f : Nat) (i : Value) (wr : World) : Prop :=
  ∃ t : Nat, f + t = n ∧ i = .int .i64 (t : Int) ∧ FrI w H n t ty third l pa pc wr
theorem frF_h {k j : Nat} (h : (ps k).length = 8) (hj : j < 8) : frF false (ps k) j = hwd j := by
  have e : (ps k).map (fun x => BitVec.ofNat 32 (hfx false x 40)) = hVal := by rw [ps_take h (by omega), hfx_h]
  rw [hwd, ← e, frF, List.getD_eq_getElem?_getD, List.getD_eq_getElem?_getD, List.getElem?_map, List.getElem?_eq_getElem (by omega)]
  rfl
theorem frF_k {k j : Nat} (h : (ps k).length = 64) (hj : j < 64) : frF true (ps k) j = kwd j := by
  have e : (ps k).map (fun x => BitVec.ofNat 32 (hfx true x 40)) = kVal := by
    rw [ps_take h (by omega), ← hfx_k]; rfl
  rw [kwd, ← e, frF, List.getD_eq_getElem?_getD, List.getD_eq_getElem?_getD, List.getElem?_map, List.getElem?_eq_getElem (by omega)]
  rfl
set_option maxHeartbeats 1000000 in
set_option maxRecDepth 40000 in
theorem rfirst_any (w : World) : Calls Try.prog 58 #[] w fun e w' => e = .returned (.agg (vA 8 fun j => wv (hwd j))) ∧ Below w.heap.size w w' := by
  obtain ⟨H, hH⟩ : ∃ H, H = w.heap.size := ⟨_, rfl⟩
  rw [← hH]
  have HH := Lib.hid hH
  go_enter Try.func58, Try.ntmps58
  go_wp2_with fail
  refine (rprimes_any 8 _ (by omega)).mono ?_
  rintro e w1 ⟨k, pa, pc, hk, rfl, ho, hb⟩
  simp only [World.size_alloc] at ho hb
  have hI0 : FrI w H 8 0 107 false (ps k) pa pc w1 := by
    refine ⟨?_, ?_, by rw [hH]; exact ho, ?_⟩
    · have := (Blk.new2 w (vA 8 fun _ => .int .u32 0) 107 (.cells (vA 8 fun _ => .int .u32 0) 107)).below hb (by omega)
      rw [hH]; exact this
    · have := (Blk.new2' w (vA 8 fun _ => .int .u32 0) 107 (.cells (vA 8 fun _ => .int .u32 0) 107)).below hb (by omega)
      rw [hH]; exact this.ofV fun i _ => by simp
    · rw [hH]
      exact (((Below.refl _ _).alloc (Nat.le_refl _) _).alloc (by simp) _).trans (hb.mono (by omega))
  have hp : ∀ j, j < 8 → (ps k).getD j 0 < 65536 := fun j hj => by
    rw [ps_take hk (by omega)]
    revert j; decide
  have HK := Lib.hid hk
  rw [← hH]
  clear ho hb hk hH
  go_wp2_with fail
  go_loopg [3] 8 (Fr1 w H 8 107 false (ps k) pa pc)
  case atStart => exact ⟨0, by omega, rfl, hI0⟩
  case round =>
    clear hI0
    obtain ⟨t, hf, rfl, hI⟩ := hrel
    by_cases ht : t < 8
    · have tt : decide ((t : Int) < 8) = true := by simp; omega
      have htI : (t : Int) < 8 := by omega
      have HF := Lib.hid hf
      clear hf
      obtain ⟨b, o, rfl, hc⟩ := hI.own.row t (by rw [List.length_map, HK.out]; exact ht)
      obtain ⟨x, hx⟩ : ∃ x, x = (ps k).getD t 0 := ⟨_, rfl⟩
      have hc' : wr.cell? ⟨b, o + t, none⟩ = some (.int .u64 (x : Int)) := by
        rw [hc, hx, List.getElem_map, List.getD_eq_getElem?_getD, List.getElem?_eq_getElem (by rw [HK.out]; exact ht)]; rfl
      have hx6 : x < 65536 := by rw [hx]; exact hp t ht
      have HX := Lib.hid hx
      clear hc hx
      go_wp2_with fail
      refine (half_any x false _ hx6).mono ?_
      rintro e w' ⟨rfl, rfl⟩
      have hU := U32_nat (hfx false x 40)
      have f3 := hI.out.free
      have c3 := hI.out.atV (show t < 8 by omega) rfl
      go_wp2_with fail
      clear c3 f3 hc' hU
      go_roundg (gk - 1)
      case rel =>
        have hf := HF.out
        refine ⟨t + 1, by omega, by go_num, hI.res.other _ _ (by show H ≠ H + 1; omega), ?_, hI.own.setCell_lt _ _ (by show H + 1 < H + 2; omega), hI.below.setCell (by show H ≤ H + 1; omega) _⟩
        refine (hI.out.setV ht _).ofV fun j _ => ?_
        by_cases e : j = t
        · subst e; rw [if_pos rfl, if_pos (by omega), frF, ← HX.out]; rfl
        · rw [if_neg e]
          by_cases e2 : j < t
          · rw [if_pos e2, if_pos (by omega)]
          · rw [if_neg e2, if_neg (by omega)]
      case measure => have hf := HF.out; omega
    · obtain rfl : t = 8 := by omega
      have tt : decide (((8 : Nat) : Int) < 8) = false := by simp
      clear hf
      have hO : Blk wr (H + 1) (vA 8 fun j => wv (hwd j)) 107 := hI.out.ofV fun j hj => by rw [if_pos hj, frF_h HK.out hj]
      have hR := hI.res
      go_wp2_with (first | refine wpList_load_blk rfl 107 agg8 _ rfl rfl hO (vA_size _ _) ?_ | refine wpList_store_blk rfl 107 agg8 (.tmp 0) _ (cells := vA 8 fun j => wv (hwd j)) rfl rfl rfl hR (vA_size _ _) (vA_size _ _) (vA_one fun _ _ => rfl) ?_)
      refine post_blk rfl agg8 rfl (hR.setRow _) (vA_size _ _) rfl ⟨rfl, ?_⟩
      exact below_setRow hI.below (Nat.le_refl _) _
set_option maxHeartbeats 1000000 in
set_option maxRecDepth 40000 in
theorem rrounds_any (w : World) : Calls Try.prog 59 #[] w fun e w' => e = .returned (.agg (vA 64 fun j => wv (kwd j))) ∧ Below w.heap.size w w' := by
  obtain ⟨H, hH⟩ : ∃ H, H = w.heap.size := ⟨_, rfl⟩
  rw [← hH]
  have HH := Lib.hid hH
  go_enter Try.func59, Try.ntmps59
  go_wp2_with fail
  refine (rprimes_any 64 _ (by omega)).mono ?_
  rintro e w1 ⟨k, pa, pc, hk, rfl, ho, hb⟩
  simp only [World.size_alloc] at ho hb
  have hI0 : FrI w H 64 0 109 true (ps k) pa pc w1 := by
    refine ⟨?_, ?_, by rw [hH]; exact ho, ?_⟩
    · have := (Blk.new2 w (vA 64 fun _ => .int .u32 0) 109 (.cells (vA 64 fun _ => .int .u32 0) 109)).below hb (by omega)
      rw [hH]; exact this
    · have := (Blk.new2' w (vA 64 fun _ => .int .u32 0) 109 (.cells (vA 64 fun _ => .int .u32 0) 109)).below hb (by omega)
      rw [hH]; exact this.ofV fun i _ => by simp
    · rw [hH]
      exact (((Below.refl _ _).alloc (Nat.le_refl _) _).alloc (by simp) _).trans (hb.mono (by omega))
  have hp : ∀ j, j < 64 → (ps k).getD j 0 < 65536 := fun j hj => by
    rw [ps_take hk (by omega)]
    revert j; decide
  have HK := Lib.hid hk
  rw [← hH]
  clear ho hb hk hH
  go_wp2_with fail
  go_loopg [3] 64 (Fr1 w H 64 109 true (ps k) pa pc)
  case atStart => exact ⟨0, by omega, rfl, hI0⟩
  case round =>
    clear hI0
    obtain ⟨t, hf, rfl, hI⟩ := hrel
    by_cases ht : t < 64
    · have tt : decide ((t : Int) < 64) = true := by simp; omega
      have htI : (t : Int) < 64 := by omega
      have HF := Lib.hid hf
      clear hf
      obtain ⟨b, o, rfl, hc⟩ := hI.own.row t (by rw [List.length_map, HK.out]; exact ht)
      obtain ⟨x, hx⟩ : ∃ x, x = (ps k).getD t 0 := ⟨_, rfl⟩
      have hc' : wr.cell? ⟨b, o + t, none⟩ = some (.int .u64 (x : Int)) := by
        rw [hc, hx, List.getElem_map, List.getD_eq_getElem?_getD, List.getElem?_eq_getElem (by rw [HK.out]; exact ht)]; rfl
      have hx6 : x < 65536 := by rw [hx]; exact hp t ht
      have HX := Lib.hid hx
      clear hc hx
      go_wp2_with fail
      refine (half_any x true _ hx6).mono ?_
      rintro e w' ⟨rfl, rfl⟩
      have hU := U32_nat (hfx true x 40)
      have f3 := hI.out.free
      have c3 := hI.out.atV (show t < 64 by omega) rfl
      go_wp2_with fail
      clear c3 f3 hc' hU
      go_roundg (gk - 1)
      case rel =>
        have hf := HF.out
        refine ⟨t + 1, by omega, by go_num, hI.res.other _ _ (by show H ≠ H + 1; omega), ?_, hI.own.setCell_lt _ _ (by show H + 1 < H + 2; omega), hI.below.setCell (by show H ≤ H + 1; omega) _⟩
        refine (hI.out.setV ht _).ofV fun j _ => ?_
        by_cases e : j = t
        · subst e; rw [if_pos rfl, if_pos (by omega), frF, ← HX.out]; rfl
        · rw [if_neg e]
          by_cases e2 : j < t
          · rw [if_pos e2, if_pos (by omega)]
          · rw [if_neg e2, if_neg (by omega)]
      case measure => have hf := HF.out; omega
    · obtain rfl : t = 64 := by omega
      have tt : decide (((64 : Nat) : Int) < 64) = false := by simp
      clear hf
      have hO : Blk wr (H + 1) (vA 64 fun j => wv (kwd j)) 109 := hI.out.ofV fun j hj => by rw [if_pos hj, frF_k HK.out hj]
      have hR := hI.res
      go_wp2_with (first | refine wpList_load_blk rfl 109 agg64 _ rfl rfl hO (vA_size _ _) ?_ | refine wpList_store_blk rfl 109 agg64 (.tmp 0) _ (cells := vA 64 fun j => wv (kwd j)) rfl rfl rfl hR (vA_size _ _) (vA_size _ _) (vA_one fun _ _ => rfl) ?_)
      refine post_blk rfl agg64 rfl (hR.setRow _) (vA_size _ _) rfl ⟨rfl, ?_⟩
      exact below_setRow hI.below (Nat.le_refl _) _
end Go.Proofs.Ytdokkhjgmhcpkaa
