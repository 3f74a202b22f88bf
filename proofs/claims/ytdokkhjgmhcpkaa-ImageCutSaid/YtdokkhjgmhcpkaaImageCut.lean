/- Bytes cut short, or with more behind, are refused at that place. -/
import Derived.Test.YtdokkhjgmhcpkaaImageOne
namespace Go.Proofs.Ytdokkhjgmhcpkaa
open Go.RowKit
set_option linter.unusedVariables false
set_option linter.unusedSimpArgs false
set_option maxRecDepth 20000

theorem at_form (x P : Int) (h0 : 0 < P) (h1 : P ≤ 1000000) : ∃ p : Nat, (wrap64 (x.tmod P + P)).tmod P = (p : Int) ∧ (p : Int) < P := by
  have hlo : -P < x.tmod P := Int.lt_tmod_of_pos x h0
  have hhi : x.tmod P < P := Int.tmod_lt_of_pos x h0
  have e : wrap64 (x.tmod P + P) = x.tmod P + P := IntWalk.wrap64_in _ ⟨by omega, by omega⟩
  rw [e, Int.tmod_eq_emod_of_nonneg (by omega)]
  have h2 := Int.emod_nonneg (x.tmod P + P) (show P ≠ 0 by omega)
  have h3 := Int.emod_lt_of_pos (x.tmod P + P) h0
  exact ⟨((x.tmod P + P) % P).toNat, by omega, by omega⟩
theorem readS_cut {p : StateP} (hp : okState p) {k : Nat} (hk : k < (stateI p).length) : ∃ pos, readS ((stateI p).take k) = (zeroS, pos, 180) ∧ pos ≤ k := by
  obtain ⟨pos, h1, h2⟩ := codec_state.whole_cut hp hk
  exact ⟨pos, by unfold readS; rw [h1], h2⟩
theorem readS_more {p : StateP} (hp : okState p) (more : List UInt8) : readS (stateI p ++ more) = if more = [] then (p, 0, 0) else (zeroS, (stateI p).length, 180) := by
  unfold readS
  rw [codec_state.whole_more hp more]
  by_cases h : more = []
  · rw [if_pos h, if_pos h]
  · rw [if_neg h, if_neg h]
set_option maxHeartbeats 4000000 in
theorem imageCut_any (w : World) (p : StateP) (h : StateH) (x : Int) (a2 : Option Addr) (n2 c2 : Nat) (l2 : List UInt8) (ha : StateAt w p h) (hp : FreeU w h.x.units ∧ FreeU w h.y.units) (hl : BytesAt w a2 l2) (hn2 : l2.length = n2) :
    Calls Try.prog 4 #[stateVal p h, .int .i64 x, .slice a2 n2 c2] w fun e w' => e = .returned (.bool true) ∧ Below w.heap.size w w' := by
  have HN2 := Lib.hid hn2
  clear hn2
  have kp : decide (1000 < stateCount p) = true ∨ decide (1000 < stateCount p) = false ∧ stateCount p ≤ 1000 := by by_cases h : 1000 < stateCount p <;> simp [h]; omega
  have key1 := fun (w1 : World) (h1 : Below w.heap.size w w1) => great_any p h w1 (ha.old h1)
  generalize decide (1000 < stateCount p) = gp at key1 kp
  have hb1 := fun (w1 : World) (h1 : Below w.heap.size w w1) (hn : stateCount p ≤ 1000) => bytes_at ha hp h1 hn
  have hok := ha.ok
  have HB1 := Lib.hid hb1
  have HG1 := Lib.hid key1
  clear hb1 key1
  rw [stateVal_cells] at HG1 HB1 ⊢
  go_enter Try.func4, Try.ntmps4
  go_wp2_with (refine wpList_load_blkw (by rfl) 29 stateT (.tmp 3) rfl rfl (Blk.new _ _ _) rfl ?_)
  refine (HG1.out _ (by (try unfold Kept); repeat (first | assumption | exact Below.refl _ _ | exact below_undrew (Below.refl _ _) | exact Below.mono (by assumption) (by first | (simp; done) | (simp; omega) | omega) | refine below_setRow ?_ (by first | (simp; done) | (simp; omega) | omega) _ | refine Below.setCell ?_ (by first | (simp; done) | (simp; omega) | omega) _ | refine Below.alloc ?_ (by first | (simp; done) | (simp; omega) | omega) _ | refine below_drewN ?_ _ | refine Below.drew ?_ | refine below_undrew ?_ | refine below_step ?_ (by assumption)))).mono ?_
  rintro e w1 ⟨rfl, hb1⟩
  have hA := (Blk.new w (stateCells p h).toArray 29).old hb1
  have hbw1 : Below w.heap.size w w1 := by (try unfold Kept); repeat (first | assumption | exact Below.refl _ _ | exact below_undrew (Below.refl _ _) | exact Below.mono (by assumption) (by first | (simp; done) | (simp; omega) | omega) | refine below_setRow ?_ (by first | (simp; done) | (simp; omega) | omega) _ | refine Below.setCell ?_ (by first | (simp; done) | (simp; omega) | omega) _ | refine Below.alloc ?_ (by first | (simp; done) | (simp; omega) | omega) _ | refine below_drewN ?_ _ | refine Below.drew ?_ | refine below_undrew ?_ | refine below_step ?_ (by assumption))
  clear hb1
  rcases kp with rfl | ⟨rfl, kp⟩
  · go_wp2_with fail
    refine (wakes_any _).mono ?_
    rintro e w2 ⟨rfl, hb2⟩
    go_wp2_with fail
    go_ret
    exact ⟨rfl, by (try unfold Kept); repeat (first | assumption | exact Below.refl _ _ | exact below_undrew (Below.refl _ _) | exact Below.mono (by assumption) (by first | (simp; done) | (simp; omega) | omega) | refine below_setRow ?_ (by first | (simp; done) | (simp; omega) | omega) _ | refine Below.setCell ?_ (by first | (simp; done) | (simp; omega) | omega) _ | refine Below.alloc ?_ (by first | (simp; done) | (simp; omega) | omega) _ | refine below_drewN ?_ _ | refine Below.drew ?_ | refine below_undrew ?_ | refine below_step ?_ (by assumption))⟩
  by_cases hm : 1000 < n2
  · have d1 : decide ((1000 : Int) < (n2 : Int)) = true := by simp; omega
    go_wp2_with fail
    refine (wakes_any _).mono ?_
    rintro e w2 ⟨rfl, hb2⟩
    go_wp2_with fail
    go_ret
    exact ⟨rfl, by (try unfold Kept); repeat (first | assumption | exact Below.refl _ _ | exact below_undrew (Below.refl _ _) | exact Below.mono (by assumption) (by first | (simp; done) | (simp; omega) | omega) | refine below_setRow ?_ (by first | (simp; done) | (simp; omega) | omega) _ | refine Below.setCell ?_ (by first | (simp; done) | (simp; omega) | omega) _ | refine Below.alloc ?_ (by first | (simp; done) | (simp; omega) | omega) _ | refine below_drewN ?_ _ | refine Below.drew ?_ | refine below_undrew ?_ | refine below_step ?_ (by assumption))⟩
  have d1 : decide ((1000 : Int) < (n2 : Int)) = false := by simp; omega
  have hsm := stateI_small (w := w) (h := h) kp
  have hlo : 0 < (stateI p).length := by simp only [stateI, List.length_append, be8_length]; omega
  go_wp2_with (refine wpList_load_blkw (by rfl) 29 stateT (.tmp 3) rfl rfl hA rfl ?_)
  refine (HB1.out _ hbw1 kp).mono ?_
  rintro e w2 ⟨a1, c1, rfl, hown, hb2⟩
  have hbw2 : Below w.heap.size w w2 := below_step hbw1 hb2
  obtain ⟨N, hN⟩ : ∃ N, N = (stateI p).length := ⟨_, rfl⟩
  have HN := Lib.hid hN
  rw [← hN] at hown hsm hlo ⊢
  clear hN hA d1
  obtain ⟨g, rfl⟩ := hown.head hlo
  obtain ⟨k, hk1, hk2⟩ := at_form x (N : Int) (by omega) (by omega)
  have hNz : ((N : Int) == 0) = false := by simp; omega
  have hNe : ¬ (N : Int) = 0 := by omega
  go_upto_region 7 with (fail)
  have hkN : k < N := by omega
  obtain ⟨pos, hR, hpos⟩ := readS_cut hok (k := k) (by rw [← HN.out]; exact hkN)
  have hrow : BytesAt w2 (some ⟨g, 0, none⟩) ((stateI p).take k) := by
    have := RowAt.take k hown.row
    unfold BytesAt
    rw [List.map_take]
    exact this
  have hle := hown.le
  have hcm := hown.cap_le
  have cr := read_any w2 (some ⟨g, 0, none⟩) k c1 _ hrow (by rw [List.length_take, ← HN.out]; omega) (by omega)
  rw [hR] at cr
  have HKN := Lib.hid hkN
  clear hk1 hrow hR
  go_wp2_with fail
  refine cr.mono ?_
  clear cr
  rintro e w3 ⟨h1, rfl, hown1, hb3⟩
  rw [stateVal_cells]
  go_upto_region 8 with (refine wpList_store_blk rfl 29 stateT (.tmp 8) _ rfl rfl rfl (Blk.new _ _ _) rfl rfl (by rfl) ?_)
  have hbw3 := below_step hbw2 hb3
  refine wp_forget (fun W => Below w3.heap.size w3 W) (below_setRow ((Below.refl _ _).alloc (Nat.le_refl _) _) (Nat.le_refl _) _) ?_
  intro w4 hb4
  have hbw4 := below_step hbw3 hb4
  have hown4 : Own w4 w.heap.size 5 1 (some ⟨g, 0, none⟩) N c1 ((stateI p).map bv) := ((hown.old hb3).old hb4).lower hbw1.size
  have hl4 : BytesAt w4 a2 l2 := hl.below hbw4
  have d2 : decide ((k : Int) < (pos : Int)) = false := by simp; omega
  clear hown hown1 hb3 hb4
  have hcl := HN2.out
  go_upto_region 11 with (fail)
  have hbB : w.heap.size ≤ w4.heap.size := hbw4.size
  go_wp2_with (at_builtin; refine wpList_append_row rfl _ _ 32 rfl bytesT' rfl hown4 rfl hl4 (by rw [List.length_map, hcl, Nat.mul_one]) (bv_one _) (by unfold maxLen; omega) (by omega) hbB ?_)
  intro a5 c5 w5 hown5 hg5
  have hbw5 : Below w.heap.size w w5 := hown4.grown hbw4 (Nat.le_refl _) hg5 hbB
  have hrow5 : BytesAt w5 a5 (stateI p ++ l2) := by
    have := hown5.row
    unfold BytesAt
    rw [List.map_append]
    exact this
  have cr := read_any w5 a5 (N + n2) c5 _ hrow5 (by rw [List.length_append, ← HN.out, hcl]) (by omega)
  rw [readS_more hok l2] at cr
  have wk := fun (w1 : World) (h1 : Below w.heap.size w w1) => (wakes_any w1)
  clear hrow5 hown5 hown4 hg5 hl4
  by_cases he : l2 = []
  · have hn0 : n2 = 0 := by rw [← hcl, he]; rfl
    subst hn0
    rw [if_pos he] at cr
    clear he hcl
    go_wp2_with fail
    refine cr.mono ?_
    clear cr
    rintro e w6 ⟨h6, rfl, _, hb6⟩
    have hbw6 := below_step hbw5 hb6
    go_wp2_with fail
    refine (wk _ hbw6).mono ?_
    rintro e w7 ⟨rfl, hb7⟩
    go_wp2_with fail
    go_ret
    exact ⟨rfl, below_step hbw6 hb7⟩
  · have hn0 : 0 < n2 := by rw [← hcl]; exact List.length_pos_iff.2 he
    rw [if_neg he, ← HN.out] at cr
    have t1 : ((n2 : Int) == 0) = false := by simp; omega
    have t2 : decide ((0 : Int) < (n2 : Int)) = true := by simp; omega
    clear he hcl
    go_wp2_with fail
    refine cr.mono ?_
    clear cr
    rintro e w6 ⟨h6, rfl, _, hb6⟩
    have hbw6 := below_step hbw5 hb6
    go_wp2_with fail
    refine (wk _ hbw6).mono ?_
    rintro e w7 ⟨rfl, hb7⟩
    go_wp2_with fail
    go_ret
    exact ⟨rfl, below_step hbw6 hb7⟩
end Go.Proofs.Ytdokkhjgmhcpkaa
