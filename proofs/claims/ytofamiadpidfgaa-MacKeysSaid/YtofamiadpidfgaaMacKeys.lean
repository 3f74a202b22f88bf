/- Keys made of a key: the walk of the law. -/
import Derived.Test.YtofamiadpidfgaaMacLong
import Derived.Test.YtofamiadpidfgaaMacEq
import Derived.Test.YtofamiadpidfgaaShaRefSum
namespace Go.Proofs.Ytofamiadpidfgaa
open Go.RowKit

theorem hout_key {k k' : List UInt8} (h : ∀ i, i < 64 → bkey k i = bkey k' i) (b : List UInt8) : hout k b = hout k' b := by
  have e : ∀ x, padl (bkey k) x = padl (bkey k') x := fun x => by
    unfold padl
    apply List.map_congr_left
    intro i hi
    rw [h i (List.mem_range.1 hi)]
  unfold hout hin
  rw [e, e]
theorem bkey_long (k : List UInt8) (h : 64 < k.length) (i : Nat) (_hi : i < 64) : bkey k i = bkey (dgl k) i := by
  rw [bkey, if_pos h, bkey, if_neg (show ¬ 64 < (dgl k).length by rw [dgl_length]; omega), List.getD_eq_getElem?_getD]
  by_cases e : i < 32
  · rw [if_pos e]; simp [dgl, e]
  · rw [if_neg e, List.getElem?_eq_none (by rw [dgl_length]; omega)]; rfl
theorem bkey_more (k : List UInt8) (z : Nat) (h : k.length + z ≤ 64) (i : Nat) (_hi : i < 64) : bkey (k ++ List.replicate z 0) i = bkey k i := by
  rw [bkey, if_neg (by rw [List.length_append, List.length_replicate]; omega), bkey, if_neg (by omega), List.getD_eq_getElem?_getD, List.getD_eq_getElem?_getD]
  by_cases e : i < k.length
  · rw [List.getElem?_append_left e]
  · rw [List.getElem?_append_right (by omega), List.getElem?_eq_none (show k.length ≤ i by omega), List.getElem?_replicate]
    split <;> rfl

theorem mca_long (k b : List UInt8) (h : 64 < k.length) : mcA (dgl k) b = mcA k b := by
  unfold mcA
  rw [hout_key (fun i hi => (bkey_long k h i hi).symm) b]
theorem mca_more (k b : List UInt8) (z : Nat) (h : k.length + z ≤ 64) : mcA (k ++ List.replicate z 0) b = mcA k b := by
  unfold mcA
  rw [hout_key (fun i hi => bkey_more k z h i hi) b]
theorem below_undrew2 {w w' : World} (h : Below w.drew.heap.size w.drew w') : Below w.heap.size w w' := ⟨h.os, h.tape, h.output, h.size, h.block⟩
def Mk1 (w : World) (H : Nat) (k : List UInt8) (kn z : Nat) (f : Nat) (v i : Value) (wr : World) : Prop :=
  ∃ (t : Nat) (a : Option Addr) (c : Nat), f + t = z ∧ i = .int .i64 (t : Int) ∧ v = .slice a (kn + t) c ∧ Own wr H 5 1 a (kn + t) c ((k ++ List.replicate t 0).map bv) ∧ Below H w wr
theorem rem_in (z : Int) (kn : Nat) (h : kn ≤ 64) : ∃ r : Nat, (z.tmod (65 - (kn : Int)) + 65 - (kn : Int)).tmod (65 - (kn : Int)) = (r : Int) ∧ kn + r ≤ 64 ∧ 0 < z.tmod (65 - (kn : Int)) + 65 - (kn : Int) ∧ z.tmod (65 - (kn : Int)) + 65 - (kn : Int) < 130 := by
  obtain ⟨d, hd⟩ : ∃ d : Nat, d = 65 - kn := ⟨_, rfl⟩
  have e : 65 - (kn : Int) = (d : Int) := by omega
  rw [show z.tmod (65 - (kn : Int)) + 65 - (kn : Int) = z.tmod (65 - (kn : Int)) + (65 - (kn : Int)) by omega, e]
  have hdp : 0 < d := by omega
  have h1 : -(d : Int) < z.tmod d := by
    have := Int.lt_tmod_of_pos z (show (0 : Int) < d by omega); omega
  have h2 : z.tmod d < d := Int.tmod_lt_of_pos z (by omega)
  refine ⟨((z.tmod d + d) % d).toNat, ?_, ?_, by omega, by omega⟩
  · rw [Int.tmod_eq_emod_of_nonneg (by omega)]
    have := Int.emod_nonneg (z.tmod d + d) (show (d : Int) ≠ 0 by omega)
    omega
  · have := Int.emod_lt_of_pos (z.tmod d + d) (show (0 : Int) < d by omega)
    have := Int.emod_nonneg (z.tmod d + d) (show (d : Int) ≠ 0 by omega)
    omega
set_option maxHeartbeats 1000000 in
set_option maxRecDepth 40000 in
theorem macKeys_any (ka : Option Addr) (kn kc : Nat) (k : List UInt8) (ba : Option Addr) (bn bc : Nat) (b : List UInt8) (z : Int) (w : World) (hk : BytesAt w ka k) (hkl : k.length = kn) (hb : BytesAt w ba b) (hbl : b.length = bn)
    (kz : kn ≤ 140737488351232) (bz : bn ≤ 140737488351232) :
    Calls Try.prog 4 #[.slice ka kn kc, .slice ba bn bc, .int .i64 z] w fun e w' => e = .returned (.bool true) ∧ Below w.heap.size w w' := by
  have HK := Lib.hid hkl
  have HB := Lib.hid hbl
  clear hkl hbl
  obtain ⟨H, hH⟩ : ∃ H, H = w.heap.size := ⟨_, rfl⟩
  have HH := Lib.hid hH
  have hlens : LensAt (w.alloc (.cells #[.slice ka kn kc, .slice ba bn bc] 22)) (some ⟨w.heap.size, 0, none⟩) [kn, bn] := fun j hj => by
    have hr := RowAt.new w #[.slice ka kn kc, .slice ba bn bc] 22
    have hj2 : j = 0 ∨ j = 1 := by simp at hj; omega
    rcases hj2 with rfl | rfl
    · obtain ⟨b, o, e, hc⟩ := hr 0 (by simp)
      exact ⟨b, o, ka, kc, e, hc⟩
    · obtain ⟨b, o, e, hc⟩ := hr 1 (by simp)
      exact ⟨b, o, ba, bc, e, hc⟩
  have HLN := Lib.hid hlens
  clear hlens hH
  go_enter Try.func4, Try.ntmps4
  go_wp2_with fail
  refine (long_any [kn, bn] _ 2 2 _ HLN.out rfl (by omega) (by intro q hq; simp at hq; omega)).mono ?_
  rintro e w2 ⟨rfl, rfl⟩
  clear HLN
  refine g_forget (fun W0 => BytesAt W0 ka k ∧ BytesAt W0 ba b ∧ Below H w W0) ⟨hk.alloc _, hb.alloc _, by rw [HH.out]; exact (Below.refl _ _).alloc (Nat.le_refl _) _⟩ ?_
  have hk0 := Lib.hid hk
  have hb0 := Lib.hid hb
  clear hk hb
  rintro w2 ⟨hk, hb, hw2⟩
  by_cases hlong : 3000 < kn + bn
  · have hs : decide (3000 < [kn, bn].sum) = true := by rw [show [kn, bn].sum = kn + bn by simp]; exact decide_eq_true hlong
    rw [hs]
    clear hs
    go_wp2_with fail
    refine (mac_wakes _).mono ?_
    rintro e w3 ⟨rfl, hb3⟩
    go_wp2_with fail
    go_ret
    exact ⟨rfl, below_step (HH.out ▸ hw2) hb3⟩
  · have hs : decide (3000 < [kn, bn].sum) = false := by rw [show [kn, bn].sum = kn + bn by simp]; exact decide_eq_false hlong
    rw [hs]
    clear hs
    obtain ⟨X, hX⟩ : ∃ X, X = mcA k b := ⟨_, rfl⟩
    have heq : ∀ W, (Op.equalIn 10000 30 (.agg X) (.agg X)).run Try.prog W = .ok true W := by rw [hX]; exact eqIn32 (dgb (hout k b))
    have HX := Lib.hid hX
    clear hX
    by_cases hbig : 64 < kn
    · have tt : decide (64 < kn) = true := by simpa using hbig
      have tI : decide ((64 : Int) < (kn : Int)) = true := by simp; omega
      go_wp2_with fail
      refine (rsum_any k ka kc kn _ hk HK.out (by omega)).mono ?_
      rintro e w3 ⟨rfl, hb3⟩
      have hk3 := hk.below hb3
      have hb3' := hb.below hb3
      have hw3 := hw2.trans (hb3.mono (by have := hw2.size; have := HH.out; omega))
      clear hk hb hw2 hb3
      go_upto_region 5 with (refine wpList_store_blk rfl 30 agg32 (.tmp 7) _ (cells := dgA k) rfl rfl rfl (Blk.new _ _ _) (vA_size _ _) rfl (vA_one fun _ _ => rfl) ?_)
      obtain ⟨S, hS⟩ : ∃ S, S = w3.heap.size := ⟨_, rfl⟩
      have hS0 := Blk.new w3 (vA 32 fun _ => .int .u8 0) 30
      have hHS : H ≤ S := by have := hw3.size; have := HH.out; omega
      rw [← hS] at hS0 ⊢
      refine wp_forget (fun W0 => BytesAt W0 ka k ∧ BytesAt W0 ba b ∧ BytesAt W0 (some ⟨S, 0, none⟩) (dgl k) ∧ Below H w W0) ⟨hk3.below (below_setRow ((Below.refl _ _).alloc (Nat.le_refl _) _) (Nat.le_of_eq hS.symm) _), hb3'.below (below_setRow ((Below.refl _ _).alloc (Nat.le_refl _) _) (Nat.le_of_eq hS.symm) _), dgl_at (hS0.setRow _), below_setRow (hw3.alloc (by omega) _) (by omega) _⟩ ?_
      clear hS0 hS hk3 hb3' hw3
      rintro w4 ⟨hk, hb, hs, hw⟩
      have q2 := all32b S
      refine wp_region_old (0 :: 1 :: 3 :: 4 :: 2 :: 5 :: 6 :: 7 :: 8 :: 9 :: 10 :: []) (by kernel_rfl) (by kernel_rfl) (fun c a d v w h => by cases d <;> exact h) ?_
      repeat (first | (refine lex_skip rfl (by rfl) ?_; simp only [Act.put, List.setIfInBounds_toArray, List.set]) | (refine lex_quiet (v := ?_) rfl rfl (by rfl) ?_ ?_; rotate_left; (intro W hW; go_simp); (try with_reducible rfl); simp only [Act.put, List.setIfInBounds_toArray, List.set]))
      refine lex_loud rfl rfl (by rfl) (fun K hK => ?_); go_wp2_with fail
      refine (mac_any k b ka kn kc ba bn bc _ hk.drew HK.out (by omega) hb.drew HB.out (by omega)).mono ?_
      rw [← HX.out]
      rintro e w5 ⟨rfl, hb5⟩
      go_wp2_with fail
      refine hK _ _ hb5 ?_
      clear hK K
      have hb5' : Below w4.heap.size w4 w5 := below_undrew2 hb5
      refine lex_loud rfl rfl (by rfl) (fun K hK => ?_); go_wp2_with fail
      refine (mac_any (dgl k) b _ 32 32 ba bn bc _ (hs.below hb5') (dgl_length k) (by omega) (hb.below hb5') HB.out (by omega)).mono ?_
      rw [mca_long k b (by rw [HK.out]; exact hbig), ← HX.out]
      rintro e w6 ⟨rfl, hb6⟩
      go_wp2_with fail
      refine hK _ _ hb6 ?_
      clear hK K
      have hb06 := below_step hb5' hb6
      clear hb5 hb5' hb6
      repeat (first | (refine lex_skip rfl (by rfl) ?_; simp only [Act.put, List.setIfInBounds_toArray, List.set]) | (refine lex_quiet (v := ?_) rfl rfl (by rfl) ?_ ?_; rotate_left; (intro W hW; go_simp); (try with_reducible rfl); simp only [Act.put, List.setIfInBounds_toArray, List.set]))
      refine lex_loud rfl rfl (by rfl) (fun K hK => ?_); go_wp2_with fail
      refine (mac_wakes _).mono ?_
      rintro e w7 ⟨rfl, hb7⟩
      go_wp2_with fail
      refine hK _ _ hb7 ?_
      clear hK K
      repeat (first | (refine lex_skip rfl (by rfl) ?_; simp only [Act.put, List.setIfInBounds_toArray, List.set]) | (refine lex_quiet (v := ?_) rfl rfl (by rfl) ?_ ?_; rotate_left; (intro W hW; go_simp); (try with_reducible rfl); simp only [Act.put, List.setIfInBounds_toArray, List.set]))
      refine lex_nil ?_
      have hb07 := hw.trans ((below_step hb06 hb7).mono (by have := hw.size; have := HH.out; omega))
      clear hb06 hb7
      go_wp2_with fail
      go_ret
      exact ⟨rfl, HH.out ▸ hb07⟩
    · have tt : decide (64 < kn) = false := by simpa using hbig
      have tI : decide ((64 : Int) < (kn : Int)) = false := by simp; omega
      obtain ⟨r, hr, hr1, hr2, hr3⟩ := rem_in z kn (by omega)
      go_wp2_with (at_builtin; refine wpList_append_row rfl (.tmp 43) (.tmp 44) 22 rfl bytesT3 rfl (Own.nil _ H _ _) rfl hk (by rw [List.length_map, HK.out]; omega) (bv_one _) (by unfold maxLen; omega) (by omega) (by have := hw2.size; have := HH.out; omega) ?_)
      intro a3 c3 w3 own3 hg3
      have hw3 := (Own.nil w2 H 5 1).grown hw2 (Nat.le_refl _) hg3 (by have := hw2.size; have := HH.out; omega)
      have hww3 : Below w.heap.size w w3 := HH.out ▸ hw3
      have hst : Mk1 w H k kn r r (.slice a3 kn c3) (.int .i64 0) w3 := ⟨0, a3, c3, by omega, rfl, rfl, by simpa using own3, hw3⟩
      clear hr hr2 hr3 hk hb hw2 own3 hg3 hw3 hww3 tt tI
      go_wp2_with fail
      go_loopg [8, 9] r (Mk1 w H k kn r)
      case atStart => exact hst
      case round =>
        clear hst
        obtain ⟨t, a, c, hf, rfl, rfl, ho, hw⟩ := hrel
        have HF := Lib.hid hf
        clear hf
        have hs : H ≤ wr.heap.size := by have := hw.size; have := HH.out; omega
        by_cases ht : t < r
        · have tt : decide ((t : Int) < (r : Int)) = true := by simp; omega
          have tN : decide (t < r) = true := by simpa using ht
          go_wp2_with (at_builtin; refine wpList_append_row rfl (.tmp 51) (.tmp 52) 22 rfl bytesT3 rfl (ho.alloc _) rfl (RowAt.new' _ _ _ _ (by simp)) (by rfl) (by exact all_one _ rfl) (by unfold maxLen; omega) (by omega) (by simp; omega) ?_)
          intro a4 c4 w4 own4 hg4
          have hb4 := (ho.alloc (.cells #[Value.int .u8 0] 5)).grown (hw.alloc hs _) (Nat.le_refl _) hg4 (by simp; omega)
          clear hg4
          go_wp2_with fail
          go_roundg (gk - 1)
          case rel =>
            have hf := HF.out
            refine ⟨t + 1, a4, c4, by omega, by go_num, rfl, ?_, hb4⟩
            simpa [List.replicate_succ', bv, U8, Nat.add_assoc] using own4
          case measure => have hf := HF.out; omega
        · obtain rfl : t = r := by have := HF.out; omega
          have tt : decide ((t : Int) < (t : Int)) = false := by simp
          have tN : decide (t < t) = false := by simp
          have hww : Below w.heap.size w wr := HH.out ▸ hw
          go_wp2_with fail
          refine (mac_any (k ++ List.replicate t 0) b a (kn + t) c ba bn bc _ ho.row (by rw [List.length_append, List.length_replicate, HK.out]) (by omega) (hb0.out.below hww) HB.out (by omega)).mono ?_
          rw [mca_more k b t (by rw [HK.out]; exact hr1), ← HX.out]
          rintro e w5 ⟨rfl, hb5⟩
          have hw5 := below_step hww hb5
          go_wp2_with fail
          refine (mac_any k b ka kn kc ba bn bc _ (hk0.out.below hw5) HK.out (by omega) (hb0.out.below hw5) HB.out (by omega)).mono ?_
          rw [← HX.out]
          rintro e w6 ⟨rfl, hb6⟩
          have hw6 := below_step hw5 hb6
          clear hw hs hww hb5 hw5 hb6 ho
          go_wp2_with fail
          refine (mac_wakes _).mono ?_
          rintro e w7 ⟨rfl, hb7⟩
          go_wp2_with fail
          go_ret
          exact ⟨rfl, below_step hw6 hb7⟩
end Go.Proofs.Ytofamiadpidfgaa
