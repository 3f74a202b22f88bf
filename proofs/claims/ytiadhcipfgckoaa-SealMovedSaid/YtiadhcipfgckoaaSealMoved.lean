/- What is sealed is opened elsewhere just if the tag is the same: the walk of the law. -/
import Derived.Test.YtiadhcipfgckoaaSealRBox
namespace Go.Proofs.Ytiadhcipfgckoaa
open Go.RowKit

theorem moved_eq (m : List UInt8) (g n g2 n2 : Nat) (b : List UInt8) (hb : b.length ≤ 65504) :
    (openL m g2 n2 (sealL m g n b)).2 = if dgl (markL m g2 n2 (stm (ckB m g) (nonB g n) b)) = dgl (markL m g n (stm (ckB m g) (nonB g n) b)) then 0 else 60 := by
  have hl : (sealL m g n b).length = b.length + 32 := sealL_length m g n b
  have h1 : (sealL m g n b).take b.length = stm (ckB m g) (nonB g n) b := by
    have : b.length = (stm (ckB m g) (nonB g n) b).length := (stm_length _ _ _).symm
    rw [sealL]
    conv => lhs; rw [this]
    rw [List.take_left]
  have h2 : (sealL m g n b).drop b.length = dgl (markL m g n (stm (ckB m g) (nonB g n) b)) := by
    have : b.length = (stm (ckB m g) (nonB g n) b).length := (stm_length _ _ _).symm
    rw [sealL]
    conv => lhs; rw [this]
    rw [List.drop_left]
  unfold openL
  rw [show (sealL m g n b).length - 32 = b.length by omega, h1, h2]
  by_cases h : dgl (markL m g n (stm (ckB m g) (nonB g n) b)) = dgl (markL m g2 n2 (stm (ckB m g) (nonB g n) b))
  · rw [if_pos ⟨by omega, by omega, h⟩, if_pos h.symm]
  · rw [if_neg (fun k => h k.2.2), if_neg (fun k => h k.symm)]
theorem tk_dgl (m : List UInt8) (g : Nat) : dgl (hout m (keyb nTag 3 g)) = tkL m g := rfl
set_option maxHeartbeats 3000000 in
set_option maxRecDepth 100000 in
theorem sealMoved_any (ma : Option Addr) (mn mc : Nat) (m : List UInt8) (g g2 n n2 : Nat) (ba : Option Addr) (bn bc : Nat) (b : List UInt8) (w : World) (hm : BytesAt w ma m) (hml : m.length = mn) (hb : BytesAt w ba b) (hbl : b.length = bn)
    (hmz : mn ≤ 140737488351232) (hbz : bn ≤ 140737488351232) (hg : g < 18446744073709551616) (hg2 : g2 < 18446744073709551616) (hn : n < 18446744073709551616) (hn2 : n2 < 18446744073709551616) :
    Calls Try.prog 6 #[.slice ma mn mc, .int .u64 (g : Int), .int .u64 (g2 : Int), .int .u64 (n : Int), .int .u64 (n2 : Int), .slice ba bn bc] w fun e w' => e = .returned (.bool true) ∧ Below w.heap.size w w' := by
  have HM := Lib.hid hml
  have HL := Lib.hid hbl
  have hm0 := Lib.hid hm
  have hb0 := Lib.hid hb
  clear hml hbl hm hb
  have hlens : LensAt (w.alloc (.cells #[.slice ma mn mc, .slice ba bn bc] 22)) (some ⟨w.heap.size, 0, none⟩) [mn, bn] := fun j hj => by
    have hr := RowAt.new w #[.slice ma mn mc, .slice ba bn bc] 22
    have hj2 : j = 0 ∨ j = 1 := by simp at hj; omega
    rcases hj2 with rfl | rfl
    · obtain ⟨b, o, e, hc⟩ := hr 0 (by simp)
      exact ⟨b, o, ma, mc, e, hc⟩
    · obtain ⟨b, o, e, hc⟩ := hr 1 (by simp)
      exact ⟨b, o, ba, bc, e, hc⟩
  have HLN := Lib.hid hlens
  clear hlens
  go_enter Try.func6, Try.ntmps6
  go_wp2_with fail
  refine (long_any [mn, bn] _ 2 2 _ HLN.out rfl (by omega) (by intro q hq; simp at hq; omega)).mono ?_
  rintro e w1 ⟨rfl, rfl⟩
  clear HLN
  refine g_forget (fun W0 => Below w.heap.size w W0) ((Below.refl _ _).alloc (Nat.le_refl _) _) ?_
  intro w1 hw1
  by_cases hlong : 2000 < mn + bn
  · have hs : decide (2000 < [mn, bn].sum) = true := by rw [show [mn, bn].sum = mn + bn by simp]; exact decide_eq_true hlong
    rw [hs]
    clear hs
    go_wp2_with fail
    refine (seal_wakes _).mono ?_
    rintro e w3 ⟨rfl, hb3⟩
    go_wp2_with fail
    go_ret
    exact ⟨rfl, below_step hw1 hb3⟩
  · have hs : decide (2000 < [mn, bn].sum) = false := by rw [show [mn, bn].sum = mn + bn by simp]; exact decide_eq_false hlong
    rw [hs]
    clear hs
    go_wp2_with fail
    refine (snew_any ma mn mc m g _ (hm0.out.below hw1) HM.out (by omega) hg).mono ?_
    rintro e w2 ⟨B1, rfl, -, hB1, hb2⟩
    have hw2 := below_step hw1 hb2
    clear hw1 hb2
    go_wp2_with fail
    refine (seal_any B1 m g n ba bn bc b _ hB1 (hb0.out.below hw2) HL.out (by omega) hg hn).mono ?_
    rintro e w3 ⟨a3, c3, rfl, ho3, hb3⟩
    have hw3 := below_step hw2 hb3
    have ho3' := ho3.lower hw2.size
    rw [HL.out] at ho3' ⊢
    obtain ⟨C, hC⟩ : ∃ C, C = stm (ckB m g) (nonB g n) b := ⟨_, rfl⟩
    obtain ⟨T, hT⟩ : ∃ T, T = dgl (markL m g n C) := ⟨_, rfl⟩
    have hR : sealL m g n b = C ++ T := by rw [hT, hC]; rfl
    have hmv := moved_eq m g n g2 n2 b (by rw [HL.out]; omega)
    have hCl : C.length = bn := by rw [hC, stm_length, HL.out]
    have hTl : T.length = 32 := by rw [hT, dgl_length]
    have hRl : (C ++ T).length = bn + 32 := by rw [List.length_append, hCl, hTl]
    rw [hR] at ho3' hmv
    rw [← hC, ← hT] at hmv
    have HMV := Lib.hid hmv
    have HCL := Lib.hid hCl
    have HTL := Lib.hid hTl
    have HRL := Lib.hid hRl
    clear hB1 hw2 hb3 ho3 hR hCl hTl hRl hmv hC hT
    go_wp2_with fail
    refine (snew_any ma mn mc m g2 _ (hm0.out.below hw3) HM.out (by omega) hg2).mono ?_
    rintro e w4 ⟨B2, rfl, -, hB2, hb4⟩
    have hw4 := below_step hw3 hb4
    have ho4 := ho3'.old hb4
    clear hw3 hb4 ho3'
    go_wp2_with fail
    refine (open_any B2 m g2 n2 a3 (bn + 32) c3 (C ++ T) _ hB2 ho4.row HRL.out ho4.le hg2 hn2 (by omega)).mono ?_
    rintro e w5 ⟨a5, k5, c5, l5, er5, rfl, hl5, -, -, hb5⟩
    have her : er5 = if dgl (markL m g2 n2 C) = T then 0 else 60 := by rw [← HMV.out, hl5]
    have HER := Lib.hid her
    have hw5 := below_step hw4 hb5
    have ho5 := ho4.old hb5
    have hs5 := hw5.size
    clear hl5 hw4 hb5 ho4 hB2 her
    go_wp2_with fail
    refine (rkey_any m ma mn mc (strOf nTag) g2 _ (hm0.out.below hw5) HM.out (by omega) (by decide) hg2).mono ?_
    unfold McOut
    rintro e w6 ⟨rfl, hb6⟩
    have ho6 := ho5.old hb6
    have hw6 := below_step hw5 hb6
    have hs6 := hw6.size
    obtain ⟨Y, hY⟩ : ∃ Y, Y = mcA m (keyb (strL (strOf nTag)) (strOf nTag).size g2) := ⟨_, rfl⟩
    have hYs : Y.size = 32 := by rw [hY]; exact vA_size _ _
    have hY1 : Y.toList.all (·.oneCell') = true := by rw [hY]; exact vA_one fun _ _ => rfl
    rw [← hY]
    have HY := Lib.hid hY
    clear hY ho5 hw5 hb6 hs5
    go_upto_region 10 with (refine wpList_store_blk rfl 38 agg32 (.tmp 17) _ (cells := Y) rfl rfl rfl (Blk.new _ _ _) hYs rfl hY1 ?_)
    obtain ⟨K, hK⟩ : ∃ K, K = w6.heap.size := ⟨_, rfl⟩
    have hK0 := Blk.new w6 (vA 32 fun _ => .int .u8 0) 38
    have hbb := below_setRow ((Below.refl w6.heap.size w6).alloc (Nat.le_refl _) (.cells (vA 32 fun _ => .int .u8 0) 38)) (Nat.le_of_eq hK.symm) Y
    rw [← hK] at hK0 ⊢
    refine wp_forget (fun W0 => Own W0 w.heap.size 5 1 a3 (bn + 32) c3 ((C ++ T).map bv) ∧ Blk W0 K Y 38 ∧ Below w.heap.size w W0 ∧ w.heap.size ≤ K) ⟨ho6.old hbb, hK0.setRow _, below_step hw6 hbb, by omega⟩ ?_
    clear ho6 hK0 hbb hK hw6 hYs hY1 hs6
    rintro w7 ⟨ho7, hK7, hw7, hKl⟩
    have hr7 := ho7.row
    have hcap : bn + 32 ≤ c3 := ho7.le
    obtain ⟨gb, ob, rfl, _⟩ := BytesAt.at hr7 (by rw [HRL.out]; omega)
    have hR7 := Lib.hid hr7
    have HK7 := Lib.hid hK7
    clear ho7 hr7 hK7 hKl
    go_wp2_with fail
    refine (reight_any g2 hg2 _).mono ?_
    rintro e w8 ⟨a8, c8, rfl, ho8, hb8⟩
    go_wp2_with fail
    refine (reight_any n2 hn2 _).mono ?_
    rintro e w9 ⟨a9, c9, rfl, ho9, hb9⟩
    have hb79 := below_step hb8 hb9
    have ho89 := ho8.old hb9
    have hr9 := ho9.row
    have hsz9 := hb79.size
    clear hb9 ho9 ho8 hb8
    go_upto_region 12 with (at_builtin; refine wpList_append_row rfl (.tmp 55) (.tmp 57) 22 rfl bytesT3 rfl ho89 rfl hr9 (by rw [List.length_map, be64_length]) (bv_one _) (by unfold maxLen; omega) (by omega) hsz9 ?_)
    intro a10 c10 w10 ho10 hg10
    have hb10 := ho89.grown hb79 (Nat.le_refl _) hg10 hsz9
    have hsz10 := hb10.size
    clear hg10 ho89 hb79 hr9 hsz9
    have hrC : BytesAt w10 (some ⟨gb, ob, none⟩) C := by
      have := RowAt.take bn (hR7.out.below hb10)
      rw [← List.map_take, List.take_left' HCL.out] at this
      exact this
    have e1 : bn ≤ c3 := by omega
    go_upto_region 13 with (at_builtin; refine wpList_append_row rfl (.tmp 59) (.tmp 63) 22 rfl bytesT3 rfl ho10 rfl hrC (by rw [List.length_map, HCL.out]; omega) (bv_one _) (by unfold maxLen; omega) (by omega) hsz10 ?_)
    intro a11 c11 w11 ho11 hg11
    have hb11 := ho10.grown hb10 (Nat.le_refl _) hg11 hsz10
    have hr11 : BytesAt w11 a11 (be64 g2 ++ be64 n2 ++ C) := by
      have := ho11.row
      unfold BytesAt
      rw [List.map_append, List.map_append]; exact this
    have hl11 : (be64 g2 ++ be64 n2 ++ C).length = 8 + 8 + bn := by rw [List.length_append, List.length_append, be64_length, be64_length, HCL.out]
    have hK11 := HK7.out.old hb11
    rw [HY.out] at hK11
    have hk11 := dgl_at hK11
    rw [show strL (strOf nTag) = nTag from rfl, show (strOf nTag).size = 3 from rfl, tk_dgl] at hk11
    have HL11 := Lib.hid hl11
    clear hg11 ho10 hb10 hsz10 hrC ho11 hl11 hK11
    have q1 := all32b K
    go_wp2_with fail
    refine (rmac_any (tkL m g2) _ (some ⟨K, 0, none⟩) 32 32 a11 _ c11 _ hk11 (tkL_length _ _) (by omega) hr11 HL11.out (by omega)).mono ?_
    unfold RmOut
    rintro e w12 ⟨rfl, hb12⟩
    have hb712 := below_step hb11 hb12
    clear hb11 hb12 hr11 hk11 q1
    obtain ⟨X, hX⟩ : ∃ X, X = mcA (tkL m g2) (be64 g2 ++ be64 n2 ++ C) := ⟨_, rfl⟩
    have hXs : X.size = 32 := by rw [hX]; exact vA_size _ _
    have hX1 : X.toList.all (·.oneCell') = true := by rw [hX]; exact vA_one fun _ _ => rfl
    have hXm : X = dgA (markL m g2 n2 C) := by rw [hX]; rfl
    rw [← hX]
    have HX := Lib.hid hXm
    clear hX hXm
    go_upto_region 14 with (refine wpList_store_blk rfl 38 agg32 (.tmp 19) _ (cells := X) rfl rfl rfl (Blk.new _ _ _) hXs rfl hX1 ?_)
    obtain ⟨S, hS⟩ : ∃ S, S = w12.heap.size := ⟨_, rfl⟩
    have hS0 := Blk.new w12 (vA 32 fun _ => .int .u8 0) 38
    have hbb := below_setRow ((Below.refl w12.heap.size w12).alloc (Nat.le_refl _) (.cells (vA 32 fun _ => .int .u8 0) 38)) (Nat.le_of_eq hS.symm) X
    rw [← hS] at hS0 ⊢
    refine wp_forget (fun W0 => Blk W0 S (dgA (markL m g2 n2 C)) 38 ∧ Below w7.heap.size w7 W0) ⟨by rw [← HX.out]; exact hS0.setRow _, below_step hb712 hbb⟩ ?_
    clear hS0 hbb hS hb712 hXs hX1
    rintro w13 ⟨hS, hb13⟩
    have hw13 := below_step hw7 hb13
    clear hw7
    have hrT : BytesAt w13 (some ⟨gb, ob + bn, none⟩) T := by
      have := RowAt.drop bn (hR7.out.below hb13)
      rw [← List.map_drop, List.drop_left' HCL.out] at this
      exact this
    have q2 := all32b S
    have e2 : ¬ c3 = bn := by omega
    obtain ⟨E, hE⟩ : ∃ E, E = decide (dgl (markL m g2 n2 C) = T) := ⟨_, rfl⟩
    have her : (er5 == 0) = E := by
      rw [HER.out, hE]
      by_cases h : dgl (markL m g2 n2 C) = T
      · rw [if_pos h, decide_eq_true h]; rfl
      · rw [if_neg h, decide_eq_false h]; rfl
    have hT0 := Lib.hid hrT
    have HE := Lib.hid hE
    have hSd := Lib.hid (dgl_at hS.drew)
    clear hrT hS hE
    refine wp_region_old (0 :: 1 :: 2 :: 3 :: 4 :: 5 :: 6 :: 7 :: 8 :: 9 :: 10 :: 11 :: 12 :: []) (by kernel_rfl) (by kernel_rfl) (fun c a d v w h => by cases d <;> exact h) ?_
    repeat (first | (refine lex_skip rfl (by rfl) ?_; simp only [Act.put, List.setIfInBounds_toArray, List.set]) | (refine lex_quiet (v := ?_) rfl rfl (by rfl) ?_ ?_; rotate_left; (intro W hW; go_simp); (try with_reducible rfl); simp only [Act.put, List.setIfInBounds_toArray, List.set]))
    refine lex_loud rfl rfl (by rfl) (fun K hK => ?_); go_wp2_with fail
    refine (requal_any (dgl (markL m g2 n2 C)) T (some ⟨S, 0, none⟩) (some ⟨gb, ob + bn, none⟩) 32 32 32 (c3 - bn) _ hSd.out (dgl_length _) (by omega) hT0.out.drew HTL.out (by omega)).mono ?_
    unfold EqP
    rw [← HE.out]
    rintro e w14 ⟨rfl, hb14⟩
    have hw14 : Below w.heap.size w w14 := below_step hw13 ⟨hb14.os, hb14.tape, hb14.output, hb14.size, hb14.block⟩
    go_wp2_with fail
    refine hK _ _ hb14 ?_
    clear hK K hb14 hb13 hw13
    repeat (first | (refine lex_skip rfl (by rfl) ?_; simp only [Act.put, List.setIfInBounds_toArray, List.set]) | (refine lex_quiet (v := ?_) rfl rfl (by rfl) ?_ ?_; rotate_left; (intro W hW; go_simp); (try with_reducible rfl); simp only [Act.put, List.setIfInBounds_toArray, List.set]))
    refine lex_loud rfl rfl (by rfl) (fun K hK => ?_); go_wp2_with fail
    refine (seal_wakes _).mono ?_
    rintro e w15 ⟨rfl, hb15⟩
    go_wp2_with fail
    refine hK _ _ hb15 ?_
    clear hK K
    repeat (first | (refine lex_skip rfl (by rfl) ?_; simp only [Act.put, List.setIfInBounds_toArray, List.set]) | (refine lex_quiet (v := ?_) rfl rfl (by rfl) ?_ ?_; rotate_left; (intro W hW; go_simp); (try with_reducible rfl); simp only [Act.put, List.setIfInBounds_toArray, List.set]))
    refine lex_nil ?_
    go_wp2_with fail
    go_ret
    exact ⟨rfl, below_step hw14 hb15⟩
end Go.Proofs.Ytiadhcipfgckoaa
