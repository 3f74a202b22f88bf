/- The document's boxes: what is sealed and its tag; sealed, opened. -/
import Derived.Test.YtiadhcipfgckoaaSealRNew
namespace Go.Proofs.Ytiadhcipfgckoaa
open Go.RowKit

def tgL (m : List UInt8) (g n : Nat) (c : List UInt8) : List UInt8 := c ++ dgl (markL m g n c)
theorem tgL_length (m : List UInt8) (g n : Nat) (c : List UInt8) : (tgL m g n c).length = c.length + 32 := by simp [tgL, dgl_length]
def TagP (w : World) (m : List UInt8) (g n : Nat) (c : List UInt8) (e : Ending) (w' : World) : Prop :=
  ∃ (a : Option Addr) (k : Nat), e = .returned (.slice a (c.length + 32) k) ∧ Own w' w.heap.size 5 1 a (c.length + 32) k ((tgL m g n c).map bv) ∧ Below w.heap.size w w'
set_option maxHeartbeats 2000000 in
set_option maxRecDepth 100000 in
theorem tagged_any (B : Nat) (m : List UInt8) (g n : Nat) (ta : Option Addr) (tc : Nat) (ca : Option Addr) (cn cc : Nat) (c : List UInt8) (w : World) (hB : RBox w B m g ta tc) (hc : BytesAt w ca c) (hcl : c.length = cn) (hcm : cn ≤ 100000) (hg : g < 18446744073709551616) (hn : n < 18446744073709551616) :
    Calls Try.prog 29 #[.pointer (some ⟨B, 0, none⟩), .int .u64 (n : Int), .slice ca cn cc] w (TagP w m g n c) := by
  have HC := Lib.hid hcl
  have hB0 := Lib.hid hB
  have hc0 := Lib.hid hc
  clear hcl hc
  have c0 := hB.game
  clear hB
  go_enter Try.func29, Try.ntmps29
  go_wp2_with fail
  clear c0
  refine (reight_any g hg _).mono ?_
  rintro e w1 ⟨a1, c1, rfl, ho1, hb1⟩
  go_wp2_with fail
  refine (reight_any n hn _).mono ?_
  rintro e w2 ⟨a2, c2, rfl, ho2, hb2⟩
  have ho12 := ho1.old hb2
  have hw2 := below_step hb1 hb2
  have hs2 := hw2.size
  have hr2 := ho2.row
  clear ho1 hb1 hb2 ho2
  go_upto_region 3 with (at_builtin; refine wpList_append_row rfl (.tmp 15) (.tmp 17) 22 rfl bytesT3 rfl ho12 rfl hr2 (by rw [List.length_map, be64_length]) (bv_one _) (by unfold maxLen; omega) (by omega) hs2 ?_)
  intro a3 c3 w3 ho3 hg3
  have hw3 := ho12.grown hw2 (Nat.le_refl _) hg3 hs2
  have hs3 := hw3.size
  clear hg3 ho12 hw2 hs2 hr2
  have hc3 := hc0.out.below hw3
  go_upto_region 4 with (at_builtin; refine wpList_append_row rfl (.tmp 19) (.tmp 20) 22 rfl bytesT3 rfl ho3 rfl hc3 (by rw [List.length_map, HC.out]; omega) (bv_one _) (by unfold maxLen; omega) (by omega) hs3 ?_)
  intro a4 c4 w4 ho4 hg4
  have hw4 := ho3.grown hw3 (Nat.le_refl _) hg4 hs3
  have hB4 := hB0.out.old hw4
  have hr4 : BytesAt w4 a4 (be64 g ++ be64 n ++ c) := by
    have := ho4.row
    unfold BytesAt
    rw [List.map_append, List.map_append]; exact this
  have hl4 : (be64 g ++ be64 n ++ c).length = 8 + 8 + cn := by rw [List.length_append, List.length_append, be64_length, be64_length, HC.out]
  clear hg4 ho3 hw3 hs3 hc3 ho4
  obtain ⟨bb, hbb⟩ : ∃ bb, bb = be64 g ++ be64 n ++ c := ⟨_, rfl⟩
  rw [← hbb] at hr4 hl4
  have HBB := Lib.hid hbb
  have HL4 := Lib.hid hl4
  clear hbb hl4
  have c17 := hB4.tagv
  go_wp2_with fail
  clear c17
  refine (rmac_any (tkL m g) bb ta 32 tc a4 _ c4 _ hB4.tag (tkL_length _ _) (by omega) hr4 HL4.out (by omega)).mono ?_
  unfold RmOut
  rintro e w5 ⟨rfl, hb5⟩
  have hw5 := below_step hw4 hb5
  clear hw4 hb5 hB4 hr4
  obtain ⟨X, hX⟩ : ∃ X, X = mcA (tkL m g) bb := ⟨_, rfl⟩
  have hXs : X.size = 32 := by rw [hX]; exact vA_size _ _
  have hX1 : X.toList.all (·.oneCell') = true := by rw [hX]; exact vA_one fun _ _ => rfl
  have hXm : X = dgA (markL m g n c) := by rw [hX, HBB.out]; rfl
  rw [← hX]
  have HX := Lib.hid hXm
  clear hX hXm
  go_upto_region 5 with (refine wpList_store_blk rfl 38 agg32 (.tmp 8) _ (cells := X) rfl rfl rfl (Blk.new _ _ _) hXs rfl hX1 ?_)
  obtain ⟨C, hC⟩ : ∃ C, C = w5.heap.size := ⟨_, rfl⟩
  have hC0 := Blk.new w5 (vA 32 fun _ => .int .u8 0) 38
  have hbb := below_setRow ((Below.refl w5.heap.size w5).alloc (Nat.le_refl _) (.cells (vA 32 fun _ => .int .u8 0) 38)) (Nat.le_of_eq hC.symm) X
  rw [← hC] at hC0 ⊢
  refine wp_forget (fun W0 => Blk W0 C (dgA (markL m g n c)) 38 ∧ Below w.heap.size w W0) ⟨by rw [← HX.out]; exact hC0.setRow _, below_step hw5 hbb⟩ ?_
  clear hC0 hbb hC hw5
  rintro w6 ⟨hC, hw6⟩
  have hs6 := hw6.size
  have hc6 := hc0.out.below hw6
  go_upto_region 7 with (at_builtin; refine wpList_append_row rfl (.tmp 28) (.tmp 29) 22 rfl bytesT3 rfl (Own.nil w6 w6.heap.size 5 1) rfl hc6 (by rw [List.length_map, HC.out]; omega) (bv_one _) (by unfold maxLen; omega) (by omega) (Nat.le_refl _) ?_)
  intro a7 c7 w7 ho7 hg7
  have hb7 : Below w6.heap.size w6 w7 := (Own.nil w6 w6.heap.size 5 1).grown (Below.refl _ _) (Nat.le_refl _) hg7 (Nat.le_refl _)
  have hC7 := hC.old hb7
  have hw7 := below_step hw6 hb7
  have hs7 := hw7.size
  have ho7' := ho7.lower hs6
  clear hg7 hC hw6 hs6 hc6 hb7 ho7
  have q2 := all32b C
  go_wp2_with (at_builtin; refine wpList_append_row rfl (.tmp 31) (.tmp 32) 22 rfl bytesT3 rfl ho7' rfl (dgl_at hC7) (by rw [List.length_map, dgl_length]) (bv_one _) (by unfold maxLen; omega) (by omega) hs7 ?_)
  intro a8 c8 w8 ho8 hg8
  have hw8 := ho7'.grown hw7 (Nat.le_refl _) hg8 hs7
  clear hg8 hC7 hw7 hs7 ho7' q2
  go_wp2_with fail
  go_ret
  refine ⟨a8, c8, ?_, ?_, hw8⟩
  · rw [HC.out]; rfl
  · rw [HC.out, tgL, List.map_append]
    simpa using ho8
def RslP (w : World) (m : List UInt8) (g n : Nat) (b : List UInt8) (e : Ending) (w' : World) : Prop :=
  ∃ (a : Option Addr) (c : Nat), e = .returned (.tuple #[.slice a (b.length + 32) c, .int .i64 0]) ∧ Own w' w.heap.size 5 1 a (b.length + 32) c ((sealL m g n b).map bv) ∧ Below w.heap.size w w'
set_option maxHeartbeats 2000000 in
set_option maxRecDepth 100000 in
theorem rseal_any (B : Nat) (m : List UInt8) (g n : Nat) (ta : Option Addr) (tc : Nat) (ba : Option Addr) (bn bc : Nat) (b : List UInt8) (w : World) (hB : RBox w B m g ta tc) (hb : BytesAt w ba b) (hbl : b.length = bn) (hbn : bn ≤ 65504) (hg : g < 18446744073709551616) (hn : n < 18446744073709551616) :
    Calls Try.prog 13 #[.pointer (some ⟨B, 0, none⟩), .int .u64 (n : Int), .slice ba bn bc] w (RslP w m g n b) := by
  have HL := Lib.hid hbl
  have hB0 := Lib.hid hB
  have hb0 := Lib.hid hb
  clear hbl hb
  have t1 : decide ((65504 : Int) < (bn : Int)) = false := decide_eq_false (by omega)
  have hI : (bn : Int) ≤ 65504 := by omega
  go_enter Try.func13, Try.ntmps13
  go_upto_region 3 with fail
  have hBd := hB.drew
  clear hB
  refine wp_region_old (0 :: 1 :: 2 :: 3 :: 4 :: 5 :: 7 :: 6 :: 8 :: 9 :: 10 :: 11 :: 12 :: 13 :: []) (by kernel_rfl) (by kernel_rfl) (fun c a d v w h => by cases d <;> exact h) ?_
  repeat (first | (refine lex_skip rfl (by rfl) ?_; simp only [Act.put, List.setIfInBounds_toArray, List.set]) | (refine lex_quiet (v := ?_) rfl rfl (by rfl) ?_ ?_; rotate_left; (intro W hW; go_simp); (try with_reducible rfl); simp only [Act.put, List.setIfInBounds_toArray, List.set]))
  refine lex_quiet (v := .agg (fA 16 (ckB m g))) rfl rfl (by rfl) (fun W hW => exec_load_as 46 agg16 _ rfl rfl rfl (RBox.old hBd hW).key (fL_length _ _)) ?_
  simp only [Act.put, List.setIfInBounds_toArray, List.set]
  repeat (first | (refine lex_skip rfl (by rfl) ?_; simp only [Act.put, List.setIfInBounds_toArray, List.set]) | (refine lex_quiet (v := ?_) rfl rfl (by rfl) ?_ ?_; rotate_left; (intro W hW; go_simp); (try with_reducible rfl); simp only [Act.put, List.setIfInBounds_toArray, List.set]))
  refine lex_loud rfl rfl (by rfl) (fun K hK => ?_); go_wp2_with fail
  refine (rnonce_any B g n _ hBd.game hg hn).mono ?_
  unfold NonP
  rintro e w2 ⟨rfl, hb2⟩
  go_wp2_with fail
  refine hK _ _ hb2 ?_
  clear hK K
  have hw2 : Below w.heap.size w w2 := ⟨hb2.os, hb2.tape, hb2.output, hb2.size, hb2.block⟩
  refine lex_loud rfl rfl (by rfl) (fun K hK => ?_); go_wp2_with fail
  refine (rstream_any (ckB m g) (nonB g n) ba bn bc b _ (hb0.out.below hw2) HL.out (by omega)).mono ?_
  rintro e w3 ⟨a3, c3, rfl, ho3, hb3⟩
  go_wp2_with fail
  refine hK _ _ hb3 ?_
  clear hK K
  have hw3 := below_step hw2 hb3
  have hr3 := ho3.row
  clear hb2 hw2 hb3 ho3
  repeat (first | (refine lex_skip rfl (by rfl) ?_; simp only [Act.put, List.setIfInBounds_toArray, List.set]) | (refine lex_quiet (v := ?_) rfl rfl (by rfl) ?_ ?_; rotate_left; (intro W hW; go_simp); (try with_reducible rfl); simp only [Act.put, List.setIfInBounds_toArray, List.set]))
  refine lex_nil ?_
  have hB3 := hB0.out.old hw3
  have hcl : (stm (ckB m g) (nonB g n) b).length = bn := by rw [stm_length, HL.out]
  have HCL := Lib.hid hcl
  clear hcl hBd
  go_wp2_with fail
  refine (tagged_any B m g n ta tc a3 bn c3 _ _ hB3 hr3 HCL.out (by omega) hg hn).mono ?_
  rintro e w4 ⟨a4, c4, rfl, ho4, hb4⟩
  rw [HCL.out] at ho4 ⊢
  go_wp2_with fail
  go_ret2
  exact ⟨a4, c4, by rw [HL.out]; rfl, by rw [HL.out]; exact ho4.lower hw3.size, below_step hw3 hb4⟩
theorem ropL (m : List UInt8) (g n : Nat) (b : List UInt8) (k : Nat) (hk : b.length = k + 32) (hk2 : k ≤ 65504) : openL m g n b = if tgL m g n (b.take k) = b then (stm (ckB m g) (nonB g n) (b.take k), 0) else ([], 60) := by
  unfold openL
  rw [show b.length - 32 = k by omega]
  by_cases h : b.drop k = dgl (markL m g n (b.take k))
  · rw [if_pos ⟨by omega, by omega, h⟩, if_pos]
    rw [tgL, ← h, List.take_append_drop]
  · rw [if_neg (fun h2 => h h2.2.2), if_neg]
    intro h2
    apply h
    have h3 := congrArg (List.drop k) h2
    rw [tgL, List.drop_append_of_le_length (by rw [List.length_take]; omega), List.drop_eq_nil_of_le (by rw [List.length_take]; omega), List.nil_append] at h3
    exact h3.symm
set_option maxHeartbeats 2000000 in
set_option maxRecDepth 100000 in
theorem ropen_any (B : Nat) (m : List UInt8) (g n : Nat) (ta : Option Addr) (tc : Nat) (ba : Option Addr) (bn bc : Nat) (b : List UInt8) (w : World) (hB : RBox w B m g ta tc) (hb : BytesAt w ba b) (hbl : b.length = bn) (hbm : bn ≤ bc) (hg : g < 18446744073709551616) (hn : n < 18446744073709551616) (hbM : bn ≤ 140737488351232) :
    Calls Try.prog 15 #[.pointer (some ⟨B, 0, none⟩), .int .u64 (n : Int), .slice ba bn bc] w (OpP w m g n b) := by
  have HL := Lib.hid hbl
  have hB0 := Lib.hid hB
  have hb0 := Lib.hid hb
  clear hbl
  by_cases hr : 32 ≤ bn ∧ bn ≤ 65536
  · obtain ⟨hr1, hr2⟩ := hr
    obtain ⟨k, hk⟩ : ∃ k, bn = k + 32 := ⟨bn - 32, by omega⟩
    have hk2 : k ≤ 65504 := by omega
    have hop := ropL m g n b k (by rw [HL.out]; exact hk) hk2
    have HOP := Lib.hid hop
    have e1 : (bn : Int) - 32 = (k : Int) := by omega
    have hkc : k ≤ bc := by omega
    have t1 : decide ((bn : Int) < 32) = false := decide_eq_false (by omega)
    have t2 : decide ((65536 : Int) < (bn : Int)) = false := decide_eq_false (by omega)
    have hI : (bn : Int) ≤ 65536 := by omega
    have hbk : BytesAt w ba (b.take k) := by
      have := RowAt.take k hb
      unfold BytesAt
      rw [List.map_take]; exact this
    have hbkl : (b.take k).length = k := by rw [List.length_take, HL.out]; omega
    have HK := Lib.hid hk
    have HKL := Lib.hid hbkl
    have hbk0 := Lib.hid hbk
    clear hop hk hbkl hb hbk
    go_enter Try.func15, Try.ntmps15
    go_wp2_with fail
    refine (tagged_any B m g n ta tc ba k bc (b.take k) _ hB hbk0.out HKL.out (by omega) hg hn).mono ?_
    rintro e w2 ⟨a2, c2, rfl, ho2, hb2⟩
    rw [HKL.out] at ho2 ⊢
    have hr2' := ho2.row
    clear hB ho2
    go_wp2_with fail
    refine (requal_any (tgL m g n (b.take k)) b a2 ba _ c2 bn bc _ hr2' (by rw [tgL_length, HKL.out]) (by omega) (hb0.out.below hb2) HL.out (by omega)).mono ?_
    unfold EqP
    rintro e w3 ⟨rfl, hb3⟩
    have hw3 := below_step hb2 hb3
    clear hb2 hb3 hr2' e1
    by_cases hq : tgL m g n (b.take k) = b
    · have hop := HOP.out
      rw [if_pos hq] at hop
      have HO := Lib.hid hop
      rw [decide_eq_true hq]
      clear hop hq
      go_upto_region 6 with fail
      have hBd := (hB0.out.old hw3).drew
      refine wp_region_old (0 :: 1 :: 2 :: 3 :: 4 :: 5 :: 7 :: 6 :: 8 :: 9 :: 10 :: 11 :: 12 :: 13 :: []) (by kernel_rfl) (by kernel_rfl) (fun c a d v w h => by cases d <;> exact h) ?_
      repeat (first | (refine lex_skip rfl (by rfl) ?_; simp only [Act.put, List.setIfInBounds_toArray, List.set]) | (refine lex_quiet (v := ?_) rfl rfl (by rfl) ?_ ?_; rotate_left; (intro W hW; go_simp); (try with_reducible rfl); simp only [Act.put, List.setIfInBounds_toArray, List.set]))
      refine lex_quiet (v := .agg (fA 16 (ckB m g))) rfl rfl (by rfl) (fun W hW => exec_load_as 46 agg16 _ rfl rfl rfl (RBox.old hBd hW).key (fL_length _ _)) ?_
      simp only [Act.put, List.setIfInBounds_toArray, List.set]
      repeat (first | (refine lex_skip rfl (by rfl) ?_; simp only [Act.put, List.setIfInBounds_toArray, List.set]) | (refine lex_quiet (v := ?_) rfl rfl (by rfl) ?_ ?_; rotate_left; (intro W hW; go_simp); (try with_reducible rfl); simp only [Act.put, List.setIfInBounds_toArray, List.set]))
      refine lex_loud rfl rfl (by rfl) (fun K hK => ?_); go_wp2_with fail
      refine (rnonce_any B g n _ hBd.game hg hn).mono ?_
      unfold NonP
      rintro e w4 ⟨rfl, hb4⟩
      go_wp2_with fail
      refine hK _ _ hb4 ?_
      clear hK K
      have hw4 : Below w3.heap.size w3 w4 := ⟨hb4.os, hb4.tape, hb4.output, hb4.size, hb4.block⟩
      have hw04 := below_step hw3 hw4
      refine lex_loud rfl rfl (by rfl) (fun K hK => ?_); go_wp2_with fail
      refine (rstream_any (ckB m g) (nonB g n) ba k bc (b.take k) _ (hbk0.out.below hw04) HKL.out (by omega)).mono ?_
      rintro e w5 ⟨a5, c5, rfl, ho5, hb5⟩
      go_wp2_with fail
      refine hK _ _ hb5 ?_
      clear hK K
      repeat (first | (refine lex_skip rfl (by rfl) ?_; simp only [Act.put, List.setIfInBounds_toArray, List.set]) | (refine lex_quiet (v := ?_) rfl rfl (by rfl) ?_ ?_; rotate_left; (intro W hW; go_simp); (try with_reducible rfl); simp only [Act.put, List.setIfInBounds_toArray, List.set]))
      refine lex_nil ?_
      have hw05 := below_step hw04 hb5
      go_wp2_with fail
      go_ret2
      exact ⟨a5, k, c5, _, 0, rfl, HO.out, by rw [stm_length, HKL.out], ho5.row, hw05⟩
    · have hop := HOP.out
      rw [if_neg hq] at hop
      have HO := Lib.hid hop
      rw [decide_eq_false hq]
      clear hop hq
      go_wp2_with fail
      go_ret2
      exact ⟨none, 0, 0, [], 60, rfl, HO.out, rfl, RowAt.nil _ _, hw3⟩
  · have hop : openL m g n b = ([], 60) := by
      unfold openL
      rw [HL.out, if_neg (fun h => hr ⟨h.1, h.2.1⟩)]
    have HOP := Lib.hid hop
    clear hop
    by_cases hs : bn < 32
    · have t1 : decide ((bn : Int) < 32) = true := decide_eq_true (by omega)
      go_enter Try.func15, Try.ntmps15
      go_wp2_with fail
      go_ret2
      exact ⟨none, 0, 0, [], 60, rfl, HOP.out, rfl, RowAt.nil _ _, Below.refl _ _⟩
    · have t1 : decide ((bn : Int) < 32) = false := decide_eq_false (by omega)
      have t2 : decide ((65536 : Int) < (bn : Int)) = true := decide_eq_true (by omega)
      go_enter Try.func15, Try.ntmps15
      go_wp2_with fail
      go_ret2
      exact ⟨none, 0, 0, [], 60, rfl, HOP.out, rfl, RowAt.nil _ _, Below.refl _ _⟩
end Go.Proofs.Ytiadhcipfgckoaa
