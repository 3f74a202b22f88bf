/- Bytes sealed: walked. -/
import Derived.Test.YtiadhcipfgckoaaSealMake
namespace Go.Proofs.Ytiadhcipfgckoaa
open Go.RowKit

theorem sealL_length (m : List UInt8) (g n : Nat) (b : List UInt8) : (sealL m g n b).length = b.length + 32 := by rw [sealL, List.length_append, stm_length, dgl_length]
def SlP (w : World) (m : List UInt8) (g n : Nat) (b : List UInt8) (e : Ending) (w' : World) : Prop :=
  ∃ (a : Option Addr) (c : Nat), e = .returned (.tuple #[.slice a (b.length + 32) c, .int .i64 0]) ∧ Own w' w.heap.size 5 1 a (b.length + 32) c ((sealL m g n b).map bv) ∧ Below w.heap.size w w'
theorem seal_long (B : Nat) (n : Nat) (ba : Option Addr) (bn bc : Nat) (w : World) (hbn : 65504 < bn) (hbm : bn ≤ maxLen) :
    Calls Try.prog 12 #[.pointer (some ⟨B, 0, none⟩), .int .u64 (n : Int), .slice ba bn bc] w fun e w' => e = .returned (.tuple #[.slice none 0 0, .int .i64 3]) ∧ w = w' := by
  unfold maxLen at hbm
  have hz := fun W => size_any (bn : Int) (by omega) (by omega) W
  rw [show sizeI (bn : Int) = 0 by rw [sizeI, if_pos (.inr (by omega))]] at hz
  have HZ := Lib.hid hz
  clear hz
  go_enter Try.func12, Try.ntmps12
  go_wp2_with fail
  refine (HZ.out _).mono ?_
  rintro e w' ⟨rfl, rfl⟩
  go_wp2_with fail
  go_ret2
  exact ⟨rfl, rfl⟩
theorem seal_nil (n : Nat) (ba : Option Addr) (bn bc : Nat) (w : World) : Calls Try.prog 12 #[.pointer none, .int .u64 (n : Int), .slice ba bn bc] w fun e w' => e = .returned (.tuple #[.slice none 0 0, .int .i64 1]) ∧ w = w' := by
  go_enter Try.func12, Try.ntmps12
  go_wp2_with fail
  go_ret2
  exact ⟨rfl, rfl⟩
set_option maxHeartbeats 2000000 in
set_option maxRecDepth 100000 in
theorem seal_any (B : Nat) (m : List UInt8) (g n : Nat) (ba : Option Addr) (bn bc : Nat) (b : List UInt8) (w : World) (hB : BoxAt w B m g) (hb : BytesAt w ba b) (hbl : b.length = bn) (hbn : bn ≤ 65504) (hg : g < 18446744073709551616) (hn : n < 18446744073709551616) :
    Calls Try.prog 12 #[.pointer (some ⟨B, 0, none⟩), .int .u64 (n : Int), .slice ba bn bc] w (SlP w m g n b) := by
  have HL := Lib.hid hbl
  obtain ⟨H, hH⟩ : ∃ H, H = w.heap.size := ⟨_, rfl⟩
  have HH := Lib.hid hH
  have hz := fun W => size_any (bn : Int) (by omega) (by omega) W
  rw [show sizeI (bn : Int) = (bn : Int) + 32 by rw [sizeI, if_neg (by omega)]] at hz
  have HZ := Lib.hid hz
  have z1 : ((bn : Int) + 32 == 0) = false := by simp; omega
  clear hbl hH hz
  go_enter Try.func12, Try.ntmps12
  go_wp2_with fail
  refine (HZ.out _).mono ?_
  rintro e w' ⟨rfl, rfl⟩
  go_upto_region 5 with fail
  have hBd : BoxAt w.drew B m g := hB
  refine wp_region_old (0 :: 1 :: 2 :: 3 :: 4 :: 5 :: 6 :: 8 :: 7 :: 9 :: 10 :: 11 :: 12 :: 13 :: 14 :: []) (by kernel_rfl) (by kernel_rfl) (fun c a d v w h => by cases d <;> exact h) ?_
  repeat (first | (refine lex_skip rfl (by rfl) ?_; simp only [Act.put, List.setIfInBounds_toArray, List.set]) | (refine lex_quiet (v := ?_) rfl rfl (by rfl) ?_ ?_; rotate_left; (intro W hW; go_simp); (try with_reducible rfl); simp only [Act.put, List.setIfInBounds_toArray, List.set]))
  refine lex_quiet (v := .agg (fA 16 (ckB m g))) rfl rfl (by rfl) (fun W hW => exec_load_as 46 agg16 _ rfl rfl rfl (BoxAt.old hBd hW).cipher (fL_length _ _)) ?_
  simp only [Act.put, List.setIfInBounds_toArray, List.set]
  repeat (first | (refine lex_skip rfl (by rfl) ?_; simp only [Act.put, List.setIfInBounds_toArray, List.set]) | (refine lex_quiet (v := ?_) rfl rfl (by rfl) ?_ ?_; rotate_left; (intro W hW; go_simp); (try with_reducible rfl); simp only [Act.put, List.setIfInBounds_toArray, List.set]))
  refine lex_loud rfl rfl (by rfl) (fun K hK => ?_); go_wp2_with fail
  refine (nonce_any B m g n _ hBd hg hn).mono ?_
  unfold NonP
  rintro e w2 ⟨rfl, hb2⟩
  go_wp2_with fail
  refine hK _ _ hb2 ?_
  clear hK K
  have hw2 : Below w.heap.size w w2 := ⟨hb2.os, hb2.tape, hb2.output, hb2.size, hb2.block⟩
  refine lex_loud rfl rfl (by rfl) (fun K hK => ?_); go_wp2_with fail
  refine (stream_any (ckB m g) (nonB g n) ba bn bc b _ (hb.below hw2) HL.out (by omega)).mono ?_
  rintro e w3 ⟨a3, c3, rfl, ho3, hb3⟩
  go_wp2_with fail
  refine hK _ _ hb3 ?_
  clear hK K
  have hw3 := below_step hw2 hb3
  have ho3' := ho3.lower hw2.size
  clear hb2 hw2 hb3 ho3
  repeat (first | (refine lex_skip rfl (by rfl) ?_; simp only [Act.put, List.setIfInBounds_toArray, List.set]) | (refine lex_quiet (v := ?_) rfl rfl (by rfl) ?_ ?_; rotate_left; (intro W hW; go_simp); (try with_reducible rfl); simp only [Act.put, List.setIfInBounds_toArray, List.set]))
  refine lex_nil ?_
  obtain ⟨cl, hcl⟩ : ∃ cl, cl = stm (ckB m g) (nonB g n) b := ⟨_, rfl⟩
  rw [← hcl] at ho3'
  have hcn : cl.length = bn := by rw [hcl, stm_length, HL.out]
  have HCN := Lib.hid hcn
  have HCL := Lib.hid hcl
  clear hcn hcl
  have hB3 := hB.old hw3
  go_wp2_with fail
  refine (mark_any B m g n a3 bn c3 cl _ hB3 ho3'.row HCN.out (by omega) hg hn).mono ?_
  unfold MarP
  rintro e w4 ⟨rfl, hb4⟩
  have ho4 := ho3'.old hb4
  have hw4 := below_step hw3 hb4
  have hs4 := hw4.size
  clear ho3' hw3 hB3 hb4
  go_upto_region 9 with (refine wpList_store_blk rfl 38 agg32 (.tmp 10) _ (cells := dgA (markL m g n cl)) rfl rfl rfl (Blk.new _ _ _) (vA_size _ _) rfl (vA_one fun _ _ => rfl) ?_)
  obtain ⟨G, hG⟩ : ∃ G, G = w4.heap.size := ⟨_, rfl⟩
  have hG0 := Blk.new w4 (vA 32 fun _ => .int .u8 0) 38
  have hbb := below_setRow ((Below.refl w4.heap.size w4).alloc (Nat.le_refl _) (.cells (vA 32 fun _ => .int .u8 0) 38)) (Nat.le_of_eq hG.symm) (dgA (markL m g n cl))
  rw [← hG] at hG0 ⊢
  refine wp_forget (fun W0 => Own W0 w.heap.size 5 1 a3 bn c3 (cl.map bv) ∧ Blk W0 G (dgA (markL m g n cl)) 38 ∧ Below w.heap.size w W0) ⟨ho4.old hbb, hG0.setRow _, hw4.trans (hbb.mono hs4)⟩ ?_
  clear ho4 hw4 hs4 hG0 hbb hG
  rintro w5 ⟨ho, hG, hw⟩
  have q2 := all32b G
  have hs5 := hw.size
  go_wp2_with (at_builtin; refine wpList_append_row rfl (.tmp 39) (.tmp 40) 22 rfl bytesT3 rfl ho rfl (dgl_at hG) (by rw [List.length_map, dgl_length]) (bv_one _) (by unfold maxLen; omega) (by omega) hs5 ?_)
  intro a6 c6 w6 ho6 hg6
  have hw6 := ho.grown hw (Nat.le_refl _) hg6 hs5
  clear hg6 ho hG hw q2 hs5
  go_wp2_with fail
  go_ret2
  refine ⟨a6, c6, by rw [HL.out]; rfl, ?_, hw6⟩
  have e : (sealL m g n b).map bv = cl.map bv ++ (dgl (markL m g n cl)).map bv := by rw [sealL, ← HCL.out, List.map_append]
  rw [e, HL.out]
  simpa using ho6
end Go.Proofs.Ytiadhcipfgckoaa
