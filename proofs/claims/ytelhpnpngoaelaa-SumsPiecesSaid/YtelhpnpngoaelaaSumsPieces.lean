/- The walk of SumsPieces. -/
import Derived.Test.YtelhpnpngoaelaaSumsLaws
import Derived.Test.YtelhpnpngoaelaaCrcPlain
namespace Go.Proofs.Ytelhpnpngoaelaa
open Go.RowKit

def PiecesRel (w : World) (ls : List (List UInt8)) (f : Nat) (all more_ joined i : Value) (wr : World) : Prop :=
  ∃ (k : Nat) (a : Option Addr) (n c : Nat), k + f = ls.length ∧ i = .int .i64 (k : Int) ∧ all = .slice a n c ∧ Own wr w.heap.size 5 1 a n c ((ls.take k).flatten.map bv) ∧ (ls.take k).flatten.length = n ∧ n ≤ 20000 ∧
    more_ = .int .u32 (U32 (more 0#32 (ls.take k).flatten)) ∧ joined = .int .u32 (U32 (more 0#32 (ls.take k).flatten)) ∧ Below w.heap.size w wr

theorem take_flatten (ls : List (List UInt8)) (k : Nat) (h : k < ls.length) : (ls.take (k + 1)).flatten = (ls.take k).flatten ++ ls[k] := by
  rw [List.take_succ_eq_append_getElem h, List.flatten_append]; simp

theorem join_piece (A B : List UInt8) (n : Nat) (w : World) (hn : B.length = n) (h2 : n < 9223372036854775808) :
    Calls Try.prog 12 #[.int .u32 (U32 (more 0#32 A)), .int .u32 (U32 (more 0#32 B)), .int .i64 (n : Int)] w fun e w' => e = .returned (.int .u32 (U32 (more 0#32 (A ++ B)))) ∧ Below w.heap.size w w' := by
  subst hn
  by_cases h1 : 1 ≤ B.length
  · rw [← join_more A B h2]
    exact join_any _ _ _ w h1 h2
  · have hB : B = [] := List.eq_nil_of_length_eq_zero (by omega)
    subst hB
    refine (join_less _ _ 0 w (by omega)).mono fun e w' ⟨he, hw⟩ => ?_
    subst hw
    exact ⟨by rw [he, List.append_nil], Below.refl _ _⟩
theorem more_nil : more 0#32 [] = 0#32 := by decide

set_option maxHeartbeats 1000000 in
theorem sumsPieces_any (a : Option Addr) (len cap : Nat) (ls : List (List UInt8)) (w : World) (hp : PiecesAt w a ls) (hlen : ls.length = len) (_hm : len ≤ maxLen) (hz : ∀ r, (h : r < ls.length) → ls[r].length ≤ 140737488351232) :
    Calls Try.prog 4 #[.slice a len cap] w fun e w' => e = .returned (.bool true) ∧ Below w.heap.size w w' := by
  have HL := Lib.hid hlen
  clear hlen
  go_enter Try.func4, Try.ntmps4
  go_wp2_with fail
  go_loopg [3, 4, 5, 6] len (PiecesRel w ls)
  case atStart => exact ⟨0, none, 0, 0, by rw [HL.out, Nat.zero_add], rfl, rfl, Own.nil _ _ _ _, rfl, by omega, by rw [List.take_zero, List.flatten_nil, more_nil]; rfl, by rw [List.take_zero, List.flatten_nil, more_nil]; rfl, Below.refl _ _⟩
  case round =>
    obtain ⟨k, aa, n, c, hk, rfl, rfl, hown, hn, hn2, rfl, rfl, hb⟩ := hrel
    rw [HL.out] at hk
    by_cases hlt : k < len
    · have hkl : k < ls.length := by rw [HL.out]; exact hlt
      obtain ⟨b, o, A, C, rfl, hc, hpk, hC1, hC2⟩ := hp k hkl
      have hcw : ∀ W, Below w.heap.size w W → W.cell? ⟨b, o + k, none⟩ = some (.slice A ls[k].length C) := fun W h => by rw [h.cell (World.block_lt_of_cell? w _ hc)]; exact hc
      have HF := Lib.hid (take_flatten ls k hkl)
      have hsm := hz k hkl
      generalize hpc : ls[k] = pc at *
      generalize hdn : (ls.take k).flatten = dn at *
      have HK := Lib.hid hk
      have HN := Lib.hid hn
      have HC := Lib.hid hc
      clear hk hn hc
      have hcr := hcw wr hb
      by_cases hg : 20000 < n + pc.length
      · have t1 : decide ((20000 : Int) < (n : Int) + (pc.length : Int)) = true := by simp; omega
        go_wp2_with fail
        refine (wakes_any _).mono ?_
        rintro e w4 ⟨rfl, hb4⟩
        go_wp2_with fail
        go_ret
        exact ⟨rfl, hb.trans (hb4.mono hb.size)⟩
      · have t1 : decide ((20000 : Int) < (n : Int) + (pc.length : Int)) = false := by simp; omega
        by_cases hk2 : 2000 < k
        · have t2 : decide ((2000 : Int) < (k : Int)) = true := by simp; omega
          go_wp2_with fail
          refine (wakes_any _).mono ?_
          rintro e w4 ⟨rfl, hb4⟩
          go_wp2_with fail
          go_ret
          exact ⟨rfl, hb.trans (hb4.mono hb.size)⟩
        · have t2 : decide ((2000 : Int) < (k : Int)) = false := by simp; omega
          have hpr := hpk.below hb
          go_wp2_with (at_builtin; refine wpList_append_row rfl _ _ 22 rfl bytesT rfl hown rfl hpr (by rw [List.length_map, Nat.mul_one]) (bv_one _) (by unfold maxLen; omega) (by omega) hb.size ?_)
          intro a1 c1 w1 hown1 hg1
          have hb1 : Below w.heap.size w w1 := hown.grown hb (Nat.le_refl _) hg1 hb.size
          have hc1 := hcw w1 hb1
          go_wp2_with fail
          refine (more_any _ _ _ _ pc _ (hpk.below hb1) rfl (by unfold maxLen; omega)).mono ?_
          rintro e w2 ⟨rfl, hb2⟩
          have hb02 := hb1.trans (hb2.mono hb1.size)
          go_wp2_with fail
          have hp2 := hpk.below hb02
          have hc2 := hcw w2 hb02
          have LD : ∀ W, Old w2.drew W → W.cell? ⟨b, o + k, none⟩ = some (.slice A pc.length C) := fun W h => hcw W (below_step (below_step hb02 (Below.refl _ _).drew) h)
          refine wp_region_old (0 :: 1 :: 2 :: 3 :: 4 :: 6 :: 7 :: 8 :: 9 :: 10 :: 5 :: 11 :: 12 :: []) (by kernel_rfl) (by kernel_rfl) (fun c a d v w h => by cases d <;> exact h) ?_
          repeat (first | (refine lex_skip rfl (by rfl) ?_; simp only [Act.put, List.setIfInBounds_toArray, List.set]) | (refine lex_quiet (v := ?_) rfl rfl (by rfl) ?_ ?_; rotate_left; (intro W hW; go_simp); (try with_reducible rfl); simp only [Act.put, List.setIfInBounds_toArray, List.set]))
          refine lex_loud rfl rfl (by rfl) (fun K hK => ?_); go_wp2_with fail
          refine (sum_any _ _ _ pc _ hp2.drew rfl (by unfold maxLen; omega)).mono ?_
          rintro e w3 ⟨rfl, hb3⟩
          go_wp2_with fail
          refine hK _ _ hb3 ?_
          clear hK K
          repeat (first | (refine lex_skip rfl (by rfl) ?_; simp only [Act.put, List.setIfInBounds_toArray, List.set]) | (refine lex_quiet (v := ?_) rfl rfl (by rfl) ?_ ?_; rotate_left; (intro W hW; go_simp); (try with_reducible rfl); simp only [Act.put, List.setIfInBounds_toArray, List.set]))
          refine lex_loud rfl rfl (by rfl) (fun K hK => ?_); go_wp2_with fail
          refine (join_piece dn pc _ _ rfl (by omega)).mono ?_
          rintro e w4 ⟨rfl, hb4⟩
          go_wp2_with fail
          refine hK _ _ hb4 ?_
          clear hK K
          repeat (first | (refine lex_skip rfl (by rfl) ?_; simp only [Act.put, List.setIfInBounds_toArray, List.set]) | (refine lex_quiet (v := ?_) rfl rfl (by rfl) ?_ ?_; rotate_left; (intro W hW; go_simp); (try with_reducible rfl); simp only [Act.put, List.setIfInBounds_toArray, List.set]))
          refine lex_nil ?_
          have hb04 : Below w.heap.size w w4 := below_step (below_step (below_step hb02 (Below.refl _ _).drew) hb3) hb4
          have hown4 := (((hown1.old hb2).drew).old hb3).old hb4
          go_wp2_with fail
          go_roundg (gk - 1)
          case measure => have hk := HK.out; omega
          case rel =>
            have hk := HK.out
            have hF := HF.out
            refine ⟨k + 1, a1, n + pc.length, c1, by rw [HL.out]; omega, by go_num, rfl, ?_, ?_, by omega, ?_, ?_, hb04⟩
            · rw [hF, List.map_append]; exact hown4
            · rw [hF, List.length_append, HN.out]
            · rw [hF, more_append]
            · rw [hF]
    · have hke : k = len := by omega
      have t1 : decide ((k : Int) < (len : Int)) = false := by simp; omega
      have HN := Lib.hid hn
      clear hn
      go_wp2_with fail
      refine (sum_any _ _ _ _ _ hown.row HN.out (by unfold maxLen; omega)).mono ?_
      rintro e w3 ⟨rfl, hb3⟩
      go_wp2_with fail
      refine (wakes_any _).mono ?_
      rintro e w4 ⟨rfl, hb4⟩
      go_wp2_with fail
      go_ret
      exact ⟨rfl, below_step (below_step hb hb3) hb4⟩

end Go.Proofs.Ytelhpnpngoaelaa
