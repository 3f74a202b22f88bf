/- The walks of the laws' own helpers: loads, wakes. -/
import Derived.Test.YtnojeiklgjhkgaaLogRef
import Derived.Test.YtnojeiklgjhkgaaKept
namespace Go.Proofs.Ytnojeiklgjhkgaa
open Go.RowKit

theorem string_of (w0 : World) (a : Option Addr) (n c : Nat) (l : List UInt8) (h : BytesAt w0 a l) (hn : l.length = n) : ∀ W, Old w0 W → (convert 22 9 (.slice a n c)).run Try.prog W = .ok (.string (strOf l)) W :=
  fun W hW => run_string_of (P := Try.prog) W (c := c) Try.underlying22 Try.underlying5 Try.underlying9 (h.below hW) hn

def LoadsRel (w : World) (n : Nat) (f : Nat) (i : Value) (w' : World) : Prop :=
  ∃ k : Nat, k + f = n ∧ i = .int .i64 (k : Int) ∧ Below w.heap.size w w'

set_option maxHeartbeats 1000000 in
theorem loads_same (a b : Option Addr) (n c d : Nat) (ls : List (List UInt8)) (w : World) (ha : PiecesAt w a ls) (hb : PiecesAt w b ls) (hn : ls.length = n) (hm : n ≤ maxLen) :
    Calls Try.prog 13 #[.slice a n c, .slice b n d] w fun e w' => e = .returned (.bool true) ∧ Below w.heap.size w w' := by
  unfold maxLen at hm
  have HN := Lib.hid hn
  clear hn
  go_enter Try.func13, Try.ntmps13
  go_wp2_with fail
  go_loopg [5] n (LoadsRel w n)
  case atStart => exact ⟨0, Nat.zero_add _, rfl, Below.refl _ _⟩
  case round =>
    obtain ⟨k, hk, rfl, hbw⟩ := hrel
    by_cases hlt : k < n
    · have hkl : k < ls.length := by rw [HN.out]; exact hlt
      obtain ⟨b1, o1, A1, C1, rfl, hc1, hp1, _, _⟩ := ha k hkl
      obtain ⟨b2, o2, A2, C2, rfl, hc2, hp2, _, _⟩ := hb k hkl
      have L1 : ∀ W, Old wr.drew W → W.cell? ⟨b1, o1 + k, none⟩ = some (.slice A1 ls[k].length C1) := fun W h => by
        rw [(below_step (below_step hbw (Below.refl _ _).drew) h).cell (World.block_lt_of_cell? w _ hc1)]; exact hc1
      have L2 : ∀ W, Old wr.drew W → W.cell? ⟨b2, o2 + k, none⟩ = some (.slice A2 ls[k].length C2) := fun W h => by
        rw [(below_step (below_step hbw (Below.refl _ _).drew) h).cell (World.block_lt_of_cell? w _ hc2)]; exact hc2
      have S1 := string_of wr.drew A1 _ C1 _ (hp1.below (below_step hbw (Below.refl _ _).drew)) rfl
      have S2 := string_of wr.drew A2 _ C2 _ (hp2.below (below_step hbw (Below.refl _ _).drew)) rfl
      clear hc1 hc2
      generalize ls[k] = pc at *
      go_wp2_with fail
      refine wp_region_old (0 :: 1 :: 2 :: 3 :: 4 :: 5 :: 6 :: 7 :: 8 :: 9 :: 10 :: []) (by kernel_rfl) (by kernel_rfl) (fun c a d v w h => by cases d <;> exact h) ?_
      repeat (first | (refine lex_skip rfl (by rfl) ?_; simp only [Act.put, List.setIfInBounds_toArray, List.set]) | (refine lex_quiet (v := ?_) rfl rfl (by rfl) ?_ ?_; rotate_left; (intro W hW; go_simp); (try with_reducible rfl); simp only [Act.put, List.setIfInBounds_toArray, List.set]))
      refine lex_nil ?_
      go_wp2_with fail
      go_roundg (gk - 1)
      case measure => omega
      case rel => exact ⟨k + 1, by omega, by go_num, below_step hbw (Below.refl _ _).drew⟩
    · have hkn : k = n := by omega
      go_wp2_with fail
      go_ret
      exact ⟨rfl, hbw⟩

theorem scan_two : scan most (record [97] ++ record [98] ++ (record [99]).take 5) = ([[97], [98]], (record [99]).take 5) := by
  have e : record [97] ++ record [98] ++ (record [99]).take 5 = record [97] ++ (record [98] ++ (record [99] ++ []).take 5) := by rw [List.append_assoc, List.append_nil]
  rw [e, most_is, scan_record 4095 [97] _ (by decide) (by decide), scan_record 4094 [98] _ (by decide) (by decide), scan_stop (scans_part [99] [] 5 (by decide) (by decide)), List.append_nil]

set_option maxRecDepth 20000 in
set_option maxHeartbeats 1000000 in
theorem wakes_any (w : World) : Calls Try.prog 8 #[] w fun e w' => e = .returned (.bool true) ∧ Below w.heap.size w w' := by
  have kc := fun (w : World) (C : Array Value) (n c : Nat) => Lib.run_convert_bytes_const (P := Try.prog) w 22 5 C n c Try.underlying22 Try.underlying5
  go_enter Try.func8, Try.ntmps8
  go_wp2_with fail
  refine (record_any _ 1 _ [97] _ (BytesAt.new _ _ _ _ _ rfl) rfl (by omega) (by omega)).mono ?_
  rintro e w1 ⟨a1, c1, rfl, h1, hb1⟩
  have hb1' : Below w.heap.size w w1 := below_step (below_step (Below.refl _ _) ((Below.refl _ _).alloc (Nat.le_refl _) _)) hb1
  go_wp2_with fail
  refine (record_any _ 1 _ [98] _ (BytesAt.new _ _ _ _ _ rfl) rfl (by omega) (by omega)).mono ?_
  rintro e w2 ⟨a2, c2, rfl, h2, hb2⟩
  have hb2' : Below w1.heap.size w1 w2 := below_step (below_step (Below.refl _ _) ((Below.refl _ _).alloc (Nat.le_refl _) _)) hb2
  go_wp2_with fail
  refine (record_any _ 1 _ [99] _ (BytesAt.new _ _ _ _ _ rfl) rfl (by omega) (by omega)).mono ?_
  rintro e w3 ⟨a3, c3, rfl, h3, hb3⟩
  have hb3' : Below w2.heap.size w2 w3 := below_step (below_step (Below.refl _ _) ((Below.refl _ _).alloc (Nat.le_refl _) _)) hb3
  have hb03 := below_step (below_step hb1' hb2') hb3'
  have k1 := (h1.old (below_step hb2' hb3')).row.drew
  have k2 := (h2.old hb3').row.drew
  have k3 : RowAt w3.drew a3 (((record [99]).take 5).map bv) := by rw [List.map_take]; exact h3.row.drew.take 5
  have hle := h3.le
  have hle5 : 5 ≤ c3 := by omega
  have hle5' : (5 : Int) ≤ (c3 : Int) := by omega
  clear hle
  go_wp2_with fail
  refine wp_region_kept w3.heap.size (0 :: 1 :: 3 :: 5 :: 6 :: 2 :: 4 :: 7 :: 8 :: []) (by kernel_rfl) (by kernel_rfl) (fun c a d v w h => by cases d <;> exact h) ?_
  repeat (first | (refine kept_quiet (v := ?_) rfl rfl (by rfl) ?_ ?_; rotate_left; (intro W hW; go_simp); (try with_reducible rfl); simp only [Act.put, List.setIfInBounds_toArray, List.set]) | (refine kept_skip rfl (by rfl) ?_; simp only [Act.put, List.setIfInBounds_toArray, List.set]))
  refine kept_loud rfl rfl (by rfl) (fun K hK => ?_)
  refine wp_append_row _ _ 22 rfl bytesT rfl (Own.nil _ w3.heap.size _ _) rfl k1 (by rfl) (bv_one _) (by unfold maxLen; omega) (by omega) (Nat.le_refl _) ?_
  intro a5 c5 w5 h5 hg5
  have g5 : Below w3.heap.size w3.drew w5 := (Below.refl _ _).grown hg5 (Nat.le_refl _) (fun k hk => by cases hk)
  refine hK _ _ g5 ?_
  clear hK K
  simp only [Act.put, List.setIfInBounds_toArray, List.set]
  refine kept_loud rfl rfl (by rfl) (fun K hK => ?_)
  refine wp_append_row _ _ 22 rfl bytesT rfl h5 rfl (k2.below g5) (by rfl) (bv_one _) (by unfold maxLen; omega) (by omega) g5.size ?_
  intro a6 c6 w6 h6 hg6
  have g6 : Below w3.heap.size w5 w6 := h5.grown (Below.refl _ _) (Nat.le_refl _) hg6 g5.size
  refine hK _ _ g6 ?_
  clear hK K
  simp only [Act.put, List.setIfInBounds_toArray, List.set]
  have g36 := g5.trans g6
  refine kept_loud rfl rfl (by rfl) (fun K hK => ?_)
  refine wp_append_row _ _ 22 rfl bytesT rfl h6 rfl (k3.below g36) (by rfl) (bv_one _) (by unfold maxLen; omega) (by omega) g36.size ?_
  intro a7 c7 w7 h7 hg7
  have g7 : Below w3.heap.size w6 w7 := h6.grown (Below.refl _ _) (Nat.le_refl _) hg7 g36.size
  refine hK _ _ g7 ?_
  clear hK K
  have g37 := g36.trans g7
  repeat (first | (refine kept_quiet (v := ?_) rfl rfl (by rfl) ?_ ?_; rotate_left; (intro W hW; go_simp); (try with_reducible rfl); simp only [Act.put, List.setIfInBounds_toArray, List.set]) | (refine kept_skip rfl (by rfl) ?_; simp only [Act.put, List.setIfInBounds_toArray, List.set]))
  refine kept_nil ?_
  have hb07 : Below w.heap.size w w7 := below_step hb03 (below_step (Below.refl _ _).drew g37)
  have h7' : Own w7 w3.heap.size 5 1 a7 23 c7 ((record [97] ++ record [98] ++ (record [99]).take 5).map bv) := by
    simpa [List.map_append, List.append_assoc] using h7
  go_wp2_with fail
  refine (scan_any _ 23 _ (record [97] ++ record [98] ++ (record [99]).take 5) _ h7'.row (by rfl) (by omega) h7'.le).mono ?_
  rw [scan_two, show (([[97], [98]] : List (List UInt8)), (record [99]).take 5).2.length = 5 from rfl]
  rintro e w8 ⟨a8, n8, c8, vs, rfl, h8, hb8⟩
  have hn8 := h8.length
  obtain rfl : n8 = 2 := by simpa using hn8.symm
  obtain ⟨b, o, A, C, rfl, hc, hp, _, _⟩ := h8.pieces 1 (by simp)
  have hc' : w8.cell? ⟨b, o + 1, none⟩ = some (.slice A 1 C) := hc
  have hst := string_of w8 A 1 C [98] hp rfl w8 (Below.refl _ _)
  have hbe : ((strOf [98]).toList == [98]) = true := by rw [strOf_toList]; rfl
  clear hc
  go_wp2_with fail
  go_ret
  exact ⟨rfl, below_step hb07 hb8⟩

/-- What Record answers, whatever the load. -/
def recErr (m : Nat) : Int := if m = 0 then 2 else if 65536 < m then 3 else 0
def recOut (l : List UInt8) : List UInt8 := if l.length = 0 ∨ 65536 < l.length then [] else record l
theorem record_all (a : Option Addr) (len cap : Nat) (l : List UInt8) (w : World) (hl : BytesAt w a l) (hlen : l.length = len) :
    Calls Try.prog 11 #[.slice a len cap] w fun e w' => ∃ a' n' c', e = .returned (.tuple #[.slice a' n' c', .int .i64 (recErr len)]) ∧ BytesAt w' a' (recOut l) ∧ (recOut l).length = n' ∧ Below w.heap.size w w' := by
  by_cases h0 : len = 0
  · subst h0
    refine (record_none a cap w).mono ?_
    rintro e w' ⟨rfl, rfl⟩
    have e : recOut l = [] := by unfold recOut; rw [if_pos (.inl hlen)]
    exact ⟨none, 0, 0, rfl, by rw [e]; exact RowAt.nil _ _, by rw [e]; rfl, Below.refl _ _⟩
  · by_cases h1 : 65536 < len
    · refine (record_long a len cap w h1).mono ?_
      rintro e w' ⟨rfl, rfl⟩
      have e : recOut l = [] := by unfold recOut; rw [if_pos (.inr (by omega))]
      exact ⟨none, 0, 0, by unfold recErr; rw [if_neg h0, if_pos h1], by rw [e]; exact RowAt.nil _ _, by rw [e]; rfl, Below.refl _ _⟩
    · refine (record_any a len cap l w hl hlen (by omega) (by omega)).mono ?_
      rintro e w' ⟨a', c', rfl, h, hb⟩
      have e : recOut l = record l := by unfold recOut; rw [if_neg (by omega)]
      exact ⟨a', 8 + len, c', by unfold recErr; rw [if_neg h0, if_neg h1], by rw [e]; exact h.row, by rw [e, record_length, hlen], hb⟩
theorem ref_record_all (a : Option Addr) (len cap : Nat) (l : List UInt8) (w : World) (hl : BytesAt w a l) (hlen : l.length = len) :
    Calls Try.prog 12 #[.slice a len cap] w fun e w' => ∃ a' n' c', e = .returned (.tuple #[.slice a' n' c', .int .i64 (recErr len)]) ∧ BytesAt w' a' (recOut l) ∧ (recOut l).length = n' ∧ Below w.heap.size w w' := by
  by_cases h0 : len = 0
  · subst h0
    refine (ref_record_none a cap w).mono ?_
    rintro e w' ⟨rfl, rfl⟩
    have e : recOut l = [] := by unfold recOut; rw [if_pos (.inl hlen)]
    exact ⟨none, 0, 0, rfl, by rw [e]; exact RowAt.nil _ _, by rw [e]; rfl, Below.refl _ _⟩
  · by_cases h1 : 65536 < len
    · refine (ref_record_long a len cap w h1).mono ?_
      rintro e w' ⟨rfl, rfl⟩
      have e : recOut l = [] := by unfold recOut; rw [if_pos (.inr (by omega))]
      exact ⟨none, 0, 0, by unfold recErr; rw [if_neg h0, if_pos h1], by rw [e]; exact RowAt.nil _ _, by rw [e]; rfl, Below.refl _ _⟩
    · refine (ref_record_any a len cap l w hl hlen (by omega) (by omega)).mono ?_
      rintro e w' ⟨a', c', rfl, h, hb⟩
      have e : recOut l = record l := by unfold recOut; rw [if_neg (by omega)]
      exact ⟨a', 8 + len, c', by unfold recErr; rw [if_neg h0, if_neg h1], by rw [e]; exact h.row, by rw [e, record_length, hlen], hb⟩

set_option maxRecDepth 20000 in
set_option maxHeartbeats 1000000 in
theorem logScans_any (a b : Option Addr) (n c m d : Nat) (l load : List UInt8) (w : World) (hl : BytesAt w a l) (hd : BytesAt w b load) (hn : l.length = n) (hm : load.length = m) (hc : n ≤ c) :
    Calls Try.prog 3 #[.slice a n c, .slice b m d] w fun e w' => e = .returned (.bool true) ∧ Below w.heap.size w w' := by
  have HN := Lib.hid hn
  have HM := Lib.hid hm
  clear hn hm
  by_cases hbig : 20000 < n ∨ 20000 < m
  · by_cases h1 : 20000 < n
    · have t1 : decide ((20000 : Int) < (n : Int)) = true := by simp; omega
      clear hbig
      go_enter Try.func3, Try.ntmps3
      go_wp2_with fail
      refine (wakes_any _).mono ?_
      rintro e w4 ⟨rfl, hb4⟩
      go_wp2_with fail
      go_ret
      exact ⟨rfl, hb4⟩
    · have t1 : decide ((20000 : Int) < (n : Int)) = false := by simp; omega
      have t2 : decide ((20000 : Int) < (m : Int)) = true := by simp; omega
      clear hbig
      go_enter Try.func3, Try.ntmps3
      go_wp2_with fail
      refine (wakes_any _).mono ?_
      rintro e w4 ⟨rfl, hb4⟩
      go_wp2_with fail
      go_ret
      exact ⟨rfl, hb4⟩
  · have hn2 : n ≤ 20000 := by omega
    have hm2 : m ≤ 20000 := by omega
    clear hbig
    have t1 : decide ((20000 : Int) < (n : Int)) = false := by simp; omega
    have t2 : decide ((20000 : Int) < (m : Int)) = false := by simp; omega
    go_enter Try.func3, Try.ntmps3
    go_wp2_with fail
    refine (scan_any a n c l _ hl HN.out (by omega) hc).mono ?_
    rintro e w1 ⟨a1, n1, c1, vs1, rfl, h1, hb1⟩
    go_wp2_with fail
    refine (ref_scan_any a n c l _ (hl.below hb1) HN.out (by omega) hc).mono ?_
    rintro e w2 ⟨a2, n2, c2, vs2, rfl, h2, hb2⟩
    have hb02 := below_step hb1 hb2
    have hs : n1 = n2 := h1.length.symm.trans h2.length
    subst hs
    have hlen := h1.length
    have hcount : n1 ≤ 4096 := by have := scan_count most l; rw [hlen, most_is] at this; exact this
    have HG := Lib.hid hlen
    clear hlen
    have p1 := h1.pieces.old hb2
    have p2 := h2.pieces
    go_wp2_with fail
    refine (record_all b m d load _ (hd.below hb02) HM.out).mono ?_
    rintro e w3 ⟨a3, n3, c3, rfl, h3, hn3, hb3⟩
    have hb03 := below_step hb02 hb3
    go_wp2_with fail
    refine (ref_record_all b m d load _ (hd.below hb03) HM.out).mono ?_
    rintro e w4 ⟨a4, n4, c4, rfl, h4, hn4, hb4⟩
    have hb04 := below_step hb03 hb4
    have hs : n3 = n4 := hn3.symm.trans hn4
    subst hs
    generalize recErr m = er at *
    generalize recOut load = out at *
    generalize (scan most l).2.length = rest at *
    have h3' := h3.below hb4
    have HO := Lib.hid hn3
    clear hn3 hn4
    go_wp2_with fail
    refine (loads_same _ _ n1 _ _ _ _ (p1.old (below_step hb3 hb4)) (p2.old (below_step hb3 hb4)) HG.out (by unfold maxLen; omega)).mono ?_
    rintro e w5 ⟨rfl, hb5⟩
    have S1 := string_of w5 a3 n3 c3 _ (h3'.below hb5) HO.out w5 (Below.refl _ _)
    have S2 := string_of w5 a4 n3 c4 _ (h4.below hb5) HO.out w5 (Below.refl _ _)
    go_wp2_with fail
    refine (wakes_any _).mono ?_
    rintro e w6 ⟨rfl, hb6⟩
    go_wp2_with fail
    go_ret
    exact ⟨rfl, below_step (below_step hb04 hb5) hb6⟩

end Go.Proofs.Ytnojeiklgjhkgaa
