/- The walk through the document's Scan. -/
import Derived.Test.YtnojeiklgjhkgaaLogScan
import Derived.Test.YtnojeiklgjhkgaaLex
namespace Go.Proofs.Ytnojeiklgjhkgaa
open Go.RowKit

def RefRel (w : World) (b : List UInt8) (f : Nat) (loads at_ : Value) (w' : World) : Prop :=
  ∃ (a1 : Option Addr) (n1 c1 k : Nat) (vs : List Value) (done : List (List UInt8)), loads = .slice a1 n1 c1 ∧ OwnPieces w' w.heap.size 22 5 a1 n1 c1 vs done ∧ at_ = .int .i64 (k : Int) ∧ k ≤ b.length ∧
    n1 + f = most ∧ scan most b = (done ++ (scan f (b.drop k)).1, (scan f (b.drop k)).2) ∧ Below w.heap.size w w'

def SameRel (w : World) (H r : List UInt8) (f : Nat) (same i : Value) (w' : World) : Prop :=
  ∃ (k : Nat), k + f = 8 ∧ i = .int .i64 (k : Int) ∧ same = .bool (r.take k == H.take k) ∧ Below w.heap.size w w'

theorem take_same (r H : List UInt8) (j : Nat) (h1 : j < r.length) (h2 : j < H.length) : (r.take (j + 1) == H.take (j + 1)) = ((r.take j == H.take j) && (r[j] == H[j])) := by
  rw [List.take_succ_eq_append_getElem h1, List.take_succ_eq_append_getElem h2]
  have hl : (r.take j).length = (H.take j).length := by rw [List.length_take, List.length_take]; omega
  rw [Bool.eq_iff_iff]
  simp only [beq_iff_eq, Bool.and_eq_true]
  constructor
  · intro h
    have := List.append_inj h hl
    simpa using this
  · rintro ⟨h, h'⟩
    rw [h, h']

set_option maxRecDepth 40000 in
set_option maxHeartbeats 2000000 in
theorem ref_scan_any (a : Option Addr) (len cap : Nat) (b : List UInt8) (w : World) (hl : BytesAt w a b) (hlen : b.length = len) (hm : len ≤ 140737488351232) (hcap : len ≤ cap) :
    Calls Try.prog 10 #[.slice a len cap] w fun e w' => ∃ a' n' c' vs, e = .returned (.tuple #[.slice a' n' c', .int .i64 ((scan most b).2.length : Int)]) ∧ OwnPieces w' w.heap.size 22 5 a' n' c' vs (scan most b).1 ∧ Below w.heap.size w w' := by
  have HL := Lib.hid hlen
  clear hlen
  go_enter Try.func10, Try.ntmps10
  go_wp2_with fail
  go_loopg [2, 4] most (RefRel w b)
  case atStart => exact ⟨none, 0, 0, 0, [], [], rfl, OwnPieces.nil _ _ _ _, rfl, Nat.zero_le _, Nat.zero_add _, by simp, Below.refl _ _⟩
  case round =>
    obtain ⟨a1, n1, c1, k, vs, done, rfl, hown, rfl, hk, hf, hs, hb⟩ := hrel
    rw [HL.out] at hk
    have HS := Lib.hid hs
    have hrl : (b.drop k).length = len - k := by rw [List.length_drop, HL.out]
    have HN := Lib.hid hrl
    clear hs hrl
    rw [most_is] at hf
    cases gk with
    | zero =>
      have t1 : decide ((n1 : Int) < 4096) = false := by simp; omega
      clear hf
      go_wp2_with fail
      go_ret2
      have e := scan_done HS.out (.inl rfl)
      refine ⟨a1, n1, c1, vs, ?_, by rw [e]; exact hown, hb⟩
      rw [e, HN.out]; simp; omega
    | succ f =>
      have t1 : decide ((n1 : Int) < 4096) = true := by simp; omega
      have HF := Lib.hid hf
      clear hf
      by_cases h8 : len - k ≤ 8
      · have t2 : decide ((9 : Int) ≤ (len : Int) - (k : Int)) = false := by simp; omega
        go_wp2_with fail
        go_ret2
        have e := scan_done HS.out (.inr (scans_short (by rw [HN.out]; exact h8)))
        refine ⟨a1, n1, c1, vs, ?_, by rw [e]; exact hown, hb⟩
        rw [e, HN.out]; simp; omega
      · have t2 : decide ((9 : Int) ≤ (len : Int) - (k : Int)) = true := by simp; omega
        obtain ⟨c0, x1, x2, x3, d0, d1, d2, d3, m, hr8, hm0⟩ := eight (r := b.drop k) (by rw [HN.out]; omega)
        obtain ⟨g, o, rfl, hc⟩ := BytesAt.at hl (by rw [HL.out]; omega)
        have hx0 : BytesAt w (some ⟨g, o + k, none⟩) (b.drop k) := by unfold BytesAt; rw [List.map_drop]; exact RowAt.drop k hl
        rw [hr8] at HS HN hx0
        have HR := Lib.hid hr8
        clear hr8 hc
        have hx := hx0.below hb
        have hc : ∀ i (hi : i < (c0 :: x1 :: x2 :: x3 :: d0 :: d1 :: d2 :: d3 :: m).length), wr.cell? ⟨g, o + k + i, none⟩ = some (.int .u8 (U8 (c0 :: x1 :: x2 :: x3 :: d0 :: d1 :: d2 :: d3 :: m)[i])) := by
          obtain ⟨_, _, e, hc⟩ := BytesAt.at hx (by simp)
          cases e; exact hc
        have g0 : wr.cell? ⟨g, o + k, none⟩ = some (.int .u8 (U8 c0)) := hc 0 (by simp)
        have g1 : wr.cell? ⟨g, o + (k + 1), none⟩ = some (.int .u8 (U8 x1)) := hc 1 (by simp)
        have g2 : wr.cell? ⟨g, o + (k + 2), none⟩ = some (.int .u8 (U8 x2)) := hc 2 (by simp)
        have g3 : wr.cell? ⟨g, o + (k + 3), none⟩ = some (.int .u8 (U8 x3)) := hc 3 (by simp)
        have hgw : g < wr.heap.size := RowAt.lt hx (by simp)
        have k0 : k < len := by omega
        have k1 : k + 1 < len := by omega
        have k2 : k + 2 < len := by omega
        have k3 : k + 3 < len := by omega
        have hml : m.length + 8 = len - k := by have := HN.out; simp only [List.length_cons] at this; omega
        obtain ⟨N, hNN⟩ : ∃ N, rdBE c0 x1 x2 x3 = N := ⟨_, rfl⟩
        have HO := orBE c0 x1 x2 x3
        rw [hNN] at HO
        have hsN : scanN (c0 :: x1 :: x2 :: x3 :: d0 :: d1 :: d2 :: d3 :: m) = N := hNN
        by_cases hbad : 1 ≤ N ∧ N ≤ 65536 ∧ N ≤ len - k - 8
        · obtain ⟨b1, b2, b3⟩ := hbad
          have t3 : decide ((N : Int) < 1) = false := by simp; omega
          have t4 : decide ((65536 : Int) < (N : Int)) = false := by simp; omega
          have t5 : decide ((len : Int) - (k : Int) - 8 < (N : Int)) = false := by simp; omega
          have hlN : (m.take N).length = N := by rw [List.length_take]; omega
          have hld : BytesAt wr (some ⟨g, o + (k + 8), none⟩) (m.take N) := by
            have := RowAt.take N (RowAt.drop (b := g) (o := o + k) 8 hx)
            rw [Nat.add_assoc] at this
            unfold BytesAt
            rw [List.map_take]
            exact this
          have hsub : k + 8 + N - (k + 8) = N := by omega
          have hlo : loadOf (c0 :: x1 :: x2 :: x3 :: d0 :: d1 :: d2 :: d3 :: m) = m.take N := by unfold loadOf; rw [hsN]; rfl
          have hsc := scans_eq (b := c0 :: x1 :: x2 :: x3 :: d0 :: d1 :: d2 :: d3 :: m) (by rw [HN.out]; omega) (by rw [hsN]; exact b1) (by rw [hsN]; exact b2) (by rw [hsN, HN.out]; exact b3)
          rw [hlo] at hsc
          have hmore := fun h => scan_more HS.out h
          rw [hlo, hsN] at hmore
          obtain ⟨r, hr⟩ : ∃ r, c0 :: x1 :: x2 :: x3 :: d0 :: d1 :: d2 :: d3 :: m = r := ⟨_, rfl⟩
          obtain ⟨l, hll⟩ : ∃ l, m.take N = l := ⟨_, rfl⟩
          have hdr : (c0 :: x1 :: x2 :: x3 :: d0 :: d1 :: d2 :: d3 :: m).drop (8 + N) = b.drop (k + (8 + N)) := by rw [← HR.out, List.drop_drop]
          go_wp2_with fail
          go_quiet (fail)
          go_wp2_with (at_builtin; refine wpList_append_row rfl _ _ 22 rfl bytesT rfl (Own.nil _ w.heap.size _ _) rfl (hld.drewN nq) (by rw [List.length_map, hlN]; omega) (bv_one _) (by unfold maxLen; omega) (by omega) hb.size ?_)
          intro a2 c2 w2 hown2 hg2
          have hb2 : Below wr.heap.size wr w2 := (below_drewN (Below.refl _ wr) nq).grown hg2 (Nat.le_refl _) (fun k hk => by cases hk)
          have hbt2 := below_step hb hb2
          have hld2 : BytesAt w2 a2 (m.take N) := by have := hown2.row; rw [hll]; simpa [BytesAt, hll] using this
          go_wp2_with fail
          refine (ref_record_any _ _ _ (m.take N) _ hld2 hlN b1 b2).mono ?_
          rintro e w3 ⟨a3, c3, rfl, hrec, hb3⟩
          obtain ⟨g3, cur3, rfl, hg3⟩ := hrec.blk (by omega)
          have hg3 := And.intro hg3.1 hg3.2.1
          have hb3' : Below w2.heap.size w2 w3 := hb3
          have hbt3 := below_step hbt2 hb3
          have hrl : (record l).length = 8 + N := by rw [record_length, ← hll, hlN]
          have eR : ∀ j (h : j < (record l).length), ∀ W, Below w3.heap.size w3 W → W.cell? ⟨g3, j, none⟩ = some (.int .u8 (U8 (record l)[j])) := fun j h W hW => by
            rw [hW.cell hg3.2.lt]
            have := hrec.cell j (by rw [List.length_map]; rw [hll]; exact h)
            rw [this]; simp [bv, hll]
          have eB : ∀ j (h : j < r.length), ∀ W, Below w3.heap.size w3 W → W.cell? ⟨g, o + (k + j), none⟩ = some (.int .u8 (U8 r[j])) := fun j h W hW => by
            subst hr
            rw [(below_step (below_step hb2 hb3) hW).cell hgw, ← Nat.add_assoc]; exact hc j h
          go_wp2_with fail
          go_loopg [9, 10] 8 (SameRel w3 (record l) r)
          case atStart => exact ⟨0, rfl, rfl, rfl, Below.refl _ _⟩
          case round =>
            obtain ⟨j, hj, rfl, rfl, hbj⟩ := hrel
            by_cases hj8 : j < 8
            · have u1 : decide ((j : Int) < 8) = true := by simp; omega
              have hjr : j < r.length := by rw [← hr, HN.out]; omega
              have hjH : j < (record l).length := by rw [hrl]; omega
              have eR' : ∀ W, Old wr.drew W → W.cell? ⟨g3, j, none⟩ = some (.int .u8 (U8 (record l)[j])) := fun W hW => eR j hjH W (below_step hbj (below_step (Below.refl _ _).drew hW))
              have eB' : ∀ W, Old wr.drew W → W.cell? ⟨g, o + (k + j), none⟩ = some (.int .u8 (U8 r[j])) := fun W hW => eB j hjr W (below_step hbj (below_step (Below.refl _ _).drew hW))
              have v1 : (j : Int) < 8 + (N : Int) := by omega
              have v2 : (k : Int) + (j : Int) < (len : Int) := by omega
              have v3 : IntKind.i64.wrap ((k : Int) + (j : Int)) = (k : Int) + (j : Int) := IntWalk.i64_in _ (by omega)
              have v4 : (0 : Int) ≤ (k : Int) + (j : Int) := by omega
              have v5 : ((k : Int) + (j : Int)).toNat = k + j := by omega
              have hstep := take_same r (record l) j hjr hjH
              cases hs : (r.take j == (record l).take j) with
              | true =>
                rw [hs] at hstep
                by_cases hx : r[j] = (record l)[j]
                · have u2 : (U8 (record l)[j] == U8 r[j]) = true := by rw [hx]; exact BEq.rfl
                  go_wp2_with fail
                  refine wp_region_old (0 :: 1 :: 2 :: 3 :: 4 :: 5 :: 6 :: 7 :: 8 :: 9 :: 10 :: 11 :: 12 :: 13 :: 14 :: []) (by kernel_rfl) (by kernel_rfl) (fun c a d v w h => by cases d <;> exact h) ?_
                  repeat (first | (refine lex_skip rfl (by rfl) ?_; simp only [Act.put, List.setIfInBounds_toArray, List.set]) | (refine lex_quiet (v := ?_) rfl rfl (by rfl) ?_ ?_; rotate_left; (intro W hW; go_simp); (try with_reducible rfl); simp only [Act.put, List.setIfInBounds_toArray, List.set]))
                  refine lex_nil ?_
                  go_wp2_with fail
                  go_roundg (gk - 1)
                  case measure => omega
                  case rel => exact ⟨j + 1, by omega, by go_num, by rw [hstep, hx]; simp, below_step hbj (Below.refl _ _).drew⟩
                · have u2 : (U8 (record l)[j] == U8 r[j]) = false := by
                    have := u8_ne (fun e => hx e.symm)
                    simpa [bne] using this
                  go_wp2_with fail
                  refine wp_region_old (0 :: 1 :: 2 :: 3 :: 4 :: 5 :: 6 :: 7 :: 8 :: 9 :: 10 :: 11 :: 12 :: 13 :: 14 :: []) (by kernel_rfl) (by kernel_rfl) (fun c a d v w h => by cases d <;> exact h) ?_
                  repeat (first | (refine lex_skip rfl (by rfl) ?_; simp only [Act.put, List.setIfInBounds_toArray, List.set]) | (refine lex_quiet (v := ?_) rfl rfl (by rfl) ?_ ?_; rotate_left; (intro W hW; go_simp); (try with_reducible rfl); simp only [Act.put, List.setIfInBounds_toArray, List.set]))
                  refine lex_nil ?_
                  go_wp2_with fail
                  go_roundg (gk - 1)
                  case measure => omega
                  case rel => exact ⟨j + 1, by omega, by go_num, by rw [hstep]; simpa using hx, below_step hbj (Below.refl _ _).drew⟩
              | false =>
                rw [hs] at hstep
                go_wp2_with fail
                go_quiet (fail)
                go_wp2_with fail
                go_roundg (gk - 1)
                case measure => omega
                case rel => exact ⟨j + 1, by omega, by go_num, by rw [hstep]; rfl, below_step hbj (below_drewN (Below.refl _ _) _)⟩
            · have hje : j = 8 := by omega
              have u1 : decide ((j : Int) < 8) = false := by simp; omega
              have hfin : (r.take j == (record l).take j) = scans r := by rw [hje, ← hr, hsc, hll]; rfl
              rw [hfin]
              cases hsv : scans r with
              | true =>
                have hcnt := HF.out
                have hwj : Below w.heap.size w wr := below_step hbt3 hbj
                have hld3 := ((hown2.old hb3).old hbj)
                have hownj := (hown.old (below_step hb2 hb3)).old hbj
                have hown4 := hownj.old ((Below.refl _ wr).alloc (Nat.le_refl _) (.cells #[.slice a2 N c2] 22))
                have hlit := Own.lit (w := wr) (B := 0) (e := 22) #[.slice a2 N c2] [.slice a2 N c2] 1 rfl rfl (Nat.zero_le _) (by unfold maxLen; omega)
                have hbt4 := below_step hwj ((Below.refl _ wr).alloc (Nat.le_refl _) (.cells #[.slice a2 N c2] 22))
                go_wp2_with (at_builtin; refine wpList_append_row rfl _ _ 24 rfl piecesT rfl hown4.1 rfl hlit.row rfl (by intro u hu; rw [List.mem_singleton.1 hu]; rfl) (by unfold maxLen; omega) (by omega) hbt4.size ?_)
                intro a4 c4 w4 hown5 hg4
                have hlN' : l.length = N := by rw [← hll, hlN]
                have hnew := hown4.snoc (by decide) hg4 hlN' ((by simpa [hll] using hld3 : Own wr w.heap.size 5 1 a2 N c2 (l.map bv)).alloc _) (Nat.le_refl _) hown5
                have hb4 := hown4.1.grown hbt4 (Nat.le_refl _) hg4 hbt4.size
                have hnx := hmore (by rw [hr]; exact hsv)
                rw [hdr, hll] at hnx
                go_wp2_with fail
                go_roundg f
                case measure => omega
                case rel => exact ⟨a4, n1 + 1, c4, k + (8 + N), _, _, rfl, hnew, by go_num, by rw [HL.out]; omega, by rw [most_is]; omega, hnx, hb4⟩
              | false =>
                go_wp2_with fail
                go_ret2
                have e := scan_done HS.out (.inr (by rw [hr]; exact hsv))
                refine ⟨a1, n1, c1, vs, ?_, by rw [e]; exact ((hown.old (below_step hb2 hb3)).old hbj), below_step hbt3 hbj⟩
                rw [e, HN.out]; simp; omega
        · have hno := scans_no (b := c0 :: x1 :: x2 :: x3 :: d0 :: d1 :: d2 :: d3 :: m) (by rw [hsN, HN.out]; exact hbad)
          have e := scan_done HS.out (.inr hno)
          have HE := Lib.hid e
          have HA := Lib.hid hbad
          clear hbad hno e
          by_cases b1 : 1 ≤ N
          · have t3 : decide ((N : Int) < 1) = false := by simp; omega
            by_cases b2 : N ≤ 65536
            · have t4 : decide ((65536 : Int) < (N : Int)) = false := by simp; omega
              have t5 : decide ((len : Int) - (k : Int) - 8 < (N : Int)) = true := by have := HA.out; simp; omega
              go_wp2_with fail
              go_quiet (fail)
              go_wp2_with fail
              go_ret2
              refine ⟨a1, n1, c1, vs, ?_, by rw [HE.out]; exact hown.drew _, below_drewN hb _⟩
              rw [HE.out, HN.out]; simp; omega
            · have t4 : decide ((65536 : Int) < (N : Int)) = true := by simp; omega
              go_wp2_with fail
              go_quiet (fail)
              go_wp2_with fail
              go_ret2
              refine ⟨a1, n1, c1, vs, ?_, by rw [HE.out]; exact hown.drew _, below_drewN hb _⟩
              rw [HE.out, HN.out]; simp; omega
          · have t3 : decide ((N : Int) < 1) = true := by simp; omega
            go_wp2_with fail
            go_quiet (fail)
            go_wp2_with fail
            go_ret2
            refine ⟨a1, n1, c1, vs, ?_, by rw [HE.out]; exact hown.drew _, below_drewN hb _⟩
            rw [HE.out, HN.out]; simp; omega

end Go.Proofs.Ytnojeiklgjhkgaa
