/- The walk of LogPieces. -/
import Derived.Test.YtnojeiklgjhkgaaLogLaws
import Derived.Test.YtnojeiklgjhkgaaCrcPlain
namespace Go.Proofs.Ytnojeiklgjhkgaa
open Go.RowKit

theorem intsT : RowType Try.prog 32 3 1 8 := RowType.mk (z := .int .i64 0) Try.underlying32 (by kernel_rfl) rfl (by omega)
theorem at_form (x P : Int) (h0 : 0 < P) (h1 : P ≤ 1000000) : ∃ p : Nat, (wrap64 (x.tmod P + P)).tmod P = (p : Int) ∧ (p : Int) < P := by
  have hlo : -P < x.tmod P := Int.lt_tmod_of_pos x h0
  have hhi : x.tmod P < P := Int.tmod_lt_of_pos x h0
  have e : wrap64 (x.tmod P + P) = x.tmod P + P := IntWalk.wrap64_in _ ⟨by omega, by omega⟩
  rw [e, Int.tmod_eq_emod_of_nonneg (by omega)]
  have h2 := Int.emod_nonneg (x.tmod P + P) (show P ≠ 0 by omega)
  have h3 := Int.emod_lt_of_pos (x.tmod P + P) h0
  exact ⟨((x.tmod P + P) % P).toNat, by omega, by omega⟩

/-- Slices of rows that lie in old memory. -/
def OldPieces (w : World) (vs : List Value) (ls : List (List UInt8)) : Prop :=
  vs.length = ls.length ∧ ∀ r (h : r < ls.length), ∃ A C, vs[r]? = some (.slice A ls[r].length C) ∧ BytesAt w A ls[r] ∧ ls[r].length ≤ C ∧ C ≤ maxLen
theorem OldPieces.nil (w : World) : OldPieces w [] [] := ⟨rfl, fun r h => by simp at h⟩
theorem OldPieces.snoc {w : World} {vs : List Value} {ls : List (List UInt8)} (h : OldPieces w vs ls) {A : Option Addr} {C : Nat} {x : List UInt8} (hx : BytesAt w A x) (h1 : x.length ≤ C) (h2 : C ≤ maxLen) : OldPieces w (vs ++ [.slice A x.length C]) (ls ++ [x]) := by
  refine ⟨by simp [h.1], fun r hr => ?_⟩
  by_cases hlt : r < ls.length
  · obtain ⟨A1, C1, g1, g2⟩ := h.2 r hlt
    rw [List.getElem_append_left hlt]
    exact ⟨A1, C1, by rw [List.getElem?_append_left (by rw [h.1]; exact hlt)]; exact g1, g2⟩
  · have : r = ls.length := by simp at hr; omega
    subst this
    simp only [List.getElem_concat_length]
    refine ⟨A, C, ?_, hx, h1, h2⟩
    rw [← h.1]; simp
theorem OldPieces.pieces {w w' : World} {vs : List Value} {ls : List (List UInt8)} (h : OldPieces w vs ls) {B : Nat} {T : TypeId} {a : Option Addr} {n c : Nat} (ho : Own w' B T 1 a n c vs) (hb : Below w.heap.size w w') : PiecesAt w' a ls := by
  intro r hr
  obtain ⟨A, C, h1, h2, h3, h4⟩ := h.2 r hr
  have hr' : r < vs.length := by rw [h.1]; exact hr
  obtain ⟨b, o, e, hc⟩ := ho.row r hr'
  refine ⟨b, o, A, C, e, ?_, h2.below hb, h3, h4⟩
  rw [hc, ← h1, List.getElem?_eq_getElem hr']

theorem PiecesAt.take {w : World} {a : Option Addr} {ls : List (List UInt8)} (h : PiecesAt w a ls) (k : Nat) : PiecesAt w a (ls.take k) := by
  intro r hr
  rw [List.length_take] at hr
  have := h r (by omega)
  simpa using this

def endsOf (done : List (List UInt8)) : List Value := (List.range done.length).map fun r => .int .i64 (((records (done.take (r + 1))).length : Nat) : Int)
theorem endsOf_snoc (done : List (List UInt8)) (x : List UInt8) : endsOf (done ++ [x]) = endsOf done ++ [.int .i64 (((records (done ++ [x])).length : Nat) : Int)] := by
  unfold endsOf
  rw [List.length_append, List.length_singleton, List.range_succ, List.map_append]
  congr 1
  · apply List.map_congr_left
    intro r hr
    have := List.mem_range.1 hr
    rw [List.take_append_of_le_length (by omega)]
  · simp only [List.map_cons, List.map_nil]
    rw [List.take_of_length_le (by simp)]
def PieceRel (w : World) (ls : List (List UInt8)) (f : Nat) (all put ends i : Value) (w' : World) : Prop :=
  ∃ (k : Nat) (done : List (List UInt8)) (aa ap ae : Option Addr) (na ca np cp ne ce : Nat) (vs : List Value), k + f = ls.length ∧ i = .int .i64 (k : Int) ∧ all = .slice aa na ca ∧ put = .slice ap np cp ∧ ends = .slice ae ne ce ∧
    Own w' w.heap.size 5 1 aa na ca ((records done).map bv) ∧ (records done).length = na ∧ na ≤ 5008 ∧ Own w' w.heap.size 22 1 ap np cp vs ∧ OldPieces w vs done ∧ done.length = np ∧
    Own w' w.heap.size 3 1 ae ne ce (endsOf done) ∧ done.length = ne ∧ Fair done ∧ done.length ≤ k ∧ k ≤ 61 ∧ Below w.heap.size w w'

theorem scan_whole (done : List (List UInt8)) (h : Fair done) (hl : done.length ≤ 61) : scan most (records done) = (done, []) := by
  have e := scan_records most done [] h (by rw [most_is]; omega)
  rw [List.append_nil] at e
  rw [e, scan_stop (scans_short (by simp))]; simp
def CutRel (w : World) (done : List (List UInt8)) (p : Nat) (f : Nat) (i end_ : Value) (w' : World) : Prop :=
  ∃ K : Nat, K + f = done.length ∧ i = .int .i64 (K : Int) ∧ end_ = .int .i64 (((records (done.take K)).length : Nat) : Int) ∧ (records (done.take K)).length ≤ p ∧ w' = w

set_option maxRecDepth 20000 in
set_option maxHeartbeats 4000000 in
theorem logPieces_any (a : Option Addr) (len cap : Nat) (cut : Int) (ls : List (List UInt8)) (w : World) (hp : PiecesAt w a ls) (hlen : ls.length = len) (hz : ∀ r, (h : r < ls.length) → ls[r].length ≤ 140737488351232) :
    Calls Try.prog 4 #[.slice a len cap, .int .i64 cut] w fun e w' => e = .returned (.bool true) ∧ Below w.heap.size w w' := by
  have HL := Lib.hid hlen
  clear hlen
  go_enter Try.func4, Try.ntmps4
  go_wp2_with fail
  go_loopg [5, 6, 7, 8] len (PieceRel w ls)
  case atStart => exact ⟨0, [], none, none, none, 0, 0, 0, 0, 0, 0, [], by rw [HL.out, Nat.zero_add], rfl, rfl, rfl, rfl, Own.nil _ _ _ _, rfl, by omega, Own.nil _ _ _ _, OldPieces.nil _, rfl, Own.nil _ _ _ _, rfl, fun x h => by simp at h, by simp, by omega, Below.refl _ _⟩
  case round =>
    obtain ⟨k, done, aa, ap, ae, na, ca, np, cp, ne, ce, vs, hk, rfl, rfl, rfl, rfl, hall, hna, hna2, hput, hold, hnp, hends, hne, hfair, hdk, hk61, hb⟩ := hrel
    rw [HL.out] at hk
    have HNA := Lib.hid hna
    have HNP := Lib.hid hnp
    have HNE := Lib.hid hne
    have hnp9 : np ≤ 61 := by omega
    have hne9 : ne ≤ 61 := by omega
    clear hna hnp hne
    by_cases hlt : k < len
    · have t0 : decide ((k : Int) < (len : Int)) = true := by simp; omega
      have hkl : k < ls.length := by rw [HL.out]; exact hlt
      obtain ⟨b, o, A, C, rfl, hc, hpk, hC1, hC2⟩ := hp k hkl
      have hcw : ∀ W, Below w.heap.size w W → W.cell? ⟨b, o + k, none⟩ = some (.slice A ls[k].length C) := fun W h => by rw [h.cell (World.block_lt_of_cell? w _ hc)]; exact hc
      have hsm := hz k hkl
      clear hc
      generalize ls[k] = pc at *
      have hcr := hcw wr hb
      by_cases hg : 60 < k
      · have t1 : decide ((60 : Int) < (k : Int)) = true := by simp; omega
        go_wp2_with fail
        refine (wakes_any _).mono ?_
        rintro e w4 ⟨rfl, hb4⟩
        go_wp2_with fail
        go_ret
        exact ⟨rfl, below_step hb hb4⟩
      · have t1 : decide ((60 : Int) < (k : Int)) = false := by simp; omega
        by_cases hg2 : 5000 < na + pc.length
        · have t2 : decide ((5000 : Int) < (na : Int) + (pc.length : Int)) = true := by simp; omega
          go_wp2_with fail
          refine (wakes_any _).mono ?_
          rintro e w4 ⟨rfl, hb4⟩
          go_wp2_with fail
          go_ret
          exact ⟨rfl, below_step hb hb4⟩
        · have t2 : decide ((5000 : Int) < (na : Int) + (pc.length : Int)) = false := by simp; omega
          have hpr := hpk.below hb
          by_cases he : pc.length = 0
          · have HE := Lib.hid he
            clear he
            go_wp2_with fail
            rw [HE.out]
            refine (record_none _ _ _).mono ?_
            rintro e w1 ⟨rfl, rfl⟩
            go_wp2_with fail
            go_roundg (gk - 1)
            case measure => omega
            case rel => exact ⟨k + 1, done, aa, ap, ae, na, ca, np, cp, ne, ce, vs, by rw [HL.out]; omega, by go_num, rfl, rfl, rfl, hall, HNA.out, hna2, hput, hold, HNP.out, hends, HNE.out, hfair, by omega, by omega, hb⟩
          · go_wp2_with fail
            refine (record_any _ _ _ pc _ hpr rfl (by omega) (by omega)).mono ?_
            rintro e w1 ⟨a1, c1, rfl, h1, hb1⟩
            have hb01 := below_step hb hb1
            have hall1 := hall.old hb1
            go_wp2_with (at_builtin; refine wpList_append_row rfl _ _ 22 rfl bytesT rfl hall1 rfl h1.row (by rw [List.length_map, record_length, Nat.mul_one]) (bv_one _) (by unfold maxLen; omega) (by omega) hb01.size ?_)
            intro a2 c2 w2 hall2 hg2'
            have hb2 := hall1.grown hb01 (Nat.le_refl _) hg2' hb01.size
            have hput2 := (hput.old hb1).other hall1 (by decide) hg2'
            have hends2 := (hends.old hb1).other hall1 (by decide) hg2'
            have hc2 := hcw w2 hb2
            have hlit := Own.lit (w := w2) (B := 0) (e := 22) #[.slice A pc.length C] [.slice A pc.length C] 1 rfl rfl (Nat.zero_le _) (by unfold maxLen; omega)
            have hb2' := below_step hb2 ((Below.refl _ w2).alloc (Nat.le_refl _) (.cells #[.slice A pc.length C] 22))
            go_wp2_with (at_builtin; refine wpList_append_row rfl _ _ 24 rfl piecesT rfl (hput2.alloc _) rfl hlit.row rfl (by intro u hu; rw [List.mem_singleton.1 hu]; rfl) (by unfold maxLen; omega) (by omega) hb2'.size ?_)
            intro a3 c3 w3 hput3 hg3
            have hb3 := (hput2.alloc _).grown hb2' (Nat.le_refl _) hg3 hb2'.size
            have hall3 := (hall2.alloc (.cells #[.slice A pc.length C] 22)).other (hput2.alloc _) (by decide) hg3
            have hends3 := (hends2.alloc (.cells #[.slice A pc.length C] 22)).other (hput2.alloc _) (by decide) hg3
            have hlit2 := Own.lit (w := w3) (B := 0) (e := 3) #[.int .i64 ((na : Int) + (8 + (pc.length : Int)))] [.int .i64 ((na : Int) + (8 + (pc.length : Int)))] 1 rfl rfl (Nat.zero_le _) (by unfold maxLen; omega)
            have hb3' := below_step hb3 ((Below.refl _ w3).alloc (Nat.le_refl _) (.cells #[.int .i64 ((na : Int) + (8 + (pc.length : Int)))] 3))
            go_wp2_with (at_builtin; go_loud (refine wpList_append_row rfl _ _ 32 rfl intsT rfl (hends3.alloc _) rfl hlit2.row rfl (by intro u hu; rw [List.mem_singleton.1 hu]; rfl) (by unfold maxLen; omega) (by omega) hb3'.size ?_))
            intro a4 c4 w4 hends4 hg4
            have hb4 := (hends3.alloc _).grown hb3' (Nat.le_refl _) hg4 hb3'.size
            have hall4 := (hall3.alloc (.cells #[.int .i64 ((na : Int) + (8 + (pc.length : Int)))] 3)).other (hends3.alloc _) (by decide) hg4
            have hput4 := (hput3.alloc (.cells #[.int .i64 ((na : Int) + (8 + (pc.length : Int)))] 3)).other (hends3.alloc _) (by decide) hg4
            go_wp2_with fail
            go_roundg (gk - 1)
            case measure => omega
            case rel =>
              have hlenr : (records (done ++ [pc])).length = na + (8 + pc.length) := by rw [records_snoc, List.length_append, record_length, HNA.out]
              refine ⟨k + 1, done ++ [pc], a2, a3, a4, na + (8 + pc.length), c2, np + 1, c3, ne + 1, c4, vs ++ [.slice A pc.length C], by rw [HL.out]; omega, by go_num, rfl, rfl, rfl, ?_, hlenr, by omega, hput4, hold.snoc hpk hC1 hC2, by rw [List.length_append, HNP.out]; rfl, ?_, by rw [List.length_append, HNE.out]; rfl, ?_, by rw [List.length_append]; simp; omega, by omega, hb4⟩
              · rw [records_snoc, List.map_append]; exact hall4
              · rw [endsOf_snoc, hlenr]
                have e : ((na + (8 + pc.length) : Nat) : Int) = (na : Int) + (8 + (pc.length : Int)) := by omega
                rw [e]; exact hends4
              · intro x hx
                rcases List.mem_append.1 hx with h | h
                · exact hfair x h
                · rw [List.mem_singleton.1 h]; omega
    · have t0 : decide ((k : Int) < (len : Int)) = false := by simp; omega
      obtain ⟨p, hpp, hplt⟩ := at_form cut ((na : Int) + 1) (by omega) (by omega)
      have HP := Lib.hid hpp
      clear hpp
      have hpn : p ≤ na := by omega
      go_wp2_with fail
      rw [HP.out]
      refine (scan_any aa na ca (records done) _ hall.row HNA.out (by omega) hall.le).mono ?_
      rw [scan_whole done hfair (by omega)]
      rintro e w1 ⟨a1, n1, c1, vs1, rfl, h1, hb1⟩
      have hn1 : n1 = np := h1.length.symm.trans HNP.out
      subst hn1
      have hpi : BytesAt w1 aa ((records done).take p) := by
        have := RowAt.take p (hall.old hb1).row
        unfold BytesAt; rw [List.map_take]; exact this
      have hpl : ((records done).take p).length = p := by rw [List.length_take, HNA.out]; omega
      have hpc : p ≤ ca := by have := hall.le; omega
      have hpc' : (p : Int) ≤ (ca : Int) := by omega
      go_wp2_with fail
      refine (scan_any aa p ca ((records done).take p) _ hpi hpl (by omega) hpc).mono ?_
      rintro e w2 ⟨a2, n2, c2, vs2, rfl, h2, hb2⟩
      have HSC := fun K => scan_cut most done p K hfair (by rw [most_is]; omega)
      generalize hsc : scan most ((records done).take p) = sc at *
      have hb12 := below_step hb1 hb2
      have hends2 := hends.old hb12
      have hput2 := hput.old hb12
      have hbw2 := below_step hb hb12
      have hdl : done.length = ne := HNE.out
      go_wp2_with fail
      go_loopg [16, 17] ne (CutRel w2 done p)
      case atStart => exact ⟨0, by omega, rfl, rfl, by simp [records], rfl⟩
      case round =>
        obtain ⟨K, hK, rfl, rfl, hKp, rfl⟩ := hrel
        by_cases hKn : K < ne
        · have u1 : decide ((K : Int) < (ne : Int)) = true := by simp; omega
          have hKe : K < (endsOf done).length := by unfold endsOf; rw [List.length_map, List.length_range]; omega
          obtain ⟨ge, oe, rfl, hce⟩ := hends2.row K hKe
          have hev : (endsOf done)[K] = .int .i64 (((records (done.take (K + 1))).length : Nat) : Int) := by simp [endsOf]
          rw [hev] at hce
          by_cases hE : (records (done.take (K + 1))).length ≤ p
          · have u2 : decide ((((records (done.take (K + 1))).length : Nat) : Int) ≤ (p : Int)) = true := by simp; omega
            go_wp2_with fail
            go_roundg (gk - 1)
            case measure => omega
            case rel => exact ⟨K + 1, by omega, by go_num, rfl, hE, rfl⟩
          · have u2 : decide ((((records (done.take (K + 1))).length : Nat) : Int) ≤ (p : Int)) = false := by simp; omega
            have HE := Lib.hid hE
            clear hE
            have hsc2 := HSC K (by omega) hKp (fun h => Nat.lt_of_not_le HE.out)
            have hn2 : n2 = K := by rw [← h2.length, hsc2, List.length_take]; omega
            have hrest : sc.2.length = p - (records (done.take K)).length := by rw [hsc2]; show (((records done).take p).drop _).length = _; rw [List.length_drop, hpl]
            have hp2 := h2.pieces
            rw [hsc2] at hp2
            subst hn2
            rw [hrest]
            have pp := hold.pieces hput2 hbw2
            have hpp : n2 ≤ cp := by have h1 := hput2.le; have h3 := HNP.out; omega
            have hpp' : (n2 : Int) ≤ (cp : Int) := by omega
            have t9 : ((((p - (records (done.take n2)).length : Nat)) : Int) == (p : Int) - (((records (done.take n2)).length : Nat) : Int)) = true := by rw [beq_iff_eq]; omega
            generalize (records (done.take n2)).length = ee at *
            go_wp2_with fail
            refine (loads_same _ _ n1 _ _ _ _ (h1.pieces.old hb2) pp HNP.out (by unfold maxLen; omega)).mono ?_
            rintro e w5 ⟨rfl, hb5⟩
            go_wp2_with fail
            refine (loads_same _ _ n2 _ _ _ _ (hp2.old hb5) (pp.take n2 |>.old hb5) (by rw [List.length_take]; omega) (by unfold maxLen; omega)).mono ?_
            rintro e w6 ⟨rfl, hb6⟩
            go_wp2_with fail
            refine (wakes_any _).mono ?_
            rintro e w7 ⟨rfl, hb7⟩
            go_wp2_with fail
            go_ret
            exact ⟨rfl, below_step (below_step (below_step hbw2 hb5) hb6) hb7⟩
        · have u1 : decide ((K : Int) < (ne : Int)) = false := by simp; omega
          have hsc2 := HSC K (by omega) hKp (fun h => by omega)
          have hn2 : n2 = K := by rw [← h2.length, hsc2, List.length_take]; omega
          have hrest : sc.2.length = p - (records (done.take K)).length := by rw [hsc2]; show (((records done).take p).drop _).length = _; rw [List.length_drop, hpl]
          have hp2 := h2.pieces
          rw [hsc2] at hp2
          subst hn2
          rw [hrest]
          have pp := hold.pieces hput2 hbw2
          have hpp : n2 ≤ cp := by have h1 := hput2.le; have h3 := HNP.out; omega
          have hpp' : (n2 : Int) ≤ (cp : Int) := by omega
          have t9 : ((((p - (records (done.take n2)).length : Nat)) : Int) == (p : Int) - (((records (done.take n2)).length : Nat) : Int)) = true := by rw [beq_iff_eq]; omega
          generalize (records (done.take n2)).length = ee at *
          go_wp2_with fail
          refine (loads_same _ _ n1 _ _ _ _ (h1.pieces.old hb2) pp HNP.out (by unfold maxLen; omega)).mono ?_
          rintro e w5 ⟨rfl, hb5⟩
          go_wp2_with fail
          refine (loads_same _ _ n2 _ _ _ _ (hp2.old hb5) (pp.take n2 |>.old hb5) (by rw [List.length_take]; omega) (by unfold maxLen; omega)).mono ?_
          rintro e w6 ⟨rfl, hb6⟩
          go_wp2_with fail
          refine (wakes_any _).mono ?_
          rintro e w7 ⟨rfl, hb7⟩
          go_wp2_with fail
          go_ret
          exact ⟨rfl, below_step (below_step (below_step hbw2 hb5) hb6) hb7⟩

end Go.Proofs.Ytnojeiklgjhkgaa
