/- LogBeginning's walk. -/
import Derived.Test.YtnojeiklgjhkgaaLogEach
import Derived.Test.YtnojeiklgjhkgaaLogBeginP
import Derived.Test.YtnojeiklgjhkgaaCamePlan
import Derived.Deep.CutBlock
namespace Go.Proofs.Ytnojeiklgjhkgaa
open Go.RowKit Go.Maps Go.Shelf
set_option linter.unusedVariables false
set_option linter.unusedSimpArgs false

def sumL (ls : List (List UInt8)) (k : Nat) : Nat := ((ls.take k).map List.length).sum
theorem sumL_succ (ls : List (List UInt8)) (k : Nat) (h : k < ls.length) : sumL ls (k + 1) = sumL ls k + ls[k].length := by
  unfold sumL
  rw [List.take_succ_eq_append_getElem h, List.map_append, List.sum_append]
  simp
theorem sumL_le (ls : List (List UInt8)) {i j : Nat} (h : i ≤ j) (hj : j ≤ ls.length) : sumL ls i ≤ sumL ls j := by
  have e : ls.take j = ls.take i ++ (ls.drop i).take (j - i) := by
    rw [← List.take_add, Nat.add_sub_cancel' h]
  unfold sumL
  rw [e, List.map_append, List.sum_append]
  omega
structure BegRel (w : World) (ls : List (List UInt8)) (d0 l0 k : Nat) (put : List (List UInt8)) (vs : List Value) (pa : Option Addr) (np cp : Nat) (r : DiskR) (R : LogR) (sn : Nat) (wr : World) : Prop where
  dl : DL wr w.heap.size r R
  p : Hid (r.p = oneF nmLog (records put) (records (put.take sn)).length)
  rl : Hid (R.ls = put ∧ R.nm = nmLog ∧ R.sure = sn ∧ sn ≤ put.length ∧ put.length ≤ k ∧ (records put).length ≤ sumL ls k + 8 * k)
  own : Own wr w.heap.size 22 1 pa np cp vs
  old : OldPieces w vs put
  np : Hid (put.length = np)
  apart : ∀ ad, pa = some ad → ¬ (foot r ad.block ∨ lfoot R ad.block)
  fair : Fair put
  ids : Hid (r.d = d0 ∧ R.l = l0)
  below : Below w.heap.size w wr
/-- A load put, and refused. -/
theorem beg_put {put : List (List UInt8)} {R : LogR} {l : List UInt8} {sb : Nat} (hls : R.ls = put) (hnm : R.nm = nmLog) (hn : put.length < 4096) (hz : (records put).length + 8 + l.length ≤ 1048576) (h1 : 1 ≤ l.length) (h2 : l.length ≤ 65536) :
    lappE (oneF nmLog (records put) sb) R l = 0 ∧ lappD (oneF nmLog (records put) sb) R l = oneF nmLog (records (put ++ [l])) sb ∧ lappL (oneF nmLog (records put) sb) R l = put ++ [l] := by
  have he : recErr l.length = 0 := by unfold recErr; rw [if_neg (by omega), if_neg (by omega)]
  have ha := append_one nmLog (records put) (record l) sb (by rw [record_length]; omega)
  have hc := lapp_ok (p := oneF nmLog (records put) sb) (R := R) he (by rw [hls]; omega) (by rw [hnm, ha])
  refine ⟨hc.1, ?_, by rw [hc.2.2.2, hls]⟩
  rw [hc.2.2.1, hnm, ha, records_snoc]
section
variable {w wr w' w2 w3 : World} {ls : List (List UInt8)} {d0 l0 k : Nat} {put : List (List UInt8)} {vs : List Value} {pa : Option Addr} {np cp : Nat} {r r' : DiskR} {R R' : LogR} {sn sn' : Nat}
theorem BegRel.later {k' : Nat} (h : BegRel w ls d0 l0 k put vs pa np cp r R sn wr) (hk : k ≤ k') (hk2 : k' ≤ ls.length) : BegRel w ls d0 l0 k' put vs pa np cp r R sn wr := by
  obtain ⟨z1, z2, z3, z4, z5, z6⟩ := h.rl.out
  have := sumL_le ls hk hk2
  exact ⟨h.dl, h.p, Lib.hid ⟨z1, z2, z3, z4, by omega, by omega⟩, h.own, h.old, h.np, h.apart, h.fair, h.ids, h.below⟩
theorem BegRel.keepRow (h : BegRel w ls d0 l0 k put vs pa np cp r R sn wr) (hs : LStep w.heap.size wr r R w' r' R') : Own w' w.heap.size 22 1 pa np cp vs ∧ (∀ ad, pa = some ad → ¬ (foot r' ad.block ∨ lfoot R' ad.block)) ∧ Below w.heap.size w w' := by
  refine ⟨h.own.keepAt fun x hx => hs.turn.block x.block (h.own.block_lt hx).2.1 (h.apart x hx), fun ad ha hf => ?_, h.below.trans (hs.below h.dl h.below.size)⟩
  rcases hs.foot' _ hf with g | g
  · exact h.apart ad ha g
  · have := (h.own.block_lt ha).2.1; omega
theorem BegRel.step (h : BegRel w ls d0 l0 k put vs pa np cp r R sn wr) (hs : LStep w.heap.size wr r R w' r' R') (hp : r'.p = oneF nmLog (records put) (records (put.take sn')).length) (hl : R'.ls = put) (hsu : R'.sure = sn') (hsn : sn' ≤ put.length) : BegRel w ls d0 l0 k put vs pa np cp r' R' sn' w' := by
  obtain ⟨z1, z2, z3, z4, z5, z6⟩ := h.rl.out
  obtain ⟨q1, q2, q3⟩ := h.keepRow hs
  exact ⟨hs.at', Lib.hid hp, Lib.hid ⟨hl, hs.nm.trans z2, hsu, hsn, z5, z6⟩, q1, h.old, h.np, q2, h.fair, Lib.hid ⟨hs.d.trans h.ids.out.1, hs.l.trans h.ids.out.2⟩, q3⟩
theorem BegRel.add (h : BegRel w ls d0 l0 k put vs pa np cp r R sn wr) (hs : LStep w.heap.size wr r R w' r' R') {x : List UInt8} (hx1 : 1 ≤ x.length) (hx2 : x.length ≤ 65536) (hkl : k < ls.length) (hxk : sumL ls (k + 1) = sumL ls k + x.length)
    (hp : r'.p = oneF nmLog (records (put ++ [x])) (records (put.take sn)).length) (hl : R'.ls = put ++ [x]) (hsu : R'.sure = R.sure) {A : Option Addr} {C : Nat} (hA : BytesAt w A x) (hC : x.length ≤ C) (hC2 : C ≤ maxLen)
    (hb : Below w'.heap.size w' w2) {pa' : Option Addr} {cp' : Nat} (ho : Own w3 w.heap.size 22 1 pa' (np + 1) cp' (vs ++ [.slice A x.length C])) (hg : w2.grownBy w3 (rowB pa cp)) (hr : rowB pa' cp' = rowB pa cp ∨ ∃ b, rowB pa' cp' = some b ∧ w2.heap.size ≤ b) :
    BegRel w ls d0 l0 (k + 1) (put ++ [x]) (vs ++ [.slice A x.length C]) pa' (np + 1) cp' r' R' sn w3 := by
  obtain ⟨z1, z2, z3, z4, z5, z6⟩ := h.rl.out
  obtain ⟨q1, q2, q3⟩ := h.keepRow hs
  have hcp : 0 < cp' := by have := ho.le; omega
  have hrow : ∀ b, rowB pa cp = some b → ∃ ad, pa = some ad ∧ b = ad.block := fun b e => rowB_blk e
  have hdl : DL w3 w.heap.size r' R' := hs.at'.keep fun y hy => by
    have hlt := (hs.at'.lt hy).2
    refine (hg.block y (Nat.lt_of_lt_of_le hlt hb.size) fun e => ?_).trans (hb.block y hlt)
    obtain ⟨ad, e1, e2⟩ := hrow y e.symm
    subst e2
    exact q2 ad e1 hy
  refine ⟨hdl, Lib.hid (by rw [hp]; congr 3; rw [List.take_append_of_le_length z4]), Lib.hid ⟨hl, hs.nm.trans z2, hsu.trans z3, by simp; omega, by simp; omega, ?_⟩, ho, h.old.snoc hA hC hC2, Lib.hid (by simp [h.np.out]), fun ad ha hf => ?_, ?_, Lib.hid ⟨hs.d.trans h.ids.out.1, hs.l.trans h.ids.out.2⟩, ?_⟩
  · rw [records_snoc, List.length_append, record_length, hxk]; omega
  · have e := rowB_of ha hcp
    rcases hr with hr | ⟨b, hr, hb2⟩
    · rw [e] at hr
      obtain ⟨ad', e1, e2⟩ := hrow _ hr.symm
      rw [e2] at hf
      exact q2 ad' e1 hf
    · rw [e] at hr
      cases hr
      have := (hs.at'.lt hf).2
      have := hb.size
      omega
  · intro y hy
    rcases List.mem_append.1 hy with hy | hy
    · exact h.fair y hy
    · rw [List.mem_singleton.1 hy]; exact ⟨hx1, hx2⟩
  · refine (q3.trans (hb.mono q3.size)).grown hg ?_ fun b e => ?_
    · exact Nat.le_trans q3.size hb.size
    · obtain ⟨ad, e1, rfl⟩ := hrow b e
      exact (h.own.block_lt e1).1
end
set_option maxRecDepth 40000 in
set_option maxHeartbeats 16000000 in
theorem logBeginning_any (w : World) (a : Option Addr) (len cap : Nat) (sync : Int) (pa : Option Addr) (pn pc : Nat) (ls : List (List UInt8)) (plan : PlanP) (hp : PiecesAt w a ls) (hlen : ls.length = len) (hz : ∀ r, (h : r < ls.length) → ls[r].length ≤ 140737488351232) (hm : len ≤ maxLen) (hpl : PlanRow w pa pn pc plan) :
    Calls Try.prog 6 #[.slice a len cap, .int .i64 sync, .slice pa pn pc] w fun e w' => e = .returned (.bool true) ∧ Below w.heap.size w w' := by
  have HL := Lib.hid hlen
  clear hlen
  unfold maxLen at hm
  have hpn := hpl.2.2
  have wake : ∀ (W : World), Below w.heap.size w W → Calls Try.prog 8 #[] W fun e w' => e = .returned (.bool true) ∧ Below w.heap.size w w' := fun W hW => (wakes_any W).mono (by rintro e w' ⟨h1, h2⟩; exact ⟨h1, below_step hW h2⟩)
  go_enter Try.func6, Try.ntmps6
  go_upto_block 0 with (fail)
  go_cut [7, 8] from 22 (fun v7 v8 wx => wx = w ∧ ∃ t : Nat, v7 = .int .i64 (t : Int) ∧ (len ≤ 60 → t = sumL ls len))
  case first =>
    go_wp2_with fail
    go_loopg [7, 8] 61 (fun f v i wr => wr = w ∧ ∃ k : Nat, k + f = 61 ∧ i = .int .i64 (k : Int) ∧ k ≤ len ∧ v = .int .i64 (sumL ls k : Int) ∧ sumL ls k ≤ k * 140737488351232)
    case atStart => exact ⟨rfl, 0, rfl, rfl, Nat.zero_le _, rfl, by simp [sumL]⟩
    case round =>
      obtain ⟨rfl, k, hk, rfl, hkl, rfl, hs⟩ := hrel
      by_cases hlt : k < len
      · have hkl2 : k < ls.length := by rw [HL.out]; exact hlt
        obtain ⟨b, o, A, C, rfl, hc, hpk, hC1, hC2⟩ := hp k hkl2
        have hsm := hz k hkl2
        have HS := Lib.hid (sumL_succ ls k hkl2)
        generalize ls[k] = pc at *
        by_cases hg : k ≤ 60
        · have e1 : IntKind.i64.wrap ((sumL ls k : Int) + (pc.length : Int)) = (sumL ls (k + 1) : Int) := by rw [HS.out, IntKind.wrap_i64] <;> omega
          go_wp2_with fail
          go_roundg (gk - 1)
          case measure => omega
          case rel => exact ⟨rfl, k + 1, by omega, by go_num, by omega, by first | (rw [HS.out]; done) | (rw [HS.out]; go_num), by rw [HS.out]; omega⟩
        · go_wp2_with fail
          go_meet
          case rel => exact ⟨rfl, _, rfl, fun h => by omega⟩
      · have hke : k = len := by omega
        go_wp2_with fail
        go_meet
        case rel => exact ⟨rfl, _, rfl, fun h => by rw [hke]⟩
  case rest =>
    obtain ⟨rfl, t, rfl, ht⟩ := hcut
    obtain ⟨w, rfl⟩ : ∃ x : World, x = wc := ⟨_, rfl⟩
    go_step
    by_cases hbig : 60 < len ∨ 5000 < t ∨ 60 < pn
    · have HT := Lib.hid ht
      clear ht
      by_cases h1 : 60 < len
      · go_wp2_with fail
        refine (wake _ (Below.refl _ _)).mono ?_
        rintro e w2 ⟨rfl, hb2⟩
        go_wp2_with fail
        go_ret
        exact ⟨rfl, hb2⟩
      · by_cases h2 : 5000 < t
        · go_wp2_with fail
          refine (wake _ (Below.refl _ _)).mono ?_
          rintro e w2 ⟨rfl, hb2⟩
          go_wp2_with fail
          go_ret
          exact ⟨rfl, hb2⟩
        · have h3 : 60 < pn := by omega
          go_wp2_with fail
          refine (wake _ (Below.refl _ _)).mono ?_
          rintro e w2 ⟨rfl, hb2⟩
          go_wp2_with fail
          go_ret
          exact ⟨rfl, hb2⟩
    · have g1 : ¬ 60 < len := by omega
      have g2 : ¬ 5000 < t := by omega
      have g3 : ¬ 60 < pn := by omega
      have HT := Lib.hid (ht (by omega))
      clear ht hbig
      go_wp2_with fail
      refine (new_any' w).mono ?_
      rintro e w1 ⟨r0, rfl, hp0, h0, hb1⟩
      have ho := lopen_any w1 w.heap.size r0 nmLog h0 hb1.size (by decide)
      unfold LOpenRes at ho
      rw [hp0.out, open_new.1, open_new.2.1, open_new.2.2] at ho
      go_wp2_with fail
      refine ho.mono ?_
      clear ho
      rintro e w2 ⟨r1, hp1, hs1, ⟨h, _⟩ | ⟨_, R1, rfl, hdl1, hnm1, hls1, hsu1, hlf1⟩⟩
      · exact absurd rfl h
      obtain ⟨d0, hd0⟩ : ∃ d0, d0 = r0.d := ⟨_, rfl⟩
      obtain ⟨l0, hl0⟩ : ∃ l0, l0 = R1.l := ⟨_, rfl⟩
      have hst : BegRel w ls d0 l0 0 [] [] none 0 0 r1 R1 0 w2 := ⟨hdl1, Lib.hid (by rw [hp1]; rfl), Lib.hid ⟨hls1, hnm1, by rw [hsu1, hls1]; rfl, Nat.le_refl _, Nat.le_refl _, by simp [records, sumL]⟩, Own.nil _ _ _ _, OldPieces.nil _, Lib.hid rfl, (fun ad e => by cases e), (fun x hx => by cases hx), Lib.hid ⟨hs1.d.trans hd0.symm, hl0.symm⟩, hb1.trans (hs1.below h0 hb1.size)⟩
      rw [← hd0, ← hl0]
      clear hd0 hl0 hdl1 hp1 hs1 hnm1 hls1 hsu1 hlf1 h0 hp0 hb1
      go_wp2_with fail
      go_loopg [13, 14] len (fun f v i wr => ∃ (k : Nat) (put : List (List UInt8)) (vs : List Value) (qa : Option Addr) (np cp : Nat) (r : DiskR) (R : LogR) (sn : Nat), k + f = len ∧ i = .int .i64 (k : Int) ∧ v = .slice qa np cp ∧ BegRel w ls d0 l0 k put vs qa np cp r R sn wr)
      case atStart => exact ⟨0, [], [], none, 0, 0, r1, R1, 0, by omega, rfl, rfl, hst⟩
      case round =>
        clear hst
        obtain ⟨k, put, vs, qa, np, cp, r, R, sn, hk, rfl, rfl, hdl, hrp, hrl, hown, hold, hnp, hap, hfair, hids, hbel⟩ := hrel
        by_cases hlt : k < len
        · have hkl : k < ls.length := by rw [HL.out]; exact hlt
          obtain ⟨b, o, A, C, rfl, hc, hpk, hC1, hC2⟩ := hp k hkl
          have hsm := hz k hkl
          have HS := Lib.hid (sumL_succ ls k hkl)
          have HSL := Lib.hid (show sumL ls (k + 1) ≤ 5000 by have := sumL_le ls (show k + 1 ≤ len by omega) (by rw [HL.out]; exact Nat.le_refl _); have := HT.out; omega)
          have hcr : wr.cell? ⟨b, o + k, none⟩ = some (.slice A ls[k].length C) := (hbel.cell (p := ⟨b, o + k, none⟩) (World.block_lt_of_cell? w _ hc)).trans hc
          generalize ls[k] = pc at *
          have ca := lappend_any wr w.heap.size r R hdl hbel.size A pc.length C pc (hpk.below hbel) rfl (fun hne ad hA hf => by
            have hlen : 0 < pc.length := List.length_pos_iff.2 hne
            obtain ⟨b1, o1, e1, e2⟩ := hpk 0 (by simpa using hlen)
            rw [hA] at e1
            cases e1
            have := World.block_lt_of_cell? w _ e2
            have := (hdl.lt hf).1
            simp at *
            omega)
          unfold LAppRes at ca
          rw [hrp.out, hids.out.2] at ca
          have HC0 := Lib.hid hc
          have HBL := Lib.hid (World.block_lt_of_cell? w _ hc)
          clear hc
          obtain ⟨z1, z2, z3, z4, z5, z6⟩ := hrl.out
          have hR : BegRel w ls d0 l0 k put vs qa np cp r R sn wr := ⟨hdl, hrp, hrl, hown, hold, hnp, hap, hfair, hids, hbel⟩
          clear hdl hrp hrl hold hap hfair hids
          have HR := Lib.hid hR
          have hpr := hpk.below hbel
          clear hR hown
          by_cases he : pc.length = 0
          · have hq := lapp_bad (p := oneF nmLog (records put) (records (put.take sn)).length) (R := R) (l := pc) (by unfold recErr; rw [if_pos he]; decide)
            rw [hq.1, hq.2.1, hq.2.2.1, hq.2.2.2, show recErr pc.length = 2 by unfold recErr; rw [if_pos he]] at ca
            have HE := Lib.hid he
            clear hq he z1 z2 z3 z4 z5 z6
            go_wp2_with fail
            refine ca.mono ?_
            clear ca
            rintro e w3 ⟨rfl, r3, R3, hp3, hl3, hs3, hst3⟩
            have hB3 := (HR.out.step hst3 (sn' := sn) hp3 (by rw [hl3]; exact HR.out.rl.out.1) (by rw [hs3]; exact HR.out.rl.out.2.2.1) HR.out.rl.out.2.2.2.1).later (Nat.le_succ k) hkl
            clear hst3 HR hp3 hl3 hs3 hbel
            have HPUT := Lib.hid (rfl : put.length = put.length)
            by_cases hsy : (k : Int) = sync
            · have ts : ((k : Int) == sync) = true := by simpa using hsy
              have HSY := Lib.hid hsy
              clear hsy
              obtain ⟨y1, y2, y3, y4, y5, y6⟩ := hB3.rl.out
              have cs := lsync_any w3 w.heap.size r3 R3 hB3.dl hB3.below.size
              rw [hB3.p.out, hB3.ids.out.2, y2, sync_one] at cs
              clear y1 y3 y4 y5 y6
              go_wp2_with fail
              refine cs.mono ?_
              clear cs
              rintro e w5 ⟨rfl, r5, R5, hp5, hl5, hs5, hst5⟩
              have hB5 := hB3.step hst5 (sn' := put.length) (by rw [hp5, List.take_length]) (by rw [hl5]; exact hB3.rl.out.1) (by rw [hs5]; unfold lsyncS; rw [y2, sync_one, hB3.rl.out.1]; rfl) (Nat.le_refl _)
              clear hst5 hB3 hp5 hl5 hs5
              go_wp2_with fail
              go_roundg (gk - 1)
              case measure => omega
              case rel => exact ⟨k + 1, _, _, _, _, _, r5, R5, _, by omega, by go_num, rfl, hB5⟩
            · have ts : ((k : Int) == sync) = false := by simpa using hsy
              have HSY := Lib.hid hsy
              clear hsy
              go_wp2_with fail
              go_roundg (gk - 1)
              case measure => omega
              case rel => exact ⟨k + 1, _, _, _, _, _, r3, R3, _, by omega, by go_num, rfl, hB3⟩
          · have hpz : pc.length ≤ 5000 := by have := HSL.out; have := HS.out; omega
            have hq := beg_put (sb := (records (put.take sn)).length) (l := pc) z1 z2 (by omega) (by have := HSL.out; have := HS.out; omega) (by omega) (by omega)
            rw [hq.1, hq.2.1, hq.2.2] at ca
            have HE := Lib.hid (show 1 ≤ pc.length ∧ pc.length ≤ 65536 by omega)
            have hnp2 : np ≤ 60 := by have := HR.out.np.out; omega
            clear hq he z1 z2 z3 z4 z5 z6
            go_wp2_with fail
            refine ca.mono ?_
            clear ca
            rintro e w3 ⟨rfl, r3, R3, hp3, hl3, hs3, hst3⟩
            obtain ⟨ho3, hap3, hbe3⟩ := HR.out.keepRow hst3
            have hz3 := hbe3.size
            have hcr3 : w3.cell? ⟨b, o + k, none⟩ = some (.slice A pc.length C) := (hbe3.cell (p := ⟨b, o + k, none⟩) HBL.out).trans HC0.out
            clear hap3 hcr
            have HST := Lib.hid hst3
            have HP3 := Lib.hid hp3
            clear hst3 hp3
            go_wp2_with (at_builtin; refine wpList_append_fresh rfl (.tmp 78) (.tmp 83) 24 rfl piecesT rfl (ho3.alloc (.cells #[.slice A pc.length C] 22)) rfl (RowAt.new' w3 #[.slice A pc.length C] 22 _ rfl) rfl (by omega) (by exact all_one _ rfl) (by unfold maxLen; omega) (by omega) (by simp; omega) ?_)
            intro a4 c4 w4 ho4 hg4 hr4
            have hB3 := HR.out.add HST.out HE.out.1 HE.out.2 hkl HS.out HP3.out hl3 hs3 hpk hC1 hC2 ((Below.refl _ _).alloc (Nat.le_refl _) _) ho4 hg4 (by simpa using hr4)
            have hcr4 : w4.cell? ⟨b, o + k, none⟩ = some (.slice A pc.length C) := (hB3.below.cell (p := ⟨b, o + k, none⟩) HBL.out).trans HC0.out
            clear HST HP3 HR hl3 hs3 hbel ho4 hg4 hr4 ho3 hbe3 hcr3
            by_cases hsy : (k : Int) = sync
            · have ts : ((k : Int) == sync) = true := by simpa using hsy
              have HSY := Lib.hid hsy
              clear hsy
              obtain ⟨y1, y2, y3, y4, y5, y6⟩ := hB3.rl.out
              have cs := lsync_any w4 w.heap.size r3 R3 hB3.dl hB3.below.size
              rw [hB3.p.out, hB3.ids.out.2, y2, sync_one] at cs
              clear y1 y3 y4 y5 y6
              go_wp2_with fail
              refine cs.mono ?_
              clear cs
              rintro e w5 ⟨rfl, r5, R5, hp5, hl5, hs5, hst5⟩
              have hB5 := hB3.step hst5 (sn' := (put ++ [pc]).length) (by rw [hp5, List.take_length]) (by rw [hl5]; exact hB3.rl.out.1) (by rw [hs5]; unfold lsyncS; rw [y2, sync_one, hB3.rl.out.1]; rfl) (Nat.le_refl _)
              clear hst5 hB3 hp5 hl5 hs5
              go_wp2_with fail
              go_roundg (gk - 1)
              case measure => omega
              case rel => exact ⟨k + 1, _, _, _, _, _, r5, R5, _, by omega, by go_num, rfl, hB5⟩
            · have ts : ((k : Int) == sync) = false := by simpa using hsy
              have HSY := Lib.hid hsy
              clear hsy
              go_wp2_with fail
              go_roundg (gk - 1)
              case measure => omega
              case rel => exact ⟨k + 1, _, _, _, _, _, r3, R3, _, by omega, by go_num, rfl, hB3⟩
        · have hR : BegRel w ls d0 l0 k put vs qa np cp r R sn wr := ⟨hdl, hrp, hrl, hown, hold, hnp, hap, hfair, hids, hbel⟩
          have HR := Lib.hid hR
          have cu := lsure_any wr w.heap.size r.d R hdl.log
          rw [hids.out.2, hrl.out.2.2.1] at cu
          have hpw : plan ≠ [] → ∀ ad, pa = some ad → ad.block < w.heap.size := fun hne ad ha => by
            obtain ⟨b1, o1, e1, e2⟩ := hpl.1 0 (by cases plan with | nil => exact absurd rfl hne | cons x l => simp [pieceV])
            rw [ha] at e1
            cases e1
            exact World.block_lt_of_cell? w _ e2
          have cc := crash_any wr w.heap.size r pa pn pc plan hdl.disk hbel.size (RowAt.below hpl.1 hbel) hpl.2.1 (by unfold maxLen; omega) (fun ad ha hne f hf => by
            have g1 := hpw hne ad ha
            have g2 := (hdl.disk.files f hf).ge
            omega) (fun ad ha hne => Nat.lt_of_lt_of_le (hpw hne ad ha) hbel.size)
          rw [hids.out.1] at cc
          have HDL := Lib.hid hdl
          have hkn : k = len := by omega
          clear hdl hrp hold hap hfair hown hR
          go_wp2_with fail
          refine cu.mono ?_
          clear cu
          rintro e w1 ⟨rfl, rfl⟩
          go_wp2_with fail
          refine cc.mono ?_
          clear cc
          rintro e w2 ⟨r2, rfl, hp2, hs2⟩
          have hdl2 := DStep.log hs2 HDL.out
          have co := open_any w2 w.heap.size r2 hs2.at'
          rw [hs2.d, hids.out.1] at co
          go_wp2_with fail
          refine co.mono ?_
          clear co
          rintro e w3 ⟨rfl, r3, hp3, hs3⟩
          have hst3 := hdl2.trans (DStep.log hs3 hdl2.at')
          obtain ⟨ho3, hap3, hbe3⟩ := HR.out.keepRow hst3
          obtain ⟨c, hc1, hc2, hc3⟩ := crash_one nmLog (records put) (records (put.take sn)).length (records_take_le put sn) plan
          have hp3' : r3.p = oneF nmLog ((records put).take c) c := by rw [hp3, hp2, HR.out.p.out]; exact hc3
          have hput : put.length ≤ 60 := by have := hrl.out.2.2.2.2.1; omega
          obtain ⟨k2, hk1, hk2, ho1, ho2, ho4⟩ := behind put HR.out.fair (by omega) sn c hrl.out.2.2.2.1 hc1 hc2
          have cl := lopen_any w3 w.heap.size r3 nmLog hst3.at'.disk hbe3.size (by decide)
          unfold LOpenRes at cl
          rw [hp3', ho1, ho2, ho4, hst3.d, hids.out.1] at cl
          have HST := Lib.hid hst3
          clear hst3 hs3 hs2 hdl2 hp3 hp2 hp3' hc3 ho1 ho2 ho4
          go_wp2_with fail
          refine cl.mono ?_
          clear cl
          rintro e w4 ⟨r4, hp4, hs4, ⟨h, _⟩ | ⟨_, R4, rfl, hdl4, hnm4, hls4, hsu4, hlf4⟩⟩
          · exact absurd rfl h
          have hlen4 : R4.ls.length = k2 := by rw [hls4, List.length_take]; omega
          have own4 := ho3.keepAt (fun x hx => hs4.turn.block x.block (ho3.block_lt hx).2.1 fun hf => hap3 x hx (.inl hf))
          have hbe4 := hbe3.trans (hs4.below HST.out.at'.disk hbe3.size)
          have hpt := (HR.out.old.pieces own4 hbe4).take k2
          rw [← hls4] at hpt
          have HNP := Lib.hid hnp.out
          have t1 : ¬ k2 < sn := by omega
          have t2 : ¬ np < k2 := by have := HNP.out; omega
          have hkp : k2 ≤ np := by have := HNP.out; omega
          have cn4 := len_any w4 w.heap.size r4.d R4 hdl4.log
          have ct := told_any w4 w.heap.size r4.d R4 hdl4.log qa k2 cp 0 hpt hlen4
          rw [hlen4] at cn4
          have HD4 := Lib.hid hdl4
          have hd4 := hs4.d
          have HL4 := Lib.hid hls4
          have hcn := own4.le
          have HP4 := Lib.hid hp4
          have hcm := own4.cap_max
          unfold maxLen at hcm
          have HD0 := Lib.hid (show r4.d = d0 by rw [hs4.d, HST.out.d, hids.out.1])
          clear hdl4 hpt hls4 hnm4 hsu4 hlf4 own4 hs4 ho3 hap3 hp4 hd4
          go_wp2_with (go_at_call 17; refine cn4.mono ?_; rintro e w' ⟨rfl, rfl⟩)
          refine ct.mono ?_
          clear ct cn4
          rintro e w5 ⟨rfl, hb5⟩
          have hdl5 := HD4.out.old hb5
          have hbe5 := below_step hbe4 hb5
          have ha := again (put.take k2) (fun x hx => HR.out.fair x (List.mem_of_mem_take hx)) (by rw [List.length_take]; omega) (records (put.take k2)).length
          have cl := lopen_any w5 w.heap.size r4 nmLog hdl5.disk hbe5.size (by decide)
          unfold LOpenRes at cl
          rw [HP4.out, ha.1, ha.2.1, ha.2.2, HD0.out] at cl
          clear ha
          go_wp2_with fail
          refine cl.mono ?_
          clear cl
          rintro e w6 ⟨r6, hp6, hs6, ⟨h, _⟩ | ⟨_, R6, rfl, hdl6, hnm6, hls6, hsu6, hlf6⟩⟩
          · exact absurd rfl h
          have hdl46 := DStep.log hs6 hdl5
          have c4 := len_any w6 w.heap.size _ R4 hdl46.at'.log
          have c6 := len_any w6 w.heap.size _ R6 hdl6.log
          rw [hlen4] at c4
          rw [hls6, show (put.take k2).length = k2 by rw [List.length_take]; omega] at c6
          have hbe6 := hbe5.trans (hs6.below hdl5.disk hbe5.size)
          clear hdl46 hdl6 hdl5 hp6 hnm6 hls6 hsu6 hlf6 hs6
          go_wp2_with fail
          refine c6.mono ?_
          rintro e w' ⟨rfl, rfl⟩
          go_wp2_with fail
          refine c4.mono ?_
          rintro e w' ⟨rfl, rfl⟩
          clear c4 c6
          go_wp2_with fail
          refine (wake _ hbe6).mono ?_
          rintro e w7 ⟨rfl, hb7⟩
          go_wp2_with fail
          go_ret
          exact ⟨rfl, hb7⟩
end Go.Proofs.Ytnojeiklgjhkgaa
