/- Pieces, however cut, make the keyed sum of the whole: the walk of the law. -/
import Derived.Test.YtofamiadpidfgaaMacLong
import Derived.Test.YtofamiadpidfgaaMacEq
namespace Go.Proofs.Ytofamiadpidfgaa
open Go.RowKit

theorem take_flat (ls : List (List UInt8)) (k : Nat) (h : k < ls.length) : (ls.take (k + 1)).flatten = (ls.take k).flatten ++ ls[k] := by
  rw [List.take_succ_eq_append_getElem h, List.flatten_append]; simp
structure MpIn (w : World) (H M : Nat) (k fed : List UInt8) (hi ho : Nat) (aa : Option Addr) (ac : Nat) (ha : Option Addr) (hn hc : Nat) (a2 : Option Addr) (n2 c2 : Nat) (wr : World) : Prop where
  mac : MacAt wr H M k fed hi ho ha hn hc a2 n2 c2
  all : Mid wr H 5 aa fed.length ac (fed.map bv)
  d1 : ∀ r, rowB aa ac = some r → rowB ha hc ≠ some r
  d2 : ∀ r, rowB aa ac = some r → rowB a2 c2 ≠ some r
  below : Below H w wr
section
variable {w : World} {H M : Nat} {k fed : List UInt8} {hi ho : Nat} {aa : Option Addr} {ac : Nat} {ha : Option Addr} {hn hc : Nat} {a2 : Option Addr} {n2 c2 : Nat} {wr wq : World}
theorem MpIn.le (h : MpIn w H M k fed hi ho aa ac ha hn hc a2 n2 c2 wr) : H < wr.heap.size := by have := h.mac.mac.lt; have := h.mac.leM; omega
theorem MpIn.old (h : MpIn w H M k fed hi ho aa ac ha hn hc a2 n2 c2 wr) (hb : Below wr.heap.size wr wq) : MpIn w H M k fed hi ho aa ac ha hn hc a2 n2 c2 wq :=
  ⟨h.mac.old hb, h.all.old hb, h.d1, h.d2, h.below.trans (hb.mono (Nat.le_of_lt h.le))⟩
/-- More put to all. -/
theorem MpIn.append (h : MpIn w H M k fed hi ho aa ac ha hn hc a2 n2 c2 wr) {p : List UInt8} {a' : Option Addr} {c' : Nat} (hm : Mid wq H 5 a' (fed.length + p.length) c' (fed.map bv ++ p.map bv)) (hgr : wr.grownBy wq (rowB aa ac))
    (hr : rowB a' c' = rowB aa ac ∨ ∃ b, rowB a' c' = some b ∧ wr.heap.size ≤ b) :
    MacAt wq H M k fed hi ho ha hn hc a2 n2 c2 ∧ Mid wq H 5 a' (fed ++ p).length c' ((fed ++ p).map bv) ∧ (∀ r, rowB a' c' = some r → rowB ha hc ≠ some r) ∧ (∀ r, rowB a' c' = some r → rowB a2 c2 ≠ some r) ∧ Below H w wq := by
  have hne : ∀ {b : Nat} {cs : Array Value} {t : TypeId}, Blk wr b cs t → t ≠ 5 → rowB aa ac ≠ some b := fun hB ht e => by
    obtain ⟨_, _, cur, hcur⟩ := h.all.lt e
    exact Blk.ne hcur hB (Ne.symm ht) rfl
  have hk : ∀ {g : Nat} {l : List UInt8} {a : Option Addr} {n c : Nat}, HashAt wr H g l a n c → (∀ r, rowB aa ac = some r → rowB a c ≠ some r) → HashAt wq H g l a n c := fun hh hd =>
    ⟨hh.hash.grown hgr (hne hh.hash (by decide)), hh.row.keep fun r hr' => hgr.block r (hh.row.lt hr').2.1 fun e => hd r e.symm hr', hh.lt⟩
  have hd : ∀ {g : Nat} {l : List UInt8} {a : Option Addr} {n c : Nat}, HashAt wr H g l a n c → (∀ r, rowB aa ac = some r → rowB a c ≠ some r) → ∀ r, rowB a' c' = some r → rowB a c ≠ some r := fun hh hd r hr' e => by
    rcases hr with h1 | ⟨b, h1, h2⟩
    · rw [h1] at hr'; exact hd r hr' e
    · rw [h1] at hr'; cases hr'
      have := (hh.row.lt e).2.1
      omega
  exact ⟨⟨h.mac.mac.grown hgr (hne h.mac.mac (by decide)), hk h.mac.inn h.d1, hk h.mac.out h.d2, h.mac.ne, h.mac.row, h.mac.leM, h.mac.leI, h.mac.leO⟩, by rw [List.length_append, List.map_append]; exact hm, hd h.mac.inn h.d1, hd h.mac.out h.d2,
    h.below.grown hgr (Nat.le_of_lt h.le) fun b hb => (h.all.lt hb).1⟩
/-- .. and to the sum. -/
theorem MpIn.write {p : List UInt8} (hm : MacAt wr H M k fed hi ho ha hn hc a2 n2 c2) (hall : Mid wr H 5 aa (fed ++ p).length ac ((fed ++ p).map bv)) (d1 : ∀ r, rowB aa ac = some r → rowB ha hc ≠ some r) (d2 : ∀ r, rowB aa ac = some r → rowB a2 c2 ≠ some r) (hb : Below H w wr)
    {ha' : Option Addr} {hn' hc' : Nat} (hm' : MacAt wq H M k (fed ++ p) hi ho ha' hn' hc' a2 n2 c2) (hfr : HsFr wr wq hi (rowB ha hc)) (hr : rowB ha' hc' = none ∨ rowB ha' hc' = rowB ha hc ∨ ∃ b, rowB ha' hc' = some b ∧ wr.heap.size ≤ b) :
    MpIn w H M k (fed ++ p) hi ho aa ac ha' hn' hc' a2 n2 c2 wq := by
  refine ⟨hm', hall.keep fun r hr' => ?_, fun r hr' e => ?_, d2, hb.trans (hfr.below hm.leI (fun b hb => (hm.inn.row.lt hb).1) (by have := hm.mac.lt; have := hm.leM; omega))⟩
  · obtain ⟨_, h2, cur, h3⟩ := hall.lt hr'
    exact hfr.block r h2 (Blk.ne h3 hm.inn.hash (by decide)) (d1 r hr')
  · obtain ⟨_, h2, _⟩ := hall.lt hr'
    rcases hr with h1 | h1 | ⟨b, h1, h4⟩
    · rw [h1] at e; cases e
    · rw [h1] at e; exact d1 r hr' e
    · rw [h1] at e; cases e; omega
end
def Mp1 (w : World) (H M : Nat) (k : List UInt8) (ls : List (List UInt8)) (hi ho : Nat) (f : Nat) (x i : Value) (wr : World) : Prop :=
  ∃ (t : Nat) (aa : Option Addr) (ac : Nat) (ha : Option Addr) (hn hc : Nat) (a2 : Option Addr) (n2 c2 : Nat), f + t = ls.length ∧ (ls.take t).flatten.length ≤ 3000 ∧ i = .int .i64 (t : Int) ∧ x = .slice aa (ls.take t).flatten.length ac ∧ MpIn w H M k (ls.take t).flatten hi ho aa ac ha hn hc a2 n2 c2 wr
set_option maxHeartbeats 2000000 in
set_option maxRecDepth 40000 in
theorem macPieces_any (ka : Option Addr) (kn kc : Nat) (k : List UInt8) (a : Option Addr) (len cap : Nat) (ls : List (List UInt8)) (w : World) (hk : BytesAt w ka k) (hkl : k.length = kn) (hp : PiecesAt w a ls) (hlen : ls.length = len) (hm : len ≤ maxLen) (hz : ∀ r, (h : r < ls.length) → ls[r].length ≤ 140737488351232) :
    Calls Try.prog 3 #[.slice ka kn kc, .slice a len cap] w fun e w' => e = .returned (.bool true) ∧ Below w.heap.size w w' := by
  unfold maxLen at hm
  have HK := Lib.hid hkl
  have HL := Lib.hid hlen
  have HZ := Lib.hid hz
  clear hkl hlen hz
  by_cases hbig : 40 < len ∨ 1000 < kn
  · have hw : ∀ w0, Below w.heap.size w w0 → True := fun _ _ => trivial
    clear hw
    by_cases h40 : 40 < len
    · have t1 : decide (40 < len) = true := by simpa using h40
      have t1I : decide ((40 : Int) < (len : Int)) = true := by simp; omega
      go_enter Try.func3, Try.ntmps3
      go_wp2_with fail
      refine (mac_wakes _).mono ?_
      rintro e w1 ⟨rfl, hb1⟩
      go_wp2_with fail
      go_ret
      exact ⟨rfl, hb1⟩
    · have t1 : decide (40 < len) = false := by simpa using h40
      have t1I : decide ((40 : Int) < (len : Int)) = false := by simp; omega
      have t2 : decide (1000 < kn) = true := by simp; omega
      have t2I : decide ((1000 : Int) < (kn : Int)) = true := by simp; omega
      go_enter Try.func3, Try.ntmps3
      go_wp2_with fail
      refine (mac_wakes _).mono ?_
      rintro e w1 ⟨rfl, hb1⟩
      go_wp2_with fail
      go_ret
      exact ⟨rfl, hb1⟩
  · have h40 : len ≤ 40 := by omega
    have h1000 : kn ≤ 1000 := by omega
    have t1 : decide (40 < len) = false := by simp; omega
    have t2 : decide (1000 < kn) = false := by simp; omega
    have t1I : decide ((40 : Int) < (len : Int)) = false := by simp; omega
    have t2I : decide ((1000 : Int) < (kn : Int)) = false := by simp; omega
    obtain ⟨H, hH⟩ : ∃ H, H = w.heap.size := ⟨_, rfl⟩
    have HH := Lib.hid hH
    clear hH hbig
    go_enter Try.func3, Try.ntmps3
    go_wp2_with fail
    refine (mnew_any k ka kn kc _ hk HK.out (by omega)).mono ?_
    rintro e w1 ⟨M, hi, ho, ha, hn, hc, a2, n2, c2, rfl, hM, hb1⟩
    rw [← HH.out] at hM hb1
    clear t1 t2 t1I t2I
    go_wp2_with fail
    have hst : Mp1 w H M k ls hi ho ls.length (.slice none 0 0) (.int .i64 0) w1 := ⟨0, none, 0, ha, hn, hc, a2, n2, c2, by omega, by simp, rfl, rfl, hM, Mid.nil' _ _ _, fun r hr => by simp [rowB] at hr, fun r hr => by simp [rowB] at hr, hb1⟩
    clear hM hb1
    go_loopg [6, 7] ls.length (Mp1 w H M k ls hi ho)
    case atStart => exact hst
    case round =>
      clear hst
      obtain ⟨t, aa, ac, ha, hn, hc, a2, n2, c2, hf, hf3, rfl, rfl, hI⟩ := hrel
      obtain ⟨fed, hfed⟩ : ∃ fed, fed = (ls.take t).flatten := ⟨_, rfl⟩
      obtain ⟨fn, hfn⟩ : ∃ n, n = fed.length := ⟨_, rfl⟩
      rw [← hfed, ← hfn] at hf3
      rw [← hfed] at hI
      rw [← hfed, ← hfn]
      have HF := Lib.hid hf
      have HFED := Lib.hid hfed
      have HFN := Lib.hid hfn
      clear hf hfed hfn
      have hwb : Below w.heap.size w wr := HH.out ▸ hI.below
      by_cases ht : t < len
      · have tt : decide (t < len) = true := by simpa using ht
        have htl : t < ls.length := by rw [HL.out]; exact ht
        have HTF := Lib.hid (take_flat ls t htl)
        obtain ⟨b, o, A, C, rfl, hc1, hpk, hC1, hC2⟩ := hp t htl
        obtain ⟨pk, hpk'⟩ : ∃ p, p = ls[t] := ⟨_, rfl⟩
        have hpz := HZ.out t htl
        rw [← hpk'] at hc1 hpk hC1 hpz
        obtain ⟨m, hmm⟩ : ∃ m, m = pk.length := ⟨_, rfl⟩
        rw [← hmm] at hc1 hC1 hpz
        have HM := Lib.hid hmm
        have HPK := Lib.hid hpk'
        have hcr : wr.cell? ⟨b, o + t, none⟩ = some (.slice A m C) := by rw [hwb.cell (World.block_lt_of_cell? w _ hc1)]; exact hc1
        clear hmm hpk' hc1
        have hlens : LensAt (wr.alloc (.cells #[.slice aa fn ac, .slice A m C] 22)) (some ⟨wr.heap.size, 0, none⟩) [fn, m] := fun j hj => by
          have hr := RowAt.new wr #[.slice aa fn ac, .slice A m C] 22
          have hj2 : j = 0 ∨ j = 1 := by simp at hj; omega
          rcases hj2 with rfl | rfl
          · obtain ⟨b, o, e, hc⟩ := hr 0 (by simp)
            exact ⟨b, o, aa, ac, e, hc⟩
          · obtain ⟨b, o, e, hc⟩ := hr 1 (by simp)
            exact ⟨b, o, A, C, e, hc⟩
        go_wp2_with fail
        refine (long_any [fn, m] _ 2 2 _ hlens rfl (by omega) (by intro q hq; simp at hq; omega)).mono ?_
        rintro e w2 ⟨rfl, rfl⟩
        clear hlens
        have hI2 := hI.old ((Below.refl wr.heap.size wr).alloc (Nat.le_refl _) (.cells #[.slice aa fn ac, .slice A m C] 22))
        have hc2 : (wr.alloc (.cells #[.slice aa fn ac, .slice A m C] 22)).cell? ⟨b, o + t, none⟩ = some (.slice A m C) := by
          have hb2 := (Below.refl wr.heap.size wr).alloc (Nat.le_refl _) (.cells #[.slice aa fn ac, .slice A m C] 22)
          rw [hb2.cell (World.block_lt_of_cell? wr _ hcr)]; exact hcr
        refine g_forget (fun W0 => MpIn w H M k fed hi ho aa ac ha hn hc a2 n2 c2 W0 ∧ W0.cell? ⟨b, o + t, none⟩ = some (.slice A m C)) ⟨hI2, hc2⟩ ?_
        clear hI2 hc2 hI hcr hwb
        rintro w2 ⟨hI, hcr⟩
        have hwb : Below w.heap.size w w2 := HH.out ▸ hI.below
        by_cases hlong : 3000 < fn + m
        · have hs : decide (3000 < [fn, m].sum) = true := by rw [show [fn, m].sum = fn + m by simp]; exact decide_eq_true hlong
          rw [hs]
          clear hs
          go_wp2_with fail
          refine (mac_wakes _).mono ?_
          rintro e w3 ⟨rfl, hb3⟩
          go_wp2_with fail
          go_ret
          exact ⟨rfl, below_step hwb hb3⟩
        · have hs : decide (3000 < [fn, m].sum) = false := by rw [show [fn, m].sum = fn + m by simp]; exact decide_eq_false hlong
          rw [hs]
          clear hs
          have hall := hI.all
          rw [← HFN.out] at hall
          go_wp2_with (at_builtin; refine wpList_append_mid rfl (.tmp 35) (.tmp 39) 22 rfl bytesT3 rfl hall rfl (hpk.below hwb) (by rw [List.length_map]; exact HM.out.symm) (bv_one _) (by unfold maxLen; omega) (by omega) (Nat.le_of_lt hI.le) ?_)
          intro a5 c5 w5 hm5 hg5 hr5
          have hm5' : Mid w5 H 5 a5 (fed.length + pk.length) c5 (fed.map bv ++ pk.map bv) := by rw [← HFN.out, ← HM.out]; exact hm5
          obtain ⟨hmac5, hall5, hd1, hd2, hb5⟩ := hI.append hm5' hg5 hr5
          have hlf : (fed ++ pk).length = fn + m := by rw [List.length_append, ← HFN.out, ← HM.out]
          have hwb5 : Below w.heap.size w w5 := HH.out ▸ hb5
          have hcr5 : w5.cell? ⟨b, o + t, none⟩ = some (.slice A m C) := by
            have h0 : b < w.heap.size := by
              obtain ⟨b0, o0, A0, C0, he, hc0, -⟩ := hp t htl
              cases he
              exact World.block_lt_of_cell? w _ hc0
            have h1 : w2.cell? ⟨b, o + t, none⟩ = w.cell? ⟨b, o + t, none⟩ := hwb.cell h0
            rw [hwb5.cell h0, ← h1]; exact hcr
          have HLF := Lib.hid hlf
          clear hm5 hm5' hg5 hr5 hI hcr hall hwb hlf
          obtain ⟨X, hX⟩ : ∃ X, X = mcA k (fed ++ pk) := ⟨_, rfl⟩
          have heq : ∀ W, (Op.equalIn 10000 30 (.agg X) (.agg X)).run Try.prog W = .ok true W := by rw [hX]; exact eqIn32 (dgb (hout k (fed ++ pk)))
          have HX := Lib.hid hX
          clear hX
          go_wp2_with fail
          refine (mwrite_any H M k fed pk hi ho ha hn hc a2 n2 c2 A m C _ hmac5 (hpk.below hwb5) HM.out.symm (by rw [← HFN.out]; omega)).mono ?_
          rintro e w6 ⟨a6, n6, c6, rfl, hM6, hfr6, hr6⟩
          have hI6 := MpIn.write hmac5 hall5 hd1 hd2 hb5 hM6 hfr6 hr6
          clear hmac5 hall5 hd1 hd2 hb5 hM6 hfr6 hr6 hcr5 hwb5
          go_wp2_with fail
          refine (msum_any H M k (fed ++ pk) hi ho a6 n6 c6 a2 n2 c2 _ hI6.mac (by rw [HLF.out]; omega)).mono ?_
          rw [← HX.out]
          rintro e w7 ⟨rfl, hb7⟩
          have hI7 := hI6.old hb7
          clear hb7 hI6
          have hwb7 : Below w.heap.size w w7 := HH.out ▸ hI7.below
          go_wp2_with fail
          refine (mac_any k (fed ++ pk) ka kn kc a5 (fn + m) c5 _ (hk.below hwb7) HK.out (by omega) hI7.all.read HLF.out (by omega)).mono ?_
          rw [← HX.out]
          rintro e w8 ⟨rfl, hb8⟩
          have hI8 := hI7.old hb8
          clear hb8 hI7 hwb7
          go_wp2_with fail
          go_roundg (gk - 1)
          case rel => exact ⟨t + 1, a5, c5, a6, n6, c6, a2, n2, c2, by have := HF.out; omega, by rw [HTF.out, ← HFED.out, ← HPK.out, HLF.out]; omega, by go_num, by rw [HTF.out, ← HFED.out, ← HPK.out, HLF.out], by rw [HTF.out, ← HFED.out, ← HPK.out]; exact hI8⟩
          case measure => have := HF.out; omega
      · have tt : decide (t < len) = false := by simpa using ht
        obtain ⟨X, hX⟩ : ∃ X, X = mcA k fed := ⟨_, rfl⟩
        have heq : ∀ W, (Op.equalIn 10000 30 (.agg X) (.agg X)).run Try.prog W = .ok true W := by rw [hX]; exact eqIn32 (dgb (hout k fed))
        have HX := Lib.hid hX
        clear hX
        go_wp2_with fail
        refine (msum_any H M k fed hi ho ha hn hc a2 n2 c2 _ hI.mac (by rw [← HFN.out]; omega)).mono ?_
        rw [← HX.out]
        rintro e w7 ⟨rfl, hb7⟩
        have hI7 := hI.old hb7
        have hwb7 := below_step hwb hb7
        go_wp2_with fail
        refine (mac_any k fed ka kn kc aa fn ac _ (hk.below hwb7) HK.out (by omega) hI7.all.read HFN.out.symm (by omega)).mono ?_
        rw [← HX.out]
        rintro e w8 ⟨rfl, hb8⟩
        go_wp2_with fail
        refine (mac_wakes _).mono ?_
        rintro e w9 ⟨rfl, hb9⟩
        go_wp2_with fail
        go_ret
        exact ⟨rfl, below_step hwb7 (below_step hb8 hb9)⟩
end Go.Proofs.Ytofamiadpidfgaa
