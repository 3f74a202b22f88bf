/- Pieces make the sum of the whole: the walk of the law. -/
import Derived.Test.YtoingggcgaibpaaShaNil
import Derived.Test.YtoingggcgaibpaaCameBools
namespace Go.Proofs.Ytoingggcgaibpaa
open Go.RowKit

theorem take_flat (ls : List (List UInt8)) (k : Nat) (h : k < ls.length) : (ls.take (k + 1)).flatten = (ls.take k).flatten ++ ls[k] := by
  rw [List.take_succ_eq_append_getElem h, List.flatten_append]; simp
theorem eqIn_ne (f : Nat → UInt8) (W : World) : (binOp .neq 24 (.agg (vA 32 fun i => bv (f i))) (.agg (vA 32 fun i => bv (f i)))).run Try.prog W = .ok (.bool false) W := by
  rw [run_neq_struct, eqIn32]; rfl
/-- The first loop: any number, or how many bytes there are. -/
def Pc1 (w : World) (ls : List (List UInt8)) (small : Prop) (f : Nat) (x i : Value) (wr : World) : Prop :=
  ∃ (k : Nat) (z : Int), f + k = ls.length ∧ i = .int .i64 (k : Int) ∧ x = .int .i64 z ∧ (small → z = ((ls.take k).flatten.length : Int) ∧ (ls.take k).flatten.length ≤ k * 140737488351232) ∧ w = wr
structure PcIn (w : World) (H g : Nat) (fed : List UInt8) (aa : Option Addr) (ac : Nat) (ha : Option Addr) (hn hc : Nat) (wr : World) : Prop where
  hash : HashAt wr H g fed ha hn hc
  all : Mid wr H 5 aa fed.length ac (fed.map bv)
  disj : ∀ r, rowB aa ac = some r → rowB ha hc ≠ some r
  below : Below H w wr
  hg : H ≤ g
theorem PcIn.old {w : World} {H g : Nat} {fed : List UInt8} {aa : Option Addr} {ac : Nat} {ha : Option Addr} {hn hc : Nat} {wr wq : World} (h : PcIn w H g fed aa ac ha hn hc wr) (hb : Below wr.heap.size wr wq) : PcIn w H g fed aa ac ha hn hc wq :=
  ⟨h.hash.old hb, h.all.old hb, h.disj, h.below.trans (hb.mono (by have := h.hash.hash.lt; have := h.hg; omega)), h.hg⟩
/-- A piece written: the other row stays. -/
theorem PcIn.write {w : World} {H g : Nat} {fed p : List UInt8} {aa : Option Addr} {ac : Nat} {ha : Option Addr} {hn hc : Nat} {wr wq : World} (h : PcIn w H g fed aa ac ha hn hc wr)
    {ha' : Option Addr} {hn' hc' : Nat} (_hp : HashAt wq H g (fed ++ p) ha' hn' hc') (hfr : HsFr wr wq g (rowB ha hc)) (hr : rowB ha' hc' = none ∨ rowB ha' hc' = rowB ha hc ∨ ∃ b, rowB ha' hc' = some b ∧ wr.heap.size ≤ b) :
    Mid wq H 5 aa fed.length ac (fed.map bv) ∧ (∀ r, rowB aa ac = some r → rowB ha' hc' ≠ some r) ∧ Below H w wq := by
  refine ⟨h.all.keep fun r hr' => ?_, fun r hr' e => ?_, h.below.trans (hfr.below h.hg (fun b hb => (h.hash.row.lt hb).1) (by have := h.hash.hash.lt; have := h.hg; omega))⟩
  · obtain ⟨_, h2, cur, h3⟩ := h.all.lt hr'
    exact hfr.block r h2 (Blk.ne h3 h.hash.hash (by decide)) (h.disj r hr')
  · obtain ⟨_, h2, _⟩ := h.all.lt hr'
    rcases hr with h1 | h1 | ⟨b, h1, h4⟩
    · rw [h1] at e; cases e
    · rw [h1] at e; exact h.disj r hr' e
    · rw [h1] at e; cases e; omega
/-- A piece put to all. -/
theorem PcIn.append {w : World} {H g : Nat} {fed p : List UInt8} {aa : Option Addr} {ac : Nat} {ha : Option Addr} {hn hc : Nat} {wr wq : World} (hh : HashAt wr H g (fed ++ p) ha hn hc) (hall : Mid wr H 5 aa fed.length ac (fed.map bv))
    (hd : ∀ r, rowB aa ac = some r → rowB ha hc ≠ some r) (hb : Below H w wr) (hg : H ≤ g) {a' : Option Addr} {c' : Nat} (hm : Mid wq H 5 a' (fed.length + p.length) c' (fed.map bv ++ p.map bv)) (hgr : wr.grownBy wq (rowB aa ac))
    (hr : rowB a' c' = rowB aa ac ∨ ∃ b, rowB a' c' = some b ∧ wr.heap.size ≤ b) : PcIn w H g (fed ++ p) a' c' ha hn hc wq := by
  refine ⟨⟨hh.hash.grown hgr (rowB_ne hall hh.hash), hh.row.keep fun r hr' => ?_, hh.lt⟩, by rw [List.length_append, List.map_append]; exact hm, fun r hr' e => ?_, ?_, hg⟩
  · obtain ⟨_, h2, _⟩ := hh.row.lt hr'
    exact hgr.block r h2 fun e => hd r e.symm hr'
  · rcases hr with h1 | ⟨b, h1, h2⟩
    · rw [h1] at hr'; exact hd r hr' e
    · rw [h1] at hr'
      cases hr'
      obtain ⟨_, h3, _⟩ := hh.row.lt e
      omega
  · exact hb.grown hgr (by have := hh.hash.lt; omega) fun b hb' => (hall.lt hb').1
def Pc2 (w : World) (H g : Nat) (ls : List (List UInt8)) (f : Nat) (x i : Value) (wr : World) : Prop :=
  ∃ (k : Nat) (aa : Option Addr) (ac : Nat) (ha : Option Addr) (hn hc : Nat), f + k = ls.length ∧ i = .int .i64 (k : Int) ∧ x = .slice aa (ls.take k).flatten.length ac ∧ PcIn w H g (ls.take k).flatten aa ac ha hn hc wr

set_option maxHeartbeats 2000000 in
set_option maxRecDepth 40000 in
theorem shaPieces_any (a : Option Addr) (len cap : Nat) (ls : List (List UInt8)) (qa : Option Addr) (qn qc : Nat) (q : List Bool) (w : World) (hp : PiecesAt w a ls) (hlen : ls.length = len) (hm : len ≤ maxLen) (hz : ∀ r, (h : r < ls.length) → ls[r].length ≤ 140737488351232) (hq : BoolRow w qa qn qc q) :
    Calls Try.prog 4 #[.slice a len cap, .slice qa qn qc] w fun e w' => e = .returned (.bool true) ∧ Below w.heap.size w w' := by
  unfold maxLen at hm
  have HL := Lib.hid hlen
  clear hlen
  go_enter Try.func4, Try.ntmps4
  go_wp2_with fail
  go_loopg [5, 14] len (Pc1 w ls (len ≤ 40))
  case atStart => exact ⟨0, 0, by rw [HL.out]; omega, rfl, rfl, fun _ => ⟨rfl, by simp⟩, rfl⟩
  case round =>
    obtain ⟨k, z, hf, rfl, rfl, hsm, rfl⟩ := hrel
    have HF := Lib.hid hf
    have HSM := Lib.hid hsm
    clear hf hsm
    by_cases hk : k < len
    · have tk : decide ((k : Int) < (len : Int)) = true := by simp; omega
      have hkl : k < ls.length := by rw [HL.out]; exact hk
      obtain ⟨b, o, A, C, rfl, hc, hpk, hC1, hC2⟩ := hp k hkl
      have hzk := hz k hkl
      have HTF := Lib.hid (take_flat ls k hkl)
      obtain ⟨m, hmm⟩ : ∃ m, m = ls[k].length := ⟨_, rfl⟩
      rw [← hmm] at hc hzk
      have HM := Lib.hid hmm
      clear hmm hpk hC1
      by_cases h40 : len ≤ 40
      · obtain ⟨hz1, hz2⟩ := HSM.out h40
        obtain ⟨n, hn⟩ : ∃ n, n = (ls.take k).flatten.length := ⟨_, rfl⟩
        rw [← hn] at hz1 hz2
        subst hz1
        have HN := Lib.hid hn
        have hn3 : n ≤ 5629499534049280 := by omega
        clear hn hz2
        go_wp2_with fail
        go_roundg (gk - 1)
        case rel =>
          have hf := HF.out
          have e : (ls.take (k + 1)).flatten.length = n + m := by rw [HTF.out, List.length_append, ← HN.out, ← HM.out]
          refine ⟨k + 1, _, by omega, by go_num, rfl, fun _ => ⟨by rw [e]; omega, ?_⟩, rfl⟩
          rw [e, Nat.add_mul]
          have := (HSM.out h40).2
          rw [← HN.out] at this
          omega
        case measure => have hf := HF.out; rw [HL.out] at hf; omega
      · go_wp2_with fail
        go_roundg (gk - 1)
        case rel => exact ⟨k + 1, _, by have := HF.out; omega, by go_num, rfl, fun h => absurd h h40, rfl⟩
        case measure => have hf := HF.out; rw [HL.out] at hf; omega
    · have tk : decide ((k : Int) < (len : Int)) = false := by simp; omega
      have hke : k = len := by have := HF.out; rw [HL.out] at this; omega
      by_cases h40 : 40 < len
      · have t2 : decide ((40 : Int) < (len : Int)) = true := by simp; omega
        by_cases hz4 : 4000 < z
        · have t1 : decide ((4000 : Int) < z) = true := by simp; omega
          go_wp2_with fail
          refine (sha_wakes _).mono ?_
          rintro e w4 ⟨rfl, hb4⟩
          go_wp2_with fail
          go_ret
          exact ⟨rfl, hb4⟩
        · have t1 : decide ((4000 : Int) < z) = false := by simp; omega
          go_wp2_with fail
          refine (sha_wakes _).mono ?_
          rintro e w4 ⟨rfl, hb4⟩
          go_wp2_with fail
          go_ret
          exact ⟨rfl, hb4⟩
      · have t2 : decide ((40 : Int) < (len : Int)) = false := by simp; omega
        have hz1 := (HSM.out (by omega)).1
        rw [List.take_of_length_le (by rw [HL.out]; omega)] at hz1
        obtain ⟨n, hn⟩ : ∃ n, n = ls.flatten.length := ⟨_, rfl⟩
        rw [← hn] at hz1
        subst hz1
        have HN := Lib.hid hn
        clear hn hke
        by_cases hz4 : 4000 < n
        · have t1 : decide ((4000 : Int) < (n : Int)) = true := by simp; omega
          go_wp2_with fail
          refine (sha_wakes _).mono ?_
          rintro e w4 ⟨rfl, hb4⟩
          go_wp2_with fail
          go_ret
          exact ⟨rfl, hb4⟩
        · have t1 : decide ((4000 : Int) < (n : Int)) = false := by simp; omega
          have kc := fun (w : World) (C : Array Value) (n c : Nat) => Lib.run_convert_bytes_const (P := Try.prog) w 22 5 C n c Try.underlying22 Try.underlying5
          go_wp2_with fail
          refine (new_any _).mono ?_
          rintro e w1 ⟨g, rfl, hg, hB, hb1⟩
          go_wp2_with fail
          obtain ⟨H, hH⟩ : ∃ H, H = w.heap.size := ⟨_, rfl⟩
          rw [← hH] at hg
          have HH := Lib.hid hH
          have hb0 : Below H w w1 := by rw [hH]; exact hb1
          have hHs : H ≤ w1.heap.size := by have := hb1.size; omega
          clear hH hb1
          have hnew := BytesAt.new w1 #[.int .u8 101, .int .u8 108, .int .u8 115, .int .u8 101] 5 (4, 5) [101, 108, 115, 101] rfl
          refine (write_any H g [] [101, 108, 115, 101] none 0 0 _ 4 4 _ (HashAt.alloc (HashAt.nil hB H) _) hnew rfl (by simp) (by simp; omega)).mono ?_
          rintro e w2 ⟨a2, n2, c2, rfl, hH2, hfr2, -⟩
          have hb2 : Below H w w2 := (hb0.alloc hHs _).trans (hfr2.below hg (by simp [rowB]) (by simp; omega))
          have hHs2 := hH2.hash.lt
          clear hB hb0 hnew hfr2 kc
          go_wp2_with fail
          refine (reset_any g _ _ hH2.hash (fun j hj => hcs_k _ _ _ hj)).mono ?_
          rintro e w3 ⟨rfl, hB3, ho3⟩
          have hb3 : Below H w w3 := below_only hb2 (by omega) ho3 hg
          clear hH2 hb2 ho3 hHs2
          go_wp2_with fail
          have hst : PcIn w H g [] none 0 none 0 0 w3 := ⟨HashAt.nil hB3 H, Mid.nil' _ _ _, fun r hr => by simp [rowB] at hr, hb3, hg⟩
          clear hB3 hb3
          go_loopg [8, 47] len (Pc2 w H g ls)
          case atStart => exact ⟨0, none, 0, none, 0, 0, by rw [HL.out]; omega, rfl, rfl, hst⟩
          case round =>
            clear hst
            obtain ⟨k, aa, ac, ha, hn, hc, hf, rfl, rfl, hI⟩ := hrel
            have HF := Lib.hid hf
            clear hf
            obtain ⟨fed, hfed⟩ : ∃ f, f = (ls.take k).flatten := ⟨_, rfl⟩
            rw [← hfed] at hI
            obtain ⟨fn, hfn⟩ : ∃ f, f = fed.length := ⟨_, rfl⟩
            have hfl : fn ≤ 4000 := by
              have h1 : fed.length ≤ ls.flatten.length := by
                rw [hfed, ← List.take_append_drop k ls, List.flatten_append, List.length_append]
                simp
              have := HN.out
              omega
            have HFED := Lib.hid hfed
            have HFN := Lib.hid hfn
            rw [← hfed, ← hfn]
            clear hfed hfn
            by_cases hk : k < len
            · have tk : decide ((k : Int) < (len : Int)) = true := by simp; omega
              have hkl : k < ls.length := by rw [HL.out]; exact hk
              have HTF0 := take_flat ls k hkl
              obtain ⟨b, o, A, C, rfl, hc1, hpk, hC1, hC2⟩ := hp k hkl
              obtain ⟨pk, hpk'⟩ : ∃ p, p = ls[k] := ⟨_, rfl⟩
              rw [← hpk'] at hc1 hpk hC1 HTF0
              rw [← HFED.out] at HTF0
              obtain ⟨m, hmm⟩ : ∃ m, m = pk.length := ⟨_, rfl⟩
              rw [← hmm] at hc1 hC1
              have hfm : fn + m ≤ 4000 := by
                have h1 : (ls.take (k + 1)).flatten.length ≤ ls.flatten.length := by
                  conv => rhs; rw [← List.take_append_drop (k + 1) ls, List.flatten_append, List.length_append]
                  omega
                rw [HTF0, List.length_append, ← HFN.out, ← hmm] at h1
                have := HN.out
                omega
              have HTF := Lib.hid HTF0
              have HM := Lib.hid hmm
              have hwb : Below w.heap.size w wr := HH.out ▸ hI.below
              have hcr : wr.cell? ⟨b, o + k, none⟩ = some (.slice A m C) := by rw [hwb.cell (World.block_lt_of_cell? w _ hc1)]; exact hc1
              have hfl2 : fed.length + m < 1099511627776 := by rw [← HFN.out]; omega
              have hHs : H ≤ wr.heap.size := by have := hI.hash.hash.lt; omega
              have HLF := Lib.hid (show (fed ++ pk).length = fn + m by rw [List.length_append, ← HFN.out, ← HM.out])
              clear HTF0 hmm hpk'
              go_wp2_with fail
              refine (write_any H g fed pk ha hn hc A m C wr hI.hash (hpk.below hwb) HM.out.symm hfl2 hHs).mono ?_
              rintro e w4 ⟨ha2, hn2, hc2, rfl, hH4, hfr4, hr4⟩
              obtain ⟨hall4, hd4, hb4⟩ := hI.write hH4 hfr4 hr4
              rw [← HFN.out] at hall4
              have hwb4 : Below w.heap.size w w4 := HH.out ▸ hb4
              have hHs4 : H ≤ w4.heap.size := by have := hH4.hash.lt; omega
              clear hI hfr4 hr4 hcr hwb
              go_wp2_with (at_builtin; refine wpList_append_mid rfl (.tmp 56) (.tmp 57) 22 rfl bytesT3 rfl hall4 rfl (hpk.below hwb4) (by rw [List.length_map]; exact HM.out.symm) (bv_one _) (by unfold maxLen; omega) (by omega) hHs4 ?_)
              intro a5 c5 w5 hm5 hg5 hr5
              have hI5 : PcIn w H g (fed ++ pk) a5 c5 ha2 hn2 hc2 w5 := by
                rw [HFN.out] at hall4 hm5
                rw [HM.out] at hm5
                exact PcIn.append hH4 hall4 hd4 hb4 hg hm5 hg5 hr5
              have hall5 : BytesAt w5 a5 (fed ++ pk) := hI5.all.read
              have hwb5 : Below w.heap.size w w5 := HH.out ▸ hI5.below
              have hlf := HLF.out
              have heq : ∀ W, (Op.equalIn 10000 24 (.agg (dgA (fed ++ pk))) (.agg (dgA (fed ++ pk)))).run Try.prog W = .ok true W := eqIn32 (dgb (fed ++ pk))
              clear hm5 hg5 hr5 hH4 hall4 hd4 hb4 hwb4 hHs4 hfl2
              by_cases hkq : k < qn
              · have tq : decide ((k : Int) < (qn : Int)) = true := by simp; omega
                obtain ⟨qb, qo, rfl, hqc⟩ := hq.1 k (by rw [List.length_map, hq.2.1]; exact hkq)
                have hql : k < q.length := by rw [hq.2.1]; exact hkq
                have hqc5 : w5.cell? ⟨qb, qo + k, none⟩ = some (.bool q[k]) := by
                  rw [hwb5.cell (World.block_lt_of_cell? w _ hqc), hqc]
                  simp
                clear hqc
                cases hqk : q[k] with
                | true =>
                  rw [hqk] at hqc5
                  clear hqk
                  have hlf' := Lib.hid hlf
                  have hfs : (fed ++ pk).length < 1000000000000 := by omega
                  clear hlf
                  go_wp2_with fail
                  have hlf := hlf'.out
                  refine (copy_any H g (fed ++ pk) ha2 hn2 hc2 _ hI5.hash).mono ?_
                  rintro e w6 ⟨g6, a6, c6, rfl, hg6, hH6, hb6⟩
                  go_wp2_with fail
                  refine (hsum_any H g (fed ++ pk) ha2 hn2 hc2 _ (hI5.old hb6).hash (by omega)).mono ?_
                  rintro e w7 ⟨rfl, hb7⟩
                  have hb57 := below_step hb6 hb7
                  go_wp2_with fail
                  refine (sum_any (fed ++ pk) a5 (fn + m) c5 _ (hall5.below hb57) (by omega) (by omega)).mono ?_
                  rintro e w8 ⟨rfl, hb8⟩
                  have hb58 := below_step hb57 hb8
                  have hH8 := (hH6.old hb7).old hb8
                  have kc := fun (w : World) (C : Array Value) (n c : Nat) => Lib.run_convert_bytes_const (P := Try.prog) w 22 5 C n c Try.underlying22 Try.underlying5
                  have hs58 := hb58.size
                  clear hb6 hb7 hb57 hb8 hH6
                  go_wp2_with fail
                  have hnew := BytesAt.new w8 #[.int .u8 109, .int .u8 111, .int .u8 114, .int .u8 101] 5 (4, 5) [109, 111, 114, 101] rfl
                  refine (write_any w5.heap.size g6 (fed ++ pk) [109, 111, 114, 101] a6 hn2 c6 _ 4 4 _ (hH8.alloc _) hnew rfl (by omega) (by simp; omega)).mono ?_
                  rintro e w9 ⟨a9, n9, c9, rfl, -, hfr9, -⟩
                  have hb9 : Below w5.heap.size w5 w9 := (hb58.alloc (by omega) _).trans (hfr9.below hg6 (fun b hb => (hH8.row.lt hb).1) (by simp; omega))
                  have hI9 := hI5.old hb9
                  clear hb58 hH8 hnew hfr9 hb9 hI5 hall5 kc
                  go_wp2_with fail
                  go_roundg (gk - 1)
                  case rel => exact ⟨k + 1, a5, c5, ha2, hn2, hc2, by have := HF.out; omega, by go_num, by rw [HTF.out, HLF.out], by rw [HTF.out]; exact hI9⟩
                  case measure => have := HF.out; rw [HL.out] at this; omega
                | false =>
                  rw [hqk] at hqc5
                  clear hqk hlf
                  go_wp2_with fail
                  go_roundg (gk - 1)
                  case rel => exact ⟨k + 1, a5, c5, ha2, hn2, hc2, by have := HF.out; omega, by go_num, by rw [HTF.out, HLF.out], by rw [HTF.out]; exact hI5⟩
                  case measure => have := HF.out; rw [HL.out] at this; omega
              · have tq : decide ((k : Int) < (qn : Int)) = false := by simp; omega
                clear hlf
                go_wp2_with fail
                go_roundg (gk - 1)
                case rel => exact ⟨k + 1, a5, c5, ha2, hn2, hc2, by have := HF.out; omega, by go_num, by rw [HTF.out, HLF.out], by rw [HTF.out]; exact hI5⟩
                case measure => have := HF.out; rw [HL.out] at this; omega
            · have tk : decide ((k : Int) < (len : Int)) = false := by simp; omega
              have hfed' : fed.length < 1000000000000 := by rw [← HFN.out]; omega
              have heq : ∀ W, (Op.equalIn 10000 24 (.agg (dgA fed)) (.agg (dgA fed))).run Try.prog W = .ok true W := eqIn32 (dgb fed)
              go_wp2_with fail
              refine (hsum_any H g fed ha hn hc _ hI.hash hfed').mono ?_
              rintro e w7 ⟨rfl, hb7⟩
              go_wp2_with fail
              refine (sum_any fed aa fn ac _ (BytesAt.below hI.all.read hb7) HFN.out.symm (by omega)).mono ?_
              rintro e w8 ⟨rfl, hb8⟩
              go_wp2_with fail
              refine (sha_wakes _).mono ?_
              rintro e w9 ⟨rfl, hb9⟩
              go_wp2_with fail
              go_ret
              refine ⟨rfl, ?_⟩
              have hwb : Below w.heap.size w wr := HH.out ▸ hI.below
              exact below_step (below_step hwb hb7) (below_step hb8 hb9)
end Go.Proofs.Ytoingggcgaibpaa
