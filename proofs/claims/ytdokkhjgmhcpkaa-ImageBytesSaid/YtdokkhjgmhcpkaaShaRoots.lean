/- The walk through the roots of primes. -/
import Derived.Test.YtdokkhjgmhcpkaaShaNum
import Derived.Test.YtdokkhjgmhcpkaaFun
import Derived.Test.YtdokkhjgmhcpkaaLex
namespace Go.Proofs.Ytdokkhjgmhcpkaa
open Go.RowKit

theorem u32sT : RowType Try.prog 122 106 1 4 := RowType.mk (z := .int .u32 0) Try.underlying122 (by kernel_rfl) rfl (by omega)
theorem u64sT : RowType Try.prog 126 94 1 8 := RowType.mk (z := .int .u64 0) Try.underlying126 (by kernel_rfl) rfl (by omega)
def nv (x : Nat) : Value := .int .u64 (x : Int)
theorem rts_snoc (third : Bool) (l : List Nat) (x : Nat) : (rtsF third (l ++ [x])).map wv = (rtsF third l).map wv ++ [.int .u32 (U32 (BitVec.ofNat 32 (rt third x)))] := by
  simp [rtsF, wv]
theorem rts_len (third : Bool) (l : List Nat) : (rtsF third l).length = l.length := by simp [rtsF]
theorem U32_nat (x : Nat) : (x : Int) % 4294967296 = U32 (BitVec.ofNat 32 x) := by simp [U32]

structure RtIn (w : World) (H : Nat) (third : Bool) (l m : List Nat) (pa oa : Option Addr) (pc oc : Nat) (wr : World) : Prop where
  primes : Own wr H 94 1 pa l.length pc (l.map nv)
  out : Own wr H 106 1 oa m.length oc ((rtsF third m).map wv)
  below : Below H w wr
def Rt1 (w : World) (n : Nat) (third : Bool) (f : Nat) (p o x : Value) (wr : World) : Prop :=
  ∃ (k X L : Nat) (pa oa : Option Addr) (pc oc : Nat), f + k = 311 ∧ X = k + 2 ∧ L = (ps k).length ∧ L ≤ n ∧ p = .slice pa L pc ∧ o = .slice oa L oc ∧ x = .int .u64 (X : Int) ∧ RtIn w w.heap.size third (ps k) (ps k) pa oa pc oc wr
def Rt2 (wq : World) (X : Nat) (l : List Nat) (f : Nat) (i : Value) (wr : World) : Prop :=
  ∃ j : Nat, f + j = l.length ∧ i = .int .i64 (j : Int) ∧ (∀ q, (h : q < l.length) → q < j → X % l[q] ≠ 0) ∧ wq = wr
def Rt3 (wq : World) (third : Bool) (x : Nat) (f : Nat) (lo hi : Value) (wr : World) : Prop :=
  ∃ a b : Nat, lo = .int .u64 (a : Int) ∧ hi = .int .u64 (b : Int) ∧ a < b ∧ b ≤ 85899345920 ∧ b - a ≤ 2 ^ f ∧ bs third x f a b = rt third x ∧ wq = wr
theorem power_any (y x : Nat) (third : Bool) (w : World) (hy : y < 2 ^ 37) (hx : x < 65536) :
    Calls Try.prog 71 #[.int .u64 (y : Int), .int .u64 (x : Int), .bool third] w fun e w' => e = .returned (.bool (pwB third y x)) ∧ w = w' := by
  cases third
  · exact power_sq y x w hy hx
  · exact power_cu y x w hy hx
theorem bs_yes {third : Bool} {x f a b m : Nat} (h : 1 < b - a) (hm : m = a + (b - a) / 2) (hp : pwB third m x = true) : bs third x (f + 1) a b = bs third x f m b := by subst hm; rw [bs, if_pos h, if_pos hp]
theorem bs_no {third : Bool} {x f a b m : Nat} (h : 1 < b - a) (hm : m = a + (b - a) / 2) (hp : pwB third m x = false) : bs third x (f + 1) a b = bs third x f a m := by subst hm; rw [bs, if_pos h, hp]; rfl

set_option maxHeartbeats 1000000 in
set_option maxRecDepth 40000 in
theorem roots_any (n : Nat) (third : Bool) (w : World) (hn : n ≤ 64) :
    Calls Try.prog 64 #[.int .i64 (n : Int), .bool third] w fun e w' => ∃ k a c, (ps k).length = n ∧ e = .returned (.slice a n c) ∧ Own w' w.heap.size 106 1 a n c ((rtsF third (ps k)).map wv) ∧ Below w.heap.size w w' := by
  go_enter Try.func64, Try.ntmps64
  go_wp2_with fail
  go_step3
  go_wp2_with fail
  go_step3
  go_wp2_with fail
  go_loopg [5, 6, 7] 311 (Rt1 w n third)
  case atStart => exact ⟨0, 2, 0, none, none, 0, 0, by omega, rfl, rfl, by omega, rfl, rfl, rfl, ⟨Own.nil _ _ _ _, Own.nil _ _ _ _, Below.refl _ _⟩⟩
  case round =>
    obtain ⟨k, X, L, pa, oa, pc, oc, hf, hX, hL, hLn, rfl, rfl, rfl, hI⟩ := hrel
    have hpm := hI.primes.le_max
    rw [← hL] at hpm
    unfold maxLen at hpm
    have hln : L ≤ k := by rw [hL]; exact ps_len k
    by_cases hlt : L < n
    · have tl : decide (L < n) = true := by simpa using hlt
      have hk : k < 310 := ps_lt (by omega)
      have hXl : X < 65536 := by omega
      have HF := Lib.hid hf
      have HX := Lib.hid hX
      have HL := Lib.hid hL
      clear hf hX hL
      obtain ⟨g0, rfl⟩ : ∃ g : Nat, g = gk := ⟨_, rfl⟩
      obtain ⟨wo, rfl⟩ : ∃ wo : World, wo = wr := ⟨_, rfl⟩
      go_wp2_with fail
      go_loopg [21, 9] L (fun f i _ wr => Rt2 wo X (ps k) f i wr)
      case atStart => exact ⟨0, by rw [← HL.out]; omega, rfl, fun q _ h => by omega, rfl⟩
      case round =>
        obtain ⟨j, hf, rfl, hno, rfl⟩ := hrel
        have hlen := HL.out
        by_cases hj : j < L
        · have tj : decide (j < L) = true := by simpa using hj
          have hjl : j < (ps k).length := by rw [← hlen]; exact hj
          obtain ⟨b, o, hpa, hc⟩ := hI.primes.row j (by simpa using hjl)
          subst hpa
          obtain ⟨p, hp⟩ : ∃ p, p = (ps k)[j] := ⟨_, rfl⟩
          have hc' : wo.cell? ⟨b, o + j, none⟩ = some (.int .u64 (p : Int)) := by
            rw [hc, hp]; simp [nv]
          have hp2 : 2 ≤ p := by rw [hp]; exact (ps_two k _ (List.getElem_mem _)).1
          have hp2I : (2 : Int) ≤ (p : Int) := by omega
          have HP := Lib.hid hp
          have HN := Lib.hid hno
          have HF2 := Lib.hid hf
          have HC := Lib.hid hlen
          clear hc hp hno hf hlen
          by_cases hd : X % p = 0
          · have td : ((X : Int) % (p : Int) == 0) = true := by rw [beq_iff_eq]; exact_mod_cast hd
            have HD := Lib.hid hd
            clear hd
            go_wp2_with fail
            go_roundg (g0 - 1)
            case rel =>
              have hf := HF.out
              have hX := HX.out
              have e : ps (k + 1) = ps k := by
                rw [ps, psStep, if_neg]
                intro h
                have := List.all_eq_true.1 h _ (List.getElem_mem hjl)
                rw [← HP.out, ← hX] at this
                simp [HD.out] at this
              exact ⟨k + 1, X + 1, L, _, _, _, _, by omega, by omega, by rw [e]; exact HL.out, hLn, rfl, rfl, by go_num, by rw [e]; exact hI⟩
            case measure => have hf := HF.out; omega
          · have td : ((X : Int) % (p : Int) == 0) = false := by rw [beq_eq_false_iff_ne]; exact_mod_cast hd
            have HD := Lib.hid hd
            clear hd
            go_wp2_with fail
            go_roundg (gk - 1)
            case rel =>
              have hf := HF2.out
              refine ⟨j + 1, by omega, by go_num, fun q hq hqj => ?_, rfl⟩
              by_cases e : q = j
              · subst e; rw [← HP.out]; exact HD.out
              · exact HN.out q hq (by omega)
            case measure => have hf := HF2.out; have := HC.out; omega
        · have tj : decide (j < L) = false := by simpa using hj
          have hall : ps (k + 1) = ps k ++ [X] := by
            have hX := HX.out
            rw [ps, psStep, if_pos, hX]
            rw [List.all_eq_true]
            intro p hp
            obtain ⟨q, hq, rfl⟩ := List.getElem_of_mem hp
            have := hno q hq (by omega)
            rw [hX] at this
            simpa using this
          have HA := Lib.hid hall
          have hk' : (k : Nat) < 310 := hk
          have hown1 := hI.primes
          have hown2 := hI.out
          rw [← hlen] at hown1 hown2
          have hb := hI.below
          clear hall hno hf hlen hI
          have hsz := hb.size
          go_wp2_with (at_builtin; refine wpList_append_row rfl (.tmp 30) (.tmp 32) 126 rfl u64sT rfl (hown1.alloc _) rfl (RowAt.new' _ _ _ _ (by simp)) (by rfl) (by exact all_one _ rfl) (by unfold maxLen; omega) (by omega) (by simp; omega) ?_)
          intro pa' pc' w4 hown4 hg4
          have hb4 := (hown1.alloc (.cells #[Value.int .u64 (X : Int)] 94)).grown (hb.alloc hsz _) (Nat.le_refl _) hg4 (by simp; omega)
          have hout4 := (hown2.alloc (.cells #[Value.int .u64 (X : Int)] 94)).apart (hown1.alloc _) (by decide) hg4
          clear hown1 hown2 hg4 hb
          go_wp2_with fail
          go_loopg [10, 11] 64 (Rt3 w4 third X)
          case atStart => exact ⟨0, 85899345920, rfl, rfl, by omega, by omega, by omega, rfl, rfl⟩
          case round =>
            obtain ⟨a, b, rfl, rfl, hab, hbm, hgap, hbs, rfl⟩ := hrel
            obtain ⟨d, hd⟩ : ∃ d, d = b - a := ⟨_, rfl⟩
            have hdI : (b : Int) - (a : Int) = (d : Int) := by omega
            have HBS := Lib.hid hbs
            clear hbs
            by_cases h1 : 1 < d
            · have t1 : decide ((1 : Int) < (d : Int)) = true := by simp; omega
              obtain ⟨e, he⟩ : ∃ e, e = d / 2 := ⟨_, rfl⟩
              have heI : (d : Int) / 2 = (e : Int) := by omega
              obtain ⟨m, hm⟩ : ∃ m, m = a + e := ⟨_, rfl⟩
              have hmI : (a : Int) + (e : Int) = (m : Int) := by omega
              obtain ⟨f', hf'⟩ : ∃ f', gk = f' + 1 := ⟨gk - 1, by
                rcases Nat.eq_zero_or_pos gk with h0 | h0
                · subst h0; omega
                · omega⟩
              have hpow : 2 ^ gk = 2 * 2 ^ f' := by rw [hf', Nat.pow_succ, Nat.mul_comm]
              have HMD := Lib.hid (show m = a + (b - a) / 2 by omega)
              have HG := Lib.hid (show b - m ≤ 2 ^ f' ∧ m - a ≤ 2 ^ f' by omega)
              have HF' := Lib.hid hf'
              have hm1 : a < m := by omega
              have hm2 : m < b := by omega
              have h1' : 1 < b - a := by omega
              clear hgap hpow hd he hm hf'
              cases hpb : pwB third m X with
              | true =>
                have HPB := Lib.hid hpb
                go_wp2_with fail
                refine (power_any m X third _ (by omega) hXl).mono ?_
                rw [HPB.out]
                clear hpb
                rintro e' w' ⟨rfl, rfl⟩
                go_wp2_with fail
                go_roundg f'
                case rel => exact ⟨m, b, rfl, rfl, hm2, hbm, HG.out.1, by rw [← HBS.out, HF'.out, bs_yes h1' HMD.out HPB.out], rfl⟩
                case measure => have := HF'.out; omega
              | false =>
                have HPB := Lib.hid hpb
                go_wp2_with fail
                refine (power_any m X third _ (by omega) hXl).mono ?_
                rw [HPB.out]
                clear hpb
                rintro e' w' ⟨rfl, rfl⟩
                go_wp2_with fail
                go_roundg f'
                case rel => exact ⟨a, m, rfl, rfl, hm1, by omega, HG.out.2, by rw [← HBS.out, HF'.out, bs_no h1' HMD.out HPB.out], rfl⟩
                case measure => have := HF'.out; omega
            · have t1 : decide ((1 : Int) < (d : Int)) = false := by simp; omega
              have hrt : rt third X = a := by rw [← HBS.out]; exact bs_done _ _ _ _ (by omega) _
              have hU := U32_nat a
              rw [← hrt] at hU
              have HRT := Lib.hid hrt
              have hU' : (a : Int) % 4294967296 = U32 (BitVec.ofNat 32 (rt third X)) := by rw [HRT.out]; exact U32_nat a
              clear hU hrt hd hgap
              have hsz4 := hb4.size
              go_wp2_with (at_builtin; refine wpList_append_row rfl (.tmp 50) (.tmp 53) 122 rfl u32sT rfl (hout4.alloc _) rfl (RowAt.new' _ _ _ _ (by simp)) (by rfl) (by exact all_one _ rfl) (by unfold maxLen; omega) (by omega) (by simp; omega) ?_)
              intro oa' oc' w5 hown5 hg5
              have hb5 := (hout4.alloc (.cells #[Value.int .u32 (U32 (BitVec.ofNat 32 (rt third X)))] 106)).grown (hb4.alloc hsz4 _) (Nat.le_refl _) hg5 (by simp; omega)
              have hpr5 := (hown4.alloc (.cells #[Value.int .u32 (U32 (BitVec.ofNat 32 (rt third X)))] 106)).apart (hout4.alloc _) (by decide) hg5
              clear hU'
              go_wp2_with fail
              go_roundg (g0 - 1)
              case rel =>
                have hf := HF.out
                have hX := HX.out
                have hL := HL.out
                have e := HA.out
                have el : (ps (k + 1)).length = L + 1 := by rw [e, List.length_append, ← hL]; rfl
                refine ⟨k + 1, X + 1, L + 1, pa', oa', pc', oc', by omega, by omega, el.symm, by omega, rfl, rfl, by go_num, ?_⟩
                refine ⟨?_, ?_, hb5⟩
                · rw [el, e, List.map_append]; exact hpr5
                · rw [el, e, rts_snoc]; exact hown5
              case measure => have hf := HF.out; omega
    · have tl : decide (L < n) = false := by simpa using hlt
      obtain rfl : L = n := by omega
      have HL := Lib.hid hL
      clear hf hX hL
      go_wp2_with fail
      (try rw [Exit.noGoto_ret])
      go_ret
      refine ⟨k, oa, oc, HL.out.symm, rfl, ?_, hI.below⟩
      have := hI.out
      rw [← HL.out] at this
      exact this
end Go.Proofs.Ytdokkhjgmhcpkaa
