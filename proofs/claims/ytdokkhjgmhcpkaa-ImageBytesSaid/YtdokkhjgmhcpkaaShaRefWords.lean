/- The walks through the reference's primes, and the words that it begins with. -/
import Derived.Test.YtdokkhjgmhcpkaaShaRefHalf
import Derived.Test.YtdokkhjgmhcpkaaShaBlock
namespace Go.Proofs.Ytdokkhjgmhcpkaa
open Go.RowKit

def okB (X : Nat) (l : List Nat) (j : Nat) : Bool := (l.take j).all fun p => X % p != 0
theorem okB_succ (X : Nat) (l : List Nat) (j : Nat) (h : j < l.length) : okB X l (j + 1) = (okB X l j && X % l[j] != 0) := by
  unfold okB
  rw [List.take_succ_eq_append_getElem h, List.all_append]
  simp
theorem okB_all (X : Nat) (l : List Nat) : okB X l l.length = l.all fun p => X % p != 0 := by unfold okB; rw [List.take_length]
def Pr1 (w : World) (n : Nat) (f : Nat) (l x : Value) (wr : World) : Prop :=
  ∃ (k X L : Nat) (pa : Option Addr) (pc : Nat), f + k = 311 ∧ X = k + 2 ∧ L = (ps k).length ∧ L ≤ n ∧ l = .slice pa L pc ∧ x = .int .u64 (X : Int) ∧ Own wr w.heap.size 94 1 pa (ps k).length pc ((ps k).map nv) ∧ Below w.heap.size w wr
def Pr2 (wq : World) (X : Nat) (l : List Nat) (f : Nat) (ok i : Value) (wr : World) : Prop :=
  ∃ j : Nat, f + j = l.length ∧ i = .int .i64 (j : Int) ∧ ok = .bool (okB X l j) ∧ wq = wr
set_option maxHeartbeats 1000000 in
set_option maxRecDepth 40000 in
theorem rprimes_any (n : Nat) (w : World) (hn : n ≤ 64) :
    Calls Try.prog 68 #[.int .i64 (n : Int)] w fun e w' => ∃ k a c, (ps k).length = n ∧ e = .returned (.slice a n c) ∧ Own w' w.heap.size 94 1 a n c ((ps k).map nv) ∧ Below w.heap.size w w' := by
  go_enter Try.func68, Try.ntmps68
  go_wp2_with fail
  go_loopg [3, 4] 311 (Pr1 w n)
  case atStart => exact ⟨0, 2, 0, none, 0, by omega, rfl, rfl, by omega, rfl, rfl, Own.nil _ _ _ _, Below.refl _ _⟩
  case round =>
    obtain ⟨k, X, L, pa, pc, hf, hX, hL, hLn, rfl, rfl, hown, hb⟩ := hrel
    have hpm := hown.le_max
    rw [← hL] at hpm
    unfold maxLen at hpm
    have hln : L ≤ k := by rw [hL]; exact ps_len k
    by_cases hlt : L < n
    · have tl : decide (L < n) = true := by simpa using hlt
      have hk : k < 310 := ps_lt (by omega)
      have hXl : X < 65536 := by omega
      have HF := Lib.hid hf
      have HX := Lib.hid hX
      have HL := Lib.hid hL
      clear hf hX hL
      obtain ⟨g0, rfl⟩ : ∃ g : Nat, g = gk := ⟨_, rfl⟩
      obtain ⟨wo, rfl⟩ : ∃ wo : World, wo = wr := ⟨_, rfl⟩
      go_wp2_with fail
      go_loopg [5, 6] L (Pr2 wo X (ps k))
      case atStart => exact ⟨0, by rw [← HL.out]; omega, rfl, rfl, rfl⟩
      case round =>
        obtain ⟨j, hf, rfl, rfl, rfl⟩ := hrel
        have hlen := HL.out
        by_cases hj : j < L
        · have tj : decide (j < L) = true := by simpa using hj
          have hjl : j < (ps k).length := by rw [← hlen]; exact hj
          obtain ⟨b, o, hpa, hc⟩ := hown.row j (by simpa using hjl)
          subst hpa
          obtain ⟨p, hp⟩ : ∃ p, p = (ps k)[j] := ⟨_, rfl⟩
          have hc' : wo.cell? ⟨b, o + j, none⟩ = some (.int .u64 (p : Int)) := by
            rw [hc, hp]; simp [nv]
          have hp2 : 2 ≤ p := by rw [hp]; exact (ps_two k _ (List.getElem_mem _)).1
          have hp2I : (2 : Int) ≤ (p : Int) := by omega
          have HS := Lib.hid (okB_succ X (ps k) j hjl)
          have HP := Lib.hid hp
          have HF2 := Lib.hid hf
          have HC := Lib.hid hlen
          clear hc hp hf hlen
          have td : ((X : Int) % (p : Int) != 0) = (X % p != 0) := by
            rw [Bool.eq_iff_iff]; simp; omega
          have fin : ∀ c : Bool, (okB X (ps k) j && X % p != 0) = c → Value.bool c = .bool (okB X (ps k) (j + 1)) := fun c h => by rw [HS.out, ← HP.out, h]
          have FIN := Lib.hid fin
          clear fin
          cases hok : okB X (ps k) j with
          | true =>
            cases hd : (X % p != 0) with
            | true =>
              rw [hd] at td
              have HQ := Lib.hid (FIN.out true (by rw [hok, hd]; rfl))
              clear hok hd
              go_wp2_with fail
              go_roundg (gk - 1)
              case rel => exact ⟨j + 1, by have := HF2.out; omega, by go_num, HQ.out, rfl⟩
              case measure => have hf := HF2.out; have := HC.out; omega
            | false =>
              rw [hd] at td
              have HQ := Lib.hid (FIN.out false (by rw [hok, hd]; rfl))
              clear hok hd
              go_wp2_with fail
              go_roundg (gk - 1)
              case rel => exact ⟨j + 1, by have := HF2.out; omega, by go_num, HQ.out, rfl⟩
              case measure => have hf := HF2.out; have := HC.out; omega
          | false =>
            have HQ := Lib.hid (FIN.out false (by rw [hok]; rfl))
            clear hok td
            go_wp2_with fail
            go_roundg (gk - 1)
            case rel => exact ⟨j + 1, by have := HF2.out; omega, by go_num, HQ.out, rfl⟩
            case measure => have hf := HF2.out; have := HC.out; omega
        · have tj : decide (j < L) = false := by simpa using hj
          have hall : okB X (ps k) j = (ps k).all fun p => X % p != 0 := by rw [show j = (ps k).length by omega, okB_all]
          have hstep : ps (k + 1) = if okB X (ps k) j then ps k ++ [X] else ps k := by
            have hX := HX.out
            rw [hall, ps, psStep, ← hX]
          have hsz := hb.size
          have HST := Lib.hid hstep
          clear hall hf hlen hstep
          cases hok : okB X (ps k) j with
          | true =>
            have HE := Lib.hid (show ps (k + 1) = ps k ++ [X] by rw [HST.out, hok]; rfl)
            clear hok
            have hown1 := hown
            rw [← HL.out] at hown1
            clear hown
            go_wp2_with (at_builtin; refine wpList_append_row rfl (.tmp 30) (.tmp 32) 126 rfl u64sT rfl (hown1.alloc _) rfl (RowAt.new' _ _ _ _ (by simp)) (by rfl) (by exact all_one _ rfl) (by unfold maxLen; omega) (by omega) (by simp; omega) ?_)
            intro pa' pc' w4 hown4 hg4
            have hb4 := (hown1.alloc (.cells #[Value.int .u64 (X : Int)] 94)).grown (hb.alloc hsz _) (Nat.le_refl _) hg4 (by simp; omega)
            clear hown1 hg4 hb
            go_wp2_with fail
            go_roundg (g0 - 1)
            case rel =>
              have hf := HF.out
              have hX := HX.out
              have e := HE.out
              have el : (ps (k + 1)).length = L + 1 := by rw [e, List.length_append, ← HL.out]; rfl
              refine ⟨k + 1, X + 1, L + 1, pa', pc', by omega, by omega, el.symm, by omega, rfl, by go_num, ?_, hb4⟩
              rw [el, e, List.map_append]; exact hown4
            case measure => have hf := HF.out; omega
          | false =>
            have HE := Lib.hid (show ps (k + 1) = ps k by rw [HST.out, hok]; rfl)
            clear hok
            go_wp2_with fail
            go_roundg (g0 - 1)
            case rel =>
              have hf := HF.out
              have hX := HX.out
              exact ⟨k + 1, X + 1, L, _, _, by omega, by omega, by rw [HE.out]; exact HL.out, hLn, rfl, by go_num, by rw [HE.out]; exact hown, hb⟩
            case measure => have hf := HF.out; omega
    · have tl : decide (L < n) = false := by simpa using hlt
      obtain rfl : L = n := by omega
      have HL := Lib.hid hL
      clear hf hX hL
      go_wp2_with fail
      go_ret
      refine ⟨k, pa, pc, HL.out.symm, rfl, ?_, hb⟩
      have := hown
      rw [← HL.out] at this
      exact this
end Go.Proofs.Ytdokkhjgmhcpkaa
