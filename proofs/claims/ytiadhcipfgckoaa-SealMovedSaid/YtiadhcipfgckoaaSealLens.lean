/- How long bytes are together. -/
import Derived.Test.YtiadhcipfgckoaaSealWakes
namespace Go.Proofs.Ytiadhcipfgckoaa
open Go.RowKit

/-- A row of slices, of which only the lengths count. -/
def LensAt (w : World) (a : Option Addr) (ns : List Nat) : Prop := ∀ j (h : j < ns.length), ∃ b o A C, a = some ⟨b, o, none⟩ ∧ w.cell? ⟨b, o + j, none⟩ = some (.slice A ns[j] C)
theorem take_sum (ns : List Nat) (t : Nat) (h : t < ns.length) : (ns.take (t + 1)).sum = (ns.take t).sum + ns[t] := by
  rw [List.take_succ_eq_append_getElem h, List.sum_append]
  simp
theorem take_sum_le (ns : List Nat) (hs : ∀ m ∈ ns, m ≤ 140737488355328) : ∀ t, t ≤ ns.length → (ns.take t).sum ≤ t * 140737488355328
  | 0, _ => by simp
  | t + 1, h => by
    rw [take_sum ns t (by omega)]
    have := take_sum_le ns hs t (by omega)
    have := hs ns[t] (List.getElem_mem _)
    omega
def Lo1 (w : World) (ns : List Nat) (f : Nat) (x i : Value) (wr : World) : Prop :=
  ∃ t S : Nat, f + t = ns.length ∧ S = (ns.take t).sum ∧ x = .int .i64 (S : Int) ∧ i = .int .i64 (t : Int) ∧ w = wr
set_option maxHeartbeats 400000 in
set_option maxRecDepth 40000 in
theorem long_any (ns : List Nat) (a : Option Addr) (n c : Nat) (w : World) (hr : LensAt w a ns) (hn : ns.length = n) (hn4 : n ≤ 4) (hs : ∀ m ∈ ns, m ≤ 140737488355328) :
    Calls Try.prog 7 #[.slice a n c] w fun e w' => e = .returned (.bool (decide (2000 < ns.sum))) ∧ w = w' := by
  have HN := Lib.hid hn
  have HS := Lib.hid hs
  clear hn hs
  go_enter Try.func7, Try.ntmps7
  go_wp2_with fail
  go_loopg [3, 4] n (Lo1 w ns)
  case atStart => exact ⟨0, 0, by rw [HN.out]; omega, by simp, rfl, rfl, rfl⟩
  case round =>
    obtain ⟨t, S, hf, hS, rfl, rfl, rfl⟩ := hrel
    have hfn := HN.out
    have hSl := take_sum_le ns HS.out t (by omega)
    rw [← hS] at hSl
    by_cases ht : t < n
    · have tt : decide (t < n) = true := by simpa using ht
      obtain ⟨b, o, A, C, rfl, hc⟩ := hr t (by omega)
      obtain ⟨m, hm⟩ : ∃ m, m = ns[t] := ⟨_, rfl⟩
      rw [← hm] at hc
      have hml : m ≤ 140737488355328 := by rw [hm]; exact HS.out _ (List.getElem_mem _)
      have HF := Lib.hid hf
      have HQ := Lib.hid (show S + m = (ns.take (t + 1)).sum by rw [take_sum ns t (by omega), ← hS, ← hm])
      clear hf hS hm hfn
      go_wp2_with fail
      go_roundg (gk - 1)
      case rel => exact ⟨t + 1, S + m, by have := HF.out; have := HN.out; omega, HQ.out, by go_num, by go_num, rfl⟩
      case measure => have := HF.out; have := HN.out; omega
    · have tt : decide (t < n) = false := by simpa using ht
      have hSS : S = ns.sum := by rw [hS, List.take_of_length_le (by omega)]
      have HSS := Lib.hid hSS
      clear hf hS hfn hSS
      go_wp2_with fail
      go_ret
      have e3 : decide ((2000 : Int) < (S : Int)) = decide (2000 < S) := by rw [decide_eq_decide]; omega
      exact ⟨by rw [← HSS.out, ← e3]; rfl, rfl⟩
end Go.Proofs.Ytiadhcipfgckoaa
