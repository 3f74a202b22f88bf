/- A log on a disk of one file, in plain words: what stands behind a crash. -/
import Derived.Test.YtnojeiklgjhkgaaLogDisk
import Derived.Test.YtnojeiklgjhkgaaLogPieces
namespace Go.Proofs.Ytnojeiklgjhkgaa
open Go.RowKit
set_option linter.unusedVariables false

def nmLog : Name := ⟨#[108, 111, 103]⟩
/-- A disk of one file. -/
def oneF (nm : Name) (b : List UInt8) (s : Nat) : DiskP := ⟨[⟨nm, b, s⟩], false, false, 0, []⟩
theorem find_one (nm : Name) (b : List UInt8) (s : Nat) : findP (oneF nm b s) nm = some ⟨nm, b, s⟩ := by simp [findP, oneF]
theorem read_one (nm : Name) (b : List UInt8) (s : Nat) : readP (oneF nm b s) nm = (b, 0) := by unfold readP; rw [find_one]; rfl
theorem sync_one (nm : Name) (b : List UInt8) (s : Nat) : syncP (oneF nm b s) nm = (oneF nm b b.length, 0) := by
  unfold syncP mayP
  rw [find_one]
  simp [oneF, goesP, updP, updF]
theorem cut_one (nm : Name) (b : List UInt8) (s n : Nat) (hn : n ≤ b.length) : cutP (oneF nm b s) nm (n : Int) = (oneF nm (b.take n) n, 0) := by
  unfold cutP mayP
  rw [find_one]
  have : ¬ ((n : Int) < 0 ∨ (b.length : Int) < (n : Int)) := by omega
  simp [oneF, updP, updF]
  omega
theorem append_one (nm : Name) (b l : List UInt8) (s : Nat) (h : b.length + l.length ≤ 1048576) : appendP (oneF nm b s) nm l = (oneF nm (b ++ l) s, 0) := by
  unfold appendP mayP
  rw [find_one]
  have : ¬ maxFileN - b.length < l.length := by unfold maxFileN; omega
  simp [oneF, goesP, updP, updF, this]
theorem crash_one (nm : Name) (b : List UInt8) (s : Nat) (hs : s ≤ b.length) (plan : PlanP) : ∃ c, s ≤ c ∧ c ≤ b.length ∧ (openP (crashAll (oneF nm b s) plan).1).1 = oneF nm (b.take c) c := by
  refine ⟨s + keepN plan ⟨nm, b, s⟩, by omega, keepN_le plan ⟨nm, b, s⟩ hs, ?_⟩
  simp [crashAll, oneF, crashP, openP, crashF]
/-- A log is opened on a disk of one file. -/
theorem open_one (nm : Name) (b : List UInt8) (s : Nat) {ls : List (List UInt8)} {rest : List UInt8} (h : scan most b = (ls, rest)) : openE (oneF nm b s) nm = 0 ∧ openB (oneF nm b s) nm = (ls, rest) ∧ openN (oneF nm b s) nm = rest.length ∧
    openD (oneF nm b s) nm = oneF nm (b.take (b.length - rest.length)) (b.length - rest.length) := by
  have hB : openB (oneF nm b s) nm = (ls, rest) := by unfold openB; rw [read_one]; exact h
  have hM : openMk (oneF nm b s) nm = (oneF nm b s, 0) := by unfold openMk; rw [read_one]; rfl
  have hC : openCut (oneF nm b s) nm = (if rest.length = 0 then oneF nm b s else oneF nm (b.take (b.length - rest.length)) (b.length - rest.length), 0) := by
    unfold openCut
    rw [hB, hM, read_one]
    by_cases h0 : rest.length = 0
    · rw [if_pos h0, if_pos h0]
    · rw [if_neg h0, if_neg h0]
      exact cut_one nm b s (b.length - rest.length) (Nat.sub_le _ _)
  have hS : openSync (oneF nm b s) nm = (oneF nm (b.take (b.length - rest.length)) (b.length - rest.length), 0) := by
    unfold openSync
    rw [hC]
    by_cases h0 : rest.length = 0
    · simp only [if_pos h0, sync_one]
      rw [h0, Nat.sub_zero, List.take_length]
    · simp only [if_neg h0, sync_one]
      rw [show (b.take (b.length - rest.length)).length = b.length - rest.length by rw [List.length_take]; omega]
  have hE : openE (oneF nm b s) nm = 0 := by rw [(openE_sync (by rw [hM]) (by rw [hC])).1, hS]
  exact ⟨hE, hB, by unfold openN; rw [if_pos hE, hB], by rw [(openE_sync (by rw [hM]) (by rw [hC])).2, hS]⟩
theorem open_new : openE wk0 nmLog = 0 ∧ openB wk0 nmLog = ([], []) ∧ openD wk0 nmLog = oneF nmLog [] 0 := by
  have hr : readP wk0 nmLog = ([], 4) := rfl
  have hB : openB wk0 nmLog = ([], []) := by unfold openB; rw [hr]; exact scan_stop (scans_short (by simp))
  have hM : openMk wk0 nmLog = (oneF nmLog [] 0, 0) := by unfold openMk; rw [hr]; rfl
  have hC : openCut wk0 nmLog = (oneF nmLog [] 0, 0) := by unfold openCut; rw [hB, hM]; rfl
  have hS : openSync wk0 nmLog = (oneF nmLog [] 0, 0) := by unfold openSync; rw [hC, sync_one]; rfl
  have h := openE_sync (p := wk0) (nm := nmLog) (by rw [hM]) (by rw [hC])
  exact ⟨by rw [h.1, hS], hB, by rw [h.2, hS]⟩
/-- How many records are whole in a beginning. -/
theorem whole_in (ls : List (List UInt8)) (cut : Nat) (hc : cut ≤ (records ls).length) : ∃ k, k ≤ ls.length ∧ (records (ls.take k)).length ≤ cut ∧ (k < ls.length → cut < (records (ls.take (k + 1))).length) := by
  have go : ∀ n, n ≤ ls.length → (records (ls.take (ls.length - n))).length ≤ cut → ∃ k, k ≤ ls.length ∧ (records (ls.take k)).length ≤ cut ∧ (k < ls.length → cut < (records (ls.take (k + 1))).length) := by
    intro n
    induction n with
    | zero => intro _ h; exact ⟨ls.length, Nat.le_refl _, by simpa using h, fun h => by omega⟩
    | succ n ih =>
      intro hn h
      by_cases h2 : (records (ls.take (ls.length - n))).length ≤ cut
      · exact ih (by omega) h2
      · exact ⟨ls.length - (n + 1), by omega, h, fun _ => by rw [show ls.length - (n + 1) + 1 = ls.length - n by omega]; omega⟩
  exact go ls.length (Nat.le_refl _) (by simp [records])
theorem records_mono (ls : List (List UInt8)) {i j : Nat} (h : i ≤ j) : (records (ls.take i)).length ≤ (records (ls.take j)).length := by
  have e : ls.take j = ls.take i ++ (ls.drop i).take (j - i) := by
    rw [← List.take_add, Nat.add_sub_cancel' h]
  rw [e, records_append, List.length_append]
  omega
theorem records_take_le (ls : List (List UInt8)) (i : Nat) : (records (ls.take i)).length ≤ (records ls).length := by
  conv => rhs; rw [← List.take_append_drop i ls]
  rw [records_append, List.length_append]; omega
/-- Behind a crash: a beginning of what was put, all that was sure among it. -/
theorem behind (put : List (List UInt8)) (hf : Fair put) (hn : put.length ≤ 4096) (sn c : Nat) (hsn : sn ≤ put.length) (h1 : (records (put.take sn)).length ≤ c) (h2 : c ≤ (records put).length) :
    ∃ k, sn ≤ k ∧ k ≤ put.length ∧ openE (oneF nmLog ((records put).take c) c) nmLog = 0 ∧ (openB (oneF nmLog ((records put).take c) c) nmLog).1 = put.take k ∧
      openD (oneF nmLog ((records put).take c) c) nmLog = oneF nmLog (records (put.take k)) (records (put.take k)).length := by
  obtain ⟨k, hk, k1, k2⟩ := whole_in put c h2
  have hsc := scan_cut most put c k hf (by rw [most_is]; exact hn) hk k1 k2
  obtain ⟨q1, q2, q3, q4⟩ := open_one nmLog ((records put).take c) c hsc
  have hlt : ((records put).take c).length = c := by rw [List.length_take]; omega
  have hrl : (((records put).take c).drop (records (put.take k)).length).length = c - (records (put.take k)).length := by rw [List.length_drop, hlt]
  refine ⟨k, ?_, hk, q1, by rw [q2], ?_⟩
  · rcases Nat.lt_or_ge k sn with hlt | hge
    · have g1 := k2 (by omega)
      have g2 := records_mono put (show k + 1 ≤ sn by omega)
      omega
    · exact hge
  · rw [q4, hrl, hlt, show c - (c - (records (put.take k)).length) = (records (put.take k)).length by omega, List.take_take, Nat.min_eq_left k1]
    have e0 : records put = records (put.take k) ++ records (put.drop k) := by rw [← records_append, List.take_append_drop]
    have e1 : (records put).take (records (put.take k)).length = records (put.take k) := by rw [e0, List.take_left]
    rw [e1]
theorem again (ls : List (List UInt8)) (hf : Fair ls) (hn : ls.length ≤ 4096) (s : Nat) : openE (oneF nmLog (records ls) s) nmLog = 0 ∧ openB (oneF nmLog (records ls) s) nmLog = (ls, []) ∧ openN (oneF nmLog (records ls) s) nmLog = 0 := by
  have hsc := scan_records most ls [] hf (by rw [most_is]; exact hn)
  have e0 : scan (most - ls.length) [] = ([], []) := scan_stop (scans_short (by simp))
  rw [List.append_nil, e0] at hsc
  simp only [List.append_nil] at hsc
  obtain ⟨q1, q2, q3, q4⟩ := open_one nmLog (records ls) s hsc
  exact ⟨q1, q2, q3⟩
end Go.Proofs.Ytnojeiklgjhkgaa
