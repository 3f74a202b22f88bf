/- The walks through the document's disk: looking a file up, copies. -/
import Derived.Test.YtnojeiklgjhkgaaRDMem
import Derived.Test.YtnojeiklgjhkgaaKept
namespace Go.Proofs.Ytnojeiklgjhkgaa
open Go.RowKit Go.Maps
set_option linter.unusedVariables false
set_option linter.unusedSimpArgs false

theorem run_cut_to {P : Program} {t e : TypeId} (ht : P.underlying t = some (.slice e)) (hsz : (P.info? e).map (·.size) = some 1) (a : Option Addr) (n c k : Nat) (hk : k ≤ c) (W : World) :
    (Instr.sliceAt t (.slice a n c) none (some (.int .i64 (k : Int))) none).run P W = .ok (.slice a k c) W := by
  have he : P.elem t = e := by simp [Program.elem, ht]
  rw [run_sliceAt_slice W t _ _ _ _ (by rw [he]; exact ht)]
  rw [run_slice_h W t a n c (by rw [he]; exact ht) .i64 (k : Int) (by omega) (by omega), he]
  have hs : (sizeOf e).run P W = .ok 1 W := by
    cases hq : P.info? e with
    | none => simp [hq] at hsz
    | some i => simp [hq] at hsz; simp [sizeOf, typeInfo, hq, hsz]
  rw [hs]
  cases a <;> simp [sliced, Addr.add]
theorem rfind_any (w : World) (B : Nat) (r : RefR) (nm : Name) (h : RefAt w B r) : Calls Try.prog 70 #[.pointer (some ⟨r.d, 0, none⟩), .string nm] w fun e w' => e = .returned (.int .i64 (placeI r.fs nm)) ∧ w' = w := by
  have hb := h.blk.rule
  unfold refHead at hb
  have hcnt : r.fs.length ≤ 64 := by have := h.ok.count; simpa [RefR.p] using this
  go_enter Try.func70, Try.ntmps70
  go_wp2_with fail
  go_loopg [5] r.fs.length (fun f i wr => wr = w ∧ ∃ k : Nat, k + f = r.fs.length ∧ i = .int .i64 (k : Int) ∧ Hid (∀ j (hj : j < r.fs.length), j < k → r.fs[j].nm ≠ nm))
  case atStart => exact ⟨rfl, 0, by omega, rfl, Lib.hid (fun j hj h => by omega)⟩
  case round =>
    obtain ⟨rfl, k, hk, rfl, hno⟩ := hrel
    by_cases hlt : k < r.fs.length
    · obtain ⟨g, hg, c0, c1, c2⟩ := h.elem k hlt
      rw [hg] at hb
      have HG := Lib.hid hg
      clear hg c1 c2
      by_cases he : r.fs[k].nm = nm
      · have t0 : (r.fs[k].nm.toList == nm.toList) = true := by rw [beq_name]; simp [he]
        have HP := Lib.hid (place_some hlt he (fun j hj hjk => hno.out j hj hjk))
        have HE := Lib.hid he
        clear he
        generalize r.fs[k].nm = nk at *
        go_wp2_with fail
        go_ret
        exact ⟨by rw [HP.out]; first | rfl | simp, rfl⟩
      · have t0 : (r.fs[k].nm.toList == nm.toList) = false := by rw [beq_name]; simp [he]
        have HE := Lib.hid he
        clear he
        have HN : Hid (∀ j (hj : j < r.fs.length), j < k + 1 → r.fs[j].nm ≠ nm) := Lib.hid fun j hj hjk => by
          rcases Nat.lt_or_eq_of_le (Nat.le_of_lt_succ hjk) with q | q
          · exact hno.out j hj q
          · subst q; exact HE.out
        generalize r.fs[k].nm = nk at *
        go_wp2_with fail
        go_roundg (gk - 1)
        case measure => omega
        case rel => exact ⟨rfl, k + 1, by omega, by go_num, HN⟩
    · have hke : k = r.fs.length := by omega
      have HP := Lib.hid (place_none (fs := r.fs) (nm := nm) (fun f hf => by
        obtain ⟨j, hj, rfl⟩ := List.getElem_of_mem hf
        exact hno.out j hj (by omega)))
      go_wp2_with fail
      go_ret
      exact ⟨by rw [HP.out]; first | rfl | simp, rfl⟩
/-- A file's place, and what is wrong. -/
def atI (p : RefR) (nm : Name) : Int := if p.down then -1 else placeI p.fs nm
def atE (p : RefR) (nm : Name) : Int := if p.down then 5 else if placeI p.fs nm < 0 then 4 else 0
set_option maxHeartbeats 1000000 in
theorem rat_any (w : World) (B : Nat) (r : RefR) (nm : Name) (h : RefAt w B r) : Calls Try.prog 65 #[.pointer (some ⟨r.d, 0, none⟩), .string nm] w fun e w' => e = .returned (.tuple #[.int .i64 (atI r nm), .int .i64 (atE r nm)]) ∧ w' = w := by
  have hb := h.blk.rule
  unfold refHead at hb
  have hf := rfind_any w B r nm h
  cases hdn : r.down with
  | true =>
    rw [hdn] at hb
    have HI := Lib.hid (show atI r nm = -1 by unfold atI; rw [if_pos hdn])
    have HE := Lib.hid (show atE r nm = 5 by unfold atE; rw [if_pos hdn])
    have HD := Lib.hid hdn
    clear hdn
    go_enter Try.func65, Try.ntmps65
    go_wp2_with fail
    go_ret2
    exact ⟨by rw [HI.out, HE.out]; first | rfl | simp, rfl⟩
  | false =>
    rw [hdn] at hb
    have HI := Lib.hid (show atI r nm = placeI r.fs nm by unfold atI; rw [if_neg (by simp [hdn])])
    have HE := Lib.hid (show atE r nm = if placeI r.fs nm < 0 then 4 else 0 by unfold atE; rw [if_neg (by simp [hdn])])
    have HD := Lib.hid hdn
    clear hdn
    by_cases hp : placeI r.fs nm < 0
    · have t0 : decide (placeI r.fs nm < 0) = true := by simp [hp]
      have HP := Lib.hid hp
      clear hp
      go_enter Try.func65, Try.ntmps65
      go_wp2_with fail
      refine hf.mono ?_
      rintro e w' ⟨rfl, rfl⟩
      go_wp2_with fail
      go_ret2
      exact ⟨by rw [HI.out, HE.out, if_pos HP.out]; first | rfl | simp, rfl⟩
    · have t0 : decide (placeI r.fs nm < 0) = false := by simpa using hp
      have HP := Lib.hid hp
      clear hp
      go_enter Try.func65, Try.ntmps65
      go_wp2_with fail
      refine hf.mono ?_
      rintro e w' ⟨rfl, rfl⟩
      go_wp2_with fail
      go_ret2
      exact ⟨by rw [HI.out, HE.out, if_neg (by have := HP.out; omega)]; first | rfl | simp, rfl⟩
/-- What 'at' tells, by cases. -/
theorem at_cases (r : RefR) (nm : Name) : (r.down = true ∧ atI r nm = -1 ∧ atE r nm = 5) ∨ (r.down = false ∧ (∀ f ∈ r.fs, f.nm ≠ nm) ∧ atI r nm = -1 ∧ atE r nm = 4 ∧ findP r.p nm = none) ∨
    ∃ k, ∃ hk : k < r.fs.length, r.down = false ∧ r.fs[k].nm = nm ∧ atI r nm = (k : Int) ∧ atE r nm = 0 ∧ findP r.p nm = some r.fs[k].p := by
  cases hd : r.down with
  | true => exact .inl ⟨rfl, by simp [atI, hd], by simp [atE, hd]⟩
  | false =>
    rcases place_cases r.fs nm with ⟨k, hk, h1, h2, h3⟩ | ⟨h1, h2, h3⟩
    · exact .inr (.inr ⟨k, hk, rfl, h1, by simp [atI, hd, h2], by simp [atE, hd, h2], h3⟩)
    · exact .inr (.inl ⟨rfl, h1, by simp [atI, hd, h2], by simp [atE, hd, h2], h3⟩)
theorem rnamed_any (s : ByteArray) (w : World) : Calls Try.prog 69 #[.string s] w fun e w' => e = .returned (.bool (okName s)) ∧ w' = w := by
  have hk : okName s = (decide (1 ≤ s.size) && decide (s.size ≤ 40)) := by
    unfold okName
    congr 1
    rw [decide_eq_decide]; omega
  rw [hk]
  clear hk
  by_cases h1 : 1 ≤ s.size
  · by_cases h2 : s.size ≤ 40
    · go_enter Try.func69, Try.ntmps69
      go_wp2_with fail
      go_ret
      exact ⟨by simp [h1, h2]; omega, rfl⟩
    · go_enter Try.func69, Try.ntmps69
      go_wp2_with fail
      go_ret
      exact ⟨by simp [h1, h2]; omega, rfl⟩
  · go_enter Try.func69, Try.ntmps69
    go_wp2_with fail
    go_ret
    exact ⟨by simp [h1], rfl⟩
theorem rcopied_any (a : Option Addr) (len cap : Nat) (l : List UInt8) (w : World) (hl : BytesAt w a l) (hlen : l.length = len) (hm : len ≤ 140737488351232) :
    Calls Try.prog 64 #[.slice a len cap] w fun e w' => ∃ a' c', e = .returned (.slice a' len c') ∧ Own w' w.heap.size 5 1 a' len c' (l.map bv) ∧ Below w.heap.size w w' := by
  have HL := Lib.hid hlen
  clear hlen
  have hown : Own w w.heap.size 5 1 none 0 0 [] := Own.nil _ _ _ _
  go_enter Try.func64, Try.ntmps64
  go_wp2_with (at_builtin; refine wpList_append_row rfl _ _ 22 rfl bytesT rfl hown rfl hl (by rw [List.length_map, HL.out, Nat.mul_one]) (bv_one _) (by unfold maxLen; omega) (by omega) (Nat.le_refl _) ?_)
  intro a1 c1 w1 hown1 hg1
  go_wp2_with fail
  go_ret
  refine ⟨a1, c1, ?_, ?_, hown.grown (Below.refl _ _) (Nat.le_refl _) hg1 (Nat.le_refl _)⟩
  · first | rfl | simp
  · simpa using hown1
theorem rpieces_any (a : Option Addr) (len cap : Nat) (l : PlanP) (w : World) (hl : RowAt w a (l.flatMap pieceV)) (hlen : l.length = len) (hm : len * 24 ≤ 140737488355328) :
    Calls Try.prog 68 #[.slice a len cap] w fun e w' => ∃ a' c', e = .returned (.slice a' len c') ∧ Own w' w.heap.size 87 2 a' len c' (l.flatMap pieceV) ∧ Below w.heap.size w w' := by
  have HL := Lib.hid hlen
  clear hlen
  have hown : Own w w.heap.size 87 2 none 0 0 [] := Own.nil _ _ _ _
  go_enter Try.func68, Try.ntmps68
  go_wp2_with (at_builtin; refine wpList_append_row rfl _ _ 42 rfl planT rfl hown rfl hl (by rw [piecesLen, HL.out]) (pieces_one _) (by unfold maxLen; omega) (by omega) (Nat.le_refl _) ?_)
  intro a1 c1 w1 hown1 hg1
  go_wp2_with fail
  go_ret
  refine ⟨a1, c1, ?_, ?_, hown.grown (Below.refl _ _) (Nat.le_refl _) hg1 (Nat.le_refl _)⟩
  · first | rfl | simp
  · simpa using hown1
end Go.Proofs.Ytnojeiklgjhkgaa
