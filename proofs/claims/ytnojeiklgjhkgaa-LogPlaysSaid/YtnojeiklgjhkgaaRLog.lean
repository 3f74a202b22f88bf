/- The walks through the document's log: Append, Sync, Read, Open. -/
import Derived.Test.YtnojeiklgjhkgaaRLogMem
namespace Go.Proofs.Ytnojeiklgjhkgaa
open Go.RowKit Go.Maps
set_option linter.unusedVariables false
set_option linter.unusedSimpArgs false

theorem bytesTq : RowType Try.prog 22 5 1 1 := RowType.mk (z := .int .u8 0) Try.underlying22 (by kernel_rfl) rfl (by omega)
def RLAppRes (B : Nat) (w : World) (r : RefR) (R : LogR) (l : List UInt8) (e : Ending) (w' : World) : Prop :=
  e = .returned (.tuple #[.int .i64 (lappI r.p R l), .int .i64 (lappE r.p R l)]) ∧ ∃ r' R', r'.p = lappD r.p R l ∧ R'.ls = lappL r.p R l ∧ R'.sure = R.sure ∧ RLStep B w r R w' r' R'
set_option maxRecDepth 20000 in
set_option maxHeartbeats 4000000 in
theorem rlappend_any (w : World) (B : Nat) (r : RefR) (R : LogR) (h : RDL w B r R) (hB : B ≤ w.heap.size) (a : Option Addr) (len cap : Nat) (l : List UInt8) (hl : BytesAt w a l) (hlen : l.length = len) (hna : l ≠ [] → ∀ ad, a = some ad → ¬ (rfoot r ad.block ∨ qfoot R ad.block)) :
    Calls Try.prog 42 #[.pointer (some ⟨R.l, 0, none⟩), .slice a len cap] w fun e w' => RLAppRes B w r R l e w' := by
  have HL := Lib.hid hlen
  have hrec := ref_record_all a len cap l w hl hlen
  clear hlen
  have hb0 := h.log.blk.rule
  by_cases he : recErr l.length = 0
  · rw [← HL.out, he] at hrec
    have HO := Lib.hid (recErr_ok he)
    by_cases hfull : 4096 ≤ R.ls.length
    · have HC := Lib.hid (lapp_full (p := r.p) he hfull)
      have t0 : decide ((4096 : Int) ≤ (R.ls.length : Int)) = true := by simp; omega
      clear he hfull
      go_enter Try.func42, Try.ntmps42
      go_wp2_with fail
      rw [HL.out] at hrec
      refine hrec.mono ?_
      clear hrec
      rintro e w1 ⟨a1, n1, c1, rfl, hr1, hn1, hb1⟩
      have h1 := h.old hb1
      have hb1' := h1.log.blk.rule
      clear hb0
      go_wp2_with fail
      go_ret2
      obtain ⟨c1, c2, c3, c4⟩ := HC.out
      exact ⟨by rw [c1, c2]; first | rfl | simp, r, R, c3.symm, c4.symm, rfl, RLStep.old h hb1⟩
    · have t0 : decide ((4096 : Int) ≤ (R.ls.length : Int)) = false := by simp; omega
      have HF := Lib.hid hfull
      have HE := Lib.hid he
      clear he hfull
      go_enter Try.func42, Try.ntmps42
      go_wp2_with fail
      rw [HL.out] at hrec
      refine hrec.mono ?_
      clear hrec
      rintro e w1 ⟨a1, n1, c1, rfl, hr1, hn1, hb1⟩
      rw [HO.out.2.2] at hr1 hn1
      have h1 := h.old hb1
      have hb1' := h1.log.blk.rule
      have hsz1 := hb1.size
      have hsz1' : B ≤ w1.drew.heap.size := Nat.le_trans hB hsz1
      have h1d : RDL w1.drew B r R := h1.keep fun _ _ => rfl
      have HN1 := Lib.hid hn1
      have hn1m : n1 ≤ maxLen := by have := HO.out.2.1; rw [← hn1, record_length]; unfold maxLen; omega
      clear hb0 hn1
      go_wp2_with fail
      have hkl : ∀ W, KeepAt (fun x => x = R.l) w1.drew W → Blk W R.l #[.pointer (some ⟨r.d, 0, none⟩), .string R.nm, .slice R.a R.ls.length R.c, .int .i64 (R.sure : Int)] 63 := fun W hW => (hW.2 R.l rfl).trans h1.log.blk
      have l0 := fun W (hW : KeepAt (fun x => x = R.l) w1.drew W) => (hkl W hW).rule
      clear hb1'
      refine wp_region_treeR false (KeepAt (fun x => x = R.l)) (KeepAt.refl _) (fun _ _ _ h1 h2 => KeepAt.trans h1 h2) (.step 0 (.step 1 (.step 2 (.step 3 (.step 4 (.step 5 (.step 6 (.step 7 (.step 8 (.step 9 (.step 10 .done))))))))))) (by kernel_rfl) (by kernel_rfl) (fun c a d v w h => by cases d <;> exact h) ?_
      repeat (first | (refine tree_skip rfl (by rfl) ?_; simp only [Act.put, List.setIfInBounds_toArray, List.set]) | (refine tree_quiet (v := ?_) rfl rfl (by rfl) ?_ ?_; rotate_left; (intro W hW; go_simp); (try with_reducible rfl); simp only [Act.put, List.setIfInBounds_toArray, List.set]))
      refine tree_loud rfl rfl (by rfl) (fun K hK => ?_); go_wp2_with fail
      refine (rappend_any w1.drew B r R.nm (h1.disk.keep fun _ _ => rfl) hsz1' a1 n1 c1 (record l) (hr1.drew) HN1.out hn1m).mono ?_
      rintro e w2 ⟨rfl, r2, hr2, hs2⟩
      have hs12 : RLStep B w1.drew r R w2 r2 R := RStep.log hs2 h1d
      refine hK _ _ ⟨hs2.turn.size, fun x hx => by subst hx; exact hs2.turn.block R.l h1.log.blk.lt (h1.apart R.l (.inl rfl))⟩ ?_
      clear hK K l0 hkl
      repeat (first | (refine tree_skip rfl (by rfl) ?_; simp only [Act.put, List.setIfInBounds_toArray, List.set]) | (refine tree_quiet (v := ?_) rfl rfl (by rfl) ?_ ?_; rotate_left; (intro W hW; go_simp); (try with_reducible rfl); simp only [Act.put, List.setIfInBounds_toArray, List.set]))
      refine tree_done ?_
      have hs02 : RLStep B w r R w2 r2 R := (RLStep.old h (hb1.drew)).trans hs12
      have h2 := hs12.at'
      have hb2' := h2.log.blk.rule
      have hz2 : B ≤ w2.heap.size := Nat.le_trans hsz1' hs2.turn.size
      by_cases hap : (appendP r.p R.nm (record l)).2 = 0
      · have HC := Lib.hid (lapp_ok (p := r.p) (R := R) HE.out HF.out hap)
        rw [hap]
        have HAP := Lib.hid hap
        have HR2 := Lib.hid hr2
        clear hap hr2 h1 h1d hs12 hs2 hr1
        go_upto_region 10 with (fail)
        have hlw : BytesAt w2 a l := RowAt.turn hl hs02.turn (hna (fun e => by have := HO.out.1; rw [e] at this; simp at this))
        have hll := HO.out.2.1
        have hlen2 := HL.out
        have hF0 := HF.out
        go_wp2_with (at_builtin; refine wpList_append_row rfl _ _ 22 rfl bytesTq rfl (Own.nil w2 w2.heap.size 5 1) rfl hlw (by rw [List.length_map]; omega) (by intro u hu; obtain ⟨y, _, rfl⟩ := List.mem_map.1 hu; rfl) (by unfold maxLen; omega) (by omega) (Nat.le_refl _) ?_)
        intro a3 c3 w3 hown3 hg3
        go_upto_region 11 with (fail)
        have hb23' : Below w2.heap.size w2 w3 := ⟨hg3.os, hg3.tape, hg3.output, hg3.size, fun q hq => hg3.block q hq (by simp [Value.ownBlock])⟩
        have hbl3 : Below w3.heap.size w3 (w3.alloc (.cells #[.slice a3 len c3] 22)) := (Below.refl _ _).alloc (Nat.le_refl _) _
        have hb23 : Below w2.heap.size w2 (w3.alloc (.cells #[.slice a3 len c3] 22)) := below_step hb23' hbl3
        have h3 := h2.old hb23'
        have cb3 := h3.log.blk.rule
        clear hb2'
        have hz4 : B ≤ (w3.alloc (.cells #[.slice a3 len c3] 22)).heap.size := Nat.le_trans hz2 hb23.size
        go_wp2_with (refine wpList_append_fresh rfl _ _ 24 rfl piecesT rfl (h2.log.rows.1.old hb23) rfl (RowAt.new' w3 #[.slice a3 len c3] 22 _ rfl) rfl (by omega) (by exact all_one _ rfl) (by unfold maxLen; omega) (by omega) hz4 ?_)
        intro a4 c4 w4 hown4 hg4 hr4
        have hne4 : ∀ (he : rowB R.a R.c = some R.l), False := fun e => by
          obtain ⟨ad, q1, q2⟩ := rowB_blk e
          obtain ⟨_, _, cur, hcur⟩ := h2.log.rows.1.block_lt q1
          exact Blk.ne hcur h2.log.blk (by decide) q2.symm
        have HST := Lib.hid (rappend_mem h2 hz2 hb23 HL.out (hown3.old hbl3) hown4 hg4 (by simpa using hr4) (by omega) HO.out.2.1)
        have hl5 : Blk w4 R.l #[.pointer (some ⟨r2.d, 0, none⟩), .string R.nm, .slice R.a R.ls.length R.c, .int .i64 (R.sure : Int)] 63 := (h2.log.blk.old hb23).grown hg4 hne4
        have c0 := hl5.rule
        have c1 := hl5.free
        clear cb3
        go_upto_region 12 with (fail)
        have c2 : (w4.setCell ⟨R.l, 2, none⟩ (.slice a4 (R.ls.length + 1) c4)).cell? ⟨R.l, 2, none⟩ = some (.slice a4 (R.ls.length + 1) c4) := World.cell?_setCell_same' w4 _ _ (by rw [c0]; rfl)
        clear c0 c1
        go_wp2_with fail
        go_ret2
        obtain ⟨q1, q2, q3, q4⟩ := HC.out
        have hw : wrap64 (R.ls.length : Int) = (R.ls.length : Int) := IntWalk.wrap64_in _ (by have := HF.out; omega)
        refine ⟨by rw [q1, q2]; simp [hw], r2, { R with a := a4, c := c4, vs := R.vs ++ [.slice a3 len c3], ls := R.ls ++ [l] }, HR2.out.trans q3.symm, q4.symm, rfl, hs02.trans HST.out⟩
      · have HC := Lib.hid (lapp_fell (p := r.p) (R := R) HE.out HF.out hap)
        have HAP := Lib.hid hap
        have t1 : ((appendP r.p R.nm (record l)).2 == 0) = false := by simpa using hap
        have t2 : ((appendP r.p R.nm (record l)).2 != 0) = true := by simpa using hap
        clear hap
        go_wp2_with fail
        go_ret2
        obtain ⟨c1, c2, c3, c4⟩ := HC.out
        exact ⟨by rw [c1, c2]; first | rfl | simp, r2, R, hr2.trans c3.symm, c4.symm, rfl, hs02⟩
  · have HC := Lib.hid (lapp_bad (p := r.p) (R := R) he)
    have HE := Lib.hid he
    have t0 : (recErr len == 0) = false := by rw [← HL.out]; simpa using he
    clear he
    go_enter Try.func42, Try.ntmps42
    go_wp2_with fail
    refine hrec.mono ?_
    clear hrec
    rintro e w1 ⟨a1, n1, c1, rfl, hr1, hn1, hb1⟩
    have h1 := h.old hb1
    have hb1' := h1.log.blk.rule
    clear hb0
    go_wp2_with fail
    go_ret2
    obtain ⟨c1, c2, c3, c4⟩ := HC.out
    exact ⟨by rw [c1, c2, HL.out]; first | rfl | simp, r, R, c3.symm, c4.symm, rfl, RLStep.old h hb1⟩
set_option maxRecDepth 20000 in
set_option maxHeartbeats 2000000 in
theorem rlsync_any (w : World) (B : Nat) (r : RefR) (R : LogR) (h : RDL w B r R) (hB : B ≤ w.heap.size) :
    Calls Try.prog 43 #[.pointer (some ⟨R.l, 0, none⟩)] w fun e w' => e = .returned (.int .i64 (syncP r.p R.nm).2) ∧ ∃ r' R', r'.p = (syncP r.p R.nm).1 ∧ R'.ls = R.ls ∧ R'.sure = lsyncS r.p R ∧ RLStep B w r R w' r' R' := by
  have hkl : ∀ W, KeepAt (fun x => x = R.l) w.drew W → Blk W R.l #[.pointer (some ⟨r.d, 0, none⟩), .string R.nm, .slice R.a R.ls.length R.c, .int .i64 (R.sure : Int)] 63 := fun W hW => (hW.2 R.l rfl).trans h.log.blk
  have l0 := fun W (hW : KeepAt (fun x => x = R.l) w.drew W) => (hkl W hW).rule
  have hd : RDL w.drew B r R := h.keep fun _ _ => rfl
  go_enter Try.func43, Try.ntmps43
  go_wp2_with fail
  refine wp_region_treeR false (KeepAt (fun x => x = R.l)) (KeepAt.refl _) (fun _ _ _ h1 h2 => KeepAt.trans h1 h2) (.step 0 (.step 1 (.step 2 (.step 3 (.step 4 (.step 5 (.step 6 (.step 7 (.step 8 (.step 9 .done)))))))))) (by kernel_rfl) (by kernel_rfl) (fun c a d v w h => by cases d <;> exact h) ?_
  repeat (first | (refine tree_skip rfl (by rfl) ?_; simp only [Act.put, List.setIfInBounds_toArray, List.set]) | (refine tree_quiet (v := ?_) rfl rfl (by rfl) ?_ ?_; rotate_left; (intro W hW; go_simp); (try with_reducible rfl); simp only [Act.put, List.setIfInBounds_toArray, List.set]))
  refine tree_loud rfl rfl (by rfl) (fun K hK => ?_); go_wp2_with fail
  refine (rsync_any w.drew B r R.nm (h.disk.keep fun _ _ => rfl) hB).mono ?_
  rintro e w2 ⟨rfl, r2, hr2, hs2⟩
  have hs12 : RLStep B w.drew r R w2 r2 R := RStep.log hs2 hd
  have hs02 : RLStep B w r R w2 r2 R := (RLStep.old h ((Below.refl _ w).drew)).trans hs12
  refine hK _ _ ⟨hs2.turn.size, fun x hx => by subst hx; exact hs2.turn.block R.l h.log.blk.lt (h.apart R.l (.inl rfl))⟩ ?_
  clear hK K l0 hkl
  repeat (first | (refine tree_skip rfl (by rfl) ?_; simp only [Act.put, List.setIfInBounds_toArray, List.set]) | (refine tree_quiet (v := ?_) rfl rfl (by rfl) ?_ ?_; rotate_left; (intro W hW; go_simp); (try with_reducible rfl); simp only [Act.put, List.setIfInBounds_toArray, List.set]))
  refine tree_done ?_
  have h2 := hs12.at'
  have c0 := h2.log.blk.rule
  have c1 := h2.log.blk.free
  by_cases hap : (syncP r.p R.nm).2 = 0
  · have HR := Lib.hid hr2
    have HST := Lib.hid (rsure_mem h2 R.ls.length rfl)
    have HAP := Lib.hid hap
    rw [hap]
    clear hr2 hap
    go_wp2_with fail
    go_ret
    exact ⟨by rw [HAP.out]; first | rfl | simp, r2, { R with sure := R.ls.length }, HR.out, rfl, by unfold lsyncS; rw [if_pos HAP.out], hs02.trans HST.out⟩
  · have t1 : ((syncP r.p R.nm).2 == 0) = false := by simpa using hap
    have HAP := Lib.hid hap
    clear hap
    go_wp2_with fail
    go_ret
    exact ⟨rfl, r2, R, hr2, rfl, by unfold lsyncS; rw [if_neg HAP.out], hs02⟩
def lreadE (ls : List (List UInt8)) (i : Int) : Int := if i < 0 ∨ (ls.length : Int) ≤ i then 4 else 0
def lreadB (ls : List (List UInt8)) (i : Int) : List UInt8 := if i < 0 ∨ (ls.length : Int) ≤ i then [] else ls.getD i.toNat []
/-- What a reading tells. -/
def QReadRes (ls : List (List UInt8)) (i : Int) (V : World) (e : Ending) : Prop := ∃ a n c, e = .returned (.tuple #[.slice a n c, .int .i64 (lreadE ls i)]) ∧ BytesAt V a (lreadB ls i) ∧ (lreadB ls i).length = n
set_option maxHeartbeats 2000000 in
theorem rlread_any (w : World) (B d : Nat) (R : LogR) (h : RLogAt w B d R) (i : Int) :
    Calls Try.prog 44 #[.pointer (some ⟨R.l, 0, none⟩), .int .i64 i] w fun e w' => QReadRes R.ls i w e ∧ w' = w := by
  have hb := h.blk.rule
  have hcnt := h.cnt
  by_cases h1 : i < 0
  · have t0 : decide (i < 0) = true := by simpa using h1
    have e1 : lreadE R.ls i = 4 := by unfold lreadE; rw [if_pos (.inl h1)]
    have e2 : lreadB R.ls i = [] := by unfold lreadB; rw [if_pos (.inl h1)]
    have E1 := Lib.hid e1
    have E2 := Lib.hid e2
    clear h1 e1 e2
    go_enter Try.func44, Try.ntmps44
    go_wp2_with fail
    go_ret2
    exact ⟨⟨none, 0, 0, by rw [E1.out]; first | rfl | simp, by rw [E2.out]; exact RowAt.nil _ _, by rw [E2.out]; rfl⟩, rfl⟩
  · by_cases h2 : (R.ls.length : Int) ≤ i
    · have t0 : decide (i < 0) = false := by simpa using h1
      have t1 : decide ((R.ls.length : Int) ≤ i) = true := by simpa using h2
      have e1 : lreadE R.ls i = 4 := by unfold lreadE; rw [if_pos (.inr h2)]
      have e2 : lreadB R.ls i = [] := by unfold lreadB; rw [if_pos (.inr h2)]
      have E1 := Lib.hid e1
      have E2 := Lib.hid e2
      clear e1 e2
      go_enter Try.func44, Try.ntmps44
      go_wp2_with fail
      go_ret2
      exact ⟨⟨none, 0, 0, by rw [E1.out]; first | rfl | simp, by rw [E2.out]; exact RowAt.nil _ _, by rw [E2.out]; rfl⟩, rfl⟩
    · obtain ⟨k, rfl⟩ : ∃ k : Nat, i = (k : Int) := ⟨i.toNat, by omega⟩
      have hk : k < R.ls.length := by omega
      have t0 : decide ((k : Int) < 0) = false := by simp
      have t1 : decide ((R.ls.length : Int) ≤ (k : Int)) = false := by simp; omega
      have e1 : lreadE R.ls (k : Int) = 0 := by unfold lreadE; rw [if_neg (by omega)]
      have e2 : lreadB R.ls (k : Int) = R.ls[k] := by unfold lreadB; rw [if_neg (by omega), Int.toNat_natCast, List.getD_eq_getElem?_getD, List.getElem?_eq_getElem hk, Option.getD_some]
      have E1 := Lib.hid e1
      have E2 := Lib.hid e2
      obtain ⟨A, C, q1, hown⟩ := h.rows.2.2 k hk
      have hvl : k < R.vs.length := by rw [h.rows.2.1]; exact hk
      obtain ⟨rb, ro, q2, hcell⟩ := h.rows.1.row k hvl
      have hcell' : w.cell? ⟨rb, ro + k, none⟩ = some (.slice A R.ls[k].length C) := by rw [hcell, ← q1, List.getElem?_eq_getElem hvl]
      have hrow := hown.row
      rw [q2] at hb
      clear hcell q1 q2 h1 h2 e1 e2
      obtain ⟨y, hy⟩ : ∃ y, y = R.ls[k] := ⟨_, rfl⟩
      rw [← hy] at E2 hcell' hrow
      clear hy
      go_enter Try.func44, Try.ntmps44
      go_wp2_with fail
      go_ret2
      exact ⟨⟨A, y.length, C, by rw [E1.out]; first | rfl | simp, by rw [E2.out]; exact hrow, by rw [E2.out]⟩, rfl⟩
set_option maxHeartbeats 2000000 in
theorem lread_any (w : World) (B d : Nat) (R : LogR) (h : LogAt w B d R) (i : Int) :
    Calls Try.prog 15 #[.pointer (some ⟨R.l, 0, none⟩), .int .i64 i] w fun e w' => QReadRes R.ls i w' e ∧ Below w.heap.size w w' := by
  have hb := h.blk.rule
  have hcnt := h.cnt
  by_cases h1 : i < 0
  · have t0 : decide (i < 0) = true := by simpa using h1
    have e1 : lreadE R.ls i = 4 := by unfold lreadE; rw [if_pos (.inl h1)]
    have e2 : lreadB R.ls i = [] := by unfold lreadB; rw [if_pos (.inl h1)]
    have E1 := Lib.hid e1
    have E2 := Lib.hid e2
    clear h1 e1 e2
    go_enter Try.func15, Try.ntmps15
    go_wp2_with fail
    go_ret2
    exact ⟨⟨none, 0, 0, by rw [E1.out]; first | rfl | simp, by rw [E2.out]; exact RowAt.nil _ _, by rw [E2.out]; rfl⟩, Below.refl _ _⟩
  · by_cases h2 : (R.ls.length : Int) ≤ i
    · have t0 : decide (i < 0) = false := by simpa using h1
      have t1 : decide ((R.ls.length : Int) ≤ i) = true := by simpa using h2
      have e1 : lreadE R.ls i = 4 := by unfold lreadE; rw [if_pos (.inr h2)]
      have e2 : lreadB R.ls i = [] := by unfold lreadB; rw [if_pos (.inr h2)]
      have E1 := Lib.hid e1
      have E2 := Lib.hid e2
      clear e1 e2
      go_enter Try.func15, Try.ntmps15
      go_wp2_with fail
      go_ret2
      exact ⟨⟨none, 0, 0, by rw [E1.out]; first | rfl | simp, by rw [E2.out]; exact RowAt.nil _ _, by rw [E2.out]; rfl⟩, Below.refl _ _⟩
    · obtain ⟨k, rfl⟩ : ∃ k : Nat, i = (k : Int) := ⟨i.toNat, by omega⟩
      have hk : k < R.ls.length := by omega
      have t0 : decide ((k : Int) < 0) = false := by simp
      have t1 : decide ((R.ls.length : Int) ≤ (k : Int)) = false := by simp; omega
      have e1 : lreadE R.ls (k : Int) = 0 := by unfold lreadE; rw [if_neg (by omega)]
      have e2 : lreadB R.ls (k : Int) = R.ls[k] := by unfold lreadB; rw [if_neg (by omega), Int.toNat_natCast, List.getD_eq_getElem?_getD, List.getElem?_eq_getElem hk, Option.getD_some]
      have E1 := Lib.hid e1
      have E2 := Lib.hid e2
      obtain ⟨A, C, q1, hown⟩ := h.rows.2.2 k hk
      have hvl : k < R.vs.length := by rw [h.rows.2.1]; exact hk
      obtain ⟨rb, ro, q2, hcell⟩ := h.rows.1.row k hvl
      have hcell' : w.cell? ⟨rb, ro + k, none⟩ = some (.slice A R.ls[k].length C) := by rw [hcell, ← q1, List.getElem?_eq_getElem hvl]
      have hrow := hown.row
      have hlk : R.ls[k].length ≤ 65536 := h.lens _ (List.getElem_mem hk)
      rw [q2] at hb
      clear hcell q1 q2 h1 h2 e1 e2
      obtain ⟨y, hy⟩ : ∃ y, y = R.ls[k] := ⟨_, rfl⟩
      rw [← hy] at E2 hcell' hrow hlk
      clear hy
      go_enter Try.func15, Try.ntmps15
      go_wp2_with fail
      refine (clone_any A _ C y w hrow rfl (by omega)).mono ?_
      rintro e w' ⟨a', c', rfl, hown', hb'⟩
      go_wp2_with fail
      go_ret2
      exact ⟨⟨a', y.length, c', by rw [E1.out]; first | rfl | simp, by rw [E2.out]; exact hown'.row, by rw [E2.out]⟩, hb'⟩
def RLOpenRes (B : Nat) (w : World) (r : RefR) (nm : Name) (e : Ending) (w' : World) : Prop :=
  ∃ r', r'.p = openD r.p nm ∧ RStep B w r w' r' ∧
    ((openE r.p nm ≠ 0 ∧ e = .returned (.tuple #[.pointer none, .int .i64 0, .int .i64 (openE r.p nm)])) ∨
     (openE r.p nm = 0 ∧ ∃ R, e = .returned (.tuple #[.pointer (some ⟨R.l, 0, none⟩), .int .i64 (openN r.p nm : Int), .int .i64 0]) ∧ RDL w' B r' R ∧ R.nm = nm ∧ R.ls = (openB r.p nm).1 ∧ R.sure = R.ls.length ∧ ∀ x, qfoot R x → w.heap.size ≤ x))
theorem like_eq {p q : DiskP} (h : Like p q) (hq : q.fs.length ≤ 1) : p = q := by
  obtain ⟨hp, h1, h2, h3, h4⟩ := h
  have e : p.fs = q.fs := by
    match hl : q.fs, hq with
    | [], _ => rw [hl] at hp; exact hp.eq_nil
    | [x], _ => rw [hl] at hp; exact List.perm_singleton.1 hp
  cases p; cases q
  simp_all
/-- All files bear one name. -/
def OneN (p : DiskP) (nm : Name) : Prop := ∀ f ∈ p.fs, f.name = nm
theorem make_one {p : DiskP} {nm : Name} (h : OneN p nm) (h4 : (readP p nm).2 = 4) : (makeP p nm).1.fs.length ≤ 1 := by
  have hno : p.fs = [] := by
    unfold readP at h4
    split at h4
    · simp at h4
    · cases hf : findP p nm with
      | some f => rw [hf] at h4; simp at h4
      | none =>
        unfold findP at hf
        rw [List.find?_eq_none] at hf
        match hl : p.fs with
        | [] => rfl
        | f :: l =>
          have := hf f (by rw [hl]; simp)
          have := h f (by rw [hl]; simp)
          simp_all
  unfold makeP
  split
  · simp [hno]
  · split
    · simp [hno]
    · split
      · simp [hno]
      · split
        · simp [hno]
        · simp [hno]
/-- A new log. -/
theorem rnew_log {w0 w : World} {B : Nat} {r : RefR} {nm : Name} (h : RefAt w B r) (h0 : w0.heap.size ≤ w.heap.size) (hB : B ≤ w0.heap.size) (hs : nm.size ≤ maxLen) {a : Option Addr} {n c : Nat} {vs : List Value} {ls : List (List UInt8)} (hp : OwnPieces w w0.heap.size 22 5 a n c vs ls) (hcnt : ls.length ≤ 4096) (hlen : ∀ x ∈ ls, x.length ≤ 65536)
    (hna : ∀ x, ((∃ ad, a = some ad ∧ x = ad.block) ∨ ∃ ad m C, Value.slice (some ad) m C ∈ vs ∧ x = ad.block) → ¬ rfoot r x) :
    RDL (w.alloc (.cells #[.pointer (some ⟨r.d, 0, none⟩), .string nm, .slice a n c, .int .i64 (n : Int)] 63)) B r ⟨w.heap.size, nm, a, c, vs, ls, ls.length⟩ := by
  have hn := hp.length
  subst hn
  have hb : Below w.heap.size w (w.alloc (.cells #[.pointer (some ⟨r.d, 0, none⟩), .string nm, .slice a ls.length c, .int .i64 (ls.length : Int)] 63)) := (Below.refl _ _).alloc (Nat.le_refl _) _
  refine ⟨h.old hb, ⟨Nat.le_trans hB h0, Blk.new _ _ _, (hp.lower hB).old hb, hcnt, hlen, hs, Nat.le_refl _⟩, fun x hx hf => ?_⟩
  rcases hx with rfl | hx
  · have := (h.lt hf).2
    exact Nat.lt_irrefl _ this
  · exact hna x hx hf
set_option maxRecDepth 20000 in
set_option maxHeartbeats 4000000 in
theorem rlopen_any (w : World) (B : Nat) (r : RefR) (nm : Name) (h : RefAt w B r) (hB : B ≤ w.heap.size) (hs : nm.size ≤ maxLen) (hone : OneN r.p nm) :
    Calls Try.prog 41 #[.pointer (some ⟨r.d, 0, none⟩), .string nm] w fun e w' => RLOpenRes B w r nm e w' := by
  have HRL := Lib.hid (readP_len h.ok nm)
  go_enter Try.func41, Try.ntmps41
  go_wp2_with fail
  refine (rread_any w B r nm h).mono ?_
  rintro e w1 ⟨a, n, c, rfl, hn, hown, hb1⟩
  have HN := Lib.hid hn
  have h1 := h.old hb1
  have hs1 : RStep B w r w1 r := ⟨Turn.of_below hb1, h1, fun _ hx => .inl hx, rfl⟩
  have hz1 : B ≤ w1.heap.size := Nat.le_trans hB hb1.size
  clear hn
  go_upto_if 17 with (fail)
  go_cut [6] from 17 (fun v wx => v = .int .i64 (openMk r.p nm).2 ∧ ∃ r1, r1.p = (openMk r.p nm).1 ∧ RStep B w r wx r1 ∧ (∀ x, rfoot r1 x → rfoot r x ∨ w1.heap.size ≤ x) ∧ wx.heap.size ≥ w1.heap.size ∧ Own wx w.heap.size 5 1 a n c ((readP r.p nm).1.map bv))
  case first =>
    by_cases h4 : (readP r.p nm).2 = 4
    · have t0 : ((readP r.p nm).2 == 4) = true := by simpa using h4
      have HM := Lib.hid (show openMk r.p nm = makeP r.p nm by unfold openMk; rw [if_pos h4])
      have HMO := Lib.hid (make_one hone h4)
      clear h4
      go_wp2_with fail
      refine (rmake_any w1 B r nm h1 hz1).mono ?_
      rintro e w2 ⟨rfl, r1, hlk, hs2, -⟩
      have hr1 := like_eq hlk HMO.out
      go_wp2_with fail
      go_meet
      case rel =>
        rw [HM.out]
        exact ⟨rfl, r1, hr1, hs1.trans hs2, hs2.foot', hs2.turn.size, hown.keepAt fun x hx => hs2.turn.block x.block (hown.block_lt hx).2.1 (fun hf => by
          have g1 := (hown.block_lt hx).1
          have g2 := (h.lt hf).2
          omega)⟩
    · have t0 : ((readP r.p nm).2 == 4) = false := by simpa using h4
      have HM := Lib.hid (show openMk r.p nm = (r.p, (readP r.p nm).2) by unfold openMk; rw [if_neg h4])
      clear h4
      go_wp2_with fail
      go_meet
      case rel =>
        rw [HM.out]
        exact ⟨rfl, r, rfl, hs1, fun x hx => .inl hx, Nat.le_refl _, hown⟩
  case rest =>
    obtain ⟨wa, rfl⟩ : ∃ wa : World, wa = wc := ⟨_, rfl⟩
    obtain ⟨rfl, r1, hr1, hs2, hf1, hz2, hown1⟩ := hcut
    have h2 := hs2.at'
    have HR1 := Lib.hid hr1
    have hd1 := hs2.d
    have hzc : B ≤ wa.heap.size := Nat.le_trans hz1 hz2
    clear hr1 hown h1 hs1
    by_cases hmk : (openMk r.p nm).2 = 0
    · have HMK := Lib.hid hmk
      rw [hmk]
      clear hmk
      have hsc := ref_scan_any a n c (readP r.p nm).1 wa hown1.row HN.out (by have := HRL.out; have := HN.out; omega) hown1.le
      rw [show scan most (readP r.p nm).1 = openB r.p nm from rfl] at hsc
      obtain ⟨bad, hbd⟩ : ∃ bad, bad = (openB r.p nm).2.length := ⟨_, rfl⟩
      have hble : bad ≤ n := by have := scan_left most (readP r.p nm).1; have := HN.out; rw [hbd]; show (scan most (readP r.p nm).1).2.length ≤ n; omega
      rw [← hbd] at hsc
      have HBD := Lib.hid hbd
      clear hbd
      go_step
      go_wp2_with fail
      refine hsc.mono ?_
      clear hsc
      rintro e w3 ⟨a2, n2, c2, vs, rfl, hp3, hb3⟩
      have hn2 : n2 ≤ 4096 := by have h9 : (openB r.p nm).1.length ≤ most := scan_count most _; have := hp3.length; have := most_is; omega
      have hnn : n ≤ 1048576 := by have := HRL.out; have := HN.out; omega
      have h3 := h2.old hb3
      have hz3 : B ≤ w3.heap.size := Nat.le_trans hzc hb3.size
      have hf3 : ∀ x, rfoot r1 x → x < wa.heap.size := fun x hx => (h2.lt hx).2
      have hs3 : RStep B w r w3 r1 := hs2.trans ⟨Turn.of_below hb3, h3, fun _ hx => .inl hx, rfl⟩
      have hbel3 := hb3.size
      clear hown1 hs2
      go_upto_if 30 with (fail)
      go_cut [] from 30 (fun wx => (openCut r.p nm).2 = 0 ∧ ∃ r2, r2.p = (openCut r.p nm).1 ∧ RStep B w r wx r2 ∧ (∀ x, rfoot r2 x → x < wa.heap.size ∨ w3.heap.size ≤ x) ∧ w3.heap.size ≤ wx.heap.size ∧ OwnPieces wx wa.heap.size 22 5 a2 n2 c2 vs (openB r.p nm).1)
      case first =>
        by_cases hbad : bad = 0
        · have HC := Lib.hid (show openCut r.p nm = ((openMk r.p nm).1, 0) by unfold openCut; rw [← HBD.out, if_pos hbad])
          have t2 : ¬ 0 < bad := by omega
          have HB := Lib.hid hbad
          clear hbad
          go_wp2_with fail
          go_meet
          case rel =>
            rw [HC.out]
            exact ⟨rfl, r1, HR1.out, hs3, fun x hx => .inl (hf3 x hx), Nat.le_refl _, hp3⟩
        · have HC := Lib.hid (show openCut r.p nm = cutP (openMk r.p nm).1 nm (((readP r.p nm).1.length - bad : Nat) : Int) by unfold openCut; rw [← HBD.out, if_neg hbad])
          have t2 : 0 < bad := by omega
          have HB := Lib.hid hbad
          clear hbad
          have hc := rcut_any w3 B r1 nm ((n : Int) - (bad : Int)) h3 hz3
          have HCC := Lib.hid (show cutP r1.p nm ((n : Int) - (bad : Int)) = openCut r.p nm by
            rw [HC.out, HR1.out, HN.out, show ((n - bad : Nat) : Int) = (n : Int) - (bad : Int) from by omega])
          rw [HCC.out, hd1] at hc
          go_wp2_with fail
          refine hc.mono ?_
          clear hc
          rintro e w4 ⟨rfl, r2, hr2, hs4⟩
          by_cases hcu : (openCut r.p nm).2 = 0
          · have HCU := Lib.hid hcu
            rw [hcu]
            clear hcu
            go_wp2_with fail
            go_meet
            case rel =>
              refine ⟨HCU.out, r2, hr2, hs3.trans hs4, fun x hx => ?_, hs4.turn.size, ?_⟩
              · rcases hs4.foot' x hx with g | g
                · exact .inl (hf3 x g)
                · exact .inr g
              · refine hp3.keep (fun x hx => hs4.turn.block x.block (hp3.1.block_lt hx).2.1 fun hf => ?_) (fun ad m C hm => hs4.turn.block ad.block (hp3.inner hm).2.1 fun hf => ?_)
                · have g1 := hf3 _ hf; have g2 := (hp3.1.block_lt hx).1; omega
                · have g1 := hf3 _ hf; have g2 := (hp3.inner hm).1; omega
          · have HE := Lib.hid (openE_cut HMK.out hcu)
            have t3 : ((openCut r.p nm).2 != 0) = true := by simpa using hcu
            have HCU := Lib.hid hcu
            clear hcu
            go_wp2_with fail
            go_ret3
            refine ⟨r2, hr2.trans HE.out.2.symm, hs3.trans hs4, .inl ⟨by rw [HE.out.1]; exact HCU.out, ?_⟩⟩
            rw [HE.out.1]
            first | rfl | simp
      case rest =>
        obtain ⟨hcu, r2, hr2, hs4, hf4, hz4, hp4⟩ := hcut
        have h4 := hs4.at'
        have HES := Lib.hid (openE_sync HMK.out hcu)
        have HR2 := Lib.hid hr2
        have hB4 : B ≤ wc.heap.size := Nat.le_trans hz3 hz4
        have hsy := rsync_any wc B r2 nm h4 hB4
        rw [hr2, show syncP (openCut r.p nm).1 nm = openSync r.p nm from rfl, hs4.d] at hsy
        clear hr2 hcu
        go_step
        go_wp2_with fail
        refine hsy.mono ?_
        clear hsy
        rintro e w5 ⟨rfl, r3, hr3, hs5⟩
        have h5 := hs5.at'
        by_cases hsy : (openSync r.p nm).2 = 0
        · have HS := Lib.hid (show openE r.p nm = 0 by rw [HES.out.1]; exact hsy)
          rw [hsy]
          have hd5 : r3.d = r.d := hs5.d.trans hs4.d
          have hp5 : OwnPieces w5 wa.heap.size 22 5 a2 n2 c2 vs (openB r.p nm).1 := by
            refine hp4.keep (fun x hx => hs5.turn.block x.block (hp4.1.block_lt hx).2.1 fun hf => ?_) (fun ad m C hm => hs5.turn.block ad.block (hp4.inner hm).2.1 fun hf => ?_)
            · rcases hf4 _ hf with g | g
              · have := (hp4.1.block_lt hx).1; omega
              · have := (hp3.1.block_lt hx).2.1; omega
            · rcases hf4 _ hf with g | g
              · have := (hp4.inner hm).1; omega
              · have := (hp3.inner hm).2.1; omega
          have hz5 : wa.heap.size ≤ w5.heap.size := Nat.le_trans hb3.size (Nat.le_trans hz4 hs5.turn.size)
          have HNL := Lib.hid (rnew_log h5 hz5 hzc hs hp5 (by have := hp3.length; omega) (scan_lens most _) (fun x hx hf => by
            have g0 : wa.heap.size ≤ x ∧ x < w3.heap.size := by
              rcases hx with ⟨ad, q1, rfl⟩ | ⟨ad, m, C, q1, rfl⟩
              · exact ⟨(hp3.1.block_lt q1).1, (hp3.1.block_lt q1).2.1⟩
              · exact ⟨(hp3.inner q1).1, (hp3.inner q1).2.1⟩
            rcases hs5.foot' x hf with g | g
            · rcases hf4 x g with g | g <;> omega
            · omega))
          rw [hd5] at HNL
          have HSS := Lib.hid (hs4.trans hs5)
          have HLE := Lib.hid (And.intro (hp3.length) (fun x (hx : qfoot ⟨w5.heap.size, nm, a2, c2, vs, (openB r.p nm).1, (openB r.p nm).1.length⟩ x) => show w.heap.size ≤ x by
            rcases hx with rfl | ⟨ad, q1, rfl⟩ | ⟨ad, m, C, q1, rfl⟩
            · exact Nat.le_trans hb1.size (Nat.le_trans hz2 hz5)
            · exact Nat.le_trans hb1.size (Nat.le_trans hz2 (hp3.1.block_lt q1).1)
            · exact Nat.le_trans hb1.size (Nat.le_trans hz2 (hp3.inner q1).1)))
          have HR3 := Lib.hid hr3
          clear hsy hp5 hp4 hp3 hs4 hs5 h5 h4 h3 h2 hs3 hr3 hf4 hf3 hd5 hf1
          go_wp2_with fail
          go_ret3
          have eN : openN r.p nm = bad := by unfold openN; rw [if_pos HS.out]; exact HBD.out.symm
          refine ⟨r3, HR3.out.trans HES.out.2.symm, HSS.out.trans ⟨Turn.of_below ((Below.refl _ _).alloc (Nat.le_refl _) _), HNL.out.disk, fun _ hx => .inl hx, rfl⟩, .inr ⟨HS.out, ⟨w5.heap.size, nm, a2, c2, vs, (openB r.p nm).1, (openB r.p nm).1.length⟩, ?_, HNL.out, rfl, rfl, rfl, HLE.out.2⟩⟩
          rw [eN]
          first | rfl | simp
        · have t3 : ((openSync r.p nm).2 != 0) = true := by simpa using hsy
          have HSY := Lib.hid hsy
          clear hsy
          go_wp2_with fail
          go_ret3
          refine ⟨r3, hr3.trans HES.out.2.symm, hs4.trans hs5, .inl ⟨by rw [HES.out.1]; exact HSY.out, ?_⟩⟩
          rw [HES.out.1]
          first | rfl | simp
    · have HE := Lib.hid (openE_mk hmk)
      have t1 : ((openMk r.p nm).2 != 0) = true := by simpa using hmk
      have HMK := Lib.hid hmk
      clear hmk
      go_step
      go_wp2_with fail
      go_ret3
      refine ⟨r1, HR1.out.trans HE.out.2.symm, hs2, .inl ⟨by rw [HE.out.1]; exact HMK.out, ?_⟩⟩
      rw [HE.out.1]
      first | rfl | simp
end Go.Proofs.Ytnojeiklgjhkgaa
