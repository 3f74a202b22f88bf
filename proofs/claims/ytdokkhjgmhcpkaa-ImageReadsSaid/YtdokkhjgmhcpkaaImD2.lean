/- The document's reader: a small number, a truth, a count, the end. -/
import Derived.Test.YtdokkhjgmhcpkaaImD
import Derived.Test.YtdokkhjgmhcpkaaImRState
namespace Go.Proofs.Ytdokkhjgmhcpkaa
open Go.RowKit
set_option linter.unusedVariables false
set_option linter.unusedSimpArgs false
set_option maxRecDepth 20000

theorem After.small_bad {bs : List UInt8} {a0 k : Nat} {b0 b : Int} {n x : Int} (h : After a0 b0 (rdNum bs) n k b) (hn : n < -128 ∨ 127 < n) : After a0 b0 (rdSmall bs) x k (if b < 0 then (a0 : Int) else b) := by
  refine ⟨fun hb => ?_, fun hb => ?_⟩
  · rw [h.1 hb, if_neg (by omega)]
  · have e := h.2 hb
    unfold rdSmall
    cases hr : rdNum bs a0 with
    | error p =>
      rw [hr] at e
      have e : b = (p : Int) := e
      show _ = (p : Int)
      rw [e, if_neg (by omega)]
    | ok z =>
      obtain ⟨z1, z2⟩ := z
      rw [hr] at e
      obtain ⟨rfl, rfl, rfl⟩ : z1 = n ∧ b = -1 ∧ k = z2 := e
      dsimp only
      rw [if_pos hn]
      rfl
theorem After.small_ok {bs : List UInt8} {a0 k : Nat} {b0 b : Int} {n : Int} (h : After a0 b0 (rdNum bs) n k b) (hn : ¬ (n < -128 ∨ 127 < n)) : After a0 b0 (rdSmall bs) n k b := by
  refine ⟨h.1, fun hb => ?_⟩
  have e := h.2 hb
  unfold rdSmall
  cases hr : rdNum bs a0 with
  | error p =>
    rw [hr] at e
    exact e
  | ok z =>
    obtain ⟨z1, z2⟩ := z
    rw [hr] at e
    obtain ⟨rfl, rfl, rfl⟩ : z1 = n ∧ b = -1 ∧ k = z2 := e
    dsimp only
    rw [if_neg hn]
    exact ⟨rfl, rfl, rfl⟩
set_option maxHeartbeats 4000000 in
theorem small_d (w : World) (B : Nat) (q : DC) (hq : DAt w B q) (hB : B ≤ w.heap.size) :
    Calls Try.prog 27 #[.pointer (some ⟨q.c, 0, none⟩)] w fun e w' => ∃ (x : Int) (k : Nat) (b : Int), e = .returned (.int .i8 x) ∧ wf8 x ∧ DStep B w q w' k b ∧ After q.at_ q.bad (rdSmall q.bs) x k b := by
  have hc := hq.blk.rule
  unfold dcells at hc
  have hle := hq.le
  have hmx := hq.max
  have cb := num_d w B q hq hB
  go_enter Try.func27, Try.ntmps27
  go_wp2_with fail
  refine cb.mono ?_
  clear cb
  rintro e w2 ⟨m, k, b, rfl, hs, haf⟩
  obtain ⟨n, hnd⟩ : ∃ n, n = m.toInt := ⟨_, rfl⟩
  rw [← hnd] at haf ⊢
  clear hnd hc
  have hB2 := Nat.le_trans hB hs.turn.size
  have cw := wrong_d w2 B (q.to k b) q.at_ hs.at' (by omega)
  have hcc : (q.to k b).c = q.c := rfl
  rw [hcc] at cw
  have hbad : (q.to k b).bad = b := rfl
  have hat : (q.to k b).at_ = k := rfl
  rw [hbad, hat] at cw
  have wz : wf8 0 := by show (Lit.int .i8 0).wf = true; decide
  by_cases h1 : n < -128
  · have t1 : decide (n < -128) = true := by simpa using h1
    go_wp2_with fail
    refine cw.mono ?_
    clear cw
    rintro e w3 ⟨rfl, hs3⟩
    go_wp2_with fail
    go_ret
    exact ⟨0, k, _, rfl, wz, hs.trans hs3, After.small_bad haf (.inl h1)⟩
  have t1 : decide (n < -128) = false := by simpa using h1
  by_cases h2 : 127 < n
  · have t2 : decide (127 < n) = true := by simpa using h2
    go_wp2_with fail
    refine cw.mono ?_
    clear cw
    rintro e w3 ⟨rfl, hs3⟩
    go_wp2_with fail
    go_ret
    exact ⟨0, k, _, rfl, wz, hs.trans hs3, After.small_bad haf (.inr h2)⟩
  have t2 : decide (127 < n) = false := by simpa using h2
  have hwr : IntKind.i8.wrap n = n := by
    simp only [IntKind.wrap, IntKind.bits, IntKind.signed]
    simp
    omega
  have wn : wf8 n := by
    simp [wf8, Lit.wf, IntKind.min, IntKind.max, IntKind.signed, IntKind.bits]
    omega
  clear cw
  go_wp2_with fail
  go_ret
  exact ⟨n, k, b, rfl, wn, hs, After.small_ok haf (by omega)⟩
theorem After.truth_bad {bs : List UInt8} {a0 k : Nat} {b0 b : Int} {y : UInt8} {x : Bool} (h : After a0 b0 (rdOne bs) y k b) (hy : 1 < y.toNat) (hle : a0 ≤ bs.length) : After a0 b0 (rdTruth bs) x k (if b < 0 then (a0 : Int) else b) := by
  refine ⟨fun hb => ?_, fun hb => ?_⟩
  · rw [h.1 hb, if_neg (by omega)]
  · have e := h.2 hb
    unfold rdTruth
    unfold rdOne at e
    cases hr : bs[a0]? with
    | none =>
      rw [hr] at e
      have e : b = (bs.length : Int) := e
      have hlen : bs.length ≤ a0 := List.getElem?_eq_none_iff.1 hr
      show _ = (a0 : Int)
      rw [e, if_neg (by omega)]
      omega
    | some z =>
      rw [hr] at e
      obtain ⟨rfl, rfl, rfl⟩ : z = y ∧ b = -1 ∧ k = a0 + 1 := e
      dsimp only
      rw [if_pos hy]
      rfl
theorem After.truth_ok {bs : List UInt8} {a0 k : Nat} {b0 b : Int} {y : UInt8} (h : After a0 b0 (rdOne bs) y k b) (hy : ¬ 1 < y.toNat) (hle : a0 ≤ bs.length) : After a0 b0 (rdTruth bs) (decide (y = 1)) k b := by
  refine ⟨h.1, fun hb => ?_⟩
  have e := h.2 hb
  unfold rdTruth
  unfold rdOne at e
  cases hr : bs[a0]? with
  | none =>
    rw [hr] at e
    have e : b = (bs.length : Int) := e
    have hlen : bs.length ≤ a0 := List.getElem?_eq_none_iff.1 hr
    show b = (a0 : Int)
    omega
  | some z =>
    rw [hr] at e
    obtain ⟨rfl, rfl, rfl⟩ : z = y ∧ b = -1 ∧ k = a0 + 1 := e
    dsimp only
    rw [if_neg hy]
    exact ⟨rfl, rfl, rfl⟩
set_option maxHeartbeats 4000000 in
theorem truth_d (w : World) (B : Nat) (q : DC) (hq : DAt w B q) (hB : B ≤ w.heap.size) :
    Calls Try.prog 28 #[.pointer (some ⟨q.c, 0, none⟩)] w fun e w' => ∃ (x : Bool) (k : Nat) (b : Int), e = .returned (.bool x) ∧ DStep B w q w' k b ∧ After q.at_ q.bad (rdTruth q.bs) x k b := by
  have hc := hq.blk.rule
  unfold dcells at hc
  have hle := hq.le
  have hmx := hq.max
  have cb := one_d w B q hq hB
  go_enter Try.func28, Try.ntmps28
  go_wp2_with fail
  refine cb.mono ?_
  clear cb
  rintro e w2 ⟨y, k, b, rfl, hs, haf⟩
  clear hc
  have cw := wrong_d w2 B (q.to k b) q.at_ hs.at' (by omega)
  have hcc : (q.to k b).c = q.c := rfl
  have hbad : (q.to k b).bad = b := rfl
  have hat : (q.to k b).at_ = k := rfl
  rw [hcc, hbad, hat] at cw
  have he : (U8 y == 1) = decide (y = 1) := U8_beq y 1
  by_cases h1 : 1 < y.toNat
  · have t1 : decide (1 < U8 y) = true := decide_eq_true (by unfold U8; omega)
    go_wp2_with fail
    refine cw.mono ?_
    clear cw
    rintro e w3 ⟨rfl, hs3⟩
    go_wp2_with fail
    go_ret
    exact ⟨_, k, _, rfl, hs.trans hs3, After.truth_bad haf h1 hle⟩
  · have t1 : decide (1 < U8 y) = false := decide_eq_false (by unfold U8; omega)
    clear cw
    go_wp2_with fail
    go_ret
    exact ⟨_, k, b, rfl, hs, After.truth_ok haf h1 hle⟩
def rdCount (bs : List UInt8) (each : Nat) (a0 : Nat) : Rd Nat := match rdNum bs a0 with
  | .error p => .error p
  | .ok (n, a) => if n < 0 ∨ ((bs.length : Int) - a).tdiv each < n then .error a0 else .ok (n.toNat, a)
theorem After.count_bad {bs : List UInt8} {each a0 k : Nat} {b0 b : Int} {n : Int} {x : Nat} (h : After a0 b0 (rdNum bs) n k b) (hn : b < 0 → n < 0 ∨ ((bs.length : Int) - k).tdiv each < n) : After a0 b0 (rdCount bs each) x k (if b < 0 then (a0 : Int) else b) := by
  refine ⟨fun hb => ?_, fun hb => ?_⟩
  · rw [h.1 hb, if_neg (by omega)]
  · have e := h.2 hb
    unfold rdCount
    cases hr : rdNum bs a0 with
    | error p =>
      rw [hr] at e
      have e : b = (p : Int) := e
      show _ = (p : Int)
      rw [e, if_neg (by omega)]
    | ok z =>
      obtain ⟨z1, z2⟩ := z
      rw [hr] at e
      obtain ⟨rfl, rfl, rfl⟩ : z1 = n ∧ b = -1 ∧ k = z2 := e
      dsimp only
      rw [if_pos (hn (by decide))]
      rfl
theorem After.count_ok {bs : List UInt8} {each a0 k : Nat} {b0 b : Int} {n : Int} (h : After a0 b0 (rdNum bs) n k b) (hb' : b < 0) (hn : ¬ (n < 0 ∨ ((bs.length : Int) - k).tdiv each < n)) : After a0 b0 (rdCount bs each) n.toNat k b := by
  refine ⟨h.1, fun hb => ?_⟩
  have e := h.2 hb
  unfold rdCount
  cases hr : rdNum bs a0 with
  | error p =>
    rw [hr] at e
    exact e
  | ok z =>
    obtain ⟨z1, z2⟩ := z
    rw [hr] at e
    obtain ⟨rfl, rfl, rfl⟩ : z1 = n ∧ b = -1 ∧ k = z2 := e
    dsimp only
    rw [if_neg hn]
    exact ⟨rfl, rfl, rfl⟩
set_option maxHeartbeats 4000000 in
theorem count_d (w : World) (B : Nat) (q : DC) (each : Nat) (hq : DAt w B q) (hB : B ≤ w.heap.size) (he1 : 0 < each) (he2 : each ≤ 100) :
    Calls Try.prog 34 #[.pointer (some ⟨q.c, 0, none⟩), .int .i64 (each : Int)] w fun e w' => ∃ (n k : Nat) (b : Int), e = .returned (.int .i64 (n : Int)) ∧ n ≤ 1048576 ∧ (0 ≤ b → n = 0) ∧ DStep B w q w' k b ∧ After q.at_ q.bad (rdCount q.bs each) n k b := by
  have hc := hq.blk.rule
  unfold dcells at hc
  have hle := hq.le
  have hmx := hq.max
  have cb := num_d w B q hq hB
  go_enter Try.func34, Try.ntmps34
  go_wp2_with fail
  refine cb.mono ?_
  clear cb
  rintro e w2 ⟨m, k, b, rfl, hs, haf⟩
  obtain ⟨n, hnd⟩ : ∃ n, n = m.toInt := ⟨_, rfl⟩
  rw [← hnd] at haf ⊢
  have hn64 : -9223372036854775808 ≤ n ∧ n < 9223372036854775808 := by
    have h1 := BitVec.toInt_lt (x := m)
    have h2 := BitVec.le_toInt (x := m)
    rw [hnd]
    simp at h1 h2
    omega
  clear hnd hc
  have hk : k ≤ q.bs.length := hs.at'.le
  have hc := hs.at'.blk.rule
  unfold dcells DC.to at hc
  dsimp only at hc
  have hbl := hs.at'.lo
  have hbl : -1 ≤ b := hbl
  have hB2 := Nat.le_trans hB hs.turn.size
  have hsub : IntKind.i64.wrap ((q.bs.length : Int) - (k : Int)) = (q.bs.length : Int) - (k : Int) := by rw [IntKind.wrap_i64]; omega
  obtain ⟨z, hz⟩ : ∃ z, z = ((q.bs.length : Int) - (k : Int)).tdiv each := ⟨_, rfl⟩
  have hz0 : 0 ≤ z ∧ z ≤ 1048576 := by
    rw [hz, Int.tdiv_eq_ediv_of_nonneg (by omega)]
    exact ⟨Int.ediv_nonneg (by omega) (by omega), Int.le_trans (Int.ediv_le_self _ (by omega)) (by omega)⟩
  have hzw : IntKind.i64.wrap (((q.bs.length : Int) - (k : Int)).tdiv each) = z := by rw [← hz, IntKind.wrap_i64]; omega
  have hne : ((each : Int) == 0) = false := by simp; omega
  have hne2 : (each : Int) ≠ 0 := by omega
  have HZ := Lib.hid hz
  clear hz
  by_cases hb : b < 0
  · have d0 : decide (b < 0) = true := by simpa using hb
    have d2 : decide (0 ≤ b) = false := by simp; omega
    by_cases h1 : n < 0
    · have t1 : decide (n < 0) = true := by simpa using h1
      go_wp2_with fail
      go_quiet (fail)
      go_upto_region 4 with (fail)
      refine wp_forget (fun W => DStep B w q W k b) ⟨hs.at'.old (by (try unfold Kept); repeat (first | assumption | exact Below.refl _ _ | exact below_undrew (Below.refl _ _) | exact Below.mono (by assumption) (by first | (simp; done) | (simp; omega) | omega) | refine below_setRow ?_ (by first | (simp; done) | (simp; omega) | omega) _ | refine Below.setCell ?_ (by first | (simp; done) | (simp; omega) | omega) _ | refine Below.alloc ?_ (by first | (simp; done) | (simp; omega) | omega) _ | refine below_drewN ?_ _ | refine Below.drew ?_ | refine below_undrew ?_ | refine below_step ?_ (by assumption))) hB2, hs.turn.drewN _⟩ ?_
      intro w3 hs3
      have cw := wrong_d w3 B (q.to k b) q.at_ hs3.at' (by omega)
      have hcc : (q.to k b).c = q.c := rfl
      have hbad : (q.to k b).bad = b := rfl
      have hat : (q.to k b).at_ = k := rfl
      rw [hcc, hbad, hat, if_pos hb] at cw
      go_wp2_with fail
      refine cw.mono ?_
      clear cw
      rintro e w4 ⟨rfl, hs4⟩
      have c4 := hs4.at'.blk.rule
      unfold dcells DC.to at c4
      dsimp only at c4
      have d3 : decide ((0 : Int) ≤ (q.at_ : Int)) = true := by simp
      go_wp2_with fail
      go_ret
      refine ⟨0, k, q.at_, rfl, by omega, fun _ => rfl, hs3.trans hs4, ?_⟩
      have := After.count_bad (x := 0) (each := each) haf (fun _ => .inl h1)
      rwa [if_pos hb] at this
    · have t1 : decide (n < 0) = false := by simpa using h1
      by_cases h2 : z < n
      · have t2 : decide (z < n) = true := by simpa using h2
        go_wp2_with fail
        go_quiet (fail)
        go_upto_region 4 with (fail)
        refine wp_forget (fun W => DStep B w q W k b) ⟨hs.at'.old (by (try unfold Kept); repeat (first | assumption | exact Below.refl _ _ | exact below_undrew (Below.refl _ _) | exact Below.mono (by assumption) (by first | (simp; done) | (simp; omega) | omega) | refine below_setRow ?_ (by first | (simp; done) | (simp; omega) | omega) _ | refine Below.setCell ?_ (by first | (simp; done) | (simp; omega) | omega) _ | refine Below.alloc ?_ (by first | (simp; done) | (simp; omega) | omega) _ | refine below_drewN ?_ _ | refine Below.drew ?_ | refine below_undrew ?_ | refine below_step ?_ (by assumption))) hB2, hs.turn.drewN _⟩ ?_
        intro w3 hs3
        have cw := wrong_d w3 B (q.to k b) q.at_ hs3.at' (by omega)
        have hcc : (q.to k b).c = q.c := rfl
        have hbad : (q.to k b).bad = b := rfl
        have hat : (q.to k b).at_ = k := rfl
        rw [hcc, hbad, hat, if_pos hb] at cw
        go_wp2_with fail
        refine cw.mono ?_
        clear cw
        rintro e w4 ⟨rfl, hs4⟩
        have c4 := hs4.at'.blk.rule
        unfold dcells DC.to at c4
        dsimp only at c4
        have d3 : decide ((0 : Int) ≤ (q.at_ : Int)) = true := by simp
        go_wp2_with fail
        go_ret
        refine ⟨0, k, q.at_, rfl, by omega, fun _ => rfl, hs3.trans hs4, ?_⟩
        have := After.count_bad (x := 0) (each := each) haf (fun _ => .inr (by rw [← HZ.out]; exact h2))
        rwa [if_pos hb] at this
      · have t2 : decide (z < n) = false := by simpa using h2
        go_wp2_with fail
        go_quiet (fail)
        go_wp2_with fail
        go_ret
        refine ⟨n.toNat, k, b, by (rw [Int.toNat_of_nonneg (by omega)]; rfl), by omega, fun h => by omega, ⟨hs.at'.old (by (try unfold Kept); repeat (first | assumption | exact Below.refl _ _ | exact below_undrew (Below.refl _ _) | exact Below.mono (by assumption) (by first | (simp; done) | (simp; omega) | omega) | refine below_setRow ?_ (by first | (simp; done) | (simp; omega) | omega) _ | refine Below.setCell ?_ (by first | (simp; done) | (simp; omega) | omega) _ | refine Below.alloc ?_ (by first | (simp; done) | (simp; omega) | omega) _ | refine below_drewN ?_ _ | refine Below.drew ?_ | refine below_undrew ?_ | refine below_step ?_ (by assumption))) hB2, hs.turn.drewN _⟩, After.count_ok haf hb ?_⟩
        rw [← HZ.out]
        omega
  · have d0 : decide (b < 0) = false := by simpa using hb
    have d2 : decide (0 ≤ b) = true := by simp; omega
    go_wp2_with fail
    go_quiet (fail)
    go_wp2_with fail
    go_ret
    refine ⟨0, k, b, rfl, by omega, fun _ => rfl, ⟨hs.at'.old (by (try unfold Kept); repeat (first | assumption | exact Below.refl _ _ | exact below_undrew (Below.refl _ _) | exact Below.mono (by assumption) (by first | (simp; done) | (simp; omega) | omega) | refine below_setRow ?_ (by first | (simp; done) | (simp; omega) | omega) _ | refine Below.setCell ?_ (by first | (simp; done) | (simp; omega) | omega) _ | refine Below.alloc ?_ (by first | (simp; done) | (simp; omega) | omega) _ | refine below_drewN ?_ _ | refine Below.drew ?_ | refine below_undrew ?_ | refine below_step ?_ (by assumption))) hB2, hs.turn.drewN _⟩, ?_⟩
    have := After.count_bad (x := 0) (each := each) haf (fun h => by omega)
    rwa [if_neg (by omega)] at this
end Go.Proofs.Ytdokkhjgmhcpkaa
