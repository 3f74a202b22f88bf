/- The document's reader: what it is, a wrong byte, a byte. -/
import Derived.Test.YtdokkhjgmhcpkaaImWState
import Derived.Test.YtdokkhjgmhcpkaaImR
namespace Go.Proofs.Ytdokkhjgmhcpkaa
open Go.RowKit
set_option linter.unusedVariables false
set_option linter.unusedSimpArgs false
set_option maxRecDepth 20000

/-- The document's reader: bad is -1, or the first place that can't stand. -/
structure DC where
  c : Nat
  a : Option Addr
  cap : Nat
  bs : List UInt8
  at_ : Nat
  bad : Int
def DC.to (q : DC) (k : Nat) (b : Int) : DC := { q with at_ := k, bad := b }
def dcells (q : DC) : Array Value := #[.slice q.a q.bs.length q.cap, .int .i64 (q.at_ : Int), .int .i64 q.bad]
structure DAt (w : World) (B : Nat) (q : DC) : Prop where
  ge : B ≤ q.c
  blk : Blk w q.c (dcells q) 62
  row : BytesAt w q.a q.bs
  low : InB B q.a q.bs.length
  le : q.at_ ≤ q.bs.length
  max : q.bs.length ≤ 1048576
  lo : -1 ≤ q.bad
  hi : q.bad ≤ 1048576
section
variable {w w' w'' : World} {B : Nat} {q q' q'' : DC}
theorem DAt.keep (h : DAt w B q) (hk : w'.heap[q.c]? = w.heap[q.c]?) (hb : Below B w w') : DAt w' B q :=
  ⟨h.ge, hk.trans h.blk, RowAt.low h.row h.low (fun h0 => by rw [List.eq_nil_of_length_eq_zero h0]; rfl) hb, h.low, h.le, h.max, h.lo, h.hi⟩
theorem DAt.old (h : DAt w B q) (hb : Below w.heap.size w w') (hB : B ≤ w.heap.size) : DAt w' B q := h.keep (hb.block _ h.blk.lt) (hb.mono hB)
/-- What a reading leaves: the reader at another place. -/
structure DStep (B : Nat) (w : World) (q : DC) (w' : World) (k : Nat) (b : Int) : Prop where
  at' : DAt w' B (q.to k b)
  turn : Turn (fun x => x = q.c) w w'
theorem DStep.trans {k k' : Nat} {b b' : Int} (h : DStep B w q w' k b) (h' : DStep B w' (q.to k b) w'' k' b') : DStep B w q w'' k' b' :=
  ⟨h'.at', h.turn.trans h'.turn fun _ hx => .inl hx⟩
theorem DStep.refl (h : DAt w B q) : DStep B w q w q.at_ q.bad := ⟨h, Turn.refl _ _⟩
theorem DStep.below {k : Nat} {b : Int} (h : DStep B w q w' k b) (hq : DAt w B q) (hB : B ≤ w.heap.size) : Below B w w' := h.turn.below (fun x hx => by subst hx; exact hq.ge) hB
end
/-- What was read, where the reader stands then: rd is the plain reading. -/
def After {α : Type} (a0 : Nat) (b0 : Int) (rd : Nat → Rd α) (x : α) (k : Nat) (b : Int) : Prop :=
  (0 ≤ b0 → b = b0) ∧ (b0 < 0 → match rd a0 with
    | .ok y => y.1 = x ∧ b = -1 ∧ k = y.2
    | .error p => b = (p : Int))
theorem After.seq {α β : Type} {a0 k1 k2 : Nat} {b0 b1 b2 : Int} {r : Nat → Rd α} {f : α → Nat → Rd β} {x : α} {y : β} (h1 : After a0 b0 r x k1 b1) (h2 : After k1 b1 (f x) y k2 b2) : After a0 b0 (fun a => thn (r a) f) y k2 b2 := by
  refine ⟨fun h => ?_, fun h => ?_⟩
  · have e := h1.1 h
    rw [h2.1 (by rw [e]; exact h), e]
  · have e := h1.2 h
    show match thn (r a0) f with | .ok y' => _ | .error p => _
    cases hr : r a0 with
    | error p =>
      rw [hr] at e
      have e : b1 = (p : Int) := e
      show b2 = (p : Int)
      rw [h2.1 (by rw [e]; omega), e]
    | ok z =>
      rw [hr] at e
      obtain ⟨ex, eb, ek⟩ : z.1 = x ∧ b1 = -1 ∧ k1 = z.2 := e
      have h3 := h2.2 (by rw [eb]; decide)
      rw [ek, ← ex] at h3
      exact h3
theorem After.ok {α : Type} {a0 k : Nat} {b0 b : Int} {rd : Nat → Rd α} {x : α} (h : b0 < 0 → rd a0 = .ok (x, k) ∧ b = -1) (h' : 0 ≤ b0 → b = b0) : After a0 b0 rd x k b :=
  ⟨h', fun hb => by rw [(h hb).1]; exact ⟨rfl, (h hb).2, rfl⟩⟩
theorem After.mapRd {α : Type} {a0 k : Nat} {b0 b : Int} {rd rd' : Nat → Rd α} {x : α} (h : After a0 b0 rd x k b) (e : rd a0 = rd' a0) : After a0 b0 rd' x k b :=
  ⟨h.1, fun hb => by rw [← e]; exact h.2 hb⟩
def rdOne (bs : List UInt8) (a : Nat) : Rd UInt8 := match bs[a]? with
  | none => .error bs.length
  | some y => .ok (y, a + 1)
set_option maxHeartbeats 2000000 in
theorem wrong_d (w : World) (B : Nat) (q : DC) (p : Nat) (hq : DAt w B q) (hp : p ≤ 1048576) :
    Calls Try.prog 50 #[.pointer (some ⟨q.c, 0, none⟩), .int .i64 (p : Int)] w fun e w' => e = .returned (.tuple #[]) ∧ DStep B w q w' q.at_ (if q.bad < 0 then (p : Int) else q.bad) := by
  have hc := hq.blk.rule
  unfold dcells at hc
  have fz := hq.blk.free
  have hlo := hq.lo
  by_cases hb : q.bad < 0
  · have d0 : decide (q.bad < 0) = true := by simpa using hb
    rw [if_pos hb]
    go_enter Try.func50, Try.ntmps50
    go_wp2_with fail
    refine bodyPost_end (v := .tuple #[]) (results_none rfl _ _ _) rfl ⟨rfl, ⟨⟨hq.ge, hq.blk.set 2 (.int .i64 (p : Int)), ?_, hq.low, hq.le, hq.max, ?_, ?_⟩, (Turn.refl (fun x => x = q.c) w).setCell (x := ⟨q.c, 2, none⟩) (.inl rfl) _⟩⟩
    · exact RowAt.low hq.row hq.low (fun h0 => by show q.bs.map bv = []; rw [List.eq_nil_of_length_eq_zero h0]; rfl) ((Below.refl _ _).setCell hq.ge _)
    · show -1 ≤ (p : Int); omega
    · show (p : Int) ≤ 1048576; omega
  · have d0 : decide (q.bad < 0) = false := by simpa using hb
    rw [if_neg hb]
    go_enter Try.func50, Try.ntmps50
    go_wp2_with fail
    refine bodyPost_end (v := .tuple #[]) (results_none rfl _ _ _) rfl ⟨rfl, DStep.refl hq⟩
set_option maxHeartbeats 4000000 in
theorem one_d (w : World) (B : Nat) (q : DC) (hq : DAt w B q) (hB : B ≤ w.heap.size) :
    Calls Try.prog 49 #[.pointer (some ⟨q.c, 0, none⟩)] w fun e w' => ∃ (y : UInt8) (k : Nat) (b : Int), e = .returned (.int .u8 (U8 y)) ∧ DStep B w q w' k b ∧ After q.at_ q.bad (rdOne q.bs) y k b := by
  have hc := hq.blk.rule
  unfold dcells at hc
  have hlo := hq.lo
  have hle := hq.le
  have hmx := hq.max
  by_cases hb : q.bad < 0
  · have d0 : decide (q.bad < 0) = true := by simpa using hb
    by_cases hl : q.at_ < q.bs.length
    · have d1 : decide ((q.bs.length : Int) ≤ (q.at_ : Int)) = false := by simp; omega
      have d2 : decide (0 ≤ q.bad) = false := by simp; omega
      go_enter Try.func49, Try.ntmps49
      go_wp2_with fail
      go_quiet (fail)
      go_upto_region 5 with (fail)
      refine wp_forget (fun W => DAt W B q ∧ Below w.heap.size w W) ⟨hq.old (by (try unfold Kept); repeat (first | assumption | exact Below.refl _ _ | exact below_undrew (Below.refl _ _) | exact Below.mono (by assumption) (by first | (simp; done) | (simp; omega) | omega) | refine below_setRow ?_ (by first | (simp; done) | (simp; omega) | omega) _ | refine Below.setCell ?_ (by first | (simp; done) | (simp; omega) | omega) _ | refine Below.alloc ?_ (by first | (simp; done) | (simp; omega) | omega) _ | refine below_drewN ?_ _ | refine Below.drew ?_ | refine below_undrew ?_ | refine below_step ?_ (by assumption))) hB, by (try unfold Kept); repeat (first | assumption | exact Below.refl _ _ | exact below_undrew (Below.refl _ _) | exact Below.mono (by assumption) (by first | (simp; done) | (simp; omega) | omega) | refine below_setRow ?_ (by first | (simp; done) | (simp; omega) | omega) _ | refine Below.setCell ?_ (by first | (simp; done) | (simp; omega) | omega) _ | refine Below.alloc ?_ (by first | (simp; done) | (simp; omega) | omega) _ | refine below_drewN ?_ _ | refine Below.drew ?_ | refine below_undrew ?_ | refine below_step ?_ (by assumption))⟩ ?_
      rintro w1 ⟨hq1, hb1⟩
      clear hc
      have c1 := hq1.blk.rule
      unfold dcells at c1
      have f1 := hq1.blk.free
      have hadd : IntKind.i64.wrap ((q.at_ : Int) + 1) = ((q.at_ + 1 : Nat) : Int) := by rw [IntKind.wrap_i64]; omega
      go_upto_region 6 with (fail)
      refine wp_forget (fun W => DAt W B (q.to (q.at_ + 1) q.bad) ∧ Turn (fun x => x = q.c) w W) ⟨⟨hq.ge, hq1.blk.set 1 (.int .i64 ((q.at_ + 1 : Nat) : Int)), ?_, hq.low, hl, hmx, hlo, hq.hi⟩, (Turn.of_below (F := fun x => x = q.c) hb1).setCell (x := ⟨q.c, 1, none⟩) (.inl rfl) _⟩ ?_
      · exact RowAt.low hq1.row hq.low (fun h0 => by show q.bs.map bv = []; rw [List.eq_nil_of_length_eq_zero h0]; rfl) ((Below.refl _ _).setCell hq.ge _)
      rintro w2 ⟨hq2, ht2⟩
      clear c1 f1 hadd
      obtain ⟨b, o, ha, hcell⟩ := hq2.row q.at_ (by rw [List.length_map]; exact hl)
      rw [List.getElem_map] at hcell
      unfold bv at hcell
      have c2 := hq2.blk.rule
      unfold dcells DC.to at c2
      dsimp only at c2 hcell
      have ha' : q.a = some ⟨b, o, none⟩ := ha
      rw [ha'] at c2
      have hsub : IntKind.i64.wrap (((q.at_ + 1 : Nat) : Int) - 1) = (q.at_ : Int) := by rw [IntKind.wrap_i64]; omega
      have hsub2 : IntKind.i64.wrap ((q.at_ : Int) + 1 - 1) = (q.at_ : Int) := by rw [IntKind.wrap_i64]; omega
      obtain ⟨y, hyd⟩ : ∃ y, y = q.bs[q.at_] := ⟨_, rfl⟩
      have hcell' : w2.cell? ⟨b, o + q.at_, none⟩ = some (.int .u8 (U8 y)) := by rw [hyd]; exact hcell
      have HYD := Lib.hid hyd
      clear hyd hcell
      go_quiet (fail)
      go_wp2_with fail
      go_ret
      refine ⟨y, q.at_ + 1, q.bad, rfl, ⟨hq2.old (by (try unfold Kept); repeat (first | assumption | exact Below.refl _ _ | exact below_undrew (Below.refl _ _) | exact Below.mono (by assumption) (by first | (simp; done) | (simp; omega) | omega) | refine below_setRow ?_ (by first | (simp; done) | (simp; omega) | omega) _ | refine Below.setCell ?_ (by first | (simp; done) | (simp; omega) | omega) _ | refine Below.alloc ?_ (by first | (simp; done) | (simp; omega) | omega) _ | refine below_drewN ?_ _ | refine Below.drew ?_ | refine below_undrew ?_ | refine below_step ?_ (by assumption))) (by have := ht2.size; omega), ht2.drewN _⟩, After.ok (fun _ => ⟨?_, by omega⟩) fun h => rfl⟩
      unfold rdOne
      rw [List.getElem?_eq_getElem hl, HYD.out]
    · have he : q.at_ = q.bs.length := by omega
      have d1 : decide ((q.bs.length : Int) ≤ (q.at_ : Int)) = true := by simp; omega
      have d1' : decide (q.bs.length ≤ q.at_) = true := by simp; omega
      have HE := Lib.hid he
      clear he
      go_enter Try.func49, Try.ntmps49
      go_wp2_with fail
      go_quiet (fail)
      go_upto_region 2 with (fail)
      refine wp_forget (fun W => DAt W B q ∧ Below w.heap.size w W) ⟨hq.old (by (try unfold Kept); repeat (first | assumption | exact Below.refl _ _ | exact below_undrew (Below.refl _ _) | exact Below.mono (by assumption) (by first | (simp; done) | (simp; omega) | omega) | refine below_setRow ?_ (by first | (simp; done) | (simp; omega) | omega) _ | refine Below.setCell ?_ (by first | (simp; done) | (simp; omega) | omega) _ | refine Below.alloc ?_ (by first | (simp; done) | (simp; omega) | omega) _ | refine below_drewN ?_ _ | refine Below.drew ?_ | refine below_undrew ?_ | refine below_step ?_ (by assumption))) hB, by (try unfold Kept); repeat (first | assumption | exact Below.refl _ _ | exact below_undrew (Below.refl _ _) | exact Below.mono (by assumption) (by first | (simp; done) | (simp; omega) | omega) | refine below_setRow ?_ (by first | (simp; done) | (simp; omega) | omega) _ | refine Below.setCell ?_ (by first | (simp; done) | (simp; omega) | omega) _ | refine Below.alloc ?_ (by first | (simp; done) | (simp; omega) | omega) _ | refine below_drewN ?_ _ | refine Below.drew ?_ | refine below_undrew ?_ | refine below_step ?_ (by assumption))⟩ ?_
      rintro w1 ⟨hq1, hb1⟩
      clear hc
      have hc := hq1.blk.rule
      unfold dcells at hc
      have cw := wrong_d w1 B q q.bs.length hq1 hmx
      rw [if_pos hb] at cw
      go_wp2_with fail
      refine cw.mono ?_
      clear cw
      rintro e w2 ⟨rfl, hs⟩
      clear hc
      have c2 := hs.at'.blk.rule
      unfold dcells DC.to at c2
      dsimp only at c2
      have d3 : decide ((0 : Int) ≤ (q.bs.length : Int)) = true := by simp
      go_wp2_with fail
      go_ret
      refine ⟨0, q.at_, q.bs.length, rfl, ⟨hs.at', (Turn.of_below hb1).trans hs.turn fun _ hx => .inl hx⟩, fun h => by omega, fun _ => ?_⟩
      unfold rdOne
      rw [List.getElem?_eq_none (by rw [HE.out]; exact Nat.le_refl _)]
  · have d0 : decide (q.bad < 0) = false := by simpa using hb
    have d2 : decide (0 ≤ q.bad) = true := by simp; omega
    go_enter Try.func49, Try.ntmps49
    go_wp2_with fail
    go_quiet (fail)
    go_wp2_with fail
    go_ret
    exact ⟨0, q.at_, q.bad, rfl, ⟨hq.old (by (try unfold Kept); repeat (first | assumption | exact Below.refl _ _ | exact below_undrew (Below.refl _ _) | exact Below.mono (by assumption) (by first | (simp; done) | (simp; omega) | omega) | refine below_setRow ?_ (by first | (simp; done) | (simp; omega) | omega) _ | refine Below.setCell ?_ (by first | (simp; done) | (simp; omega) | omega) _ | refine Below.alloc ?_ (by first | (simp; done) | (simp; omega) | omega) _ | refine below_drewN ?_ _ | refine Below.drew ?_ | refine below_undrew ?_ | refine below_step ?_ (by assumption))) hB, Turn.of_below (by (try unfold Kept); repeat (first | assumption | exact Below.refl _ _ | exact below_undrew (Below.refl _ _) | exact Below.mono (by assumption) (by first | (simp; done) | (simp; omega) | omega) | refine below_setRow ?_ (by first | (simp; done) | (simp; omega) | omega) _ | refine Below.setCell ?_ (by first | (simp; done) | (simp; omega) | omega) _ | refine Below.alloc ?_ (by first | (simp; done) | (simp; omega) | omega) _ | refine below_drewN ?_ _ | refine Below.drew ?_ | refine below_undrew ?_ | refine below_step ?_ (by assumption)))⟩, fun _ => rfl, fun h => absurd h (by omega)⟩
def rdPart (bs : List UInt8) (i a : Nat) : Rd (BitVec 64) := if bs.length < a + i then .error bs.length else .ok (rdB ((bs.drop a).take i), a + i)
theorem After.part {bs : List UInt8} {i a0 k k' : Nat} {b0 b b' : Int} {m : BitVec 64} {y : UInt8} (h1 : After a0 b0 (rdPart bs i) m k b) (h2 : After k b (rdOne bs) y k' b') : After a0 b0 (rdPart bs (i + 1)) (m <<< 8 ||| y.toBitVec.setWidth 64) k' b' := by
  refine ⟨fun h => ?_, fun h => ?_⟩
  · have e := h1.1 h
    rw [h2.1 (by rw [e]; exact h), e]
  · have e := h1.2 h
    unfold rdPart at e ⊢
    by_cases hl : bs.length < a0 + i
    · rw [if_pos hl] at e
      have e : b = (bs.length : Int) := e
      rw [if_pos (by omega)]
      show b' = (bs.length : Int)
      rw [h2.1 (by rw [e]; omega), e]
    · rw [if_neg hl] at e
      obtain ⟨em, eb, ek⟩ : rdB ((bs.drop a0).take i) = m ∧ b = -1 ∧ k = a0 + i := e
      have h3 := h2.2 (by rw [eb]; decide)
      unfold rdOne at h3
      rw [ek] at h3
      by_cases hm : a0 + i < bs.length
      · rw [List.getElem?_eq_getElem hm] at h3
        obtain ⟨ey, eb', ek'⟩ : bs[a0 + i] = y ∧ b' = -1 ∧ k' = a0 + i + 1 := h3
        rw [if_neg (by omega)]
        refine ⟨?_, eb', by rw [ek']; rfl⟩
        show rdB ((bs.drop a0).take (i + 1)) = _
        rw [List.take_succ_eq_append_getElem (by rw [List.length_drop]; omega), rdB_snoc, em, List.getElem_drop, ey]
      · rw [List.getElem?_eq_none (by omega)] at h3
        rw [if_pos (by omega)]
        exact h3
theorem After.num {bs : List UInt8} {a0 k : Nat} {b0 b : Int} {m : BitVec 64} (h : After a0 b0 (rdPart bs 8) m k b) : After a0 b0 (rdNum bs) m.toInt k b := by
  refine ⟨h.1, fun hb => ?_⟩
  have e := h.2 hb
  unfold rdPart at e
  unfold rdNum
  by_cases hl : bs.length < a0 + 8
  · rw [if_pos hl] at e ⊢
    exact e
  · rw [if_neg hl] at e ⊢
    obtain ⟨em, eb, ek⟩ : rdB ((bs.drop a0).take 8) = m ∧ b = -1 ∧ k = a0 + 8 := e
    exact ⟨by rw [em], eb, ek⟩
def NumD (w : World) (B : Nat) (q : DC) (f : Nat) (v3 v4 : Value) (wr : World) : Prop :=
  ∃ (i k : Nat) (b : Int) (m : BitVec 64), i + f = 8 ∧ v4 = .int .i64 (i : Int) ∧ v3 = .int .u64 (U64 m) ∧ DStep B w q wr k b ∧ After q.at_ q.bad (rdPart q.bs i) m k b
set_option maxHeartbeats 4000000 in
theorem num_d (w : World) (B : Nat) (q : DC) (hq : DAt w B q) (hB : B ≤ w.heap.size) :
    Calls Try.prog 26 #[.pointer (some ⟨q.c, 0, none⟩)] w fun e w' => ∃ (m : BitVec 64) (k : Nat) (b : Int), e = .returned (.int .i64 m.toInt) ∧ DStep B w q w' k b ∧ After q.at_ q.bad (rdNum q.bs) m.toInt k b := by
  have hst : NumD w B q 8 (.int .u64 0) (.int .i64 0) w := ⟨0, q.at_, q.bad, 0, rfl, rfl, rfl, DStep.refl hq, After.ok (fun hb => ⟨by unfold rdPart; rw [if_neg (by have := hq.le; omega)]; rfl, by have := hq.lo; omega⟩) fun _ => rfl⟩
  go_enter Try.func26, Try.ntmps26
  go_wp2_with fail
  go_loopg [3, 4] 8 (NumD w B q)
  case atStart => exact hst
  case round =>
    clear hst
    obtain ⟨i, k, b, m, hi, rfl, rfl, hs, haf⟩ := hrel
    by_cases hlt : i < 8
    · have t0 : decide ((i : Int) < 8) = true := by simp; omega
      have cb := one_d wr B (q.to k b) hs.at' (Nat.le_trans hB hs.turn.size)
      have hcc : (q.to k b).c = q.c := rfl
      rw [hcc] at cb
      go_wp2_with fail
      refine cb.mono ?_
      clear cb
      rintro e w2 ⟨y, k2, b2, rfl, hs2, haf2⟩
      go_wp2_with fail
      go_roundg (gk - 1)
      case measure => omega
      case rel => exact ⟨i + 1, k2, b2, m <<< 8 ||| y.toBitVec.setWidth 64, by omega, by go_num, by exact congrArg _ (or_step m y), hs.trans hs2, After.part haf haf2⟩
    · have t0 : decide ((i : Int) < 8) = false := by simp; omega
      obtain rfl : i = 8 := by omega
      have hcv := i64_of_u64 m
      go_wp2_with fail
      go_ret
      exact ⟨m, k, b, rfl, hs, After.num haf⟩
end Go.Proofs.Ytdokkhjgmhcpkaa
