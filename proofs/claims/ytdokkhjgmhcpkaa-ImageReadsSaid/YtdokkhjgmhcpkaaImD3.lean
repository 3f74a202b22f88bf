/- The document's reader: a list of numbers. -/
import Derived.Test.YtdokkhjgmhcpkaaImD2
import Derived.Test.YtdokkhjgmhcpkaaImRList
import Derived.Test.YtdokkhjgmhcpkaaRx
namespace Go.Proofs.Ytdokkhjgmhcpkaa
open Go.RowKit
set_option linter.unusedVariables false
set_option linter.unusedSimpArgs false
set_option maxRecDepth 20000

theorem toInt_wf (m : BitVec 64) : wf64 m.toInt := by
  have h1 := BitVec.toInt_lt (x := m)
  have h2 := BitVec.le_toInt (x := m)
  simp at h1 h2
  simp [wf64, Lit.wf, IntKind.min, IntKind.max, IntKind.signed, IntKind.bits]
  omega
section
variable {α : Type} {a0 k k' : Nat} {b0 b b' : Int} {rd : Nat → Rd α} {x : α} {l : List α} {n : Nat}
theorem After.stuck (h : 0 ≤ b) : After k b rd x k b := ⟨fun _ => rfl, fun h' => by omega⟩
theorem After.none (h : -1 ≤ b) : After k b (rdMany rd 0) [] k b := ⟨fun _ => rfl, fun h' => ⟨rfl, by omega, rfl⟩⟩
theorem After.many (h1 : After a0 b0 rd x k b) (h2 : After k b (rdMany rd n) l k' b') : After a0 b0 (rdMany rd (n + 1)) (x :: l) k' b' := by
  refine ⟨fun h => ?_, fun h => ?_⟩
  · have e := h1.1 h
    rw [h2.1 (by rw [e]; exact h), e]
  · have e := h1.2 h
    unfold rdMany
    cases hr : rd a0 with
    | error p =>
      rw [hr] at e
      have e : b = (p : Int) := e
      show b' = (p : Int)
      rw [h2.1 (by rw [e]; omega), e]
    | ok z =>
      rw [hr] at e
      obtain ⟨z1, z2⟩ := z
      obtain ⟨rfl, rfl, rfl⟩ : z1 = x ∧ b = -1 ∧ k = z2 := e
      have h3 := h2.2 (by decide)
      cases hm : rdMany rd n k with
      | error p =>
        rw [hm] at h3
        simpa [hm] using h3
      | ok y =>
        rw [hm] at h3
        obtain ⟨y1, y2⟩ := y
        obtain ⟨rfl, rfl, rfl⟩ : y1 = l ∧ b' = -1 ∧ k' = y2 := h3
        simp [hm]
theorem After.list {bs : List UInt8} {each : Nat} (h1 : After a0 b0 (rdCount bs each) n k b) (h2 : After k b (rdMany rd n) l k' b') : After a0 b0 (rdList bs each rd) l k' b' := by
  refine (After.seq (f := fun n a => rdMany rd n a) h1 h2).mapRd ?_
  unfold rdCount rdList
  cases rdNum bs a0 with
  | error p => rfl
  | ok z =>
    obtain ⟨z1, z2⟩ := z
    dsimp only
    by_cases hc : z1 < 0 ∨ ((bs.length : Int) - z2).tdiv each < z1
    · rw [if_pos hc, if_pos hc]; rfl
    · rw [if_neg hc, if_neg hc]; rfl
end
theorem DAt.rx {w w' : World} {B : Nat} {q : DC} {T : TypeId} (h : DAt w B q) (hr : Rx B T w w') (hT : 62 ≠ T) : DAt w' B q :=
  ⟨h.ge, hr.blk h.blk hT, RowAt.low h.row h.low (fun h0 => by rw [List.eq_nil_of_length_eq_zero h0]; rfl) hr.1, h.low, h.le, h.max, h.lo, h.hi⟩
/-- The call's own row grew. -/
theorem DStep.grown {w wr w' : World} {B n c sz k : Nat} {b : Int} {q : DC} {T : TypeId} {a : Option Addr} {vs : List Value} (h : DStep B w q wr k b) (hB : B ≤ w.heap.size) (ho : Own wr w.heap.size T sz a n c vs) (hg : wr.grownBy w' (Value.slice a n c).ownBlock) (hT : 62 ≠ T) : DStep B w q w' k b := by
  have hz := h.turn.size
  have hb : Below w.heap.size wr w' := ho.grown (Below.refl _ _) (Nat.le_refl _) hg hz
  exact ⟨h.at'.rx (Rx.grown ho hB (Nat.le_trans hB hz) hg) hT, h.turn.trans (Turn.of_ge hb) fun x hx => .inr hx⟩
theorem DStep.alloc {w wr : World} {B k : Nat} {b : Int} {q : DC} (h : DStep B w q wr k b) (hB : B ≤ w.heap.size) (o : Obj) : DStep B w q (wr.alloc o) k b := by
  have hb : Below wr.heap.size wr (wr.alloc o) := (Below.refl _ _).alloc (Nat.le_refl _) o
  exact ⟨h.at'.old hb (Nat.le_trans hB h.turn.size), h.turn.trans (Turn.of_below (F := fun x => x = q.c) hb) fun x hx => .inl hx⟩
def NumsD (w : World) (B : Nat) (q : DC) (N : Nat) (f : Nat) (v3 v5 : Value) (wr : World) : Prop :=
  ∃ (i k : Nat) (b : Int) (a : Option Addr) (c : Nat) (l : List Int), i + f = N ∧ v5 = .int .i64 (i : Int) ∧ v3 = .slice a i c ∧ l.length = i ∧ (∀ x ∈ l, wf64 x) ∧ Own wr w.heap.size 3 1 a i c (l.map (Value.int .i64)) ∧ DStep B w q wr k b ∧ Hid (∀ m k' b', After k b (rdMany (rdNum q.bs) f) m k' b' → After q.at_ q.bad (rdInts q.bs) (l ++ m) k' b')
set_option maxHeartbeats 4000000 in
theorem nums_d (w : World) (B : Nat) (q : DC) (hq : DAt w B q) (hB : B ≤ w.heap.size) :
    Calls Try.prog 29 #[.pointer (some ⟨q.c, 0, none⟩)] w fun e w' => ∃ (s : Sl) (l : List Int) (k : Nat) (b : Int), e = .returned (.slice s.a s.n s.c) ∧ OwnInts w' w.heap.size s l ∧ DStep B w q w' k b ∧ After q.at_ q.bad (rdInts q.bs) l k b := by
  have cb := count_d w B q 8 hq hB (by decide) (by decide)
  go_enter Try.func29, Try.ntmps29
  go_wp2_with fail
  refine cb.mono ?_
  clear cb
  rintro e w2 ⟨N, k0, b0, rfl, hN, hN0, hs0, haf0⟩
  have hst : NumsD w B q N N (.slice none 0 0) (.int .i64 0) w2 := ⟨0, k0, b0, none, 0, [], by omega, rfl, rfl, rfl, fun x hx => by simp at hx, Own.nil _ _ _ _, hs0, Lib.hid fun m k' b' h => haf0.list h⟩
  clear haf0
  go_wp2_with fail
  go_loopg [3, 5] N (NumsD w B q N)
  case atStart => exact hst
  case round =>
    clear hst
    obtain ⟨i, k, b, a, c, l, hi, rfl, rfl, hll, hwf, hown, hs, haf⟩ := hrel
    by_cases hlt : i < N
    · have t0 : decide ((i : Int) < (N : Int)) = true := by simp; omega
      have cb := num_d wr B (q.to k b) hs.at' (Nat.le_trans hB hs.turn.size)
      have hcc : (q.to k b).c = q.c := rfl
      rw [hcc] at cb
      have hzr := hs.turn.size
      go_wp2_with fail
      refine cb.mono ?_
      clear cb
      rintro e w3 ⟨m, k3, b3, rfl, hs3, haf3⟩
      have hwm := toInt_wf m
      generalize m.toInt = v at *
      have hs4 := hs.trans hs3
      have hown3 : Own w3 w.heap.size 3 1 a i c (l.map (Value.int .i64)) := hown.turn hs3.turn (fun x hx => by subst hx; have := hq.blk.lt; exact this)
      have hz3 := hs4.turn.size
      have hs5 := hs4.alloc hB (.cells #[.int .i64 v] 3)
      have hA := hown3.alloc (.cells #[.int .i64 v] 3)
      go_wp2_with (at_builtin; refine wpList_append_row rfl _ _ 23 rfl intsT2 rfl hA rfl (RowAt.new' _ _ _ _ (by simp)) (by rfl) (by exact all_one _ rfl) (by unfold maxLen; omega) (by omega) (by simp; omega) ?_)
      intro a6 c6 w6 hown6 hg6
      have hs6 := hs5.grown hB hA hg6 (by decide)
      obtain ⟨gf, hgf⟩ : ∃ x, gk = x + 1 := ⟨gk - 1, by omega⟩
      have haf6 := haf.out
      rw [hgf] at haf6
      have HAF := Lib.hid (show ∀ m k' b', After k3 b3 (rdMany (rdNum q.bs) gf) m k' b' → After q.at_ q.bad (rdInts q.bs) ((l ++ [v]) ++ m) k' b' from fun m k' b' h => by
        rw [List.append_assoc]
        exact haf6 _ _ _ (After.many haf3 h))
      clear haf6 haf
      go_wp2_with fail
      go_roundg gf
      case measure => omega
      case rel =>
        refine ⟨i + 1, k3, b3, a6, c6, l ++ [v], by omega, by go_num, rfl, by simp [hll], ?_, by simpa using hown6, hs6, HAF⟩
        intro x hx
        rcases List.mem_append.1 hx with hx | hx
        · exact hwf x hx
        · rw [List.mem_singleton.1 hx]; exact hwm
    · have t0 : decide ((i : Int) < (N : Int)) = false := by simp; omega
      have hg0 : gk = 0 := by omega
      have haf6 := haf.out
      rw [hg0] at haf6
      have h7 := haf6 [] k b (After.none hs.at'.lo)
      rw [List.append_nil] at h7
      have H7 := Lib.hid h7
      clear haf6 haf h7
      go_wp2_with fail
      go_ret
      exact ⟨⟨a, i, c⟩, l, k, b, rfl, ⟨hown, hown.row, hll, hown.le, hown.cap_le, by dsimp only; omega, hwf⟩, hs, H7.out⟩
end Go.Proofs.Ytdokkhjgmhcpkaa
