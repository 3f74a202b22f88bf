/- The document's way of writing numbers and lists behind bytes. -/
import Derived.Test.YtiglljegpdlnmaaBytes
namespace Go.Proofs.Ytiglljegpdlnmaa
open Go.RowKit

def Acc (w w0 : World) (v : Value) (bs : List UInt8) : Prop :=
  ∃ a n c, v = .slice a n c ∧ Own w w0.heap.size 5 1 a n c (bs.map bv) ∧ bs.length = n ∧ Below w0.heap.size w0 w
theorem Acc.old {w w' w0 : World} {v : Value} {bs : List UInt8} (h : Acc w w0 v bs) (hb : Below w.heap.size w w') : Acc w' w0 v bs := by
  obtain ⟨a, n, c, h1, h2, h3, h4⟩ := h
  exact ⟨a, n, c, h1, h2.old hb, h3, h4.trans (hb.mono h4.size)⟩
def AccTo (w w0 : World) (bs : List UInt8) (e : Ending) (w' : World) : Prop := ∃ v, e = .returned v ∧ Acc w' w0 v bs ∧ KeepNot 5 w w'
def RNumRel (w w0 : World) (bs : List UInt8) (n : Int) (f : Nat) (b i : Value) (w' : World) : Prop :=
  ∃ k : Nat, k + f = 8 ∧ i = .int .i64 (7 - (k : Int)) ∧ Acc w' w0 b (bs ++ (be8 n).take k) ∧ KeepNot 5 w w'
set_option maxHeartbeats 1000000 in
theorem rnum_any (v : Value) (bs : List UInt8) (n : Int) (w0 w : World) (ha : Acc w w0 v bs) (hsz : bs.length ≤ 1000000000000) :
    Calls Try.prog 31 #[v, .int .i64 n] w (AccTo w w0 (bs ++ be8 n)) := by
  go_enter Try.func31, Try.ntmps31
  go_wp2_with fail
  go_loopg [0, 5] 8 (RNumRel w w0 bs n)
  case atStart => exact ⟨0, rfl, rfl, by simpa using ha, KeepNot.refl _⟩
  case round =>
    obtain ⟨k, hk, rfl, ⟨a, m, c, rfl, hown, hl, hb⟩, hkn⟩ := hrel
    have hbz := hb.size
    by_cases hk8 : k < 8
    · have t0 : decide ((0 : Int) ≤ 7 - (k : Int)) = true := by simp; omega
      have hm : m ≤ 1000000000008 := by
        have := hl
        rw [List.length_append, List.length_take, be8_length] at this
        omega
      have HL := Lib.hid hl
      clear hl
      have v1 : IntKind.i64.wrap (8 * (7 - (k : Int))) = 8 * (7 - (k : Int)) := IntWalk.i64_in _ (by omega)
      have v2 : IntKind.u64.wrap (8 * (7 - (k : Int))) = 8 * (7 - (k : Int)) := IntWalk.u64_in _ (by omega)
      have v3 : (0 : Int) ≤ 8 * (7 - (k : Int)) := by omega
      have v4 : (8 * (7 - (k : Int))).toNat = 56 - 8 * k := by omega
      have vb : IntKind.u64.wrap n / 2 ^ (56 - 8 * k) % 256 = U8 ⟨((BitVec.ofInt 64 n) >>> (56 - 8 * k)).setWidth 8⟩ := be8_byte n (56 - 8 * k)
      have HVB := Lib.hid vb
      clear vb
      have hA := hown.old (w' := wr.alloc (.cells #[.int .u8 (IntKind.u64.wrap n / 2 ^ (56 - 8 * k) % 256)] 5)) (by (try unfold Kept); repeat (first | assumption | exact Below.refl _ _ | exact below_undrew (Below.refl _ _) | exact Below.mono (by assumption) (by first | (simp; done) | (simp; omega) | omega) | refine below_setRow ?_ (by first | (simp; done) | (simp; omega) | omega) _ | refine Below.setCell ?_ (by first | (simp; done) | (simp; omega) | omega) _ | refine Below.alloc ?_ (by first | (simp; done) | (simp; omega) | omega) _ | refine below_drewN ?_ _ | refine Below.drew ?_ | refine below_undrew ?_ | refine below_step ?_ (by assumption)))
      go_wp2_with (at_builtin; refine wpList_append_row rfl _ _ 43 rfl bytesT' rfl hA rfl (RowAt.new' _ _ _ _ (by simp)) (by rfl) (by exact all_one _ rfl) (by unfold maxLen; omega) (by omega) (by simp; omega) ?_)
      intro a2 c2 w2 hown2 hg2
      rw [HVB.out] at hown2
      have hb2 : Below w0.heap.size w0 w2 := hA.grown (by (try unfold Kept); repeat (first | assumption | exact Below.refl _ _ | exact below_undrew (Below.refl _ _) | exact Below.mono (by assumption) (by first | (simp; done) | (simp; omega) | omega) | refine below_setRow ?_ (by first | (simp; done) | (simp; omega) | omega) _ | refine Below.setCell ?_ (by first | (simp; done) | (simp; omega) | omega) _ | refine Below.alloc ?_ (by first | (simp; done) | (simp; omega) | omega) _ | refine below_drewN ?_ _ | refine Below.drew ?_ | refine below_undrew ?_ | refine below_step ?_ (by assumption))) (Nat.le_refl _) hg2 (by simp; omega)
      have hkn2 : KeepNot 5 wr w2 := (KeepNot.of (by (try unfold Kept); repeat (first | assumption | exact Below.refl _ _ | exact below_undrew (Below.refl _ _) | exact Below.mono (by assumption) (by first | (simp; done) | (simp; omega) | omega) | refine below_setRow ?_ (by first | (simp; done) | (simp; omega) | omega) _ | refine Below.setCell ?_ (by first | (simp; done) | (simp; omega) | omega) _ | refine Below.alloc ?_ (by first | (simp; done) | (simp; omega) | omega) _ | refine below_drewN ?_ _ | refine Below.drew ?_ | refine below_undrew ?_ | refine below_step ?_ (by assumption)))).trans (KeepNot.grown hA hg2)
      go_wp2_with fail
      go_roundg (gk - 1)
      case measure => omega
      case rel => exact ⟨k + 1, by omega, by congr 1; omega, ⟨a2, m + 1, c2, rfl, by rw [be8_take n k hk8]; simpa [bv, List.map_take] using hown2, by rw [be8_take n k hk8, ← List.append_assoc, List.length_append, HL.out]; rfl, hb2⟩, hkn.trans hkn2⟩
    · have t0 : decide ((0 : Int) ≤ 7 - (k : Int)) = false := by simp; omega
      have e : (be8 n).take k = be8 n := List.take_of_length_le (by rw [be8_length]; omega)
      rw [e] at hown hl
      go_wp2_with fail
      go_ret
      exact ⟨_, rfl, ⟨a, m, c, rfl, hown, hl, hb⟩, hkn⟩
set_option maxHeartbeats 1000000 in
theorem rtruth_any (v : Value) (bs : List UInt8) (t : Bool) (w0 w : World) (ha : Acc w w0 v bs) (hsz : bs.length ≤ 1000000000000) :
    Calls Try.prog 32 #[v, .bool t] w (AccTo w w0 (bs ++ tr1 t)) := by
  obtain ⟨a, m, c, rfl, hown, hl, hb⟩ := ha
  have hbz := hb.size
  have hm : m ≤ 1000000000000 := by omega
  have HL := Lib.hid hl
  clear hl hsz
  cases t
  · have hA := hown.old (w' := w.alloc (.cells #[.int .u8 0] 5)) (by (try unfold Kept); repeat (first | assumption | exact Below.refl _ _ | exact below_undrew (Below.refl _ _) | exact Below.mono (by assumption) (by first | (simp; done) | (simp; omega) | omega) | refine below_setRow ?_ (by first | (simp; done) | (simp; omega) | omega) _ | refine Below.setCell ?_ (by first | (simp; done) | (simp; omega) | omega) _ | refine Below.alloc ?_ (by first | (simp; done) | (simp; omega) | omega) _ | refine below_drewN ?_ _ | refine Below.drew ?_ | refine below_undrew ?_ | refine below_step ?_ (by assumption)))
    go_enter Try.func32, Try.ntmps32
    go_wp2_with (at_builtin; refine wpList_append_row rfl _ _ 43 rfl bytesT' rfl hA rfl (RowAt.new' _ _ _ _ (by simp)) (by rfl) (by exact all_one _ rfl) (by unfold maxLen; omega) (by omega) (by simp; omega) ?_)
    intro a2 c2 w2 hown2 hg2
    go_wp2_with fail
    go_ret
    exact ⟨_, rfl, ⟨a2, m + 1, c2, rfl, by rw [List.map_append]; exact hown2, by rw [List.length_append, HL.out]; rfl, hA.grown (by (try unfold Kept); repeat (first | assumption | exact Below.refl _ _ | exact below_undrew (Below.refl _ _) | exact Below.mono (by assumption) (by first | (simp; done) | (simp; omega) | omega) | refine below_setRow ?_ (by first | (simp; done) | (simp; omega) | omega) _ | refine Below.setCell ?_ (by first | (simp; done) | (simp; omega) | omega) _ | refine Below.alloc ?_ (by first | (simp; done) | (simp; omega) | omega) _ | refine below_drewN ?_ _ | refine Below.drew ?_ | refine below_undrew ?_ | refine below_step ?_ (by assumption))) (Nat.le_refl _) hg2 (by simp; omega)⟩, (KeepNot.of (by (try unfold Kept); repeat (first | assumption | exact Below.refl _ _ | exact below_undrew (Below.refl _ _) | exact Below.mono (by assumption) (by first | (simp; done) | (simp; omega) | omega) | refine below_setRow ?_ (by first | (simp; done) | (simp; omega) | omega) _ | refine Below.setCell ?_ (by first | (simp; done) | (simp; omega) | omega) _ | refine Below.alloc ?_ (by first | (simp; done) | (simp; omega) | omega) _ | refine below_drewN ?_ _ | refine Below.drew ?_ | refine below_undrew ?_ | refine below_step ?_ (by assumption)))).trans (KeepNot.grown hA hg2)⟩
  · have hA := hown.old (w' := w.alloc (.cells #[.int .u8 1] 5)) (by (try unfold Kept); repeat (first | assumption | exact Below.refl _ _ | exact below_undrew (Below.refl _ _) | exact Below.mono (by assumption) (by first | (simp; done) | (simp; omega) | omega) | refine below_setRow ?_ (by first | (simp; done) | (simp; omega) | omega) _ | refine Below.setCell ?_ (by first | (simp; done) | (simp; omega) | omega) _ | refine Below.alloc ?_ (by first | (simp; done) | (simp; omega) | omega) _ | refine below_drewN ?_ _ | refine Below.drew ?_ | refine below_undrew ?_ | refine below_step ?_ (by assumption)))
    go_enter Try.func32, Try.ntmps32
    go_wp2_with (at_builtin; refine wpList_append_row rfl _ _ 43 rfl bytesT' rfl hA rfl (RowAt.new' _ _ _ _ (by simp)) (by rfl) (by exact all_one _ rfl) (by unfold maxLen; omega) (by omega) (by simp; omega) ?_)
    intro a2 c2 w2 hown2 hg2
    go_wp2_with fail
    go_ret
    exact ⟨_, rfl, ⟨a2, m + 1, c2, rfl, by rw [List.map_append]; exact hown2, by rw [List.length_append, HL.out]; rfl, hA.grown (by (try unfold Kept); repeat (first | assumption | exact Below.refl _ _ | exact below_undrew (Below.refl _ _) | exact Below.mono (by assumption) (by first | (simp; done) | (simp; omega) | omega) | refine below_setRow ?_ (by first | (simp; done) | (simp; omega) | omega) _ | refine Below.setCell ?_ (by first | (simp; done) | (simp; omega) | omega) _ | refine Below.alloc ?_ (by first | (simp; done) | (simp; omega) | omega) _ | refine below_drewN ?_ _ | refine Below.drew ?_ | refine below_undrew ?_ | refine below_step ?_ (by assumption))) (Nat.le_refl _) hg2 (by simp; omega)⟩, (KeepNot.of (by (try unfold Kept); repeat (first | assumption | exact Below.refl _ _ | exact below_undrew (Below.refl _ _) | exact Below.mono (by assumption) (by first | (simp; done) | (simp; omega) | omega) | refine below_setRow ?_ (by first | (simp; done) | (simp; omega) | omega) _ | refine Below.setCell ?_ (by first | (simp; done) | (simp; omega) | omega) _ | refine Below.alloc ?_ (by first | (simp; done) | (simp; omega) | omega) _ | refine below_drewN ?_ _ | refine Below.drew ?_ | refine below_undrew ?_ | refine below_step ?_ (by assumption)))).trans (KeepNot.grown hA hg2)⟩
def RListRel (w w0 : World) (bs : List UInt8) (l : List Int) (f : Nat) (b i : Value) (w' : World) : Prop :=
  ∃ k : Nat, k + f = l.length ∧ i = .int .i64 (k : Int) ∧ Acc w' w0 b (bs ++ (l.take k).flatMap be8) ∧ KeepNot 5 w w'
theorem flat8 (m : List Int) : (m.flatMap be8).length = m.length * 8 := by
  induction m with
  | nil => rfl
  | cons y m ih => rw [List.flatMap_cons, List.length_append, ih, be8_length, List.length_cons]; omega
set_option maxHeartbeats 1000000 in
theorem rlist_any (v : Value) (bs : List UInt8) (a : Option Addr) (n c : Nat) (l : List Int) (w0 w : World) (ha : Acc w w0 v bs) (hr : IntRow w0 a n c l) (hsz : bs.length + (encL l).length ≤ 1000000000000) :
    Calls Try.prog 33 #[v, .slice a n c] w (AccTo w w0 (bs ++ encL l)) := by
  have HLL := Lib.hid hr.2.1
  have hsn := hr.2.2.2.2.1
  have hsz : bs.length + 8 + n * 8 ≤ 1000000000000 := by
    have := hsz
    rw [encL, List.length_append, be8_length, flat8, HLL.out] at this
    omega
  have HEN := Lib.hid (show encL l = be8 l.length ++ l.flatMap be8 from rfl)
  go_enter Try.func33, Try.ntmps33
  go_wp2_with fail
  refine (rnum_any v bs (n : Int) w0 _ ha (by omega)).mono ?_
  rintro e w1 ⟨v1, rfl, ha1, hk1⟩
  go_wp2_with fail
  go_loopg [0, 5] n (RListRel w1 w0 (bs ++ be8 (n : Int)) l)
  case atStart => exact ⟨0, by rw [HLL.out]; omega, rfl, by simpa using ha1, KeepNot.refl _⟩
  case round =>
    obtain ⟨k, hk, rfl, hac, hkn⟩ := hrel
    rw [HLL.out] at hk
    by_cases hkn' : k < n
    · have u0 : decide ((k : Int) < (n : Int)) = true := by simp; omega
      have hil : k < l.length := by rw [HLL.out]; exact hkn'
      obtain ⟨b, o, rfl, hc2⟩ := hr.cell k hil
      have hcw : wr.cell? ⟨b, o + k, none⟩ = some (.int .i64 l[k]) := by obtain ⟨_, _, _, _, _, _, hbl⟩ := hac; rw [hbl.cell (World.block_lt_of_cell? w0 _ hc2)]; exact hc2
      have HT2 := Lib.hid (List.take_succ_eq_append_getElem hil)
      have hlt3 : (l.take k).length = k := by rw [List.length_take, HLL.out]; omega
      have HT3 := Lib.hid hlt3
      clear hc2 hlt3
      generalize l[k] = y at *
      go_wp2_with fail
      refine (rnum_any _ _ y w0 _ hac (by rw [List.length_append, List.length_append, be8_length, flat8, HT3.out]; omega)).mono ?_
      rintro e w3 ⟨v3, rfl, ha3, hk3⟩
      go_wp2_with fail
      go_roundg (gk - 1)
      case measure => omega
      case rel => exact ⟨k + 1, by rw [HLL.out]; omega, by go_num, by rw [HT2.out, List.flatMap_append, ← List.append_assoc]; simpa using ha3, hkn.trans hk3⟩
    · have u0 : decide ((k : Int) < (n : Int)) = false := by simp; omega
      have e : l.take k = l := List.take_of_length_le (by rw [HLL.out]; omega)
      rw [e] at hac
      go_wp2_with fail
      go_ret
      exact ⟨_, rfl, by rw [HEN.out, HLL.out, ← List.append_assoc]; exact hac, hk1.trans hkn⟩
end Go.Proofs.Ytiglljegpdlnmaa
