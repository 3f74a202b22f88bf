/- The walk of the disk laws' own 'wakes'; no disk. -/
import Derived.Test.YtojmffpkaihmmaaDiskRead
namespace Go.Proofs.Ytojmffpkaihmmaa
open Go.RowKit Go.Maps Go.Shelf
set_option linter.unusedVariables false
set_option linter.unusedSimpArgs false

def nmA : Name := ⟨#[97]⟩
def wk0 : DiskP := ⟨[], false, false, 0, []⟩
def wk1 : DiskP := ⟨[⟨nmA, [], 0⟩], false, false, 0, []⟩
def wk2 : DiskP := ⟨[⟨nmA, [1, 2, 3], 0⟩], false, false, 0, []⟩
def wk3 : DiskP := ⟨[⟨nmA, [1, 2, 3], 3⟩], false, false, 0, []⟩
def wk4 : DiskP := ⟨[⟨nmA, [1, 2, 3, 4, 5], 3⟩], false, false, 0, []⟩
def wk5 : DiskP := ⟨[⟨nmA, [1, 2, 3, 4], 4⟩], true, false, 0, []⟩
def wk6 : DiskP := ⟨[⟨nmA, [1, 2, 3, 4], 4⟩], false, false, 0, []⟩
theorem k1 : makeP wk0 nmA = (wk1, 0) := by rfl
theorem k2 : appendP wk1 nmA [1, 2, 3] = (wk2, 0) := by rfl
theorem k3 : syncP wk2 nmA = (wk3, 0) := by rfl
theorem k4 : appendP wk3 nmA [4, 5] = (wk4, 0) := by rfl
theorem k5 : crashAll wk4 [(nmA, 1)] = (wk5, 0) := by rfl
theorem k6 : appendP wk5 nmA [] = (wk5, 5) := by rfl
theorem k7 : openP wk5 = (wk6, 0) := by rfl
theorem k8 : readP wk6 nmA = ([1, 2, 3, 4], 0) := by rfl
theorem DiskAt.lower {w : World} {B B' : Nat} {r : DiskR} (h : DiskAt w B r) (hB : B' ≤ B) : DiskAt w B' r :=
  ⟨Nat.le_trans hB h.ged, Nat.le_trans hB h.gem, h.blk, h.map, fun f hf => ⟨(h.files f hf).blk, Nat.le_trans hB (h.files f hf).ge, (h.files f hf).row.lower hB⟩, h.apart, h.plan.lower hB, h.ok⟩
theorem RowAt.turn {w w' : World} {F : Nat → Prop} {a : Option Addr} {vs : List Value} (h : RowAt w a vs) (ht : Turn F w w') (hna : ∀ ad, a = some ad → ¬ F ad.block) : RowAt w' a vs := by
  intro i hi
  obtain ⟨b, o, h1, h2⟩ := h i hi
  exact ⟨b, o, h1, (World.cell?_of_block (a := ⟨b, o + i, none⟩) (ht.block b (World.block_lt_of_cell? w _ h2) (hna _ h1))).trans h2⟩
theorem new_any' (w : World) : Calls Try.prog 8 #[] w fun e w' => ∃ r, e = .returned (.pointer (some ⟨r.d, 0, none⟩)) ∧ Hid (r.p = wk0) ∧ DiskAt w' w.heap.size r ∧ Below w.heap.size w w' :=
  (new_any w).mono (by rintro e w' ⟨rfl, h1, h2, _⟩; exact ⟨newR w, rfl, Lib.hid rfl, h1, h2⟩)
/-- A call whose answer is known. -/
theorem after {f : Nat} {args : Array Value} {w : World} {B : Nat} {r : DiskR} {p q : DiskP} {v : Int} {x : DiskP → DiskP × Int} (hp : Hid (r.p = p)) (hx : x p = (q, v)) (hr : DiskAt w B r) (hB : B ≤ w.heap.size)
    (h : Calls Try.prog f args w fun e w' => e = .returned (.int .i64 (x r.p).2) ∧ ∃ r', r'.p = (x r.p).1 ∧ DStep B w r w' r') :
    Calls Try.prog f args w fun e w' => e = .returned (.int .i64 v) ∧ ∃ r', Hid (r'.p = q) ∧ DiskAt w' B r' ∧ Hid (r'.d = r.d) ∧ Below B w w' := by
  rw [hp.out, hx] at h
  refine h.mono ?_
  rintro e w' ⟨rfl, r', hr', hs⟩
  exact ⟨rfl, r', Lib.hid hr', hs.at', Lib.hid hs.d, hs.below hr hB⟩
set_option maxHeartbeats 1000000 in
set_option maxRecDepth 20000 in
theorem wakes_any (w : World) : Calls Try.prog 7 #[] w fun e w' => e = .returned (.bool true) ∧ Below w.heap.size w w' := by
  have hsm : ByteArray.size ⟨#[97]⟩ ≤ maxLen := by decide
  go_enter Try.func7, Try.ntmps7
  go_wp2_with fail
  refine (new_any' w).mono ?_
  rintro e w1 ⟨r, rfl, hp, h1, hb1⟩
  go_wp2_with fail
  refine (after (x := fun p => makeP p ⟨#[97]⟩) hp k1 h1 hb1.size (make_any _ _ r ⟨#[97]⟩ h1 hb1.size hsm)).mono ?_
  rintro e w2 ⟨rfl, r2, hp2, h2, hd2, hb2⟩
  have hb02 := hb1.trans hb2
  rw [← hd2.out]
  go_wp2_with fail
  have ha2 : Below w2.heap.size w2 (w2.alloc (.cells #[.int .u8 1, .int .u8 2, .int .u8 3] 5)) := (Below.refl _ _).alloc (Nat.le_refl _) _
  have hz2 : w.heap.size ≤ (w2.alloc (.cells #[.int .u8 1, .int .u8 2, .int .u8 3] 5)).heap.size := Nat.le_trans hb02.size ha2.size
  refine (after (x := fun p => appendP p ⟨#[97]⟩ [1, 2, 3]) hp2 k2 (h2.old ha2) hz2 (append_any _ _ r2 ⟨#[97]⟩ (h2.old ha2) hz2 hsm _ 3 3 [1, 2, 3] (BytesAt.new _ _ _ _ _ rfl) rfl (by decide))).mono ?_
  rintro e w3 ⟨rfl, r3, hp3, h3, hd3, hb3⟩
  have hb03 := hb02.trans ((ha2.mono hb02.size).trans hb3)
  rw [← hd3.out]
  go_wp2_with fail
  refine (after (x := fun p => syncP p ⟨#[97]⟩) hp3 k3 h3 hb03.size (sync_any _ _ r3 ⟨#[97]⟩ h3 hb03.size hsm)).mono ?_
  rintro e w4 ⟨rfl, r4, hp4, h4, hd4, hb4⟩
  have hb04 := hb03.trans hb4
  rw [← hd4.out]
  go_wp2_with fail
  have ha4 : Below w4.heap.size w4 (w4.alloc (.cells #[.int .u8 4, .int .u8 5] 5)) := (Below.refl _ _).alloc (Nat.le_refl _) _
  have hz4 : w.heap.size ≤ (w4.alloc (.cells #[.int .u8 4, .int .u8 5] 5)).heap.size := Nat.le_trans hb04.size ha4.size
  refine (after (x := fun p => appendP p ⟨#[97]⟩ [4, 5]) hp4 k4 (h4.old ha4) hz4 (append_any _ _ r4 ⟨#[97]⟩ (h4.old ha4) hz4 hsm _ 2 2 [4, 5] (BytesAt.new _ _ _ _ _ rfl) rfl (by decide))).mono ?_
  rintro e w5 ⟨rfl, r5, hp5, h5, hd5, hb5⟩
  have hb05 := hb04.trans ((ha4.mono hb04.size).trans hb5)
  rw [← hd5.out]
  go_wp2_with fail
  have ha5 : Below w5.heap.size w5 (w5.alloc (.cells #[.string ⟨#[97]⟩, .int .i64 1] 33)) := (Below.refl _ _).alloc (Nat.le_refl _) _
  have hz5 : w.heap.size ≤ (w5.alloc (.cells #[.string ⟨#[97]⟩, .int .i64 1] 33)).heap.size := Nat.le_trans hb05.size ha5.size
  have hrow : RowAt (w5.alloc (.cells #[.string ⟨#[97]⟩, .int .i64 1] 33)) (some ⟨w5.heap.size, 0, none⟩) (([(⟨#[97]⟩, 1)] : PlanP).flatMap pieceV) := RowAt.new _ _ _
  refine (after (x := fun p => crashAll p [(⟨#[97]⟩, 1)]) hp5 k5 (h5.old ha5) hz5 ((crash_any _ _ r5 _ 1 1 [(⟨#[97]⟩, 1)] (h5.old ha5) hz5 hrow rfl (by decide) (fun ad ha _ f hf => by cases ha; have := (h5.files f hf).blk.lt; show f.blk ≠ w5.heap.size; omega) (fun ad ha _ => by cases ha; simp)).mono (by rintro e w' ⟨r', h1, h2, h3⟩; exact ⟨h1, r', h2, h3⟩))).mono ?_
  rintro e w6 ⟨rfl, r6, hp6, h6, hd6, hb6⟩
  have hb06 := hb05.trans ((ha5.mono hb05.size).trans hb6)
  rw [← hd6.out]
  go_wp2_with fail
  refine (after (x := fun p => appendP p ⟨#[97]⟩ []) hp6 k6 h6 hb06.size (append_any _ _ r6 ⟨#[97]⟩ h6 hb06.size hsm none 0 0 [] (RowAt.nil _ _) rfl (by decide))).mono ?_
  rintro e w7 ⟨rfl, r7, hp7, h7, hd7, hb7⟩
  have hb07 := hb06.trans hb7
  rw [← hd7.out]
  go_wp2_with fail
  refine (after (x := fun p => openP p) hp7 k7 h7 hb07.size (open_any _ _ r7 h7)).mono ?_
  rintro e w8 ⟨rfl, r8, hp8, h8, hd8, hb8⟩
  have hb08 := hb07.trans hb8
  rw [← hd8.out]
  go_wp2_with fail
  have hrd := read_any w8 _ r8 ⟨#[97]⟩ h8 hsm
  rw [hp8.out, show readP wk6 ⟨#[97]⟩ = ([1, 2, 3, 4], 0) from k8] at hrd
  refine hrd.mono ?_
  rintro e w9 ⟨a, n, c, rfl, hn, hown, hb9⟩
  obtain rfl : n = 4 := hn.symm
  have hst : (convert 24 9 (.slice a 4 c)).run Try.prog w9 = .ok (.string (strOf [1, 2, 3, 4])) w9 := run_string_of (P := Try.prog) w9 (c := c) Try.underlying24 Try.underlying5 Try.underlying9 (show BytesAt w9 a [1, 2, 3, 4] from hown.row) rfl
  have hbe : ((strOf [1, 2, 3, 4]).toList == [1, 2, 3, 4]) = true := by rw [strOf_toList]; rfl
  go_wp2_with fail
  go_ret
  exact ⟨by first | rfl | simp, hb08.trans (hb9.mono hb08.size)⟩
end Go.Proofs.Ytojmffpkaihmmaa
