/- The walk of the disk laws' own 'wakes'; no disk. -/
import Derived.Test.YtnojeiklgjhkgaaDiskRead
namespace Go.Proofs.Ytnojeiklgjhkgaa
open Go.RowKit Go.Maps Go.Shelf
set_option linter.unusedVariables false
set_option linter.unusedSimpArgs false

def nmA : Name := ⟨#[97]⟩
def wk0 : DiskP := ⟨[], false, false, 0, []⟩
def wk1 : DiskP := ⟨[⟨nmA, [], 0⟩], false, false, 0, []⟩
def wk2 : DiskP := ⟨[⟨nmA, [1, 2, 3], 0⟩], false, false, 0, []⟩
def wk3 : DiskP := ⟨[⟨nmA, [1, 2, 3], 3⟩], false, false, 0, []⟩
def wk4 : DiskP := ⟨[⟨nmA, [1, 2, 3, 4, 5], 3⟩], false, false, 0, []⟩
def wk5 : DiskP := ⟨[⟨nmA, [1, 2, 3, 4], 4⟩], true, false, 0, []⟩
def wk6 : DiskP := ⟨[⟨nmA, [1, 2, 3, 4], 4⟩], false, false, 0, []⟩
theorem k1 : makeP wk0 nmA = (wk1, 0) := by rfl
theorem k2 : appendP wk1 nmA [1, 2, 3] = (wk2, 0) := by rfl
theorem k3 : syncP wk2 nmA = (wk3, 0) := by rfl
theorem k4 : appendP wk3 nmA [4, 5] = (wk4, 0) := by rfl
theorem k5 : crashAll wk4 [(nmA, 1)] = (wk5, 0) := by rfl
theorem k6 : appendP wk5 nmA [] = (wk5, 5) := by rfl
theorem k7 : openP wk5 = (wk6, 0) := by rfl
theorem k8 : readP wk6 nmA = ([1, 2, 3, 4], 0) := by rfl
theorem DiskAt.lower {w : World} {B B' : Nat} {r : DiskR} (h : DiskAt w B r) (hB : B' ≤ B) : DiskAt w B' r :=
  ⟨Nat.le_trans hB h.ged, Nat.le_trans hB h.gem, h.blk, h.map, fun f hf => ⟨(h.files f hf).blk, Nat.le_trans hB (h.files f hf).ge, (h.files f hf).row.lower hB⟩, h.apart, h.plan.lower hB, h.ok⟩
theorem RowAt.turn {w w' : World} {F : Nat → Prop} {a : Option Addr} {vs : List Value} (h : RowAt w a vs) (ht : Turn F w w') (hna : ∀ ad, a = some ad → ¬ F ad.block) : RowAt w' a vs := by
  intro i hi
  obtain ⟨b, o, h1, h2⟩ := h i hi
  exact ⟨b, o, h1, (World.cell?_of_block (a := ⟨b, o + i, none⟩) (ht.block b (World.block_lt_of_cell? w _ h2) (hna _ h1))).trans h2⟩
theorem new_any' (w : World) : Calls Try.prog 20 #[] w fun e w' => ∃ r, e = .returned (.pointer (some ⟨r.d, 0, none⟩)) ∧ Hid (r.p = wk0) ∧ DiskAt w' w.heap.size r ∧ Below w.heap.size w w' :=
  (new_any w).mono (by rintro e w' ⟨rfl, h1, h2, _⟩; exact ⟨newR w, rfl, Lib.hid rfl, h1, h2⟩)
/-- A call whose answer is known. -/
theorem after {f : Nat} {args : Array Value} {w : World} {B : Nat} {r : DiskR} {p q : DiskP} {v : Int} {x : DiskP → DiskP × Int} (hp : Hid (r.p = p)) (hx : x p = (q, v)) (hr : DiskAt w B r) (hB : B ≤ w.heap.size)
    (h : Calls Try.prog f args w fun e w' => e = .returned (.int .i64 (x r.p).2) ∧ ∃ r', r'.p = (x r.p).1 ∧ DStep B w r w' r') :
    Calls Try.prog f args w fun e w' => e = .returned (.int .i64 v) ∧ ∃ r', Hid (r'.p = q) ∧ DiskAt w' B r' ∧ Hid (r'.d = r.d) ∧ Below B w w' := by
  rw [hp.out, hx] at h
  refine h.mono ?_
  rintro e w' ⟨rfl, r', hr', hs⟩
  exact ⟨rfl, r', Lib.hid hr', hs.at', Lib.hid hs.d, hs.below hr hB⟩
end Go.Proofs.Ytnojeiklgjhkgaa
