/- Worlds in which one block alone turns. No program is named. -/
import Derived.Test.YtnojeiklgjhkgaaBase
namespace Go.Proofs.Ytnojeiklgjhkgaa
open Go.RowKit

/-! ### Only one block turns -/
section
variable {a b c w : World} {g : Nat}
theorem only_trans {x : Option Nat} (h : a.grownBy b x) (k : b.grownBy c x) : a.grownBy c x :=
  ⟨k.os.trans h.os, k.tape.trans h.tape, k.output.trans h.output, Nat.le_trans h.size k.size, fun i hi hn => (k.block i (Nat.lt_of_lt_of_le hi h.size) hn).trans (h.block i hi hn)⟩
theorem only_drewN {x : Option Nat} (h : a.grownBy w x) (n : Nat) : a.grownBy (w.drewN n) x := ⟨h.os, h.tape, h.output, h.size, h.block⟩
theorem only_drew {x : Option Nat} (h : a.grownBy w x) : a.grownBy w.drew x := ⟨h.os, h.tape, h.output, h.size, h.block⟩
theorem only_undrew {x : Option Nat} (h : a.grownBy w x) : a.drew.grownBy w x := ⟨h.os, h.tape, h.output, h.size, h.block⟩
theorem only_alloc {x : Option Nat} (h : a.grownBy w x) (o : Obj) : a.grownBy (w.alloc o) x := only_trans h (World.grownBy_alloc w o x)
theorem only_setCell (h : a.grownBy w (some g)) (i : Nat) (u : Value) : a.grownBy (w.setCell ⟨g, i, none⟩ u) (some g) :=
  ⟨h.os, h.tape, h.output, by simpa [World.setCell] using h.size, fun k hk hne => (heap_setCell_other w ⟨g, i, none⟩ k u (by rintro rfl; exact hne rfl)).trans (h.block k hk hne)⟩
theorem only_setRow (h : a.grownBy w (some g)) (cs : Array Value) : a.grownBy (w.setRow g cs) (some g) :=
  ⟨h.os, h.tape, h.output, by simpa [World.setRow] using h.size, fun k hk hne => (Go.setRow_other w g k cs (by rintro rfl; exact hne rfl)).trans (h.block k hk hne)⟩
theorem only_new {x : Option Nat} (h : a.grownBy w x) {g' i : Nat} (hg : a.heap.size ≤ g') (u : Value) : a.grownBy (w.setCell ⟨g', i, none⟩ u) x :=
  ⟨h.os, h.tape, h.output, by simpa [World.setCell] using h.size, fun k hk hne => (heap_setCell_other w ⟨g', i, none⟩ k u (by show k ≠ g'; omega)).trans (h.block k hk hne)⟩
theorem only_newRow {x : Option Nat} (h : a.grownBy w x) {g' : Nat} (hg : a.heap.size ≤ g') (cs : Array Value) : a.grownBy (w.setRow g' cs) x :=
  ⟨h.os, h.tape, h.output, by simpa [World.setRow] using h.size, fun k hk hne => (Go.setRow_other w g' k cs (by omega)).trans (h.block k hk hne)⟩
theorem only_below {x : Option Nat} (h : Below a.heap.size a w) : a.grownBy w x := ⟨h.os, h.tape, h.output, h.size, fun i hi _ => h.block i hi⟩
theorem only_then {x : Option Nat} (h : a.grownBy w x) (k : Below w.heap.size w b) : a.grownBy b x := only_trans h (only_below k)
theorem below_only {B : Nat} (h : Below B a w) (hz : B ≤ w.heap.size) (k : w.grownBy b (some g)) (hg : B ≤ g) : Below B a b :=
  h.grown k hz (fun j hj => by cases hj; exact hg)
end
end Go.Proofs.Ytnojeiklgjhkgaa
