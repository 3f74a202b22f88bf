/- What turns between two worlds, and rows that stay. No program is named. -/
import Derived.Test.YtnojeiklgjhkgaaOnly
namespace Go.Proofs.Ytnojeiklgjhkgaa
open Go.RowKit

theorem Own.keepAt {w w' : World} {B : Nat} {e : TypeId} {size : Nat} {a : Option Addr} {n c : Nat} {vs : List Value} (h : Own w B e size a n c vs) (hk : ∀ x, a = some x → w'.heap[x.block]? = w.heap[x.block]?) : Own w' B e size a n c vs := by
  obtain ⟨h1, h2⟩ := h
  refine ⟨h1, ?_⟩
  rcases h2 with h2 | ⟨g, cap, cur, hv, hB, hg, rest⟩
  · exact .inl h2
  · refine .inr ⟨g, cap, cur, hv, hB, ?_, rest⟩
    simp only [Value.slice.injEq] at hv
    exact (hk _ hv.1).trans hg
theorem Own.block_lt {w : World} {B : Nat} {e : TypeId} {size : Nat} {a : Option Addr} {n c : Nat} {vs : List Value} (h : Own w B e size a n c vs) {x : Addr} (hx : a = some x) : B ≤ x.block ∧ x.block < w.heap.size ∧ ∃ cur, Blk w x.block cur e := by
  obtain ⟨h1, h2⟩ := h
  rcases h2 with ⟨h2, _⟩ | ⟨g, cap, cur, hv, hB, hg, rest⟩
  · simp only [Value.slice.injEq] at h2
    rw [hx] at h2
    cases h2.1
  · simp only [Value.slice.injEq] at hv
    rw [hx] at hv
    cases hv.1
    exact ⟨hB, (Array.getElem?_eq_some_iff.1 hg).1, cur, hg⟩
/-- Whatever lay there and is not in F lies as it lay. -/
structure Turn (F : Nat → Prop) (w w' : World) : Prop where
  os : w'.os = w.os
  tape : w'.tape = w.tape
  output : w'.output = w.output
  size : w.heap.size ≤ w'.heap.size
  block : ∀ k, k < w.heap.size → ¬ F k → w'.heap[k]? = w.heap[k]?
section
variable {F G : Nat → Prop} {a b c w w' : World}
theorem Turn.refl (F : Nat → Prop) (w : World) : Turn F w w := ⟨rfl, rfl, rfl, Nat.le_refl _, fun _ _ _ => rfl⟩
theorem Turn.trans (h : Turn F a b) (h' : Turn G b c) (hG : ∀ k, G k → F k ∨ a.heap.size ≤ k) : Turn F a c :=
  ⟨h'.os.trans h.os, h'.tape.trans h.tape, h'.output.trans h.output, Nat.le_trans h.size h'.size, fun k hk hF => (h'.block k (Nat.lt_of_lt_of_le hk h.size) (fun hg => by
    rcases hG k hg with h1 | h1
    · exact hF h1
    · omega)).trans (h.block k hk hF)⟩
theorem Turn.mono (h : Turn F a b) (hG : ∀ k, F k → G k) : Turn G a b := ⟨h.os, h.tape, h.output, h.size, fun k hk hF => h.block k hk fun hf => hF (hG k hf)⟩
theorem Turn.below (h : Turn F a b) {B : Nat} (hF : ∀ k, F k → B ≤ k) (hB : B ≤ a.heap.size) : Below B a b :=
  ⟨h.os, h.tape, h.output, h.size, fun k hk => h.block k (Nat.lt_of_lt_of_le hk hB) fun hf => by have := hF k hf; omega⟩
theorem Turn.of_below (h : Below a.heap.size a b) : Turn F a b := ⟨h.os, h.tape, h.output, h.size, fun k hk _ => h.block k hk⟩
theorem Turn.of_grown {row : Option Nat} (h : a.grownBy b row) (hF : ∀ k, row = some k → F k) : Turn F a b :=
  ⟨h.os, h.tape, h.output, h.size, fun k hk hf => h.block k hk fun e => hf (hF k e.symm)⟩
theorem Turn.alloc (h : Turn F a b) (o : Obj) : Turn F a (b.alloc o) := h.trans (Turn.of_below (F := F) ((Below.refl _ _).alloc (Nat.le_refl _) o)) (fun _ hk => .inl hk)
theorem Turn.drew (h : Turn F a b) : Turn F a b.drew := ⟨h.os, h.tape, h.output, h.size, h.block⟩
theorem Turn.undrew (h : Turn F a b) : Turn F a.drew b := ⟨h.os, h.tape, h.output, h.size, h.block⟩
theorem Turn.drewN (h : Turn F a b) (n : Nat) : Turn F a (b.drewN n) := ⟨h.os, h.tape, h.output, h.size, h.block⟩
theorem Turn.setCell (h : Turn F a b) {x : Addr} (hx : F x.block ∨ a.heap.size ≤ x.block) (v : Value) : Turn F a (b.setCell x v) :=
  ⟨h.os, h.tape, h.output, by simp [World.setCell]; exact h.size, fun k hk hf => (heap_setCell_other b x k v (by
    rintro rfl
    rcases hx with hx | hx
    · exact hf hx
    · omega)).trans (h.block k hk hf)⟩
end

section
variable {w w' : World}
theorem RowAt.keepAt {a : Option Addr} {vs : List Value} (h : RowAt w a vs) (hk : ∀ x, a = some x → w'.heap[x.block]? = w.heap[x.block]?) : RowAt w' a vs := by
  intro i hi
  obtain ⟨b, o, h1, h2⟩ := h i hi
  exact ⟨b, o, h1, (World.cell?_of_block (a := ⟨b, o + i, none⟩) (hk ⟨b, o, none⟩ h1)).trans h2⟩
end
end Go.Proofs.Ytnojeiklgjhkgaa
