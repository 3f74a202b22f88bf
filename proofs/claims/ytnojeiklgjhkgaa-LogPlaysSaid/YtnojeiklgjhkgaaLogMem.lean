/- A log in memory, on a disk in memory. -/
import Derived.Test.YtnojeiklgjhkgaaDiskWake
import Derived.Test.YtnojeiklgjhkgaaLogScan
import Derived.Test.YtnojeiklgjhkgaaOwnFresh
namespace Go.Proofs.Ytnojeiklgjhkgaa
open Go.RowKit Go.Maps
set_option linter.unusedVariables false
set_option linter.unusedSimpArgs false

section
variable {w w' : World} {B : Nat} {T t : TypeId} {a : Option Addr} {n c : Nat} {vs : List Value} {ls : List (List UInt8)}
theorem Own.keep2 {e : TypeId} {size : Nat} (h : Own w B e size a n c vs) (hk : ∀ x, a = some x → w'.heap[x.block]? = w.heap[x.block]?) : Own w' B e size a n c vs := h.keepAt hk
theorem OwnPieces.keep (h : OwnPieces w B T t a n c vs ls) (hk : ∀ x, a = some x → w'.heap[x.block]? = w.heap[x.block]?) (hk2 : ∀ ad m C, Value.slice (some ad) m C ∈ vs → w'.heap[ad.block]? = w.heap[ad.block]?) : OwnPieces w' B T t a n c vs ls := by
  refine ⟨h.1.keepAt hk, h.2.1, fun r hr => ?_⟩
  obtain ⟨A, C, h1, h2⟩ := h.2.2 r hr
  exact ⟨A, C, h1, h2.keepAt fun x hx => by subst hx; exact hk2 x _ C (List.mem_of_getElem? h1)⟩
theorem OwnPieces.lower {B' : Nat} (h : OwnPieces w B T t a n c vs ls) (hB : B' ≤ B) : OwnPieces w B' T t a n c vs ls :=
  ⟨h.1.lower hB, h.2.1, fun r hr => by obtain ⟨A, C, h1, h2⟩ := h.2.2 r hr; exact ⟨A, C, h1, h2.lower hB⟩⟩
theorem OwnPieces.inner {ad : Addr} {m C : Nat} (h : OwnPieces w B T t a n c vs ls) (hm : Value.slice (some ad) m C ∈ vs) : B ≤ ad.block ∧ ad.block < w.heap.size ∧ ∃ cur, Blk w ad.block cur t := by
  obtain ⟨r, hr, he⟩ := List.getElem_of_mem hm
  obtain ⟨A, C', h1, h2⟩ := h.2.2 r (by rw [← h.2.1]; exact hr)
  rw [List.getElem?_eq_getElem hr, he] at h1
  simp only [Option.some.injEq, Value.slice.injEq] at h1
  exact h2.block_lt h1.1.symm
end

structure LogR where
  l : Nat
  nm : Name
  a : Option Addr
  c : Nat
  vs : List Value
  ls : List (List UInt8)
  sure : Nat
structure LogAt (w : World) (B : Nat) (d : Nat) (R : LogR) : Prop where
  ge : B ≤ R.l
  blk : Blk w R.l #[.pointer (some ⟨d, 0, none⟩), .string R.nm, .slice R.a R.ls.length R.c, .int .i64 (R.sure : Int)] 73
  rows : OwnPieces w B 22 5 R.a R.ls.length R.c R.vs R.ls
  cnt : R.ls.length ≤ 4096
  lens : ∀ x ∈ R.ls, x.length ≤ 65536
  nmz : R.nm.size ≤ maxLen
  sle : R.sure ≤ R.ls.length
/-- The log's own blocks. -/
def lfoot (R : LogR) (x : Nat) : Prop := x = R.l ∨ (∃ ad, R.a = some ad ∧ x = ad.block) ∨ ∃ ad m C, Value.slice (some ad) m C ∈ R.vs ∧ x = ad.block
section
variable {w w' : World} {B d : Nat} {R R' R'' : LogR} {r r' r'' : DiskR}
theorem LogAt.keep (h : LogAt w B d R) (hk : ∀ x, lfoot R x → w'.heap[x]? = w.heap[x]?) : LogAt w' B d R :=
  ⟨h.ge, (hk _ (.inl rfl)).trans h.blk, h.rows.keep (fun x hx => hk _ (.inr (.inl ⟨x, hx, rfl⟩))) (fun ad m C hm => hk _ (.inr (.inr ⟨ad, m, C, hm, rfl⟩))), h.cnt, h.lens, h.nmz, h.sle⟩
theorem LogAt.lt (h : LogAt w B d R) {x : Nat} (hx : lfoot R x) : B ≤ x ∧ x < w.heap.size := by
  rcases hx with rfl | ⟨ad, ha, rfl⟩ | ⟨ad, m, C, hm, rfl⟩
  · exact ⟨h.ge, h.blk.lt⟩
  · obtain ⟨h1, h2, _⟩ := h.rows.1.block_lt ha
    exact ⟨h1, h2⟩
  · obtain ⟨h1, h2, _⟩ := h.rows.inner hm
    exact ⟨h1, h2⟩
theorem LogAt.old (h : LogAt w B d R) (hb : Below w.heap.size w w') : LogAt w' B d R := h.keep fun x hx => hb.block x (h.lt hx).2
theorem LogAt.lower {B' : Nat} (h : LogAt w B d R) (hB : B' ≤ B) : LogAt w B' d R := ⟨Nat.le_trans hB h.ge, h.blk, h.rows.lower hB, h.cnt, h.lens, h.nmz, h.sle⟩
/-- A log and its disk. -/
structure DL (w : World) (B : Nat) (r : DiskR) (R : LogR) : Prop where
  disk : DiskAt w B r
  log : LogAt w B r.d R
  apart : ∀ x, lfoot R x → ¬ foot r x
theorem DL.keep (h : DL w B r R) (hk : ∀ x, foot r x ∨ lfoot R x → w'.heap[x]? = w.heap[x]?) : DL w' B r R := ⟨h.disk.keep fun x hx => hk x (.inl hx), h.log.keep fun x hx => hk x (.inr hx), h.apart⟩
theorem DL.lt (h : DL w B r R) {x : Nat} (hx : foot r x ∨ lfoot R x) : B ≤ x ∧ x < w.heap.size := hx.elim h.disk.lt h.log.lt
theorem DL.old (h : DL w B r R) (hb : Below w.heap.size w w') : DL w' B r R := h.keep fun x hx => hb.block x (h.lt hx).2
theorem DL.lower {B' : Nat} (h : DL w B r R) (hB : B' ≤ B) : DL w B' r R := ⟨h.disk.lower hB, h.log.lower hB, h.apart⟩
/-- A call on a log. -/
structure LStep (B : Nat) (w : World) (r : DiskR) (R : LogR) (w' : World) (r' : DiskR) (R' : LogR) : Prop where
  turn : Turn (fun x => foot r x ∨ lfoot R x) w w'
  at' : DL w' B r' R'
  foot' : ∀ x, foot r' x ∨ lfoot R' x → (foot r x ∨ lfoot R x) ∨ w.heap.size ≤ x
  d : r'.d = r.d
  l : R'.l = R.l
  nm : R'.nm = R.nm
theorem LStep.refl (h : DL w B r R) : LStep B w r R w r R := ⟨Turn.refl _ _, h, fun _ hx => .inl hx, rfl, rfl, rfl⟩
theorem LStep.trans {w'' : World} (h : LStep B w r R w' r' R') (h' : LStep B w' r' R' w'' r'' R'') : LStep B w r R w'' r'' R'' :=
  ⟨h.turn.trans h'.turn h.foot', h'.at', fun x hx => by
    rcases h'.foot' x hx with h1 | h1
    · exact h.foot' x h1
    · exact .inr (Nat.le_trans h.turn.size h1), h'.d.trans h.d, h'.l.trans h.l, h'.nm.trans h.nm⟩
theorem LStep.below (h : LStep B w r R w' r' R') (hr : DL w B r R) (hB : B ≤ w.heap.size) : Below B w w' := h.turn.below (fun _ hx => (hr.lt hx).1) hB
theorem LStep.old (h : DL w B r R) (hb : Below w.heap.size w w') : LStep B w r R w' r R := ⟨Turn.of_below hb, h.old hb, fun _ hx => .inl hx, rfl, rfl, rfl⟩
/-- A call on the disk alone. -/
theorem DStep.log (hs : DStep B w r w' r') (h : DL w B r R) : LStep B w r R w' r' R := by
  refine ⟨hs.turn.mono fun _ hx => .inl hx, ⟨hs.at', ?_, fun x hx hf => ?_⟩, fun x hx => ?_, hs.d, rfl, rfl⟩
  · rw [hs.d]
    exact h.log.keep fun x hx => hs.turn.block x (h.log.lt hx).2 (h.apart x hx)
  · rcases hs.foot' x hf with h1 | h1
    · exact h.apart x hx h1
    · have := (h.log.lt hx).2; omega
  · rcases hx with hx | hx
    · rcases hs.foot' x hx with h1 | h1
      · exact .inl (.inl h1)
      · exact .inr h1
    · exact .inl (.inr hx)
end

/-! ### Plain -/
def openB (p : DiskP) (nm : Name) : List (List UInt8) × List UInt8 := scan most (readP p nm).1
def openMk (p : DiskP) (nm : Name) : DiskP × Int := if (readP p nm).2 = 4 then makeP p nm else (p, (readP p nm).2)
def openCut (p : DiskP) (nm : Name) : DiskP × Int := if (openB p nm).2.length = 0 then ((openMk p nm).1, 0) else cutP (openMk p nm).1 nm ((((readP p nm).1.length - (openB p nm).2.length : Nat)) : Int)
def openSync (p : DiskP) (nm : Name) : DiskP × Int := syncP (openCut p nm).1 nm
def openE (p : DiskP) (nm : Name) : Int := if (openMk p nm).2 ≠ 0 then (openMk p nm).2 else if (openCut p nm).2 ≠ 0 then (openCut p nm).2 else (openSync p nm).2
def openD (p : DiskP) (nm : Name) : DiskP := if (openMk p nm).2 ≠ 0 then (openMk p nm).1 else if (openCut p nm).2 ≠ 0 then (openCut p nm).1 else (openSync p nm).1
def openN (p : DiskP) (nm : Name) : Nat := if openE p nm = 0 then (openB p nm).2.length else 0
end Go.Proofs.Ytnojeiklgjhkgaa
