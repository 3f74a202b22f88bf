/- A disk in plain words: files by name, what is sure of each, crashes. No program is named. -/
import Derived.Test.YtnojeiklgjhkgaaBase
namespace Go.Proofs.Ytnojeiklgjhkgaa

abbrev Name := ByteArray
structure FileP where
  name : Name
  b : List UInt8
  sure : Nat
  deriving DecidableEq
abbrev PlanP := List (Name × Int)
structure DiskP where
  fs : List FileP
  down : Bool
  armed : Bool
  left : Int
  plan : PlanP
def keepI (plan : PlanP) (nm : Name) : Int := ((plan.find? fun x => x.1 = nm).map fun x => x.2).getD 0
/-- What a crash keeps of a file beyond what is sure. -/
def keepN (plan : PlanP) (f : FileP) : Nat := (if plan.any (fun x => x.1 = f.name) then min (max (keepI plan f.name) 0) ((f.b.length : Int) - f.sure) else 0).toNat
def crashF (plan : PlanP) (f : FileP) : FileP := { f with b := f.b.take (f.sure + keepN plan f), sure := f.sure + keepN plan f }
def crashP (p : DiskP) (plan : PlanP) : DiskP := { p with fs := p.fs.map (crashF plan), down := true, armed := false }
/-- A call that would tell OK is counted. -/
def goesP (p : DiskP) : DiskP × Int := if p.armed = false then (p, 0) else if 0 < p.left then ({ p with left := p.left - 1 }, 0) else (crashP p p.plan, 5)
def findP (p : DiskP) (nm : Name) : Option FileP := p.fs.find? fun f => f.name = nm
def updF (fs : List FileP) (nm : Name) (g : FileP → FileP) : List FileP := fs.map fun f => if f.name = nm then g f else f
def updP (p : DiskP) (nm : Name) (g : FileP → FileP) : DiskP := { p with fs := updF p.fs nm g }
def okName (nm : Name) : Bool := decide (nm.size ≠ 0) && decide (nm.size ≤ 40)
def maxFileN : Nat := 1048576
def makeP (p : DiskP) (nm : Name) : DiskP × Int :=
  if p.down then (p, 5) else if okName nm = false then (p, 2) else if (findP p nm).isSome then (p, 101) else if 64 ≤ p.fs.length then (p, 100)
  else ({ p with fs := p.fs ++ [⟨nm, [], 0⟩] }, 0)
/-- Anything that is asked of a file, if there is one. -/
def mayP (p : DiskP) (nm : Name) (g : FileP → DiskP × Int) : DiskP × Int :=
  if p.down then (p, 5) else match findP p nm with
    | none => (p, 4)
    | some f => g f
def appendP (p : DiskP) (nm : Name) (b : List UInt8) : DiskP × Int :=
  mayP p nm fun f => if maxFileN - f.b.length < b.length then (p, 3) else goesP (updP p nm fun f => { f with b := f.b ++ b })
def syncP (p : DiskP) (nm : Name) : DiskP × Int :=
  mayP p nm fun _ => if (goesP p).2 = 0 then (updP (goesP p).1 nm fun f => { f with sure := f.b.length }, 0) else goesP p
def cutP (p : DiskP) (nm : Name) (n : Int) : DiskP × Int :=
  mayP p nm fun f => if n < 0 ∨ (f.b.length : Int) < n then (p, 2) else (updP p nm fun f => { f with b := f.b.take n.toNat, sure := n.toNat }, 0)
def removeP (p : DiskP) (nm : Name) : DiskP × Int := mayP p nm fun _ => ({ p with fs := p.fs.filter fun f => f.name ≠ nm }, 0)
def renameP (p : DiskP) (nm nw : Name) : DiskP × Int :=
  mayP p nm fun f => if okName nw = false then (p, 2) else ({ p with fs := (p.fs.filter fun f => f.name ≠ nm ∧ f.name ≠ nw) ++ [{ f with name := nw }] }, 0)
def readP (p : DiskP) (nm : Name) : List UInt8 × Int := if p.down then ([], 5) else match findP p nm with
  | none => ([], 4)
  | some f => (f.b, 0)
def sureP (p : DiskP) (nm : Name) : Nat × Int := if p.down then (0, 5) else match findP p nm with
  | none => (0, 4)
  | some f => (f.sure, 0)
def crashAll (p : DiskP) (plan : PlanP) : DiskP × Int := if p.down then (p, 5) else (crashP p plan, 0)
def openP (p : DiskP) : DiskP × Int := if p.down then ({ p with down := false }, 0) else (p, 2)
def armP (p : DiskP) (n : Int) (plan : PlanP) : DiskP × Int := if p.down then (p, 5) else if n < 0 then (p, 2) else ({ p with armed := true, left := n, plan := plan }, 0)
/-- What a disk is, always. -/
structure DiskOk (p : DiskP) : Prop where
  names : (p.fs.map (·.name)).Nodup
  named : ∀ f ∈ p.fs, okName f.name = true
  sure : ∀ f ∈ p.fs, f.sure ≤ f.b.length
  size : ∀ f ∈ p.fs, f.b.length ≤ maxFileN
  count : p.fs.length ≤ 64
  left : 0 ≤ p.left ∧ p.left ≤ 9223372036854775807
theorem keepN_le (plan : PlanP) (f : FileP) (h : f.sure ≤ f.b.length) : f.sure + keepN plan f ≤ f.b.length := by
  unfold keepN
  split <;> omega
theorem crashF_name (plan : PlanP) (f : FileP) : (crashF plan f).name = f.name := rfl
theorem crashF_len (plan : PlanP) (f : FileP) (h : f.sure ≤ f.b.length) : (crashF plan f).b.length = f.sure + keepN plan f := by
  have := keepN_le plan f h
  simp [crashF]; omega
theorem map_names {fs : List FileP} {g : FileP → FileP} (h : ∀ f ∈ fs, (g f).name = f.name) : (fs.map g).map (·.name) = fs.map (·.name) := by
  rw [List.map_map]
  exact List.map_congr_left h
theorem DiskOk.map {p : DiskP} (h : DiskOk p) (g : FileP → FileP) (h1 : ∀ f ∈ p.fs, (g f).name = f.name) (h2 : ∀ f ∈ p.fs, (g f).sure ≤ (g f).b.length) (h3 : ∀ f ∈ p.fs, (g f).b.length ≤ maxFileN) (d a : Bool) (l : Int) (hl : 0 ≤ l ∧ l ≤ 9223372036854775807) (pl : PlanP) : DiskOk ⟨p.fs.map g, d, a, l, pl⟩ := by
  refine ⟨?_, ?_, ?_, ?_, by simpa using h.count, hl⟩
  · show ((p.fs.map g).map (·.name)).Nodup
    rw [map_names h1]; exact h.names
  · intro f hf
    obtain ⟨f0, hf0, rfl⟩ := List.mem_map.1 hf
    rw [h1 f0 hf0]; exact h.named f0 hf0
  · intro f hf
    obtain ⟨f0, hf0, rfl⟩ := List.mem_map.1 hf
    exact h2 f0 hf0
  · intro f hf
    obtain ⟨f0, hf0, rfl⟩ := List.mem_map.1 hf
    exact h3 f0 hf0
theorem DiskOk.crash {p : DiskP} (h : DiskOk p) (plan : PlanP) : DiskOk (crashP p plan) := by
  refine h.map (crashF plan) (fun f _ => rfl) (fun f hf => ?_) (fun f hf => ?_) _ _ _ h.left _
  · rw [crashF_len plan f (h.sure f hf)]; exact Nat.le_refl _
  · rw [crashF_len plan f (h.sure f hf)]; exact Nat.le_trans (keepN_le plan f (h.sure f hf)) (h.size f hf)
theorem DiskOk.goes {p : DiskP} (h : DiskOk p) : DiskOk (goesP p).1 := by
  unfold goesP
  by_cases h1 : p.armed = false
  · rw [if_pos h1]; exact h
  · rw [if_neg h1]
    by_cases h2 : 0 < p.left
    · rw [if_pos h2]; exact ⟨h.names, h.named, h.sure, h.size, h.count, by have := h.left; show 0 ≤ p.left - 1 ∧ p.left - 1 ≤ 9223372036854775807; omega⟩
    · rw [if_neg h2]; exact h.crash _
theorem DiskOk.upd {p : DiskP} (h : DiskOk p) (nm : Name) (g : FileP → FileP) (h1 : ∀ f ∈ p.fs, (g f).name = f.name) (h2 : ∀ f ∈ p.fs, f.name = nm → (g f).sure ≤ (g f).b.length) (h3 : ∀ f ∈ p.fs, f.name = nm → (g f).b.length ≤ maxFileN) : DiskOk (updP p nm g) := by
  refine h.map (fun f => if f.name = nm then g f else f) (fun f hf => ?_) (fun f hf => ?_) (fun f hf => ?_) _ _ _ h.left _
  all_goals
    (try dsimp only)
    by_cases e : f.name = nm
    · rw [if_pos e]
      first | exact h1 f hf | exact h2 f hf e | exact h3 f hf e
    · rw [if_neg e]
      try (first | rfl | exact h.sure f hf | exact h.size f hf)
/-- Names that stand once: whoever has the name is the one that is found. -/
theorem find_name {fs : List FileP} (hn : (fs.map (·.name)).Nodup) {f : FileP} (hf : f ∈ fs) : fs.find? (fun x => x.name = f.name) = some f := by
  induction fs with
  | nil => cases hf
  | cons x l ih =>
    simp only [List.map_cons, List.nodup_cons] at hn
    rcases List.mem_cons.1 hf with rfl | hf'
    · simp
    · have hne : ¬ x.name = f.name := fun e => hn.1 (e ▸ List.mem_map_of_mem hf')
      rw [List.find?_cons, decide_eq_false hne]
      exact ih hn.2 hf'
theorem findP_mem {p : DiskP} {nm : Name} {f : FileP} (h : findP p nm = some f) : f ∈ p.fs ∧ f.name = nm := by
  refine ⟨List.mem_of_find?_eq_some h, ?_⟩
  have := List.find?_some h
  simpa using this
theorem findP_none {p : DiskP} {nm : Name} (h : findP p nm = none) : ∀ f ∈ p.fs, f.name ≠ nm := by
  intro f hf
  have := List.find?_eq_none.1 h f hf
  simpa using this
theorem find_perm {a b : List FileP} (hp : a.Perm b) (hn : (a.map (·.name)).Nodup) (nm : Name) : a.find? (fun f => f.name = nm) = b.find? (fun f => f.name = nm) := by
  have hn' : (b.map (·.name)).Nodup := (hp.map _).nodup_iff.1 hn
  cases h : a.find? (fun f => f.name = nm) with
  | none =>
    symm
    rw [List.find?_eq_none] at h ⊢
    intro x hx
    exact h x (hp.mem_iff.2 hx)
  | some f =>
    have hm := List.mem_of_find?_eq_some h
    have he : f.name = nm := by have := List.find?_some h; simpa using this
    have := find_name hn' (hp.mem_iff.1 hm)
    rw [he] at this
    exact this.symm
end Go.Proofs.Ytnojeiklgjhkgaa
