/- What is asked of two disks that differ in the order of the files alone. No program is named. -/
import Derived.Test.YtojmffpkaihmmaaNames
namespace Go.Proofs.Ytojmffpkaihmmaa
set_option linter.unusedVariables false
set_option linter.unusedSimpArgs false

section
variable {p q : DiskP}
theorem Like.find (h : Like p q) (hp : DiskOk p) (nm : Name) : findP p nm = findP q nm := find_perm h.fs hp.names nm
theorem Like.crash (h : Like p q) (plan : PlanP) : Like (crashP p plan) (crashP q plan) := ⟨h.fs.map _, rfl, rfl, h.rest.2.2.1, h.rest.2.2.2⟩
theorem Like.upd (h : Like p q) (nm : Name) (g : FileP → FileP) : Like (updP p nm g) (updP q nm g) := ⟨h.fs.map _, h.rest⟩
theorem Like.crashAll (h : Like p q) (plan : PlanP) : (crashAll p plan).2 = (crashAll q plan).2 ∧ Like (Go.Proofs.Ytojmffpkaihmmaa.crashAll p plan).1 (Go.Proofs.Ytojmffpkaihmmaa.crashAll q plan).1 := by
  unfold Go.Proofs.Ytojmffpkaihmmaa.crashAll
  rw [h.rest.1]
  split
  · exact ⟨rfl, h⟩
  · exact ⟨rfl, h.crash plan⟩
theorem Like.goes (h : Like p q) : (goesP p).2 = (goesP q).2 ∧ Like (goesP p).1 (goesP q).1 := by
  unfold goesP
  rw [h.rest.2.1, h.rest.2.2.1, h.rest.2.2.2]
  split
  · exact ⟨rfl, h⟩
  · split
    · exact ⟨rfl, h.fs, h.rest.1, rfl, rfl, rfl⟩
    · exact ⟨rfl, h.crash _⟩
theorem Like.open' (h : Like p q) : (openP p).2 = (openP q).2 ∧ Like (openP p).1 (openP q).1 := by
  unfold openP
  rw [h.rest.1]
  split
  · exact ⟨rfl, h.fs, rfl, h.rest.2.1, h.rest.2.2.1, h.rest.2.2.2⟩
  · exact ⟨rfl, h⟩
theorem Like.arm (h : Like p q) (n : Int) (plan : PlanP) : (armP p n plan).2 = (armP q n plan).2 ∧ Like (armP p n plan).1 (armP q n plan).1 := by
  unfold armP
  rw [h.rest.1]
  split
  · exact ⟨rfl, h⟩
  · split
    · exact ⟨rfl, h⟩
    · exact ⟨rfl, h.fs, by first | exact h.rest.1 | rfl, rfl, rfl, rfl⟩
theorem Like.may (h : Like p q) (hp : DiskOk p) (nm : Name) (g g' : FileP → DiskP × Int) (hg : ∀ f, (g f).2 = (g' f).2 ∧ Like (g f).1 (g' f).1) : (mayP p nm g).2 = (mayP q nm g').2 ∧ Like (mayP p nm g).1 (mayP q nm g').1 := by
  unfold mayP
  rw [h.rest.1, h.find hp nm]
  split
  · exact ⟨rfl, h⟩
  · cases findP q nm with
    | none => exact ⟨rfl, h⟩
    | some f => exact hg f
theorem Like.append (h : Like p q) (hp : DiskOk p) (nm : Name) (b : List UInt8) : (appendP p nm b).2 = (appendP q nm b).2 ∧ Like (appendP p nm b).1 (appendP q nm b).1 := by
  refine h.may hp nm _ _ fun f => ?_
  split
  · exact ⟨rfl, h⟩
  · exact (h.upd nm _).goes
theorem Like.sync (h : Like p q) (hp : DiskOk p) (nm : Name) : (syncP p nm).2 = (syncP q nm).2 ∧ Like (syncP p nm).1 (syncP q nm).1 := by
  refine h.may hp nm _ _ fun f => ?_
  rw [h.goes.1]
  split
  · exact ⟨rfl, h.goes.2.upd nm _⟩
  · exact h.goes
theorem Like.cut (h : Like p q) (hp : DiskOk p) (nm : Name) (n : Int) : (cutP p nm n).2 = (cutP q nm n).2 ∧ Like (cutP p nm n).1 (cutP q nm n).1 := by
  refine h.may hp nm _ _ fun f => ?_
  split
  · exact ⟨rfl, h⟩
  · exact ⟨rfl, h.upd nm _⟩
theorem Like.remove (h : Like p q) (hp : DiskOk p) (nm : Name) : (removeP p nm).2 = (removeP q nm).2 ∧ Like (removeP p nm).1 (removeP q nm).1 :=
  h.may hp nm _ _ fun f => ⟨rfl, h.fs.filter _, h.rest⟩
theorem Like.rename (h : Like p q) (hp : DiskOk p) (nm nw : Name) : (renameP p nm nw).2 = (renameP q nm nw).2 ∧ Like (renameP p nm nw).1 (renameP q nm nw).1 := by
  refine h.may hp nm _ _ fun f => ?_
  split
  · exact ⟨rfl, h⟩
  · exact ⟨rfl, (h.fs.filter _).append_right _, h.rest⟩
theorem Like.make (h : Like p q) (hp : DiskOk p) (nm : Name) : (makeP p nm).2 = (makeP q nm).2 ∧ Like (makeP p nm).1 (makeP q nm).1 := by
  unfold makeP
  rw [h.rest.1, h.find hp nm, h.fs.length_eq]
  split
  · exact ⟨rfl, h⟩
  · split
    · exact ⟨rfl, h⟩
    · split
      · exact ⟨rfl, h⟩
      · split
        · exact ⟨rfl, h⟩
        · exact ⟨rfl, h.fs.append_right _, rfl, h.rest.2⟩
theorem Like.read (h : Like p q) (hp : DiskOk p) (nm : Name) : readP p nm = readP q nm := by
  unfold readP
  rw [h.rest.1, h.find hp nm]
theorem Like.sure (h : Like p q) (hp : DiskOk p) (nm : Name) : sureP p nm = sureP q nm := by
  unfold sureP
  rw [h.rest.1, h.find hp nm]
end
/-! ### Names stay in order -/
theorem names_of {r r' : RefR} (h : r'.p.fs.map (·.name) = r.p.fs.map (·.name)) (hs : SortedN r.names) : SortedN r'.names := by
  have e : ∀ x : RefR, x.names = x.p.fs.map (·.name) := fun x => by simp [RefR.names, RefR.p, FileQ.p]
  rw [e, h, ← e]
  exact hs
theorem goes_names (p : DiskP) : (goesP p).1.fs.map (·.name) = p.fs.map (·.name) := by
  unfold goesP
  split
  · rfl
  · split
    · rfl
    · exact map_names fun f _ => rfl
theorem upd_names (p : DiskP) (nm : Name) (g : FileP → FileP) (hg : ∀ f, (g f).name = f.name) : (updP p nm g).fs.map (·.name) = p.fs.map (·.name) := map_names fun f _ => by
  split
  · exact hg f
  · rfl
theorem may_names (p : DiskP) (nm : Name) (g : FileP → DiskP × Int) (hg : ∀ f, (g f).1.fs.map (·.name) = p.fs.map (·.name)) : (mayP p nm g).1.fs.map (·.name) = p.fs.map (·.name) := by
  unfold mayP
  split
  · rfl
  · split
    · rfl
    · exact hg _
theorem append_names (p : DiskP) (nm : Name) (b : List UInt8) : (appendP p nm b).1.fs.map (·.name) = p.fs.map (·.name) := may_names p nm _ fun f => by
  split
  · rfl
  · rw [goes_names]; exact upd_names p nm _ fun _ => rfl
theorem sync_names (p : DiskP) (nm : Name) : (syncP p nm).1.fs.map (·.name) = p.fs.map (·.name) := may_names p nm _ fun f => by
  split
  · exact (upd_names (goesP p).1 nm (fun f => { f with sure := f.b.length }) fun _ => rfl).trans (goes_names p)
  · exact goes_names p
theorem cut_names (p : DiskP) (nm : Name) (n : Int) : (cutP p nm n).1.fs.map (·.name) = p.fs.map (·.name) := may_names p nm _ fun f => by
  split
  · rfl
  · exact upd_names p nm _ fun _ => rfl
theorem crash_names (p : DiskP) (plan : PlanP) : (crashAll p plan).1.fs.map (·.name) = p.fs.map (·.name) := by
  unfold crashAll
  split
  · rfl
  · exact map_names fun f _ => rfl
theorem open_names (p : DiskP) : (openP p).1.fs.map (·.name) = p.fs.map (·.name) := by
  unfold openP
  split <;> rfl
theorem arm_names (p : DiskP) (n : Int) (plan : PlanP) : (armP p n plan).1.fs.map (·.name) = p.fs.map (·.name) := by
  unfold armP
  split
  · rfl
  · split <;> rfl
end Go.Proofs.Ytojmffpkaihmmaa
