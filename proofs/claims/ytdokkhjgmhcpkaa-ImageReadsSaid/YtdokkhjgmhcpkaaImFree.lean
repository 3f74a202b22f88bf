/- The units of a state that came in may be written. -/
import Derived.Test.YtdokkhjgmhcpkaaImWState
import Derived.Test.YtdokkhjgmhcpkaaReads
namespace Go.Proofs.Ytdokkhjgmhcpkaa
open Go.ChangeShapes Go.WideShapes Go.ChangeAt Go.RowKit
set_option linter.unusedVariables false
set_option maxRecDepth 20000

section
variable {H : Type} {enc : TypeId × Value → H} {P : Program} {w : World} {ps : List MemPlace}
/-- The cells cs read, and all places of that are among ps. -/
def Fz (enc : TypeId × Value → H) (P : Program) (w : World) (ps : List MemPlace) (t : TypeId) (cs : List Value) : Prop :=
  ∃ (n : Nat) (x : DataW H × List MemPlace), DataW.trod enc P w 0 (fun _ => true) true n t cs = some x ∧ ∀ m ∈ x.2, m ∈ ps
theorem Fz.field {t : TypeId} {fs : Array Field} {cs : List Value} (h : Fz enc P w ps t cs) (hs : P.underlying t = some (.struct fs)) (j : Nat) (hj : j < fs.toList.length) :
    Fz enc P w ps fs.toList[j].type ((cs.drop fs.toList[j].offset).take (P.cellsOf fs.toList[j].type)) := by
  obtain ⟨n, x, h1, h2⟩ := h
  cases n with
  | zero => simp [DataW.trod] at h1
  | succ n =>
    unfold DataW.trod at h1
    rw [hs] at h1
    simp only at h1
    split at h1
    · obtain ⟨xs, hx, rfl⟩ := Option.map_eq_some_iff.1 h1
      obtain ⟨hl, hg⟩ := mapM_get hx
      have hj' : j < xs.length := by rw [hl]; exact hj
      exact ⟨n, xs[j], hg j hj hj', fun m hm => h2 m (List.mem_flatMap.2 ⟨xs[j], List.getElem_mem _, hm⟩)⟩
    · cases h1
theorem Fz.elem {t e : TypeId} {k : Nat} {cs : List Value} (h : Fz enc P w ps t cs) (hs : P.underlying t = some (.array k e)) (j : Nat) (hj : j < k) :
    Fz enc P w ps e ((cs.drop (j * P.cellsOf e)).take (P.cellsOf e)) := by
  obtain ⟨n, x, h1, h2⟩ := h
  cases n with
  | zero => simp [DataW.trod] at h1
  | succ n =>
    unfold DataW.trod at h1
    rw [hs] at h1
    simp only at h1
    split at h1
    · obtain ⟨xs, hx, rfl⟩ := Option.map_eq_some_iff.1 h1
      obtain ⟨hl, hg⟩ := mapM_get hx
      rw [List.length_range] at hl
      have hj' : j < xs.length := by rw [hl]; exact hj
      have := hg j (by simpa using hj) hj'
      rw [List.getElem_range] at this
      exact ⟨n, xs[j], this, fun m hm => h2 m (List.mem_flatMap.2 ⟨xs[j], List.getElem_mem _, hm⟩)⟩
    · cases h1
theorem Fz.slice {t e : TypeId} {a : Addr} {len cap : Nat} (h : Fz enc P w ps t [.slice (some a) len cap]) (hs : P.underlying t = some (.slice e)) : ∀ i, i < len * P.cellsOf e → MemPlace.cell a.block (a.off + i) ∈ ps := by
  obtain ⟨n, x, h1, h2⟩ := h
  cases n with
  | zero => simp [DataW.trod] at h1
  | succ n =>
    unfold DataW.trod at h1
    rw [hs] at h1
    simp only at h1
    split at h1
    · obtain ⟨elems, hx, h3⟩ := Option.bind_eq_some_iff.1 h1
      obtain ⟨rest, hr, rfl⟩ := Option.map_eq_some_iff.1 h3
      obtain ⟨hl, hg⟩ := mapM_get hx
      rw [List.length_range] at hl
      intro i hi
      refine h2 _ (List.mem_append.2 (.inl (List.mem_map.2 ⟨i, List.mem_range.2 ?_, rfl⟩)))
      rw [hl, Nat.add_mul]
      omega
    · cases h1
end
section
variable {H : Type} {enc : TypeId × Value → H} {w : World} {ps : List MemPlace}
theorem sides16 : Try.prog.cellsOf 27 = 16 := by kernel_rfl
theorem side8 : Try.prog.cellsOf 26 = 8 := by kernel_rfl
theorem free_units {p : StateP} {h : StateH} {d : DataW H} (k : DataW.Trod enc Try.prog w 0 (fun _ => true) true 29 (stateVal p h) d ps) (hfz : ∀ b off, MemPlace.cell b off ∈ ps → w.frozen? ⟨b, off, none⟩ = false) : FreeU w h.x.units ∧ FreeU w h.y.units := by
  obtain ⟨n, hn⟩ := k
  have h0 : Fz enc Try.prog w ps 29 (stateCells p h) := ⟨n, _, hn, fun m hm => hm⟩
  have f7 := h0.field Try.underlying29 7 (by decide)
  simp [sides16, stateCells, sideCells] at f7
  have g0 := f7.elem Try.underlying27 0 (by decide)
  have g1 := f7.elem Try.underlying27 1 (by decide)
  simp [side8] at g0 g1
  have u0 := g0.field Try.underlying26 6 (by decide)
  have u1 := g1.field Try.underlying26 6 (by decide)
  simp [things1] at u0 u1
  constructor
  · intro ad ha i hi
    rw [ha] at u0
    refine hfz _ _ (u0.slice Try.underlying24 i ?_)
    rw [thing4]; exact hi
  · intro ad ha i hi
    rw [ha] at u1
    refine hfz _ _ (u1.slice Try.underlying24 i ?_)
    rw [thing4]; exact hi
end
end Go.Proofs.Ytdokkhjgmhcpkaa
