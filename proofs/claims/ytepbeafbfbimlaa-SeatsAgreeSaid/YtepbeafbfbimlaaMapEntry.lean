/- A map's new entry, made first and filled later (m[k], .. = v, ..). No program is named. -/
import Derived.Test.YtepbeafbfbimlaaMaps
namespace Go.Proofs.Ytepbeafbfbimlaa
open Go.RowKit Go.Maps

section
variable {w w' : World} {P : Program} {k t e : TypeId} {R : Value → Option (DU × List MemPlace)} {M : Nat} {l : List (Lit × DU)}
theorem findIdx_last (es : Array MapEntry) (x : MapEntry) (hs : ∀ y ∈ es.toList, y.born < x.born) : (es.push x).findIdx? (fun e => ((e.born : Nat) : Int) == ((x.born : Nat) : Int)) = some es.size := by
  obtain ⟨l⟩ := es
  have h0 : l.findIdx? (fun e => ((e.born : Nat) : Int) == ((x.born : Nat) : Int)) = none := by
    rw [List.findIdx?_eq_none_iff]
    intro y hy
    have := hs y hy
    simp only [beq_eq_false_iff_ne, ne_eq, Int.natCast_inj]
    omega
  simp [List.findIdx?_append, h0]
theorem GMap.entry (h : GMap w P k R M l) (K : Keyed P k) (ht : P.underlying t = some (.map k e)) (hn : l.length < maxLen) {z : Value} (hz : ∀ u : World, (zeroValue e).run P u = .ok z u) {zd : DU} {zp : List MemPlace} (hzd : R z = some (zd, zp)) {key val : Value} {kl : Lit} {d : DU} {ps : List MemPlace} (hkey : keyOf P k key = some kl) (hv : R val = some (d, ps)) (hm : kl ∉ l.map Prod.fst) :
    ∃ (st : Nat) (w1 : World), (Instr.mapEntry t (.map (some M)) key).run P w = .ok (.tuple #[z, .int .i64 (st : Int)]) w1 ∧ w.mapTurned w1 M ∧
      ∀ w2 : World, w2.heap[M]? = w1.heap[M]? → ∃ w3, (Instr.entryStore t (.map (some M)) (.int .i64 (st : Int)) val).run P w2 = .ok () w3 ∧ GMap w3 P k R M (l ++ [(kl, d)]) ∧ w2.mapTurned w3 M := by
  obtain ⟨w', hr', hg, ht'⟩ := h.add K ht hn hkey hv hm
  obtain ⟨v0, ps0, hlk, _⟩ := h.look_ok_no K ht (hz w) hzd hkey hm
  obtain ⟨D, h1, h2, h3, h4⟩ := h.ex
  obtain ⟨es, clock, hb, F, hs, hD⟩ := h1
  have hlt : M < w.heap.size := h.lt
  have hfind : (Instr.findKey k key es.toList).run P w = .ok none w := by
    rcases K.find w hkey es.toList F.keys with ⟨a, b⟩ | ⟨j, e0, a, b, c⟩
    · exact a
    · exfalso
      simp [Instr.lookup, run_underlying ht, MapKept.run_getObj_map hb, K.check w es.isEmpty hkey, a, Result.andThen] at hlk
  have hs1 := F.stamped.1
  have he : w' = ChangeMaps.setBlock w M (.map (es.push ⟨key, val, clock⟩) (clock + 1)) := by
    simp [Instr.mapUpdate, run_underlying ht, MapKept.run_getObj_map hb, K.check w false hkey, hfind, MapKept.run_setObj_map _ hb, Result.andThen] at hr'
    exact hr'.symm
  refine ⟨clock, ChangeMaps.setBlock w M (.map (es.push ⟨key, z, clock⟩) (clock + 1)), ?_, ⟨es, clock, _, _, hb, rfl⟩, fun w2 hw2 => ?_⟩
  · simp [Instr.mapEntry, run_underlying ht, MapKept.run_getObj_map hb, K.check w false hkey, hfind, hz, MapKept.run_setObj_map _ hb, Result.andThen, ChangeMaps.setBlock, goInt]
  · have hb1 : (ChangeMaps.setBlock w M (.map (es.push ⟨key, z, clock⟩) (clock + 1))).heap[M]? = some (.map (es.push ⟨key, z, clock⟩) (clock + 1)) := by
      simp [ChangeMaps.setBlock, hlt]
    rw [hb1] at hw2
    have hlt2 : M < w2.heap.size := (Array.getElem?_eq_some_iff.1 hw2).1
    have hidx := findIdx_last es ⟨key, z, clock⟩ (fun y hy => hs1 y hy)
    have hmod : (es.push ⟨key, z, clock⟩).modify es.size (fun e => { e with val := val }) = es.push ⟨key, val, clock⟩ := by
      apply Array.ext
      · simp
      · intro i h1 h2
        rw [Array.getElem_modify]
        by_cases hi : i = es.size
        · subst hi; simp
        · have : i < es.size := by simp at h1; omega
          rw [if_neg (fun e => hi e.symm)]
          simp [Array.getElem_push, this]
    refine ⟨ChangeMaps.setBlock w2 M (.map (es.push ⟨key, val, clock⟩) (clock + 1)), ?_, hg.keep ?_, ⟨_, _, _, _, hw2, rfl⟩⟩
    · simp only [] at hidx
      simp [Instr.entryStore, MapKept.run_getObj_map hw2, asInt, asIntOf, hidx, hmod, MapKept.run_setObj_map _ hw2, Result.andThen, ChangeMaps.setBlock]
    · rw [he]
      simp [ChangeMaps.setBlock, hlt, hlt2]
end
end Go.Proofs.Ytepbeafbfbimlaa
