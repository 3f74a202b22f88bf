/- What a reading of an argument says of memory: rows of bytes, rows of rows. No program is named. -/
import Derived.Test.YtnojeiklgjhkgaaBase
import Derived.ProofKit
import Derived.OpenShut
import Derived.ShutString
import Derived.ChangeOld
import Derived.Deep.Matrix
import Derived.SizedLaws
namespace Go.Proofs.Ytnojeiklgjhkgaa
open Go.ChangeShapes Go.WideShapes Go.ChangeAt Go.RowKit

theorem weightsAll_mem {H : Type} {P : Program} {e : TypeId} : ∀ {l : List (DataW H)} {d : DataW H}, d ∈ l → ∀ n ∈ d.weights P e, n ∈ DataW.weightsAll P e l
  | x :: r, d, h, n, hn => by
    simp only [DataW.weightsAll, List.mem_append]
    rcases List.mem_cons.1 h with rfl | h
    · exact .inl hn
    · exact .inr (weightsAll_mem h n hn)

theorem sized_row {H : Type} {P : Program} {t e : TypeId} {x y : List (DataW H)} (hz : ∀ n ∈ (DataW.slice x y).weights P t, n ≤ reachBytes) (ht : P.underlying t = some (.slice e)) (hb : P.bytesOf e = 1) : x.length + y.length ≤ 140737488351232 := by
  have := hz ((x.length + y.length) * P.bytesOf e) (by simp [DataW.weights, ht])
  rw [hb] at this
  simpa [reachBytes] using this

theorem sized_in {H : Type} {P : Program} {ts : List TypeId} {ds : List (DataW H)} (h : (DataW.weightsEach P ts ds).all (· ≤ reachBytes) = true) {j : Nat} {t : TypeId} {d : DataW H} (ht : ts[j]? = some t) (hd : ds[j]? = some d) : ∀ n ∈ d.weights P t, n ≤ reachBytes := by
  intro n hn
  have := List.all_eq_true.1 h n (DataW.weights_mem_each ht hd n hn)
  simpa using this

section
variable {H : Type} {enc : TypeId × Value → H} {P : Program} {W : World} {base : Nat} {held : Bool}
theorem came_bytes {t e : TypeId} {v : Value} {d : DataW H} {ps : List MemPlace} {r : Reach} {b0 : Nat} (ht : P.underlying t = some (.slice e)) (he : P.underlying e = some (.int .u8)) (ce : P.cellsOf e = 1)
    (hv : Value.okWide P W r b0 t v) (h : DataW.Trod enc P W base (fun _ => true) held t v d ps) :
    ∃ a len cap, ∃ l : List UInt8, v = .slice a len cap ∧ l.length = len ∧ BytesAt W a l ∧ len ≤ cap ∧ cap ≤ maxLen := by
  obtain ⟨a, len, cap, rfl⟩ := okWide_slice ht hv
  obtain ⟨fuel, hf⟩ := h
  rcases open_ints ht he ce hf with ⟨hcs, _⟩ | ⟨x, l, c, zs, hcs, _, hl, hm, hz, _, hcell, hwz⟩
  · simp [Value.cells] at hcs
    obtain ⟨rfl, rfl, rfl⟩ := hcs
    obtain ⟨l, h1, h2, h3, h4⟩ := bytes_came (w := W) (a := none) (len := 0) (cap := 0) (zs := []) (.inl ⟨rfl, rfl, rfl, rfl⟩)
    exact ⟨none, 0, 0, l, rfl, h1, h2, h3, h4⟩
  · simp [Value.cells] at hcs
    obtain ⟨rfl, rfl, rfl⟩ := hcs
    obtain ⟨l, h1, h2, h3, h4⟩ := bytes_came (w := W) (a := some x) (len := len) (cap := cap) (zs := zs) (.inr ⟨x, rfl, hl, hm, by simpa using hz, hcell, hwz⟩)
    exact ⟨some x, len, cap, l, rfl, h1, h2, h3, h4⟩

theorem came_pieces {t e q : TypeId} {v : Value} {d : DataW H} {ps : List MemPlace} {r : Reach} {b0 : Nat} (ht : P.underlying t = some (.slice e)) (he : P.underlying e = some (.slice q)) (hq : P.underlying q = some (.int .u8))
    (ce : P.cellsOf e = 1) (cq : P.cellsOf q = 1) (bq : P.bytesOf q = 1) (hz : ∀ n ∈ d.weights P t, n ≤ reachBytes) (hv : Value.okWide P W r b0 t v) (h : DataW.Trod enc P W base (fun _ => true) held t v d ps) :
    ∃ a len cap, ∃ ls : List (List UInt8), v = .slice a len cap ∧ ls.length = len ∧ PiecesAt W a ls ∧ len ≤ cap ∧ cap ≤ maxLen ∧ ∀ r, (h : r < ls.length) → ls[r].length ≤ 140737488351232 := by
  obtain ⟨a, len, cap, rfl⟩ := okWide_slice ht hv
  obtain ⟨fuel, hf⟩ := h
  rcases Go.Deep.open_int_rows ht he hq ce cq hf with ⟨hcs, _⟩ | ⟨x, l, c, A, L, C, Z, hcs, _, hl, hm, hdd, hcell⟩
  · simp [Value.cells] at hcs
    obtain ⟨rfl, rfl, rfl⟩ := hcs
    exact ⟨none, 0, 0, [], rfl, rfl, fun r hr => by simp at hr, Nat.le_refl _, by unfold maxLen; omega, fun r hr => by simp at hr⟩
  · simp [Value.cells] at hcs
    obtain ⟨rfl, rfl, rfl⟩ := hcs
    obtain ⟨rfl, -⟩ := Prod.mk.inj hdd
    have small : ∀ r, r < len → L r ≤ 140737488351232 := by
      intro r hr
      obtain ⟨_, h1, h2, h3, h4, h5, h6⟩ := hcell r (by omega)
      cases hA : A r with
      | none =>
        have hC := h5 hA
        omega
      | some a' =>
        have hmem : Go.Deep.intRow .u8 (A r) (L r) (Z r) ∈ (List.range len).map fun r => (Go.Deep.intRow .u8 (A r) (L r) (Z r) : DataW H) := List.mem_map.2 ⟨r, List.mem_range.2 hr, rfl⟩
        have g : ∀ n ∈ (Go.Deep.intRow .u8 (A r) (L r) (Z r) : DataW H).weights P e, n ≤ reachBytes := fun n hn => hz n (by
          simp only [DataW.weights, ht, List.mem_cons, List.mem_append]
          exact .inr (.inl (weightsAll_mem hmem n hn)))
        rw [hA] at g
        have := sized_row g he bq
        simp only [lits, List.length_map, List.length_take, List.length_drop] at this
        omega
    have each : ∀ r, r < cap → ∃ y : List UInt8, y.length = L r ∧ BytesAt W (A r) y ∧ L r ≤ C r ∧ C r ≤ maxLen := by
      intro r hr
      obtain ⟨_, h1, h2, h3, h4, h5, h6⟩ := hcell r hr
      cases hA : A r with
      | none =>
        have hC := h5 hA
        exact ⟨[], by simp; omega, RowAt.nil _ _, h1, h2⟩
      | some a' =>
        obtain ⟨y, g1, g2, g3, g4⟩ := bytes_came (w := W) (a := some a') (len := L r) (cap := C r) (zs := Z r) (.inr ⟨a', rfl, h1, h2, h3, by
          intro i hi; exact (h6 a' hA).2 i (by omega), h4⟩)
        exact ⟨y, g1, g2, g3, g4⟩
    obtain ⟨y, hy⟩ := Go.Deep.choose_lt each
    refine ⟨some x, len, cap, (List.range len).map y, rfl, by simp, ?_, hl, hm, fun r hr => by
      simp only [List.length_map, List.length_range] at hr
      simp only [List.getElem_map, List.getElem_range]
      rw [(hy r (by omega)).1]
      exact small r hr⟩
    intro r hr
    simp only [List.length_map, List.length_range] at hr
    obtain ⟨g1, g2, g3, g4⟩ := hy r (by omega)
    have hc := (hcell r (by omega)).1
    have h0 := (hcell 0 (by omega)).1
    obtain ⟨b, o, sp⟩ := x
    have hsp : sp = none := by simpa [Addr.add] using World.cell?_spot h0
    subst hsp
    rw [Addr.add_mid] at hc
    refine ⟨b, o, A r, C r, rfl, ?_, ?_, ?_, g4⟩
    · simp [hc, g1]
    · simpa using g2
    · simpa [g1] using g3
end

end Go.Proofs.Ytnojeiklgjhkgaa
