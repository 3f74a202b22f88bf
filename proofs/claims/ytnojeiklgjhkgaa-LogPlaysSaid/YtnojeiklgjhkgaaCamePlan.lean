/- Bytes and plans, as they came in. -/
import Derived.Test.YtnojeiklgjhkgaaDiskWake
import Derived.Test.YtnojeiklgjhkgaaReads
namespace Go.Proofs.Ytnojeiklgjhkgaa
open Go.ChangeShapes Go.WideShapes Go.ChangeAt Go.RowKit
set_option linter.unusedVariables false
section
variable {H : Type} {enc : TypeId × Value → H} {P : Program} {w : World}
theorem Came.str {t : TypeId} {c : Value} (h : Came enc P w t [c]) (hs : P.underlying t = some .string) : ∃ s : ByteArray, c = .string s ∧ s.size ≤ 140737488351232 := by
  obtain ⟨n, x, h1, h2⟩ := h
  obtain ⟨s, hc, hx, _⟩ := DataW.trod_string hs h1
  simp at hc
  refine ⟨s, hc, ?_⟩
  have := h2 s.data.toList.length (by rw [hx]; simp [DataW.weights])
  rw [Array.length_toList] at this
  exact this
end
section
variable {H : Type} {enc : TypeId × Value → H} {w : World}
theorem came_byte {cs : List Value} (h : Came enc Try.prog w 5 cs) (hl : cs.length = 1) : ∃ y : UInt8, cs = [bv y] ∧ True := by
  match cs, hl with
  | [c], _ =>
    obtain ⟨n, rfl, hw⟩ := h.int Try.underlying5
    simp [Lit.wf, IntKind.min, IntKind.max, IntKind.signed, IntKind.bits] at hw
    refine ⟨UInt8.ofNat n.toNat, ?_, trivial⟩
    simp only [bv, List.cons.injEq, and_true, Value.int.injEq, true_and]
    unfold U8
    rw [UInt8.toNat_ofNat']
    omega
theorem Came.bytes {c : Value} (h : Came enc Try.prog w 22 [c]) : ∃ a cp l, c = .slice a l.length cp ∧ BytesAt w a l ∧ l.length ≤ 140737488355328 ∧ l.length ≤ cp ∧ cp ≤ maxLen := by
  obtain ⟨a, len, cap, rfl, h1, h2, h3, h4, h5⟩ := h.slice Try.underlying22
  obtain ⟨l, hl, hr, hno⟩ := came_row (g := fun b : UInt8 => [bv b]) (Ok := fun _ => True) (fun _ => rfl) Nat.one_pos (show Try.prog.cellsOf 5 = 1 by kernel_rfl) (fun cs hc hlen => came_byte hc hlen) h3 h5
  have hb : Try.prog.bytesOf 5 = 1 := by kernel_rfl
  rw [hb] at h4
  refine ⟨a, cap, l, by rw [hl], ?_, by omega, by omega, h2⟩
  have e : l.flatMap (fun b : UInt8 => [bv b]) = l.map bv := by
    clear hl hr hno
    induction l with
    | nil => rfl
    | cons x l ih => rw [List.flatMap_cons, ih]; rfl
  unfold BytesAt
  rw [← e]; exact hr
set_option maxRecDepth 20000 in
theorem came_piece {cs : List Value} (h : Came enc Try.prog w 87 cs) (hl : cs.length = 2) : ∃ y : Name × Int, cs = pieceV y ∧ y.1.size ≤ 140737488351232 := by
  have f0 := h.field Try.underlying87 0 (by decide)
  have f1 := h.field Try.underlying87 1 (by decide)
  have k0 : Try.prog.cellsOf 9 = 1 := by kernel_rfl
  have k1 : Try.prog.cellsOf 3 = 1 := by kernel_rfl
  match cs, hl with
  | [c0, c1], _ =>
    simp [k0, k1] at f0 f1
    obtain ⟨s, rfl, hs⟩ := f0.str Try.underlying9
    obtain ⟨n, rfl, _⟩ := f1.int Try.underlying3
    exact ⟨(s, n), rfl, hs⟩
theorem Came.plan {c : Value} (h : Came enc Try.prog w 42 [c]) : ∃ a cp, ∃ l : PlanP, c = .slice a l.length cp ∧ RowAt w a (l.flatMap pieceV) ∧ l.length * 24 ≤ 140737488355328 := by
  obtain ⟨a, len, cap, rfl, h1, h2, h3, h4, h5⟩ := h.slice Try.underlying42
  obtain ⟨l, hl, hr, _⟩ := came_row (g := pieceV) (Ok := fun y => y.1.size ≤ 140737488351232) (fun _ => rfl) (show 0 < 2 by omega) (show Try.prog.cellsOf 87 = 2 by kernel_rfl) (fun cs hc hlen => came_piece hc hlen) h3 h5
  have hb : Try.prog.bytesOf 87 = 24 := by kernel_rfl
  rw [hb] at h4
  exact ⟨a, cap, l, by rw [hl], hr, by omega⟩
def PlanRow (w : World) (a : Option Addr) (n c : Nat) (l : PlanP) : Prop := RowAt w a (l.flatMap pieceV) ∧ l.length = n ∧ n ≤ 4294967296 * 4096
theorem came_plan {v : Value} (h : Came enc Try.prog w 42 [v]) : ∃ a n c l, v = .slice a n c ∧ PlanRow w a n c l := by
  obtain ⟨a, cp, l, rfl, h1, h2⟩ := h.plan
  exact ⟨a, l.length, cp, l, rfl, h1, rfl, by omega⟩
end
end Go.Proofs.Ytnojeiklgjhkgaa
