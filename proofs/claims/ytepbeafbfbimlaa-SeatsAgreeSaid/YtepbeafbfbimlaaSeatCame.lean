/- A token, acts on seats, as they came in. -/
import Derived.Test.YtepbeafbfbimlaaSeatMem
import Derived.Test.YtepbeafbfbimlaaReads
namespace Go.Proofs.Ytepbeafbfbimlaa
open Go.ChangeShapes Go.WideShapes Go.ChangeAt Go.RowKit
set_option linter.unusedVariables false

section
variable {H : Type} {enc : TypeId × Value → H} {P : Program} {w : World}
theorem Came.str {t : TypeId} {c : Value} (h : Came enc P w t [c]) (hs : P.underlying t = some .string) : ∃ s : ByteArray, c = .string s ∧ s.size ≤ 140737488351232 := by
  obtain ⟨n, x, h1, h2⟩ := h
  obtain ⟨s, hc, hx, _⟩ := DataW.trod_string hs h1
  simp at hc
  refine ⟨s, hc, ?_⟩
  have := h2 s.data.toList.length (by rw [hx]; simp [DataW.weights])
  rw [Array.length_toList] at this
  exact this
end
abbrev tokV (t : TokL) : Value := tokVal t
section
variable {H : Type} {enc : TypeId × Value → H} {W : World}
theorem came_tok {cs : List Value} (hc : Came enc Try.prog W 24 cs) (hl : cs.length = 3) : ∃ T, cs = tokCells T ∧ TokOk T := by
  have f0 := hc.field Try.underlying24 0 (by decide)
  have f1 := hc.field Try.underlying24 1 (by decide)
  have f2 := hc.field Try.underlying24 2 (by decide)
  have k0 : Try.prog.cellsOf 9 = 1 := by kernel_rfl
  have k1 : Try.prog.cellsOf 22 = 1 := by kernel_rfl
  have k2 : Try.prog.cellsOf 2 = 1 := by kernel_rfl
  match cs, hl with
  | [c0, c1, c2], _ =>
    simp [k0, k1, k2] at f0 f1 f2
    obtain ⟨s, rfl, hs⟩ := f0.str Try.underlying9
    obtain ⟨n1, rfl, w1⟩ := f1.int Try.underlying22
    obtain ⟨n2, rfl, w2⟩ := f2.int Try.underlying2
    exact ⟨⟨s, n1, n2⟩, rfl, ⟨hs, w1, w2⟩⟩
theorem came_token {v : Value} {d : DataW H} {ps : List MemPlace} {r : Reach} {b0 : Nat} (hz : ∀ n ∈ d.weights Try.prog 24, n ≤ reachBytes) (hv : Value.okWide Try.prog W r b0 24 v) (h : DataW.Trod enc Try.prog W 0 (fun _ => true) true 24 v d ps) :
    ∃ T, v = tokV T ∧ TokOk T := by
  obtain ⟨cs, rfl, hl, hc⟩ := came_agg Try.underlying24 (show Try.prog.cellsOf 24 = 3 by kernel_rfl) hz hv h
  obtain ⟨T, rfl, hT⟩ := came_tok hc hl
  exact ⟨T, rfl, hT⟩
structure ActS where
  kind : Int
  conn : Int
  t : TokL
  now : Int
instance : Inhabited ActS := ⟨⟨0, 0, default, 0⟩⟩
def actCells (x : ActS) : List Value := [.int .i64 x.kind, .int .i64 x.conn, .string x.t.name, .int .i8 x.t.role, .int .i64 x.t.til, .int .i64 x.now]
structure ActOk (x : ActS) : Prop where
  conn : (Lit.int .i64 x.conn).wf = true
  t : TokOk x.t
theorem came_act {cs : List Value} (h : Came enc Try.prog W 42 cs) (hl : cs.length = 6) : ∃ y : ActS, cs = actCells y ∧ ActOk y := by
  have f0 := h.field Try.underlying42 0 (by decide)
  have f1 := h.field Try.underlying42 1 (by decide)
  have f2 := h.field Try.underlying42 2 (by decide)
  have f3 := h.field Try.underlying42 3 (by decide)
  have k0 : Try.prog.cellsOf 3 = 1 := by kernel_rfl
  have k1 : Try.prog.cellsOf 24 = 3 := by kernel_rfl
  have k2 : Try.prog.cellsOf 2 = 1 := by kernel_rfl
  match cs, hl with
  | [c0, c1, c2, c3, c4, c5], _ =>
    simp [k0, k1, k2] at f0 f1 f2 f3
    obtain ⟨n0, rfl, _⟩ := f0.int Try.underlying3
    obtain ⟨n1, rfl, w1⟩ := f1.int Try.underlying3
    obtain ⟨T, e, hT⟩ := came_tok f2 rfl
    obtain ⟨n3, rfl, _⟩ := f3.int Try.underlying2
    simp only [tokCells, List.cons.injEq, and_true] at e
    obtain ⟨rfl, rfl, rfl⟩ := e
    exact ⟨⟨n0, n1, T, n3⟩, rfl, w1, hT⟩
def ActRow (w : World) (a : Option Addr) (n c : Nat) (l : List ActS) : Prop := RowAt w a (l.flatMap actCells) ∧ l.length = n ∧ n ≤ c ∧ c ≤ maxLen ∧ ∀ x ∈ l, ActOk x
theorem came_acts {v : Value} (h : Came enc Try.prog W 39 [v]) : ∃ a n c l, v = .slice a n c ∧ ActRow W a n c l := by
  obtain ⟨a, len, cap, rfl, h1, h2, h3, h4, h5⟩ := h.slice Try.underlying39
  obtain ⟨l, hl, hr, hok⟩ := came_row (g := actCells) (Ok := ActOk) (fun _ => rfl) (show 0 < 6 by omega) (show Try.prog.cellsOf 42 = 6 by kernel_rfl) (fun cs hc hlen => came_act hc hlen) h3 h5
  exact ⟨a, len, cap, l, rfl, hr, hl, h1, h2, hok⟩
end
end Go.Proofs.Ytepbeafbfbimlaa
