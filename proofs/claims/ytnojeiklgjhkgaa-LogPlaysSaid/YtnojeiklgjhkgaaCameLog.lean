/- Acts on a log, as they came in. -/
import Derived.Test.YtnojeiklgjhkgaaCamePlan
import Derived.Test.YtnojeiklgjhkgaaDiskCrash
namespace Go.Proofs.Ytnojeiklgjhkgaa
open Go.ChangeShapes Go.WideShapes Go.ChangeAt Go.RowKit
set_option linter.unusedVariables false

structure ActQ where
  kind : Int
  n : Int
  ba : Option Addr
  bc : Nat
  b : List UInt8
  pa : Option Addr
  pc : Nat
  plan : PlanP
instance : Inhabited ActQ := ⟨⟨0, 0, none, 0, [], none, 0, []⟩⟩
def actQCells (x : ActQ) : List Value := [.int .i64 x.kind, .int .i64 x.n, .slice x.ba x.b.length x.bc, .slice x.pa x.plan.length x.pc]
structure ActQOk (w : World) (x : ActQ) : Prop where
  n : -9223372036854775808 ≤ x.n ∧ x.n ≤ 9223372036854775807
  b : BytesAt w x.ba x.b
  bl : x.b.length ≤ 140737488355328
  plan : RowAt w x.pa (x.plan.flatMap pieceV)
  pl : x.plan.length * 24 ≤ 140737488355328
section
variable {H : Type} {enc : TypeId × Value → H} {w : World}
set_option maxRecDepth 20000 in
theorem came_actQ {cs : List Value} (h : Came enc Try.prog w 61 cs) (hl : cs.length = 4) : ∃ y : ActQ, cs = actQCells y ∧ ActQOk w y := by
  have f0 := h.field Try.underlying61 0 (by decide)
  have f1 := h.field Try.underlying61 1 (by decide)
  have f2 := h.field Try.underlying61 2 (by decide)
  have f3 := h.field Try.underlying61 3 (by decide)
  have k1 : Try.prog.cellsOf 3 = 1 := by kernel_rfl
  have k2 : Try.prog.cellsOf 22 = 1 := by kernel_rfl
  have k3 : Try.prog.cellsOf 42 = 1 := by kernel_rfl
  match cs, hl with
  | [c0, c1, c2, c3], _ =>
    simp [k1, k2, k3] at f0 f1 f2 f3
    obtain ⟨n0, rfl, _⟩ := f0.int Try.underlying3
    obtain ⟨n1, rfl, w1⟩ := f1.int Try.underlying3
    obtain ⟨a3, c3, l3, rfl, h3, h3', -⟩ := f2.bytes
    obtain ⟨a5, c5, l5, rfl, h5, h5'⟩ := f3.plan
    simp [Lit.wf, IntKind.min, IntKind.max, IntKind.signed, IntKind.bits] at w1
    exact ⟨⟨n0, n1, a3, c3, l3, a5, c5, l5⟩, rfl, ⟨w1, h3, h3', h5, h5'⟩⟩
def ActQRow (w : World) (a : Option Addr) (n c : Nat) (l : List ActQ) : Prop := RowAt w a (l.flatMap actQCells) ∧ l.length = n ∧ n ≤ c ∧ c ≤ maxLen ∧ ∀ x ∈ l, ActQOk w x
theorem came_actsQ {v : Value} (h : Came enc Try.prog w 49 [v]) : ∃ a n c l, v = .slice a n c ∧ ActQRow w a n c l := by
  obtain ⟨a, len, cap, rfl, h1, h2, h3, h4, h5⟩ := h.slice Try.underlying49
  obtain ⟨l, hl, hr, hok⟩ := came_row (g := actQCells) (Ok := ActQOk w) (fun _ => rfl) (show 0 < 4 by omega) (show Try.prog.cellsOf 61 = 4 by kernel_rfl) (fun cs hc hlen => came_actQ hc hlen) h3 h5
  exact ⟨a, len, cap, l, rfl, hr, hl, h1, h2, hok⟩
end
end Go.Proofs.Ytnojeiklgjhkgaa
