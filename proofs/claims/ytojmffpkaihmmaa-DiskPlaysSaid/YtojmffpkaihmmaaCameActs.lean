/- A script of acts on a disk, as it came in. -/
import Derived.Test.YtojmffpkaihmmaaDiskMore
import Derived.Test.YtojmffpkaihmmaaReads
namespace Go.Proofs.Ytojmffpkaihmmaa
open Go.ChangeShapes Go.WideShapes Go.ChangeAt Go.RowKit
set_option linter.unusedVariables false

structure ActA where
  kind : Int
  nm : Name
  tn : Name
  ba : Option Addr
  bc : Nat
  b : List UInt8
  n : Int
  pa : Option Addr
  pc : Nat
  plan : PlanP
instance : Inhabited ActA := ⟨⟨0, default, default, none, 0, [], 0, none, 0, []⟩⟩
def actCells (x : ActA) : List Value := [.int .i64 x.kind, .string x.nm, .string x.tn, .slice x.ba x.b.length x.bc, .int .i64 x.n, .slice x.pa x.plan.length x.pc]
structure ActOk (w : World) (x : ActA) : Prop where
  nm : x.nm.size ≤ 140737488351232
  tn : x.tn.size ≤ 140737488351232
  b : BytesAt w x.ba x.b
  bl : x.b.length ≤ 140737488355328
  n : -9223372036854775808 ≤ x.n ∧ x.n ≤ 9223372036854775807
  plan : RowAt w x.pa (x.plan.flatMap pieceV)
  pl : x.plan.length * 24 ≤ 140737488355328
section
variable {H : Type} {enc : TypeId × Value → H} {P : Program} {w : World}
theorem Came.str {t : TypeId} {c : Value} (h : Came enc P w t [c]) (hs : P.underlying t = some .string) : ∃ s : ByteArray, c = .string s ∧ s.size ≤ 140737488351232 := by
  obtain ⟨n, x, h1, h2⟩ := h
  obtain ⟨s, hc, hx, _⟩ := DataW.trod_string hs h1
  simp at hc
  refine ⟨s, hc, ?_⟩
  have := h2 s.data.toList.length (by rw [hx]; simp [DataW.weights])
  rw [Array.length_toList] at this
  exact this
end
section
variable {H : Type} {enc : TypeId × Value → H} {w : World}
theorem came_byte {cs : List Value} (h : Came enc Try.prog w 5 cs) (hl : cs.length = 1) : ∃ y : UInt8, cs = [bv y] ∧ True := by
  match cs, hl with
  | [c], _ =>
    obtain ⟨n, rfl, hw⟩ := h.int Try.underlying5
    simp [Lit.wf, IntKind.min, IntKind.max, IntKind.signed, IntKind.bits] at hw
    refine ⟨UInt8.ofNat n.toNat, ?_, trivial⟩
    simp only [bv, List.cons.injEq, and_true, Value.int.injEq, true_and]
    unfold U8
    rw [UInt8.toNat_ofNat']
    omega
theorem Came.bytes {c : Value} (h : Came enc Try.prog w 24 [c]) : ∃ a cp l, c = .slice a l.length cp ∧ BytesAt w a l ∧ l.length ≤ 140737488355328 := by
  obtain ⟨a, len, cap, rfl, h1, h2, h3, h4, h5⟩ := h.slice Try.underlying24
  obtain ⟨l, hl, hr, hno⟩ := came_row (g := fun b : UInt8 => [bv b]) (Ok := fun _ => True) (fun _ => rfl) Nat.one_pos (show Try.prog.cellsOf 5 = 1 by kernel_rfl) (fun cs hc hlen => came_byte hc hlen) h3 h5
  have hb : Try.prog.bytesOf 5 = 1 := by kernel_rfl
  rw [hb] at h4
  refine ⟨a, cap, l, by rw [hl], ?_, by omega⟩
  have e : l.flatMap (fun b : UInt8 => [bv b]) = l.map bv := by
    clear hl hr hno
    induction l with
    | nil => rfl
    | cons x l ih => rw [List.flatMap_cons, ih]; rfl
  unfold BytesAt
  rw [← e]; exact hr
set_option maxRecDepth 20000 in
theorem came_piece {cs : List Value} (h : Came enc Try.prog w 33 cs) (hl : cs.length = 2) : ∃ y : Name × Int, cs = pieceV y ∧ True := by
  have f0 := h.field Try.underlying33 0 (by decide)
  have f1 := h.field Try.underlying33 1 (by decide)
  have k0 : Try.prog.cellsOf 9 = 1 := by kernel_rfl
  have k1 : Try.prog.cellsOf 3 = 1 := by kernel_rfl
  match cs, hl with
  | [c0, c1], _ =>
    simp [k0, k1] at f0 f1
    obtain ⟨s, rfl, _⟩ := f0.str Try.underlying9
    obtain ⟨n, rfl, _⟩ := f1.int Try.underlying3
    exact ⟨(s, n), rfl, trivial⟩
theorem Came.plan {c : Value} (h : Came enc Try.prog w 34 [c]) : ∃ a cp, ∃ l : PlanP, c = .slice a l.length cp ∧ RowAt w a (l.flatMap pieceV) ∧ l.length * 24 ≤ 140737488355328 := by
  obtain ⟨a, len, cap, rfl, h1, h2, h3, h4, h5⟩ := h.slice Try.underlying34
  obtain ⟨l, hl, hr, _⟩ := came_row (g := pieceV) (Ok := fun _ => True) (fun _ => rfl) (show 0 < 2 by omega) (show Try.prog.cellsOf 33 = 2 by kernel_rfl) (fun cs hc hlen => came_piece hc hlen) h3 h5
  have hb : Try.prog.bytesOf 33 = 24 := by kernel_rfl
  rw [hb] at h4
  exact ⟨a, cap, l, by rw [hl], hr, by omega⟩
set_option maxRecDepth 20000 in
theorem came_act {cs : List Value} (h : Came enc Try.prog w 44 cs) (hl : cs.length = 6) : ∃ y : ActA, cs = actCells y ∧ ActOk w y := by
  have f0 := h.field Try.underlying44 0 (by decide)
  have f1 := h.field Try.underlying44 1 (by decide)
  have f2 := h.field Try.underlying44 2 (by decide)
  have f3 := h.field Try.underlying44 3 (by decide)
  have f4 := h.field Try.underlying44 4 (by decide)
  have f5 := h.field Try.underlying44 5 (by decide)
  have k0 : Try.prog.cellsOf 9 = 1 := by kernel_rfl
  have k1 : Try.prog.cellsOf 3 = 1 := by kernel_rfl
  have k2 : Try.prog.cellsOf 24 = 1 := by kernel_rfl
  have k3 : Try.prog.cellsOf 34 = 1 := by kernel_rfl
  match cs, hl with
  | [c0, c1, c2, c3, c4, c5], _ =>
    simp [k0, k1, k2, k3] at f0 f1 f2 f3 f4 f5
    obtain ⟨n0, rfl, _⟩ := f0.int Try.underlying3
    obtain ⟨s1, rfl, h1⟩ := f1.str Try.underlying9
    obtain ⟨s2, rfl, h2⟩ := f2.str Try.underlying9
    obtain ⟨a3, c3, l3, rfl, h3, h3'⟩ := f3.bytes
    obtain ⟨n4, rfl, w4⟩ := f4.int Try.underlying3
    obtain ⟨a5, c5, l5, rfl, h5, h5'⟩ := f5.plan
    simp [Lit.wf, IntKind.min, IntKind.max, IntKind.signed, IntKind.bits] at w4
    exact ⟨⟨n0, s1, s2, a3, c3, l3, n4, a5, c5, l5⟩, rfl, ⟨h1, h2, h3, h3', w4, h5, h5'⟩⟩
def ActRow (w : World) (a : Option Addr) (n c : Nat) (l : List ActA) : Prop := RowAt w a (l.flatMap actCells) ∧ l.length = n ∧ n ≤ c ∧ c ≤ maxLen ∧ ∀ x ∈ l, ActOk w x
theorem came_acts {v : Value} (h : Came enc Try.prog w 41 [v]) : ∃ a n c l, v = .slice a n c ∧ ActRow w a n c l := by
  obtain ⟨a, len, cap, rfl, h1, h2, h3, h4, h5⟩ := h.slice Try.underlying41
  obtain ⟨l, hl, hr, hok⟩ := came_row (g := actCells) (Ok := ActOk w) (fun _ => rfl) (show 0 < 6 by omega) (show Try.prog.cellsOf 44 = 6 by kernel_rfl) (fun cs hc hlen => came_act hc hlen) h3 h5
  exact ⟨a, len, cap, l, rfl, hr, hl, h1, h2, hok⟩
end
end Go.Proofs.Ytojmffpkaihmmaa
