/- Seats in memory: two maps; what a call on them turns. -/
import Derived.Test.YtepbeafbfbimlaaRows
import Derived.Test.YtepbeafbfbimlaaMaps
import Derived.Test.YtepbeafbfbimlaaTurn
import Derived.Test.YtepbeafbfbimlaaOwnFresh
import Derived.DeepKeys4
namespace Go.Proofs.Ytepbeafbfbimlaa
open Go.RowKit Go.Maps
set_option linter.unusedVariables false
set_option linter.unusedSimpArgs false

structure TokL where
  name : ByteArray
  role : Int
  til : Int
instance : Inhabited TokL := ⟨⟨ByteArray.empty, 0, 0⟩⟩
def tokCells (t : TokL) : List Value := [.string t.name, .int .i8 t.role, .int .i64 t.til]
def tokVal (t : TokL) : Value := .agg (tokCells t).toArray
def perVal (t : TokL) : Value := .agg #[.string t.name, .int .i8 t.role]
structure TokOk (t : TokL) : Prop where
  name : t.name.size ≤ 140737488351232
  role : (Lit.int .i8 t.role).wf = true
  til : (Lit.int .i64 t.til).wf = true
def tokD (t : TokL) : DU := .agg [.lit (.string t.name.data.toList), .lit (.int .i8 t.role), .lit (.int .i64 t.til)]
def tok0 : TokL := ⟨ByteArray.empty, 0, 0⟩
/-- How a token, a number read as a map's elements. -/
def Rt (v : Value) : Option (DU × List MemPlace) := match v with
  | .agg ⟨[.string s, .int .i8 r, .int .i64 u]⟩ => some (tokD ⟨s, r, u⟩, [])
  | _ => none
def Ri (v : Value) : Option (DU × List MemPlace) := match v with
  | .int .i64 n => some (.lit (.int .i64 n), [])
  | _ => none
theorem bytes_inj {a b : ByteArray} (h : a.data.toList = b.data.toList) : a = b := by
  cases a; cases b
  simp only [ByteArray.mk.injEq]
  exact Array.toList_inj.1 h
theorem Rt_tok (t : TokL) : Rt (tokVal t) = some (tokD t, []) := rfl
theorem Rt_inv {v : Value} {t : TokL} {ps : List MemPlace} (h : Rt v = some (tokD t, ps)) : v = tokVal t := by
  unfold Rt at h
  split at h
  · rename_i s r u
    simp only [Option.some.injEq, Prod.mk.injEq, tokD, DataW.agg.injEq, List.cons.injEq, DataW.lit.injEq, Lit.string.injEq, Lit.int.injEq, true_and, and_true] at h
    obtain ⟨⟨h1, h2, h3⟩, -⟩ := h
    have := bytes_inj h1
    subst this h2 h3
    rfl
  · cases h
theorem Ri_int (n : Int) : Ri (.int .i64 n) = some (.lit (.int .i64 n), []) := rfl
theorem Ri_inv {v : Value} {n : Int} {ps : List MemPlace} (h : Ri v = some (.lit (.int .i64 n), ps)) : v = .int .i64 n := by
  unfold Ri at h
  split at h
  · simp only [Option.some.injEq, Prod.mk.injEq, DataW.lit.injEq, Lit.int.injEq, true_and] at h
    rw [h.1]
  · cases h
theorem laidOut10 : laidOutB Try.prog = true := by kernel_rfl
theorem keyI : Keyed Try.prog 3 := int_keyed Try.underlying3
theorem keyPn : Keyed Try.prog 53 := Keyed.of_law (deep_law_laid laidOut10 (m := 5) (by omega) (by decide +kernel) (by kernel_rfl) (by kernel_rfl))
def keyC (n : Int) : Lit := .int .i64 n
def keyP (t : TokL) : Lit := .string (keyBytes [.string t.name.data.toList, .int .i8 t.role])
theorem keyOf_conn {n : Int} (h : (Lit.int .i64 n).wf = true) : keyOf Try.prog 3 (.int .i64 n) = some (keyC n) := keyOf_int_mk Try.underlying3 h
theorem keyOf_per {t : TokL} (h1 : t.name.size ≤ 140737488351232) (h2 : (Lit.int .i8 t.role).wf = true) : keyOf Try.prog 53 (perVal t) = some (keyP t) := by
  have hk : Try.prog.keyType 53 = true := by kernel_rfl
  have hc : Try.prog.cellsOf 53 = 2 := by kernel_rfl
  have hc1 : Try.prog.cellsOf 9 = 1 := by kernel_rfl
  have hc2 : Try.prog.cellsOf 22 = 1 := by kernel_rfl
  obtain ⟨m, hm⟩ : ∃ m, Try.prog.types.size = m + 1 := ⟨Try.prog.types.size - 1, by have : 0 < Try.prog.types.size := by decide +kernel
                                                                                    omega⟩
  have hmx : t.name.size ≤ maxLen := by unfold maxLen; omega
  have hf : (perVal t).formed Try.prog 53 = true := by
    unfold perVal Value.formed
    rw [Try.underlying53]
    simp [hc]
  unfold keyOf
  rw [Try.underlying53]
  dsimp only
  rw [hk, hf, hm]
  simp only [Bool.and_self, if_true]
  have e : Try.prog.keyLits (m + 1 + 1) 53 (perVal t).cells.toList = some [.string t.name.data.toList, .int .i8 t.role] := by
    unfold perVal Value.cells
    unfold Program.keyLits
    rw [Try.underlying53]
    simp [hc, hc1, hc2, Program.keyLits, Try.underlying9, Try.underlying22, hmx, h2]
  rw [e]
  rfl
theorem keyP_inj {t u : TokL} (h1 : TokOk t) (h2 : TokOk u) (h : keyP t = keyP u) : t.name = u.name ∧ t.role = u.role := by
  have e1 := keyOf_per h1.name h1.role
  have e2 := keyOf_per h2.name h2.role
  rw [← h] at e2
  have := keyPn.inj e1 e2
  simp [perVal] at this
  exact this
theorem zeroTok (w : World) : (zeroValue 24).run Try.prog w = .ok (tokVal tok0) w := by kernel_rfl
theorem zeroInt (w : World) : (zeroValue 3).run Try.prog w = .ok (.int .i64 0) w := by kernel_rfl
abbrev Seat := Int × TokL
structure SeatsR where
  s : Nat
  ma : Nat
  mb : Nat
  most : Int
  l : List Seat
def entA (x : Seat) : Lit × DU := (keyC x.1, tokD x.2)
def entB (x : Seat) : Lit × DU := (keyP x.2, .lit (.int .i64 x.1))
def seatCells (r : SeatsR) : Array Value := #[.int .i64 r.most, .map (some r.ma), .map (some r.mb)]
structure SeatOk (x : Seat) : Prop where
  lo : 0 ≤ x.1
  hi : x.1 < 16
  n1 : 1 ≤ x.2.name.size
  n2 : x.2.name.size ≤ 40
  r1 : 0 ≤ x.2.role
  r2 : x.2.role ≤ 2
  tok : TokOk x.2
structure SeatsAt (w : World) (B : Nat) (r : SeatsR) : Prop where
  ge : B ≤ r.s ∧ B ≤ r.ma ∧ B ≤ r.mb ∧ r.ma ≠ r.mb
  blk : Blk w r.s (seatCells r) 51
  ma : GMap w Try.prog 3 Rt r.ma (r.l.map entA)
  mb : GMap w Try.prog 53 Ri r.mb (r.l.map entB)
  ok : ∀ x ∈ r.l, SeatOk x
  cnt : (r.l.length : Int) ≤ r.most
  most : 0 ≤ r.most ∧ r.most ≤ 16
def sfoot (r : SeatsR) (x : Nat) : Prop := x = r.s ∨ x = r.ma ∨ x = r.mb
section
variable {w w' : World} {B : Nat} {r : SeatsR}
theorem SeatsAt.keep (h : SeatsAt w B r) (hk : ∀ x, sfoot r x → w'.heap[x]? = w.heap[x]?) : SeatsAt w' B r :=
  ⟨h.ge, (hk _ (.inl rfl)).trans h.blk, h.ma.keep (hk _ (.inr (.inl rfl))), h.mb.keep (hk _ (.inr (.inr rfl))), h.ok, h.cnt, h.most⟩
theorem SeatsAt.lt (h : SeatsAt w B r) {x : Nat} (hx : sfoot r x) : B ≤ x ∧ x < w.heap.size := by
  rcases hx with rfl | rfl | rfl
  · exact ⟨h.ge.1, h.blk.lt⟩
  · exact ⟨h.ge.2.1, h.ma.lt⟩
  · exact ⟨h.ge.2.2.1, h.mb.lt⟩
theorem SeatsAt.old (h : SeatsAt w B r) (hb : Below w.heap.size w w') : SeatsAt w' B r := h.keep fun x hx => hb.block x (h.lt hx).2
theorem SeatsAt.lower {B' : Nat} (h : SeatsAt w B r) (hB : B' ≤ B) : SeatsAt w B' r := ⟨⟨Nat.le_trans hB h.ge.1, Nat.le_trans hB h.ge.2.1, Nat.le_trans hB h.ge.2.2.1, h.ge.2.2.2⟩, h.blk, h.ma, h.mb, h.ok, h.cnt, h.most⟩
theorem conn_wf {n : Int} (h1 : -9223372036854775808 ≤ n) (h2 : n ≤ 9223372036854775807) : (Lit.int .i64 n).wf = true := by
  simp [Lit.wf, IntKind.min, IntKind.max, IntKind.signed, IntKind.bits]; omega
theorem SeatsAt.len (h : SeatsAt w B r) : r.l.length ≤ 16 := by have := h.cnt; have := h.most; omega
theorem SeatsAt.conns (h : SeatsAt w B r) : (r.l.map Prod.fst).Nodup := by
  have h1 := h.ma.nd
  rw [List.map_map] at h1
  have h2 : ((r.l.map Prod.fst).map keyC).Nodup := by rw [List.map_map]; exact h1
  exact List.Pairwise.of_map keyC (fun a b hab e => hab (by rw [e])) h2
/-- s.at[conn], there. -/
theorem SeatsAt.look (h : SeatsAt w B r) {x : Seat} (hx : x ∈ r.l) (b : Bool) : (Instr.lookup 48 (.map (some r.ma)) (.int .i64 x.1) b).run Try.prog w = .ok (if b then .tuple #[tokVal x.2, .bool true] else tokVal x.2) w := by
  have hk := keyOf_conn (conn_wf (n := x.1) (by have := (h.ok x hx).lo; omega) (by have := (h.ok x hx).hi; omega))
  have hm : (keyC x.1, tokD x.2) ∈ r.l.map entA := List.mem_map.2 ⟨x, hx, rfl⟩
  cases b with
  | true =>
    obtain ⟨v, ps, hr, hv⟩ := h.ma.look_ok keyI Try.underlying48 (zeroTok w) (Rt_tok tok0) hk hm
    rw [hr, Rt_inv hv]; rfl
  | false =>
    obtain ⟨v, ps, hr, hv⟩ := h.ma.look keyI Try.underlying48 (zeroTok w) (Rt_tok tok0) hk hm
    rw [hr, Rt_inv hv]; rfl
/-- s.at[conn], not there. -/
theorem SeatsAt.look_no (h : SeatsAt w B r) {n : Int} (hw : (Lit.int .i64 n).wf = true) (hn : ∀ x ∈ r.l, x.1 ≠ n) : (Instr.lookup 48 (.map (some r.ma)) (.int .i64 n) true).run Try.prog w = .ok (.tuple #[tokVal tok0, .bool false]) w := by
  obtain ⟨v, ps, hr, hv⟩ := h.ma.look_ok_no keyI Try.underlying48 (zeroTok w) (Rt_tok tok0) (keyOf_conn hw) (by
    rw [List.map_map]
    intro hm
    obtain ⟨x, hx, e⟩ := List.mem_map.1 hm
    simp [entA, keyC] at e
    exact hn x hx e)
  rw [hr, Rt_inv hv]
/-- s.by[person], there. -/
theorem SeatsAt.lookP (h : SeatsAt w B r) {x : Seat} (hx : x ∈ r.l) {t : TokL} (h1 : t.name = x.2.name) (h2 : t.role = x.2.role) : (Instr.lookup 49 (.map (some r.mb)) (perVal t) true).run Try.prog w = .ok (.tuple #[.int .i64 x.1, .bool true]) w := by
  have ht := (h.ok x hx).tok
  have hp : perVal t = perVal x.2 := by unfold perVal; rw [h1, h2]
  rw [hp]
  obtain ⟨v, ps, hr, hv⟩ := h.mb.look_ok keyPn Try.underlying49 (zeroInt w) (Ri_int 0) (keyOf_per ht.name ht.role) (d := .lit (.int .i64 x.1)) (List.mem_map.2 ⟨x, hx, rfl⟩)
  rw [hr, Ri_inv hv]
/-- s.by[person], not there. -/
theorem SeatsAt.lookP_no (h : SeatsAt w B r) {t : TokL} (h1 : t.name.size ≤ 140737488351232) (h2 : (Lit.int .i8 t.role).wf = true) (hn : ∀ x ∈ r.l, ¬ (x.2.name = t.name ∧ x.2.role = t.role)) : (Instr.lookup 49 (.map (some r.mb)) (perVal t) true).run Try.prog w = .ok (.tuple #[.int .i64 0, .bool false]) w := by
  obtain ⟨v, ps, hr, hv⟩ := h.mb.look_ok_no keyPn Try.underlying49 (zeroInt w) (Ri_int 0) (keyOf_per h1 h2) (by
    rw [List.map_map]
    intro hm
    obtain ⟨x, hx, e⟩ := List.mem_map.1 hm
    have e1 := keyOf_per (h.ok x hx).tok.name (h.ok x hx).tok.role
    have e2 := keyOf_per h1 h2
    have e3 : keyP x.2 = keyP t := e
    rw [e3] at e1
    have := keyPn.inj e1 e2
    simp [perVal] at this
    exact hn x hx this)
  rw [hr, Ri_inv hv]
theorem SeatsAt.size (h : SeatsAt w B r) (ty : TypeId) : (Builtin.len_ #[48] ty #[.map (some r.ma)]).run Try.prog w = .ok (.int .i64 (r.l.length : Int)) w := by
  rw [h.ma.len Try.underlying48 ty, List.length_map]
end
end Go.Proofs.Ytepbeafbfbimlaa
