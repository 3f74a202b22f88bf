/- States, views, events of package api as plain data, and what a reading of one says. -/
import Derived.Test.YtdokkhjgmhcpkaaReads
import Derived.Test.YtdokkhjgmhcpkaaRows
namespace Go.Proofs.Ytdokkhjgmhcpkaa
open Go.ChangeShapes Go.WideShapes Go.ChangeAt Go.RowKit
set_option linter.unusedVariables false
set_option maxRecDepth 20000

def wf64 (n : Int) : Prop := (Lit.int .i64 n).wf = true
def wf8 (n : Int) : Prop := (Lit.int .i8 n).wf = true
structure ThingL where
  id : Int
  card : Int
  harm : Int
  tired : Bool
deriving DecidableEq, Inhabited
def ThingL.cells (x : ThingL) : List Value := [.int .i64 x.id, .int .i64 x.card, .int .i64 x.harm, .bool x.tired]
def ThingL.wf (x : ThingL) : Prop := wf64 x.id ∧ wf64 x.card ∧ wf64 x.harm
def bi (n : Int) : List Value := [.int .i64 n]
def IntRow (w : World) (a : Option Addr) (n c : Nat) (l : List Int) : Prop := RowAt w a (l.map (Value.int .i64)) ∧ l.length = n ∧ n ≤ c ∧ c ≤ maxLen ∧ n ≤ 17592186044000 ∧ ∀ x ∈ l, wf64 x
def ThingRow (w : World) (a : Option Addr) (n c : Nat) (l : List ThingL) : Prop := RowAt w a (l.flatMap ThingL.cells) ∧ l.length = n ∧ n ≤ c ∧ c ≤ maxLen ∧ n ≤ 4398046510976 ∧ ∀ x ∈ l, x.wf

section
variable {H : Type} {enc : TypeId × Value → H} {w : World}
theorem int1 : Try.prog.cellsOf 3 = 1 := by kernel_rfl
theorem i8c : Try.prog.cellsOf 22 = 1 := by kernel_rfl
theorem bool1 : Try.prog.cellsOf 4 = 1 := by kernel_rfl
theorem ints1 : Try.prog.cellsOf 23 = 1 := by kernel_rfl
theorem things1 : Try.prog.cellsOf 24 = 1 := by kernel_rfl
theorem thing4 : Try.prog.cellsOf 91 = 4 := by kernel_rfl
theorem intBytes : Try.prog.bytesOf 3 = 8 := by kernel_rfl
theorem thingBytes : Try.prog.bytesOf 91 = 32 := by kernel_rfl

theorem came_ints {v : Value} (h : Came enc Try.prog w 23 [v]) : ∃ a n c l, v = .slice a n c ∧ IntRow w a n c l := by
  obtain ⟨a, len, cap, rfl, h1, h2, h3, h4, h5⟩ := h.slice Try.underlying23
  obtain ⟨l, hl, hr, hw⟩ := came_row (g := bi) (Ok := wf64) (fun _ => rfl) Nat.one_pos int1 (fun cs hc hlen => by
    match cs, hlen with
    | [c], _ =>
      obtain ⟨n, rfl, hw⟩ := hc.int Try.underlying3
      exact ⟨n, rfl, hw⟩) h3 h5
  rw [intBytes] at h4
  refine ⟨a, len, cap, l, rfl, ?_, hl, h1, h2, by omega, hw⟩
  have e : l.flatMap bi = l.map (Value.int .i64) := by
    clear hl hr hw
    induction l with
    | nil => rfl
    | cons x l ih => rw [List.flatMap_cons, ih]; rfl
  rw [← e]; exact hr
theorem came_things {v : Value} (h : Came enc Try.prog w 24 [v]) : ∃ a n c l, v = .slice a n c ∧ ThingRow w a n c l := by
  obtain ⟨a, len, cap, rfl, h1, h2, h3, h4, h5⟩ := h.slice Try.underlying24
  obtain ⟨l, hl, hr, hw⟩ := came_row (g := ThingL.cells) (Ok := ThingL.wf) (fun _ => rfl) (by omega) thing4 (fun cs hc hlen => by
    match cs, hlen with
    | [c0, c1, c2, c3], _ =>
      have f0 := hc.field Try.underlying91 0 (by decide)
      have f1 := hc.field Try.underlying91 1 (by decide)
      have f2 := hc.field Try.underlying91 2 (by decide)
      have f3 := hc.field Try.underlying91 3 (by decide)
      simp [int1, bool1] at f0 f1 f2 f3
      obtain ⟨n0, rfl, w0⟩ := f0.int Try.underlying3
      obtain ⟨n1, rfl, w1⟩ := f1.int Try.underlying3
      obtain ⟨n2, rfl, w2⟩ := f2.int Try.underlying3
      obtain ⟨b, rfl⟩ := f3.bool Try.underlying4
      exact ⟨⟨n0, n1, n2, b⟩, rfl, w0, w1, w2⟩) h3 h5
  rw [thingBytes] at h4
  exact ⟨a, len, cap, l, rfl, hr, hl, h1, h2, by omega, hw⟩
end

/-- A slice's head. -/
structure Sl where
  a : Option Addr
  n : Nat
  c : Nat
deriving Inhabited
def Ints (w : World) (s : Sl) (l : List Int) : Prop := IntRow w s.a s.n s.c l
def Things (w : World) (s : Sl) (l : List ThingL) : Prop := ThingRow w s.a s.n s.c l

theorem IntRow.below {w w' : World} {a : Option Addr} {n c : Nat} {l : List Int} (h : IntRow w a n c l) (hb : Below w.heap.size w w') : IntRow w' a n c l := ⟨h.1.below hb, h.2⟩
theorem ThingRow.below {w w' : World} {a : Option Addr} {n c : Nat} {l : List ThingL} (h : ThingRow w a n c l) (hb : Below w.heap.size w w') : ThingRow w' a n c l := ⟨h.1.below hb, h.2⟩
theorem Ints.old {w w' : World} {s : Sl} {l : List Int} (h : Ints w s l) (hb : Below w.heap.size w w') : Ints w' s l := IntRow.below h hb
theorem Things.old {w w' : World} {s : Sl} {l : List ThingL} (h : Things w s l) (hb : Below w.heap.size w w') : Things w' s l := ThingRow.below h hb
section
variable {H : Type} {enc : TypeId × Value → H} {w : World}
theorem came_ints' {v : Value} (h : Came enc Try.prog w 23 [v]) : ∃ (s : Sl) (l : List Int), v = .slice s.a s.n s.c ∧ Ints w s l := by
  obtain ⟨a, n, c, l, e, h⟩ := came_ints h
  exact ⟨⟨a, n, c⟩, l, e, h⟩
theorem came_things' {v : Value} (h : Came enc Try.prog w 24 [v]) : ∃ (s : Sl) (l : List ThingL), v = .slice s.a s.n s.c ∧ Things w s l := by
  obtain ⟨a, n, c, l, e, h⟩ := came_things h
  exact ⟨⟨a, n, c⟩, l, e, h⟩
end
structure PairL where
  at_ : Int
  by_ : Int
deriving DecidableEq, Inhabited
def PairL.cells (x : PairL) : List Value := [.int .i64 x.at_, .int .i64 x.by_]
def PairL.wf (x : PairL) : Prop := wf64 x.at_ ∧ wf64 x.by_
def Pairs (w : World) (s : Sl) (l : List PairL) : Prop := RowAt w s.a (l.flatMap PairL.cells) ∧ l.length = s.n ∧ s.n ≤ s.c ∧ s.c ≤ maxLen ∧ s.n ≤ 8796093021952 ∧ ∀ x ∈ l, x.wf
theorem Pairs.old {w w' : World} {s : Sl} {l : List PairL} (h : Pairs w s l) (hb : Below w.heap.size w w') : Pairs w' s l := ⟨h.1.below hb, h.2⟩
theorem pairs1 : Try.prog.cellsOf 39 = 1 := by kernel_rfl
theorem pair2 : Try.prog.cellsOf 72 = 2 := by kernel_rfl
theorem pairBytes : Try.prog.bytesOf 72 = 16 := by kernel_rfl
theorem came_pairs' {H : Type} {enc : TypeId × Value → H} {w : World} {v : Value} (h : Came enc Try.prog w 39 [v]) : ∃ (s : Sl) (l : List PairL), v = .slice s.a s.n s.c ∧ Pairs w s l := by
  obtain ⟨a, len, cap, rfl, h1, h2, h3, h4, h5⟩ := h.slice Try.underlying39
  obtain ⟨l, hl, hr, hw⟩ := came_row (g := PairL.cells) (Ok := PairL.wf) (fun _ => rfl) (by omega) pair2 (fun cs hc hlen => by
    match cs, hlen with
    | [c0, c1], _ =>
      have f0 := hc.field Try.underlying72 0 (by decide)
      have f1 := hc.field Try.underlying72 1 (by decide)
      simp [int1] at f0 f1
      obtain ⟨n0, rfl, w0⟩ := f0.int Try.underlying3
      obtain ⟨n1, rfl, w1⟩ := f1.int Try.underlying3
      exact ⟨⟨n0, n1⟩, rfl, w0, w1⟩) h3 h5
  rw [pairBytes] at h4
  exact ⟨⟨a, len, cap⟩, l, rfl, hr, hl, h1, h2, by show len ≤ _; omega, hw⟩

def OwnInts (w : World) (B : Nat) (s : Sl) (l : List Int) : Prop := Own w B 3 1 s.a s.n s.c (l.map (Value.int .i64)) ∧ Ints w s l
section
variable {w w' : World} {B : Nat} {s : Sl} {l : List Int}
theorem OwnInts.at (a : OwnInts w B s l) : Ints w s l := a.2
theorem OwnInts.old (a : OwnInts w B s l) (hb : Below w.heap.size w w') : OwnInts w' B s l := ⟨a.1.old hb, a.2.old hb⟩
theorem OwnInts.set (a : OwnInts w B s l) (x : Addr) (v : Value) (hx : x.block < B) : OwnInts (w.setCell x v) B s l := ⟨a.1.setCell_lt x v hx, (a.1.setCell_lt x v hx).row, a.2.2⟩
theorem OwnInts.setRow (a : OwnInts w B s l) (g : Nat) (cs : Array Value) (hx : g < B) : OwnInts (w.setRow g cs) B s l := ⟨a.1.setRow_lt g cs hx, (a.1.setRow_lt g cs hx).row, a.2.2⟩
theorem OwnInts.apart (h : OwnInts w B s l) {B' : Nat} {T : TypeId} {size' : Nat} {a : Option Addr} {n c : Nat} {vs : List Value} (ho : Own w B' T size' a n c vs) (hne : T ≠ 3) (hg : w.grownBy w' (Value.slice a n c).ownBlock) : OwnInts w' B s l := ⟨h.1.apart ho hne hg, (h.1.apart ho hne hg).row, h.2.2⟩
theorem OwnInts.put (a : OwnInts w B s l) {g : Nat} {cs : Array Value} {t : TypeId} (hB : Blk w g cs t) (h1 : t ≠ 3) (h2 : t ≠ 91) (cs' : Array Value) : OwnInts (w.setRow g cs') B s l := ⟨a.1.setRow_apart hB h1 cs', (a.1.setRow_apart hB h1 cs').row, a.2.2⟩
theorem OwnInts.lower (a : OwnInts w B s l) {B' : Nat} (hB : B' ≤ B) : OwnInts w B' s l := ⟨a.1.lower hB, a.2⟩
theorem OwnInts.mk' {w0 : World} {s0 : Sl} (h : Own w B 3 1 s.a s.n s.c (l.map (Value.int .i64))) (h0 : Ints w0 s0 l) (hn : s.n = s0.n) : OwnInts w B s l := ⟨h, h.row, by rw [hn]; exact h0.2.1, h.le, h.cap_le, by rw [hn]; exact h0.2.2.2.2.1, h0.2.2.2.2.2⟩
theorem OwnInts.nil (w : World) (B : Nat) : OwnInts w B ⟨none, 0, 0⟩ [] := ⟨Own.nil _ _ _ _, RowAt.nil _ _, rfl, Nat.le_refl _, by unfold maxLen; simp, by simp, fun x hx => by simp at hx⟩
end
def OwnThings (w : World) (B : Nat) (s : Sl) (l : List ThingL) : Prop := Own w B 91 4 s.a s.n s.c (l.flatMap ThingL.cells) ∧ Things w s l
section
variable {w w' : World} {B : Nat} {s : Sl} {l : List ThingL}
theorem OwnThings.at (a : OwnThings w B s l) : Things w s l := a.2
theorem OwnThings.old (a : OwnThings w B s l) (hb : Below w.heap.size w w') : OwnThings w' B s l := ⟨a.1.old hb, a.2.old hb⟩
theorem OwnThings.set (a : OwnThings w B s l) (x : Addr) (v : Value) (hx : x.block < B) : OwnThings (w.setCell x v) B s l := ⟨a.1.setCell_lt x v hx, (a.1.setCell_lt x v hx).row, a.2.2⟩
theorem OwnThings.setRow (a : OwnThings w B s l) (g : Nat) (cs : Array Value) (hx : g < B) : OwnThings (w.setRow g cs) B s l := ⟨a.1.setRow_lt g cs hx, (a.1.setRow_lt g cs hx).row, a.2.2⟩
theorem OwnThings.apart (h : OwnThings w B s l) {B' : Nat} {T : TypeId} {size' : Nat} {a : Option Addr} {n c : Nat} {vs : List Value} (ho : Own w B' T size' a n c vs) (hne : T ≠ 91) (hg : w.grownBy w' (Value.slice a n c).ownBlock) : OwnThings w' B s l := ⟨h.1.apart ho hne hg, (h.1.apart ho hne hg).row, h.2.2⟩
theorem OwnThings.put (a : OwnThings w B s l) {g : Nat} {cs : Array Value} {t : TypeId} (hB : Blk w g cs t) (h1 : t ≠ 3) (h2 : t ≠ 91) (cs' : Array Value) : OwnThings (w.setRow g cs') B s l := ⟨a.1.setRow_apart hB h2 cs', (a.1.setRow_apart hB h2 cs').row, a.2.2⟩
theorem OwnThings.lower (a : OwnThings w B s l) {B' : Nat} (hB : B' ≤ B) : OwnThings w B' s l := ⟨a.1.lower hB, a.2⟩
theorem OwnThings.mk' {w0 : World} {s0 : Sl} (h : Own w B 91 4 s.a s.n s.c (l.flatMap ThingL.cells)) (h0 : Things w0 s0 l) (hn : s.n = s0.n) : OwnThings w B s l := ⟨h, h.row, by rw [hn]; exact h0.2.1, h.le, h.cap_le, by rw [hn]; exact h0.2.2.2.2.1, h0.2.2.2.2.2⟩
theorem OwnThings.nil (w : World) (B : Nat) : OwnThings w B ⟨none, 0, 0⟩ [] := ⟨Own.nil _ _ _ _, RowAt.nil _ _, rfl, Nat.le_refl _, by unfold maxLen; simp, by simp, fun x hx => by simp at hx⟩
end
def OwnPairs (w : World) (B : Nat) (s : Sl) (l : List PairL) : Prop := Own w B 72 2 s.a s.n s.c (l.flatMap PairL.cells) ∧ Pairs w s l
section
variable {w w' : World} {B : Nat} {s : Sl} {l : List PairL}
theorem OwnPairs.at (a : OwnPairs w B s l) : Pairs w s l := a.2
theorem OwnPairs.old (a : OwnPairs w B s l) (hb : Below w.heap.size w w') : OwnPairs w' B s l := ⟨a.1.old hb, a.2.old hb⟩
theorem OwnPairs.set (a : OwnPairs w B s l) (x : Addr) (v : Value) (hx : x.block < B) : OwnPairs (w.setCell x v) B s l := ⟨a.1.setCell_lt x v hx, (a.1.setCell_lt x v hx).row, a.2.2⟩
theorem OwnPairs.setRow (a : OwnPairs w B s l) (g : Nat) (cs : Array Value) (hx : g < B) : OwnPairs (w.setRow g cs) B s l := ⟨a.1.setRow_lt g cs hx, (a.1.setRow_lt g cs hx).row, a.2.2⟩
theorem OwnPairs.apart (h : OwnPairs w B s l) {B' : Nat} {T : TypeId} {size' : Nat} {a : Option Addr} {n c : Nat} {vs : List Value} (ho : Own w B' T size' a n c vs) (hne : T ≠ 72) (hg : w.grownBy w' (Value.slice a n c).ownBlock) : OwnPairs w' B s l := ⟨h.1.apart ho hne hg, (h.1.apart ho hne hg).row, h.2.2⟩
theorem OwnPairs.lower (a : OwnPairs w B s l) {B' : Nat} (hB : B' ≤ B) : OwnPairs w B' s l := ⟨a.1.lower hB, a.2⟩
theorem OwnPairs.mk' {w0 : World} {s0 : Sl} (h : Own w B 72 2 s.a s.n s.c (l.flatMap PairL.cells)) (h0 : Pairs w0 s0 l) (hn : s.n = s0.n) : OwnPairs w B s l := ⟨h, h.row, by rw [hn]; exact h0.2.1, h.le, h.cap_le, by rw [hn]; exact h0.2.2.2.2.1, h0.2.2.2.2.2⟩
theorem OwnPairs.nil (w : World) (B : Nat) : OwnPairs w B ⟨none, 0, 0⟩ [] := ⟨Own.nil _ _ _ _, RowAt.nil _ _, rfl, Nat.le_refl _, by unfold maxLen; simp, by simp, fun x hx => by simp at hx⟩
end
structure SideP where
  life : Int
  mana : Int
  most : Int
  deck : List Int
  hand : List Int
  grave : List Int
  units : List ThingL
  told : List Int
deriving DecidableEq, Inhabited
structure SideH where
  deck : Sl
  hand : Sl
  grave : Sl
  units : Sl
  told : Sl
deriving Inhabited
def sideCells (p : SideP) (h : SideH) : List Value := [.int .i64 p.life, .int .i64 p.mana, .int .i64 p.most, .slice h.deck.a h.deck.n h.deck.c, .slice h.hand.a h.hand.n h.hand.c, .slice h.grave.a h.grave.n h.grave.c, .slice h.units.a h.units.n h.units.c, .slice h.told.a h.told.n h.told.c]
def sideVal (p : SideP) (h : SideH) : Value := .agg #[.int .i64 p.life, .int .i64 p.mana, .int .i64 p.most, .slice h.deck.a h.deck.n h.deck.c, .slice h.hand.a h.hand.n h.hand.c, .slice h.grave.a h.grave.n h.grave.c, .slice h.units.a h.units.n h.units.c, .slice h.told.a h.told.n h.told.c]
theorem sideVal_cells (p : SideP) (h : SideH) : sideVal p h = .agg (sideCells p h).toArray := rfl
structure SideAt (w : World) (p : SideP) (h : SideH) : Prop where
  life : wf64 p.life
  mana : wf64 p.mana
  most : wf64 p.most
  deck : Ints w h.deck p.deck
  hand : Ints w h.hand p.hand
  grave : Ints w h.grave p.grave
  units : Things w h.units p.units
  told : Ints w h.told p.told
theorem SideAt.old {w w' : World} {p : SideP} {h : SideH} (a : SideAt w p h) (hb : Below w.heap.size w w') : SideAt w' p h :=
  ⟨a.life, a.mana, a.most, a.deck.old hb, a.hand.old hb, a.grave.old hb, a.units.old hb, a.told.old hb⟩
structure SideOwn (w : World) (B : Nat) (p : SideP) (h : SideH) : Prop where
  life : wf64 p.life
  mana : wf64 p.mana
  most : wf64 p.most
  deck : OwnInts w B h.deck p.deck
  hand : OwnInts w B h.hand p.hand
  grave : OwnInts w B h.grave p.grave
  units : OwnThings w B h.units p.units
  told : OwnInts w B h.told p.told
theorem SideOwn.at {w : World} {B : Nat} {p : SideP} {h : SideH} (a : SideOwn w B p h) : SideAt w p h := ⟨a.life, a.mana, a.most, a.deck.at, a.hand.at, a.grave.at, a.units.at, a.told.at⟩
theorem SideOwn.old {w w' : World} {B : Nat} {p : SideP} {h : SideH} (a : SideOwn w B p h) (hb : Below w.heap.size w w') : SideOwn w' B p h := ⟨a.life, a.mana, a.most, a.deck.old hb, a.hand.old hb, a.grave.old hb, a.units.old hb, a.told.old hb⟩
theorem SideOwn.set {w : World} {B : Nat} {p : SideP} {h : SideH} (a : SideOwn w B p h) (x : Addr) (v : Value) (hx : x.block < B) : SideOwn (w.setCell x v) B p h := ⟨a.life, a.mana, a.most, a.deck.set x v hx, a.hand.set x v hx, a.grave.set x v hx, a.units.set x v hx, a.told.set x v hx⟩
theorem SideOwn.setRow {w : World} {B : Nat} {p : SideP} {h : SideH} (a : SideOwn w B p h) (g : Nat) (cs : Array Value) (hx : g < B) : SideOwn (w.setRow g cs) B p h := ⟨a.life, a.mana, a.most, a.deck.setRow g cs hx, a.hand.setRow g cs hx, a.grave.setRow g cs hx, a.units.setRow g cs hx, a.told.setRow g cs hx⟩
theorem SideOwn.lower {w : World} {B : Nat} {p : SideP} {h : SideH} (a : SideOwn w B p h) {B' : Nat} (hB : B' ≤ B) : SideOwn w B' p h := ⟨a.life, a.mana, a.most, a.deck.lower hB, a.hand.lower hB, a.grave.lower hB, a.units.lower hB, a.told.lower hB⟩
theorem SideOwn.put {w : World} {B : Nat} {p : SideP} {h : SideH} (a : SideOwn w B p h) {g : Nat} {cs : Array Value} {t : TypeId} (hB : Blk w g cs t) (h1 : t ≠ 3) (h2 : t ≠ 91) (cs' : Array Value) : SideOwn (w.setRow g cs') B p h := ⟨a.life, a.mana, a.most, a.deck.put hB h1 h2 cs', a.hand.put hB h1 h2 cs', a.grave.put hB h1 h2 cs', a.units.put hB h1 h2 cs', a.told.put hB h1 h2 cs'⟩
section
variable {H : Type} {enc : TypeId × Value → H} {w : World}
theorem came_side {cs : List Value} (hlen : cs.length = 8) (hc : Came enc Try.prog w 26 cs) : ∃ (p : SideP) (h : SideH), cs = sideCells p h ∧ SideAt w p h := by
  have f0 := hc.field Try.underlying26 0 (by decide)
  have f1 := hc.field Try.underlying26 1 (by decide)
  have f2 := hc.field Try.underlying26 2 (by decide)
  have f3 := hc.field Try.underlying26 3 (by decide)
  have f4 := hc.field Try.underlying26 4 (by decide)
  have f5 := hc.field Try.underlying26 5 (by decide)
  have f6 := hc.field Try.underlying26 6 (by decide)
  have f7 := hc.field Try.underlying26 7 (by decide)
  match cs, hlen with
  | [c0, c1, c2, c3, c4, c5, c6, c7], _ =>
    simp [int1, ints1, things1] at f0 f1 f2 f3 f4 f5 f6 f7
    obtain ⟨n0, rfl, w0⟩ := f0.int Try.underlying3
    obtain ⟨n1, rfl, w1⟩ := f1.int Try.underlying3
    obtain ⟨n2, rfl, w2⟩ := f2.int Try.underlying3
    obtain ⟨s3, l3, rfl, w3⟩ := came_ints' f3
    obtain ⟨s4, l4, rfl, w4⟩ := came_ints' f4
    obtain ⟨s5, l5, rfl, w5⟩ := came_ints' f5
    obtain ⟨s6, l6, rfl, w6⟩ := came_things' f6
    obtain ⟨s7, l7, rfl, w7⟩ := came_ints' f7
    refine ⟨⟨n0, n1, n2, l3, l4, l5, l6, l7⟩, ⟨s3, s4, s5, s6, s7⟩, ?_, ⟨w0, w1, w2, w3, w4, w5, w6, w7⟩⟩
    rfl
end
structure StateP where
  turn : Int
  mover : Int
  phase : Int
  struck : Bool
  result : Int
  attack : List Int
  next : Int
  x : SideP
  y : SideP
deriving DecidableEq, Inhabited
structure StateH where
  attack : Sl
  x : SideH
  y : SideH
deriving Inhabited
def stateCells (p : StateP) (h : StateH) : List Value := [.int .i64 p.turn, .int .i64 p.mover, .int .i8 p.phase, .bool p.struck, .int .i8 p.result, .slice h.attack.a h.attack.n h.attack.c, .int .i64 p.next] ++ sideCells p.x h.x ++ sideCells p.y h.y
def stateVal (p : StateP) (h : StateH) : Value := .agg #[.int .i64 p.turn, .int .i64 p.mover, .int .i8 p.phase, .bool p.struck, .int .i8 p.result, .slice h.attack.a h.attack.n h.attack.c, .int .i64 p.next, .int .i64 p.x.life, .int .i64 p.x.mana, .int .i64 p.x.most, .slice h.x.deck.a h.x.deck.n h.x.deck.c, .slice h.x.hand.a h.x.hand.n h.x.hand.c, .slice h.x.grave.a h.x.grave.n h.x.grave.c, .slice h.x.units.a h.x.units.n h.x.units.c, .slice h.x.told.a h.x.told.n h.x.told.c, .int .i64 p.y.life, .int .i64 p.y.mana, .int .i64 p.y.most, .slice h.y.deck.a h.y.deck.n h.y.deck.c, .slice h.y.hand.a h.y.hand.n h.y.hand.c, .slice h.y.grave.a h.y.grave.n h.y.grave.c, .slice h.y.units.a h.y.units.n h.y.units.c, .slice h.y.told.a h.y.told.n h.y.told.c]
theorem stateVal_cells (p : StateP) (h : StateH) : stateVal p h = .agg (stateCells p h).toArray := rfl
structure StateAt (w : World) (p : StateP) (h : StateH) : Prop where
  turn : wf64 p.turn
  mover : wf64 p.mover
  phase : wf8 p.phase
  result : wf8 p.result
  attack : Ints w h.attack p.attack
  next : wf64 p.next
  x : SideAt w p.x h.x
  y : SideAt w p.y h.y
theorem StateAt.old {w w' : World} {p : StateP} {h : StateH} (a : StateAt w p h) (hb : Below w.heap.size w w') : StateAt w' p h :=
  ⟨a.turn, a.mover, a.phase, a.result, a.attack.old hb, a.next, a.x.old hb, a.y.old hb⟩
structure StateOwn (w : World) (B : Nat) (p : StateP) (h : StateH) : Prop where
  turn : wf64 p.turn
  mover : wf64 p.mover
  phase : wf8 p.phase
  result : wf8 p.result
  attack : OwnInts w B h.attack p.attack
  next : wf64 p.next
  x : SideOwn w B p.x h.x
  y : SideOwn w B p.y h.y
theorem StateOwn.at {w : World} {B : Nat} {p : StateP} {h : StateH} (a : StateOwn w B p h) : StateAt w p h := ⟨a.turn, a.mover, a.phase, a.result, a.attack.at, a.next, a.x.at, a.y.at⟩
theorem StateOwn.old {w w' : World} {B : Nat} {p : StateP} {h : StateH} (a : StateOwn w B p h) (hb : Below w.heap.size w w') : StateOwn w' B p h := ⟨a.turn, a.mover, a.phase, a.result, a.attack.old hb, a.next, a.x.old hb, a.y.old hb⟩
theorem StateOwn.set {w : World} {B : Nat} {p : StateP} {h : StateH} (a : StateOwn w B p h) (x : Addr) (v : Value) (hx : x.block < B) : StateOwn (w.setCell x v) B p h := ⟨a.turn, a.mover, a.phase, a.result, a.attack.set x v hx, a.next, a.x.set x v hx, a.y.set x v hx⟩
theorem StateOwn.setRow {w : World} {B : Nat} {p : StateP} {h : StateH} (a : StateOwn w B p h) (g : Nat) (cs : Array Value) (hx : g < B) : StateOwn (w.setRow g cs) B p h := ⟨a.turn, a.mover, a.phase, a.result, a.attack.setRow g cs hx, a.next, a.x.setRow g cs hx, a.y.setRow g cs hx⟩
theorem StateOwn.lower {w : World} {B : Nat} {p : StateP} {h : StateH} (a : StateOwn w B p h) {B' : Nat} (hB : B' ≤ B) : StateOwn w B' p h := ⟨a.turn, a.mover, a.phase, a.result, a.attack.lower hB, a.next, a.x.lower hB, a.y.lower hB⟩
theorem StateOwn.put {w : World} {B : Nat} {p : StateP} {h : StateH} (a : StateOwn w B p h) {g : Nat} {cs : Array Value} {t : TypeId} (hB : Blk w g cs t) (h1 : t ≠ 3) (h2 : t ≠ 91) (cs' : Array Value) : StateOwn (w.setRow g cs') B p h := ⟨a.turn, a.mover, a.phase, a.result, a.attack.put hB h1 h2 cs', a.next, a.x.put hB h1 h2 cs', a.y.put hB h1 h2 cs'⟩
section
variable {H : Type} {enc : TypeId × Value → H} {w : World}
theorem sides2C : Try.prog.cellsOf 27 = 16 := by kernel_rfl
theorem side1C : Try.prog.cellsOf 26 = 8 := by kernel_rfl
theorem came_state {cs : List Value} (hlen : cs.length = 23) (hc : Came enc Try.prog w 29 cs) : ∃ (p : StateP) (h : StateH), cs = stateCells p h ∧ StateAt w p h := by
  have f0 := hc.field Try.underlying29 0 (by decide)
  have f1 := hc.field Try.underlying29 1 (by decide)
  have f2 := hc.field Try.underlying29 2 (by decide)
  have f3 := hc.field Try.underlying29 3 (by decide)
  have f4 := hc.field Try.underlying29 4 (by decide)
  have f5 := hc.field Try.underlying29 5 (by decide)
  have f6 := hc.field Try.underlying29 6 (by decide)
  have f7 := hc.field Try.underlying29 7 (by decide)
  match cs, hlen with
  | [c0, c1, c2, c3, c4, c5, c6, c7, c8, c9, c10, c11, c12, c13, c14, c15, c16, c17, c18, c19, c20, c21, c22], _ =>
    simp [bool1, i8c, int1, ints1, sides2C] at f0 f1 f2 f3 f4 f5 f6 f7
    obtain ⟨n0, rfl, w0⟩ := f0.int Try.underlying3
    obtain ⟨n1, rfl, w1⟩ := f1.int Try.underlying3
    obtain ⟨n2, rfl, w2⟩ := f2.int Try.underlying22
    obtain ⟨n3, rfl⟩ := f3.bool Try.underlying4
    obtain ⟨n4, rfl, w4⟩ := f4.int Try.underlying22
    obtain ⟨s5, l5, rfl, w5⟩ := came_ints' f5
    obtain ⟨n6, rfl, w6⟩ := f6.int Try.underlying3
    have g0 := f7.elem Try.underlying27 0 (by decide)
    have g1 := f7.elem Try.underlying27 1 (by decide)
    simp [side1C] at g0 g1
    obtain ⟨x, hx, ex, wx⟩ := came_side rfl g0
    obtain ⟨y, hy, ey, wy⟩ := came_side rfl g1
    refine ⟨⟨n0, n1, n2, n3, n4, l5, n6, x, y⟩, ⟨s5, hx, hy⟩, ?_, ⟨w0, w1, w2, w4, w5, w6, wx, wy⟩⟩
    unfold stateCells
    simp only [← ex, ← ey]; rfl
end
structure ActionP where
  op : Int
  side : Int
  place : Int
  target : Int
  ids : List Int
  pairs : List PairL
deriving DecidableEq, Inhabited
structure ActionH where
  ids : Sl
  pairs : Sl
deriving Inhabited
def actionCells (p : ActionP) (h : ActionH) : List Value := [.int .i8 p.op, .int .i64 p.side, .int .i64 p.place, .int .i64 p.target, .slice h.ids.a h.ids.n h.ids.c, .slice h.pairs.a h.pairs.n h.pairs.c]
def actionVal (p : ActionP) (h : ActionH) : Value := .agg #[.int .i8 p.op, .int .i64 p.side, .int .i64 p.place, .int .i64 p.target, .slice h.ids.a h.ids.n h.ids.c, .slice h.pairs.a h.pairs.n h.pairs.c]
theorem actionVal_cells (p : ActionP) (h : ActionH) : actionVal p h = .agg (actionCells p h).toArray := rfl
structure ActionAt (w : World) (p : ActionP) (h : ActionH) : Prop where
  op : wf8 p.op
  side : wf64 p.side
  place : wf64 p.place
  target : wf64 p.target
  ids : Ints w h.ids p.ids
  pairs : Pairs w h.pairs p.pairs
theorem ActionAt.old {w w' : World} {p : ActionP} {h : ActionH} (a : ActionAt w p h) (hb : Below w.heap.size w w') : ActionAt w' p h :=
  ⟨a.op, a.side, a.place, a.target, a.ids.old hb, a.pairs.old hb⟩
structure ActionOwn (w : World) (B : Nat) (p : ActionP) (h : ActionH) : Prop where
  op : wf8 p.op
  side : wf64 p.side
  place : wf64 p.place
  target : wf64 p.target
  ids : OwnInts w B h.ids p.ids
  pairs : OwnPairs w B h.pairs p.pairs
theorem ActionOwn.at {w : World} {B : Nat} {p : ActionP} {h : ActionH} (a : ActionOwn w B p h) : ActionAt w p h := ⟨a.op, a.side, a.place, a.target, a.ids.at, a.pairs.at⟩
theorem ActionOwn.old {w w' : World} {B : Nat} {p : ActionP} {h : ActionH} (a : ActionOwn w B p h) (hb : Below w.heap.size w w') : ActionOwn w' B p h := ⟨a.op, a.side, a.place, a.target, a.ids.old hb, a.pairs.old hb⟩
theorem ActionOwn.set {w : World} {B : Nat} {p : ActionP} {h : ActionH} (a : ActionOwn w B p h) (x : Addr) (v : Value) (hx : x.block < B) : ActionOwn (w.setCell x v) B p h := ⟨a.op, a.side, a.place, a.target, a.ids.set x v hx, a.pairs.set x v hx⟩
theorem ActionOwn.setRow {w : World} {B : Nat} {p : ActionP} {h : ActionH} (a : ActionOwn w B p h) (g : Nat) (cs : Array Value) (hx : g < B) : ActionOwn (w.setRow g cs) B p h := ⟨a.op, a.side, a.place, a.target, a.ids.setRow g cs hx, a.pairs.setRow g cs hx⟩
theorem ActionOwn.lower {w : World} {B : Nat} {p : ActionP} {h : ActionH} (a : ActionOwn w B p h) {B' : Nat} (hB : B' ≤ B) : ActionOwn w B' p h := ⟨a.op, a.side, a.place, a.target, a.ids.lower hB, a.pairs.lower hB⟩
section
variable {H : Type} {enc : TypeId × Value → H} {w : World}
theorem came_action {cs : List Value} (hlen : cs.length = 6) (hc : Came enc Try.prog w 41 cs) : ∃ (p : ActionP) (h : ActionH), cs = actionCells p h ∧ ActionAt w p h := by
  have f0 := hc.field Try.underlying41 0 (by decide)
  have f1 := hc.field Try.underlying41 1 (by decide)
  have f2 := hc.field Try.underlying41 2 (by decide)
  have f3 := hc.field Try.underlying41 3 (by decide)
  have f4 := hc.field Try.underlying41 4 (by decide)
  have f5 := hc.field Try.underlying41 5 (by decide)
  match cs, hlen with
  | [c0, c1, c2, c3, c4, c5], _ =>
    simp [i8c, int1, ints1, pairs1] at f0 f1 f2 f3 f4 f5
    obtain ⟨n0, rfl, w0⟩ := f0.int Try.underlying22
    obtain ⟨n1, rfl, w1⟩ := f1.int Try.underlying3
    obtain ⟨n2, rfl, w2⟩ := f2.int Try.underlying3
    obtain ⟨n3, rfl, w3⟩ := f3.int Try.underlying3
    obtain ⟨s4, l4, rfl, w4⟩ := came_ints' f4
    obtain ⟨s5, l5, rfl, w5⟩ := came_pairs' f5
    refine ⟨⟨n0, n1, n2, n3, l4, l5⟩, ⟨s4, s5⟩, ?_, ⟨w0, w1, w2, w3, w4, w5⟩⟩
    rfl
end

end Go.Proofs.Ytdokkhjgmhcpkaa
