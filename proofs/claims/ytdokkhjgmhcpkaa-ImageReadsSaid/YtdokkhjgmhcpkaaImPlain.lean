/- States and actions as bytes: what is written, what is read. Plain: no program is named. -/
import Derived.Test.YtdokkhjgmhcpkaaState
namespace Go.Proofs.Ytdokkhjgmhcpkaa
open Go.RowKit
set_option linter.unusedVariables false

/-- A number as 8 bytes. -/
def be8 (n : Int) : List UInt8 := (List.range 8).map fun i => ⟨((BitVec.ofInt 64 n) >>> (56 - 8 * i)).setWidth 8⟩
theorem be8_byte (n : Int) (k : Nat) : IntKind.u8.wrap (IntKind.u64.wrap n / 2 ^ k) = U8 ⟨((BitVec.ofInt 64 n) >>> k).setWidth 8⟩ := by
  have e : IntKind.u64.wrap n = U64 (BitVec.ofInt 64 n) := by
    simp only [U64, BitVec.toNat_ofInt, IntKind.wrap, IntKind.bits, IntKind.signed]
    simp
    omega
  rw [e, U64_shr_pow]
  have := U64_byte (BitVec.ofInt 64 n >>> k)
  rw [← this]
  simp [IntKind.wrap, IntKind.bits, IntKind.signed]
theorem be8_take (n : Int) (i : Nat) (h : i < 8) : (be8 n).take (i + 1) = (be8 n).take i ++ [⟨((BitVec.ofInt 64 n) >>> (56 - 8 * i)).setWidth 8⟩] := by
  rw [List.take_succ_eq_append_getElem (by simp [be8]; exact h)]
  simp [be8]
theorem be8_length (n : Int) : (be8 n).length = 8 := by simp [be8]
def tr1 (b : Bool) : List UInt8 := [if b then 1 else 0]
def encL (l : List Int) : List UInt8 := be8 l.length ++ l.flatMap be8
def thingB (u : ThingL) : List UInt8 := be8 u.id ++ be8 u.card ++ be8 u.harm ++ tr1 u.tired
def encU (l : List ThingL) : List UInt8 := be8 l.length ++ l.flatMap thingB
def pairB (u : PairL) : List UInt8 := be8 u.at_ ++ be8 u.by_
def encP (l : List PairL) : List UInt8 := be8 l.length ++ l.flatMap pairB
def sideI (x : SideP) : List UInt8 := be8 x.life ++ be8 x.mana ++ be8 x.most ++ encL x.deck ++ encL x.hand ++ encL x.grave ++ encU x.units ++ encL x.told
def stateI (p : StateP) : List UInt8 := be8 p.turn ++ be8 p.mover ++ be8 p.phase ++ tr1 p.struck ++ be8 p.result ++ encL p.attack ++ be8 p.next ++ sideI p.x ++ sideI p.y
def actionI (p : ActionP) : List UInt8 := be8 p.op ++ be8 p.side ++ be8 p.place ++ be8 p.target ++ encL p.ids ++ encP p.pairs

/-! ### Reading: a value and how many bytes were read, or the place of the first that can't stand there -/
abbrev Rd (α : Type) := Except Nat (α × Nat)
def thn {α β : Type} (x : Rd α) (f : α → Nat → Rd β) : Rd β := match x with
  | .error p => .error p
  | .ok y => f y.1 y.2
def rdB (l : List UInt8) : BitVec 64 := l.foldl (fun n y => n <<< 8 ||| y.toBitVec.setWidth 64) 0
def rdNum (bs : List UInt8) (at_ : Nat) : Rd Int :=
  if bs.length < at_ + 8 then .error bs.length else .ok ((rdB ((bs.drop at_).take 8)).toInt, at_ + 8)
def rdSmall (bs : List UInt8) (at_ : Nat) : Rd Int := match rdNum bs at_ with
  | .error p => .error p
  | .ok (n, a) => if n < -128 ∨ 127 < n then .error at_ else .ok (n, a)
def rdTruth (bs : List UInt8) (at_ : Nat) : Rd Bool := match bs[at_]? with
  | none => .error at_
  | some y => if 1 < y.toNat then .error at_ else .ok (decide (y = 1), at_ + 1)
def rdMany {α : Type} (one : Nat → Rd α) : Nat → Nat → Rd (List α)
  | 0, a => .ok ([], a)
  | n + 1, a => match one a with
    | .error p => .error p
    | .ok (x, b) => match rdMany one n b with
      | .error p => .error p
      | .ok (l, c) => .ok (x :: l, c)
def rdList {α : Type} (bs : List UInt8) (each : Nat) (one : Nat → Rd α) (at_ : Nat) : Rd (List α) := match rdNum bs at_ with
  | .error p => .error p
  | .ok (n, a) => if n < 0 ∨ ((bs.length : Int) - a).tdiv each < n then .error at_ else rdMany one n.toNat a
def rdThing (bs : List UInt8) (at_ : Nat) : Rd ThingL :=
  thn (rdNum bs at_) fun i a =>
  thn (rdNum bs a) fun c a =>
  thn (rdNum bs a) fun h a =>
  thn (rdTruth bs a) fun t a =>
  .ok (⟨i, c, h, t⟩, a)
def rdPair (bs : List UInt8) (at_ : Nat) : Rd PairL :=
  thn (rdNum bs at_) fun i a =>
  thn (rdNum bs a) fun c a =>
  .ok (⟨i, c⟩, a)
def rdInts (bs : List UInt8) (at_ : Nat) : Rd (List Int) := rdList bs 8 (rdNum bs) at_
def rdThings (bs : List UInt8) (at_ : Nat) : Rd (List ThingL) := rdList bs 25 (rdThing bs) at_
def rdPairs (bs : List UInt8) (at_ : Nat) : Rd (List PairL) := rdList bs 16 (rdPair bs) at_
def rdSide (bs : List UInt8) (at_ : Nat) : Rd SideP :=
  thn (rdNum bs at_) fun life a =>
  thn (rdNum bs a) fun mana a =>
  thn (rdNum bs a) fun most a =>
  thn (rdInts bs a) fun deck a =>
  thn (rdInts bs a) fun hand a =>
  thn (rdInts bs a) fun grave a =>
  thn (rdThings bs a) fun units a =>
  thn (rdInts bs a) fun told a =>
  .ok (⟨life, mana, most, deck, hand, grave, units, told⟩, a)
def rdState (bs : List UInt8) (at_ : Nat) : Rd StateP :=
  thn (rdNum bs at_) fun turn a =>
  thn (rdNum bs a) fun mover a =>
  thn (rdSmall bs a) fun phase a =>
  thn (rdTruth bs a) fun struck a =>
  thn (rdSmall bs a) fun result a =>
  thn (rdInts bs a) fun attack a =>
  thn (rdNum bs a) fun next a =>
  thn (rdSide bs a) fun x a =>
  thn (rdSide bs a) fun y a =>
  .ok (⟨turn, mover, phase, struck, result, attack, next, x, y⟩, a)
def rdAction (bs : List UInt8) (at_ : Nat) : Rd ActionP :=
  thn (rdSmall bs at_) fun op a =>
  thn (rdNum bs a) fun side a =>
  thn (rdNum bs a) fun place a =>
  thn (rdNum bs a) fun target a =>
  thn (rdInts bs a) fun ids a =>
  thn (rdPairs bs a) fun pairs a =>
  .ok (⟨op, side, place, target, ids, pairs⟩, a)
/-- All of some bytes as one thing. -/
def rdWhole {α : Type} (one : List UInt8 → Nat → Rd α) (bs : List UInt8) : Except Nat α := match one bs 0 with
  | .error p => .error p
  | .ok (x, a) => if a < bs.length then .error a else .ok x
end Go.Proofs.Ytdokkhjgmhcpkaa
