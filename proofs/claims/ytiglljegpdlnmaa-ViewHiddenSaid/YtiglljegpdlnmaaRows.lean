/-
  No cell of these rows narrows 'for every input' (looked for: loops, veiled, ifaces, maps, wideKeys, modest, calm, conditions, laid).
  DERIVED. THE GIVEN ROWS OF THIS SEAT. 5 by the template 'for every input the law returns true; each argument reads behind the call as it read before'; 0 by the template 'total and deterministic' (their statements: YtiglljegpdlnmaaTotals.lean).
  GIVEN WITH THE SEED: the statements are not yours to turn. If you find one false, say at which input.
  Laid BY PROGRAM, IN A SANDBOX (cutbox-rows.mjs): the forced cells as the released guide's own fill.sh prints them over the translation 1867180440ac64a4… (all of the seat's roots in one cut). By AI agents, Wed Nov 11 2026. No macro, syntax, notation, axiom, sorry.
-/
import Derived.Test.YtiglljegpdlnmaaChecked
import GoSem.Claim
import GoSem.ClaimJoined
import GoSem.ClaimMapViews
import Derived.JoinedTies
import Derived.KernelRfl
namespace Go.Proofs.Ytiglljegpdlnmaa
/- THE CELL 'sum', in the pinned program and in every row, IS THE sha256 OF THE DUMP (.gsa) THAT YtiglljegpdlnmaaProg.lean LOADS. Nothing in Lean hashes anything: it is a label: what it is worth is what the hold of that sum in a sandbox is worth. -/
noncomputable def Try.pinned : Pinned := { name := "ytiglljegpdlnmaa", sum := "1867180440ac64a494832a820e61bcf9395174c38929b14690c4884937ee9563", checked := Try.checked }
namespace Rows
def none {H : Type} : Left H := { results := [], args := [] }

/-- 'baizelaw25.ViewEvents': WHATEVER THE INPUT: true; the input reads as it did. -/
def viewEventsSpec : ChangeSpec := { name := "viewEvents", fn := fun _ => fun
  | [d1, d2] => { results := [.lit (.bool true)], args := [d1, d2] }
  | _ => none }
def viewEventsRow : OpenClaim := { program := "ytiglljegpdlnmaa", sum := "1867180440ac64a494832a820e61bcf9395174c38929b14690c4884937ee9563", func := "baize/baizelaw25.ViewEvents", spec := "viewEvents", apart := false }
def ViewEventsSaid : Prop := viewEventsRow.holds Try.pinned (OpenSpec.ofChange viewEventsSpec)

/-- ITS FALSE NEIGHBOUR: 'it returns false'. Refute it at one input. -/
def viewEventsWrong : ChangeSpec := { name := "viewEvents", fn := fun _ => fun
  | [d1, d2] => { results := [.lit (.bool false)], args := [d1, d2] }
  | _ => none }
def ViewEventsWrongFalsely : Prop := viewEventsRow.holds Try.pinned (OpenSpec.ofChange viewEventsWrong)

/-- 'baizelaw25.ViewBytes': WHATEVER THE INPUT: true; the input reads as it did. -/
def viewBytesSpec : ChangeSpec := { name := "viewBytes", fn := fun _ => fun
  | [d1, d2] => { results := [.lit (.bool true)], args := [d1, d2] }
  | _ => none }
def viewBytesRow : OpenClaim := { program := "ytiglljegpdlnmaa", sum := "1867180440ac64a494832a820e61bcf9395174c38929b14690c4884937ee9563", func := "baize/baizelaw25.ViewBytes", spec := "viewBytes", recurses := true, apart := false }
def ViewBytesSaid : Prop := viewBytesRow.holds Try.pinned (OpenSpec.ofChange viewBytesSpec)

/-- ITS FALSE NEIGHBOUR: 'it returns false'. Refute it at one input. -/
def viewBytesWrong : ChangeSpec := { name := "viewBytes", fn := fun _ => fun
  | [d1, d2] => { results := [.lit (.bool false)], args := [d1, d2] }
  | _ => none }
def ViewBytesWrongFalsely : Prop := viewBytesRow.holds Try.pinned (OpenSpec.ofChange viewBytesWrong)

/-- 'baizelaw25.ViewOf': WHATEVER THE INPUT: true; the input reads as it did. -/
def viewOfSpec : ChangeSpec := { name := "viewOf", fn := fun _ => fun
  | [d1, d2, d3] => { results := [.lit (.bool true)], args := [d1, d2, d3] }
  | _ => none }
def viewOfRow : OpenClaim := { program := "ytiglljegpdlnmaa", sum := "1867180440ac64a494832a820e61bcf9395174c38929b14690c4884937ee9563", func := "baize/baizelaw25.ViewOf", spec := "viewOf", recurses := true, apart := false }
def ViewOfSaid : Prop := viewOfRow.holds Try.pinned (OpenSpec.ofChange viewOfSpec)

/-- ITS FALSE NEIGHBOUR: 'it returns false'. Refute it at one input. -/
def viewOfWrong : ChangeSpec := { name := "viewOf", fn := fun _ => fun
  | [d1, d2, d3] => { results := [.lit (.bool false)], args := [d1, d2, d3] }
  | _ => none }
def ViewOfWrongFalsely : Prop := viewOfRow.holds Try.pinned (OpenSpec.ofChange viewOfWrong)

/-- 'baizelaw25.ViewHidden': WHATEVER THE INPUT: true; the input reads as it did. -/
def viewHiddenSpec : ChangeSpec := { name := "viewHidden", fn := fun _ => fun
  | [d1, d2, d3] => { results := [.lit (.bool true)], args := [d1, d2, d3] }
  | _ => none }
def viewHiddenRow : OpenClaim := { program := "ytiglljegpdlnmaa", sum := "1867180440ac64a494832a820e61bcf9395174c38929b14690c4884937ee9563", func := "baize/baizelaw25.ViewHidden", spec := "viewHidden", recurses := true, apart := false }
def ViewHiddenSaid : Prop := viewHiddenRow.holds Try.pinned (OpenSpec.ofChange viewHiddenSpec)

/-- ITS FALSE NEIGHBOUR: 'it returns false'. Refute it at one input. -/
def viewHiddenWrong : ChangeSpec := { name := "viewHidden", fn := fun _ => fun
  | [d1, d2, d3] => { results := [.lit (.bool false)], args := [d1, d2, d3] }
  | _ => none }
def ViewHiddenWrongFalsely : Prop := viewHiddenRow.holds Try.pinned (OpenSpec.ofChange viewHiddenWrong)

/-- 'baizelaw25.ViewLess': WHATEVER THE INPUT: true; the input reads as it did. -/
def viewLessSpec : ChangeSpec := { name := "viewLess", fn := fun _ => fun
  | [d1, d2] => { results := [.lit (.bool true)], args := [d1, d2] }
  | _ => none }
def viewLessRow : OpenClaim := { program := "ytiglljegpdlnmaa", sum := "1867180440ac64a494832a820e61bcf9395174c38929b14690c4884937ee9563", func := "baize/baizelaw25.ViewLess", spec := "viewLess", recurses := true, apart := false }
def ViewLessSaid : Prop := viewLessRow.holds Try.pinned (OpenSpec.ofChange viewLessSpec)

/-- ITS FALSE NEIGHBOUR: 'it returns false'. Refute it at one input. -/
def viewLessWrong : ChangeSpec := { name := "viewLess", fn := fun _ => fun
  | [d1, d2] => { results := [.lit (.bool false)], args := [d1, d2] }
  | _ => none }
def ViewLessWrongFalsely : Prop := viewLessRow.holds Try.pinned (OpenSpec.ofChange viewLessWrong)

/- THE SECOND FORM. 'bulk': how many values and letters a reading holds, each counted each time it is reached (what is shared counts as often as it is met; a slice's spare places count too). A statement '..UptoSaid' is the law's where the arguments, and the package variables that the reading takes, are together of bulk at most 1048576: NARROWER than '..Said'. Prove '..Said' where nothing that the law and all that it calls make is longer than what came in: it says more and counts as full. Else prove '..UptoSaid'. A law counts once. -/
mutual
def uptoBulk {H : Type} : DataW H → Nat
  | .lit (.string bytes) => bytes.length + 1
  | .lit _ => 1
  | .nil => 1
  | .ptr d => uptoBulk d + 1
  | .slice elems spare => uptoBulkAll elems + uptoBulkAll spare + 1
  | .agg parts => uptoBulkAll parts + 1
  | .iface _ d => uptoBulk d + 1
  | .map entries => uptoBulkEntries entries + 1
  | .held _ => 1
def uptoBulkAll {H : Type} : List (DataW H) → Nat
  | [] => 0
  | d :: r => uptoBulk d + uptoBulkAll r
def uptoBulkEntries {H : Type} : List (Lit × DataW H) → Nat
  | [] => 0
  | x :: r => uptoBulkEntry x + uptoBulkEntries r
def uptoBulkEntry {H : Type} : Lit × DataW H → Nat
  | (.string bytes, d) => bytes.length + uptoBulk d + 1
  | (_, d) => uptoBulk d + 1
 end
def uptoSmall : (H : Type) → List (DataW H) → Bool := fun _ ds => decide (uptoBulkAll ds ≤ 1048576)
def OpenSpec.upto (s : _root_.Go.ChangeSpec) : _root_.Go.OpenSpec := { _root_.Go.OpenSpec.ofChange s with cond := some uptoSmall }

/-- 'baizelaw25.ViewEvents', WHERE WHAT IT READS IS OF BULK AT MOST 1048576: true; the input reads as it did. -/
def viewEventsUptoRow : OpenClaim := { program := "ytiglljegpdlnmaa", sum := "1867180440ac64a494832a820e61bcf9395174c38929b14690c4884937ee9563", func := "baize/baizelaw25.ViewEvents", spec := "viewEvents", apart := false, narrowed := true }
def ViewEventsUptoSaid : Prop := viewEventsUptoRow.holds Try.pinned (OpenSpec.upto viewEventsSpec)

/-- 'baizelaw25.ViewBytes', WHERE WHAT IT READS IS OF BULK AT MOST 1048576: true; the input reads as it did. -/
def viewBytesUptoRow : OpenClaim := { program := "ytiglljegpdlnmaa", sum := "1867180440ac64a494832a820e61bcf9395174c38929b14690c4884937ee9563", func := "baize/baizelaw25.ViewBytes", spec := "viewBytes", recurses := true, apart := false, narrowed := true }
def ViewBytesUptoSaid : Prop := viewBytesUptoRow.holds Try.pinned (OpenSpec.upto viewBytesSpec)

/-- 'baizelaw25.ViewOf', WHERE WHAT IT READS IS OF BULK AT MOST 1048576: true; the input reads as it did. -/
def viewOfUptoRow : OpenClaim := { program := "ytiglljegpdlnmaa", sum := "1867180440ac64a494832a820e61bcf9395174c38929b14690c4884937ee9563", func := "baize/baizelaw25.ViewOf", spec := "viewOf", recurses := true, apart := false, narrowed := true }
def ViewOfUptoSaid : Prop := viewOfUptoRow.holds Try.pinned (OpenSpec.upto viewOfSpec)

/-- 'baizelaw25.ViewHidden', WHERE WHAT IT READS IS OF BULK AT MOST 1048576: true; the input reads as it did. -/
def viewHiddenUptoRow : OpenClaim := { program := "ytiglljegpdlnmaa", sum := "1867180440ac64a494832a820e61bcf9395174c38929b14690c4884937ee9563", func := "baize/baizelaw25.ViewHidden", spec := "viewHidden", recurses := true, apart := false, narrowed := true }
def ViewHiddenUptoSaid : Prop := viewHiddenUptoRow.holds Try.pinned (OpenSpec.upto viewHiddenSpec)

/-- 'baizelaw25.ViewLess', WHERE WHAT IT READS IS OF BULK AT MOST 1048576: true; the input reads as it did. -/
def viewLessUptoRow : OpenClaim := { program := "ytiglljegpdlnmaa", sum := "1867180440ac64a494832a820e61bcf9395174c38929b14690c4884937ee9563", func := "baize/baizelaw25.ViewLess", spec := "viewLess", recurses := true, apart := false, narrowed := true }
def ViewLessUptoSaid : Prop := viewLessUptoRow.holds Try.pinned (OpenSpec.upto viewLessSpec)

end Rows
end Go.Proofs.Ytiglljegpdlnmaa
