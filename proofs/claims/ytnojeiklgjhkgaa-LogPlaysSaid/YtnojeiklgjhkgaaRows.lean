/-
  No cell of these rows narrows 'for every input' (looked for: loops, veiled, ifaces, maps, wideKeys, modest, calm, conditions, laid).
  DERIVED. THE GIVEN ROWS OF THIS SEAT. 5 by the template 'for every input the law returns true; each argument reads behind the call as it read before'; 0 by the template 'total and deterministic' (their statements: YtnojeiklgjhkgaaTotals.lean).
  GIVEN WITH THE SEED: the statements are not yours to turn. If you find one false, say at which input.
  Laid BY PROGRAM, IN A SANDBOX (cutbox-rows.mjs): the forced cells as the released guide's own fill.sh prints them over the translation c4b4951d30f0a2f9… (all of the seat's roots in one cut). By AI agents, Wed Nov 11 2026. No macro, syntax, notation, axiom, sorry.
-/
import Derived.Test.YtnojeiklgjhkgaaChecked
import GoSem.Claim
import GoSem.ClaimJoined
import GoSem.ClaimMapViews
import Derived.JoinedTies
import Derived.KernelRfl
namespace Go.Proofs.Ytnojeiklgjhkgaa
/- THE CELL 'sum', in the pinned program and in every row, IS THE sha256 OF THE DUMP (.gsa) THAT YtnojeiklgjhkgaaProg.lean LOADS. Nothing in Lean hashes anything: it is a label: what it is worth is what the hold of that sum in a sandbox is worth. -/
noncomputable def Try.pinned : Pinned := { name := "ytnojeiklgjhkgaa", sum := "c4b4951d30f0a2f9e8db4aca3d72fa54085995d6a9e95415d88bb70fd4731f50", checked := Try.checked }
namespace Rows
def none {H : Type} : Left H := { results := [], args := [] }

/-- 'baizelaw26.LogScans': WHATEVER THE INPUT: true; the input reads as it did. -/
def logScansSpec : ChangeSpec := { name := "logScans", fn := fun _ => fun
  | [d1, d2] => { results := [.lit (.bool true)], args := [d1, d2] }
  | _ => none }
def logScansRow : OpenClaim := { program := "ytnojeiklgjhkgaa", sum := "c4b4951d30f0a2f9e8db4aca3d72fa54085995d6a9e95415d88bb70fd4731f50", func := "baize/baizelaw26.LogScans", spec := "logScans", unfollowed := true, recurses := true, apart := false }
def LogScansSaid : Prop := logScansRow.holds Try.pinned (OpenSpec.ofChange logScansSpec)

/-- ITS FALSE NEIGHBOUR: 'it returns false'. Refute it at one input. -/
def logScansWrong : ChangeSpec := { name := "logScans", fn := fun _ => fun
  | [d1, d2] => { results := [.lit (.bool false)], args := [d1, d2] }
  | _ => none }
def LogScansWrongFalsely : Prop := logScansRow.holds Try.pinned (OpenSpec.ofChange logScansWrong)

/-- 'baizelaw26.LogPieces': WHATEVER THE INPUT: true; the input reads as it did. -/
def logPiecesSpec : ChangeSpec := { name := "logPieces", fn := fun _ => fun
  | [d1, d2] => { results := [.lit (.bool true)], args := [d1, d2] }
  | _ => none }
def logPiecesRow : OpenClaim := { program := "ytnojeiklgjhkgaa", sum := "c4b4951d30f0a2f9e8db4aca3d72fa54085995d6a9e95415d88bb70fd4731f50", func := "baize/baizelaw26.LogPieces", spec := "logPieces", unfollowed := true, recurses := true, apart := false }
def LogPiecesSaid : Prop := logPiecesRow.holds Try.pinned (OpenSpec.ofChange logPiecesSpec)

/-- ITS FALSE NEIGHBOUR: 'it returns false'. Refute it at one input. -/
def logPiecesWrong : ChangeSpec := { name := "logPieces", fn := fun _ => fun
  | [d1, d2] => { results := [.lit (.bool false)], args := [d1, d2] }
  | _ => none }
def LogPiecesWrongFalsely : Prop := logPiecesRow.holds Try.pinned (OpenSpec.ofChange logPiecesWrong)

/-- 'baizelaw26.LogNil': WHATEVER THE INPUT: true; the input reads as it did. -/
def logNilSpec : ChangeSpec := { name := "logNil", fn := fun _ => fun
  | [d1, d2] => { results := [.lit (.bool true)], args := [d1, d2] }
  | _ => none }
def logNilRow : OpenClaim := { program := "ytnojeiklgjhkgaa", sum := "c4b4951d30f0a2f9e8db4aca3d72fa54085995d6a9e95415d88bb70fd4731f50", func := "baize/baizelaw26.LogNil", spec := "logNil", unfollowed := true, recurses := true, apart := false }
def LogNilSaid : Prop := logNilRow.holds Try.pinned (OpenSpec.ofChange logNilSpec)

/-- ITS FALSE NEIGHBOUR: 'it returns false'. Refute it at one input. -/
def logNilWrong : ChangeSpec := { name := "logNil", fn := fun _ => fun
  | [d1, d2] => { results := [.lit (.bool false)], args := [d1, d2] }
  | _ => none }
def LogNilWrongFalsely : Prop := logNilRow.holds Try.pinned (OpenSpec.ofChange logNilWrong)

/-- 'baizelaw26.LogBeginning': WHATEVER THE INPUT: true; the input reads as it did. -/
def logBeginningSpec : ChangeSpec := { name := "logBeginning", fn := fun _ => fun
  | [d1, d2, d3] => { results := [.lit (.bool true)], args := [d1, d2, d3] }
  | _ => none }
def logBeginningRow : OpenClaim := { program := "ytnojeiklgjhkgaa", sum := "c4b4951d30f0a2f9e8db4aca3d72fa54085995d6a9e95415d88bb70fd4731f50", func := "baize/baizelaw26.LogBeginning", spec := "logBeginning", unfollowed := true, recurses := true, apart := false }
def LogBeginningSaid : Prop := logBeginningRow.holds Try.pinned (OpenSpec.ofChange logBeginningSpec)

/-- ITS FALSE NEIGHBOUR: 'it returns false'. Refute it at one input. -/
def logBeginningWrong : ChangeSpec := { name := "logBeginning", fn := fun _ => fun
  | [d1, d2, d3] => { results := [.lit (.bool false)], args := [d1, d2, d3] }
  | _ => none }
def LogBeginningWrongFalsely : Prop := logBeginningRow.holds Try.pinned (OpenSpec.ofChange logBeginningWrong)

/-- 'baizelaw26.LogPlays': WHATEVER THE INPUT: true; the input reads as it did. -/
def logPlaysSpec : ChangeSpec := { name := "logPlays", fn := fun _ => fun
  | [d] => { results := [.lit (.bool true)], args := [d] }
  | _ => none }
def logPlaysRow : OpenClaim := { program := "ytnojeiklgjhkgaa", sum := "c4b4951d30f0a2f9e8db4aca3d72fa54085995d6a9e95415d88bb70fd4731f50", func := "baize/baizelaw26.LogPlays", spec := "logPlays", unfollowed := true, recurses := true, apart := false }
def LogPlaysSaid : Prop := logPlaysRow.holds Try.pinned (OpenSpec.ofChange logPlaysSpec)

/-- ITS FALSE NEIGHBOUR: 'it returns false'. Refute it at one input. -/
def logPlaysWrong : ChangeSpec := { name := "logPlays", fn := fun _ => fun
  | [d] => { results := [.lit (.bool false)], args := [d] }
  | _ => none }
def LogPlaysWrongFalsely : Prop := logPlaysRow.holds Try.pinned (OpenSpec.ofChange logPlaysWrong)

/- THE SECOND FORM. 'bulk': how many values and letters a reading holds, each counted each time it is reached (what is shared counts as often as it is met; a slice's spare places count too). A statement '..UptoSaid' is the law's where the arguments, and the package variables that the reading takes, are together of bulk at most 1048576: NARROWER than '..Said'. Prove '..Said' where nothing that the law and all that it calls make is longer than what came in: it says more and counts as full. Else prove '..UptoSaid'. A law counts once. -/
mutual
def uptoBulk {H : Type} : DataW H → Nat
  | .lit (.string bytes) => bytes.length + 1
  | .lit _ => 1
  | .nil => 1
  | .ptr d => uptoBulk d + 1
  | .slice elems spare => uptoBulkAll elems + uptoBulkAll spare + 1
  | .agg parts => uptoBulkAll parts + 1
  | .iface _ d => uptoBulk d + 1
  | .map entries => uptoBulkEntries entries + 1
  | .held _ => 1
def uptoBulkAll {H : Type} : List (DataW H) → Nat
  | [] => 0
  | d :: r => uptoBulk d + uptoBulkAll r
def uptoBulkEntries {H : Type} : List (Lit × DataW H) → Nat
  | [] => 0
  | x :: r => uptoBulkEntry x + uptoBulkEntries r
def uptoBulkEntry {H : Type} : Lit × DataW H → Nat
  | (.string bytes, d) => bytes.length + uptoBulk d + 1
  | (_, d) => uptoBulk d + 1
 end
def uptoSmall : (H : Type) → List (DataW H) → Bool := fun _ ds => decide (uptoBulkAll ds ≤ 1048576)
def OpenSpec.upto (s : _root_.Go.ChangeSpec) : _root_.Go.OpenSpec := { _root_.Go.OpenSpec.ofChange s with cond := some uptoSmall }

/-- 'baizelaw26.LogScans', WHERE WHAT IT READS IS OF BULK AT MOST 1048576: true; the input reads as it did. -/
def logScansUptoRow : OpenClaim := { program := "ytnojeiklgjhkgaa", sum := "c4b4951d30f0a2f9e8db4aca3d72fa54085995d6a9e95415d88bb70fd4731f50", func := "baize/baizelaw26.LogScans", spec := "logScans", unfollowed := true, recurses := true, apart := false, narrowed := true }
def LogScansUptoSaid : Prop := logScansUptoRow.holds Try.pinned (OpenSpec.upto logScansSpec)

/-- 'baizelaw26.LogPieces', WHERE WHAT IT READS IS OF BULK AT MOST 1048576: true; the input reads as it did. -/
def logPiecesUptoRow : OpenClaim := { program := "ytnojeiklgjhkgaa", sum := "c4b4951d30f0a2f9e8db4aca3d72fa54085995d6a9e95415d88bb70fd4731f50", func := "baize/baizelaw26.LogPieces", spec := "logPieces", unfollowed := true, recurses := true, apart := false, narrowed := true }
def LogPiecesUptoSaid : Prop := logPiecesUptoRow.holds Try.pinned (OpenSpec.upto logPiecesSpec)

/-- 'baizelaw26.LogNil', WHERE WHAT IT READS IS OF BULK AT MOST 1048576: true; the input reads as it did. -/
def logNilUptoRow : OpenClaim := { program := "ytnojeiklgjhkgaa", sum := "c4b4951d30f0a2f9e8db4aca3d72fa54085995d6a9e95415d88bb70fd4731f50", func := "baize/baizelaw26.LogNil", spec := "logNil", unfollowed := true, recurses := true, apart := false, narrowed := true }
def LogNilUptoSaid : Prop := logNilUptoRow.holds Try.pinned (OpenSpec.upto logNilSpec)

/-- 'baizelaw26.LogBeginning', WHERE WHAT IT READS IS OF BULK AT MOST 1048576: true; the input reads as it did. -/
def logBeginningUptoRow : OpenClaim := { program := "ytnojeiklgjhkgaa", sum := "c4b4951d30f0a2f9e8db4aca3d72fa54085995d6a9e95415d88bb70fd4731f50", func := "baize/baizelaw26.LogBeginning", spec := "logBeginning", unfollowed := true, recurses := true, apart := false, narrowed := true }
def LogBeginningUptoSaid : Prop := logBeginningUptoRow.holds Try.pinned (OpenSpec.upto logBeginningSpec)

/-- 'baizelaw26.LogPlays', WHERE WHAT IT READS IS OF BULK AT MOST 1048576: true; the input reads as it did. -/
def logPlaysUptoRow : OpenClaim := { program := "ytnojeiklgjhkgaa", sum := "c4b4951d30f0a2f9e8db4aca3d72fa54085995d6a9e95415d88bb70fd4731f50", func := "baize/baizelaw26.LogPlays", spec := "logPlays", unfollowed := true, recurses := true, apart := false, narrowed := true }
def LogPlaysUptoSaid : Prop := logPlaysUptoRow.holds Try.pinned (OpenSpec.upto logPlaysSpec)

end Rows
end Go.Proofs.Ytnojeiklgjhkgaa
