/-
  No cell of these rows narrows 'for every input' (looked for: loops, veiled, ifaces, maps, wideKeys, modest, calm, conditions, laid).
  DERIVED. THE GIVEN ROWS OF THIS SEAT. 3 by the template 'for every input the law returns true; each argument reads behind the call as it read before'; 0 by the template 'total and deterministic' (their statements: YtelhpnpngoaelaaTotals.lean).
  GIVEN WITH THE SEED: the statements are not yours to turn. If you find one false, say at which input.
  Laid BY PROGRAM, IN A SANDBOX (cutbox-rows.mjs): the forced cells as the released guide's own fill.sh prints them over the translation f4f9eccae704e152… (all of the seat's roots in one cut). By AI agents, Wed Nov 11 2026. No macro, syntax, notation, axiom, sorry.
-/
import Derived.Test.YtelhpnpngoaelaaChecked
import GoSem.Claim
import GoSem.ClaimJoined
import GoSem.ClaimMapViews
import Derived.JoinedTies
import Derived.KernelRfl
namespace Go.Proofs.Ytelhpnpngoaelaa
/- THE CELL 'sum', in the pinned program and in every row, IS THE sha256 OF THE DUMP (.gsa) THAT YtelhpnpngoaelaaProg.lean LOADS. Nothing in Lean hashes anything: it is a label: what it is worth is what the hold of that sum in a sandbox is worth. -/
noncomputable def Try.pinned : Pinned := { name := "ytelhpnpngoaelaa", sum := "f4f9eccae704e1524f28e85e9c55838a51b1589d3019db0be745b5d16311a2e2", checked := Try.checked }
namespace Rows
def none {H : Type} : Left H := { results := [], args := [] }

/-- 'baizelaw02.SumsPut': WHATEVER THE INPUT: true; the input reads as it did. -/
def sumsPutSpec : ChangeSpec := { name := "sumsPut", fn := fun _ => fun
  | [d] => { results := [.lit (.bool true)], args := [d] }
  | _ => none }
def sumsPutRow : OpenClaim := { program := "ytelhpnpngoaelaa", sum := "f4f9eccae704e1524f28e85e9c55838a51b1589d3019db0be745b5d16311a2e2", func := "baize/baizelaw02.SumsPut", spec := "sumsPut", unfollowed := true, recurses := true, apart := false }
def SumsPutSaid : Prop := sumsPutRow.holds Try.pinned (OpenSpec.ofChange sumsPutSpec)

/-- ITS FALSE NEIGHBOUR: 'it returns false'. Refute it at one input. -/
def sumsPutWrong : ChangeSpec := { name := "sumsPut", fn := fun _ => fun
  | [d] => { results := [.lit (.bool false)], args := [d] }
  | _ => none }
def SumsPutWrongFalsely : Prop := sumsPutRow.holds Try.pinned (OpenSpec.ofChange sumsPutWrong)

/-- 'baizelaw02.SumsPieces': WHATEVER THE INPUT: true; the input reads as it did. -/
def sumsPiecesSpec : ChangeSpec := { name := "sumsPieces", fn := fun _ => fun
  | [d] => { results := [.lit (.bool true)], args := [d] }
  | _ => none }
def sumsPiecesRow : OpenClaim := { program := "ytelhpnpngoaelaa", sum := "f4f9eccae704e1524f28e85e9c55838a51b1589d3019db0be745b5d16311a2e2", func := "baize/baizelaw02.SumsPieces", spec := "sumsPieces", unfollowed := true, recurses := true, apart := false }
def SumsPiecesSaid : Prop := sumsPiecesRow.holds Try.pinned (OpenSpec.ofChange sumsPiecesSpec)

/-- ITS FALSE NEIGHBOUR: 'it returns false'. Refute it at one input. -/
def sumsPiecesWrong : ChangeSpec := { name := "sumsPieces", fn := fun _ => fun
  | [d] => { results := [.lit (.bool false)], args := [d] }
  | _ => none }
def SumsPiecesWrongFalsely : Prop := sumsPiecesRow.holds Try.pinned (OpenSpec.ofChange sumsPiecesWrong)

/-- 'baizelaw02.SumsBurst': WHATEVER THE INPUT: true; the input reads as it did. -/
def sumsBurstSpec : ChangeSpec := { name := "sumsBurst", fn := fun _ => fun
  | [d1, d2, d3] => { results := [.lit (.bool true)], args := [d1, d2, d3] }
  | _ => none }
def sumsBurstRow : OpenClaim := { program := "ytelhpnpngoaelaa", sum := "f4f9eccae704e1524f28e85e9c55838a51b1589d3019db0be745b5d16311a2e2", func := "baize/baizelaw02.SumsBurst", spec := "sumsBurst", unfollowed := true, recurses := true, apart := false }
def SumsBurstSaid : Prop := sumsBurstRow.holds Try.pinned (OpenSpec.ofChange sumsBurstSpec)

/-- ITS FALSE NEIGHBOUR: 'it returns false'. Refute it at one input. -/
def sumsBurstWrong : ChangeSpec := { name := "sumsBurst", fn := fun _ => fun
  | [d1, d2, d3] => { results := [.lit (.bool false)], args := [d1, d2, d3] }
  | _ => none }
def SumsBurstWrongFalsely : Prop := sumsBurstRow.holds Try.pinned (OpenSpec.ofChange sumsBurstWrong)

/- THE SECOND FORM. 'bulk': how many values and letters a reading holds, each counted each time it is reached (what is shared counts as often as it is met; a slice's spare places count too). A statement '..UptoSaid' is the law's where the arguments, and the package variables that the reading takes, are together of bulk at most 1048576: NARROWER than '..Said'. Prove '..Said' where nothing that the law and all that it calls make is longer than what came in: it says more and counts as full. Else prove '..UptoSaid'. A law counts once. -/
mutual
def uptoBulk {H : Type} : DataW H → Nat
  | .lit (.string bytes) => bytes.length + 1
  | .lit _ => 1
  | .nil => 1
  | .ptr d => uptoBulk d + 1
  | .slice elems spare => uptoBulkAll elems + uptoBulkAll spare + 1
  | .agg parts => uptoBulkAll parts + 1
  | .iface _ d => uptoBulk d + 1
  | .map entries => uptoBulkEntries entries + 1
  | .held _ => 1
def uptoBulkAll {H : Type} : List (DataW H) → Nat
  | [] => 0
  | d :: r => uptoBulk d + uptoBulkAll r
def uptoBulkEntries {H : Type} : List (Lit × DataW H) → Nat
  | [] => 0
  | x :: r => uptoBulkEntry x + uptoBulkEntries r
def uptoBulkEntry {H : Type} : Lit × DataW H → Nat
  | (.string bytes, d) => bytes.length + uptoBulk d + 1
  | (_, d) => uptoBulk d + 1
 end
def uptoSmall : (H : Type) → List (DataW H) → Bool := fun _ ds => decide (uptoBulkAll ds ≤ 1048576)
def OpenSpec.upto (s : _root_.Go.ChangeSpec) : _root_.Go.OpenSpec := { _root_.Go.OpenSpec.ofChange s with cond := some uptoSmall }

/-- 'baizelaw02.SumsPut', WHERE WHAT IT READS IS OF BULK AT MOST 1048576: true; the input reads as it did. -/
def sumsPutUptoRow : OpenClaim := { program := "ytelhpnpngoaelaa", sum := "f4f9eccae704e1524f28e85e9c55838a51b1589d3019db0be745b5d16311a2e2", func := "baize/baizelaw02.SumsPut", spec := "sumsPut", unfollowed := true, recurses := true, apart := false, narrowed := true }
def SumsPutUptoSaid : Prop := sumsPutUptoRow.holds Try.pinned (OpenSpec.upto sumsPutSpec)

/-- 'baizelaw02.SumsPieces', WHERE WHAT IT READS IS OF BULK AT MOST 1048576: true; the input reads as it did. -/
def sumsPiecesUptoRow : OpenClaim := { program := "ytelhpnpngoaelaa", sum := "f4f9eccae704e1524f28e85e9c55838a51b1589d3019db0be745b5d16311a2e2", func := "baize/baizelaw02.SumsPieces", spec := "sumsPieces", unfollowed := true, recurses := true, apart := false, narrowed := true }
def SumsPiecesUptoSaid : Prop := sumsPiecesUptoRow.holds Try.pinned (OpenSpec.upto sumsPiecesSpec)

/-- 'baizelaw02.SumsBurst', WHERE WHAT IT READS IS OF BULK AT MOST 1048576: true; the input reads as it did. -/
def sumsBurstUptoRow : OpenClaim := { program := "ytelhpnpngoaelaa", sum := "f4f9eccae704e1524f28e85e9c55838a51b1589d3019db0be745b5d16311a2e2", func := "baize/baizelaw02.SumsBurst", spec := "sumsBurst", unfollowed := true, recurses := true, apart := false, narrowed := true }
def SumsBurstUptoSaid : Prop := sumsBurstUptoRow.holds Try.pinned (OpenSpec.upto sumsBurstSpec)

end Rows
end Go.Proofs.Ytelhpnpngoaelaa
