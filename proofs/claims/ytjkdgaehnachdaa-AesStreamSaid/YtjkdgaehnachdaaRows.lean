/-
  No cell of these rows narrows 'for every input' (looked for: loops, veiled, ifaces, maps, wideKeys, modest, calm, conditions, laid).
  DERIVED. THE GIVEN ROWS OF THIS SEAT. 5 by the template 'for every input the law returns true; each argument reads behind the call as it read before'; 0 by the template 'total and deterministic' (their statements: YtjkdgaehnachdaaTotals.lean).
  GIVEN WITH THE SEED: the statements are not yours to turn. If you find one false, say at which input.
  Laid BY PROGRAM, IN A SANDBOX (cutbox-rows.mjs): the forced cells as the released guide's own fill.sh prints them over the translation 637719f36fe02b9d… (all of the seat's roots in one cut). By AI agents, Wed Nov 11 2026. No macro, syntax, notation, axiom, sorry.
-/
import Derived.Test.YtjkdgaehnachdaaChecked
import GoSem.Claim
import GoSem.ClaimJoined
import GoSem.ClaimMapViews
import Derived.JoinedTies
import Derived.KernelRfl
namespace Go.Proofs.Ytjkdgaehnachdaa
/- THE CELL 'sum', in the pinned program and in every row, IS THE sha256 OF THE DUMP (.gsa) THAT YtjkdgaehnachdaaProg.lean LOADS. Nothing in Lean hashes anything: it is a label: what it is worth is what the hold of that sum in a sandbox is worth. -/
noncomputable def Try.pinned : Pinned := { name := "ytjkdgaehnachdaa", sum := "637719f36fe02b9dfaf58898022605e2c5e62fa8f37d27aa038e8201dbbac203", checked := Try.checked }
namespace Rows
def none {H : Type} : Left H := { results := [], args := [] }

/-- 'baizelaw05.AesBox': WHATEVER THE INPUT: true; the input reads as it did. -/
def aesBoxSpec : ChangeSpec := { name := "aesBox", fn := fun _ => fun
  | [d1, d2] => { results := [.lit (.bool true)], args := [d1, d2] }
  | _ => none }
def aesBoxRow : OpenClaim := { program := "ytjkdgaehnachdaa", sum := "637719f36fe02b9dfaf58898022605e2c5e62fa8f37d27aa038e8201dbbac203", func := "baize/baizelaw05.AesBox", spec := "aesBox", unfollowed := true, recurses := true, apart := false }
def AesBoxSaid : Prop := aesBoxRow.holds Try.pinned (OpenSpec.ofChange aesBoxSpec)

/-- ITS FALSE NEIGHBOUR: 'it returns false'. Refute it at one input. -/
def aesBoxWrong : ChangeSpec := { name := "aesBox", fn := fun _ => fun
  | [d1, d2] => { results := [.lit (.bool false)], args := [d1, d2] }
  | _ => none }
def AesBoxWrongFalsely : Prop := aesBoxRow.holds Try.pinned (OpenSpec.ofChange aesBoxWrong)

/-- 'baizelaw05.AesField': WHATEVER THE INPUT: true; the input reads as it did. -/
def aesFieldSpec : ChangeSpec := { name := "aesField", fn := fun _ => fun
  | [d1, d2, d3] => { results := [.lit (.bool true)], args := [d1, d2, d3] }
  | _ => none }
def aesFieldRow : OpenClaim := { program := "ytjkdgaehnachdaa", sum := "637719f36fe02b9dfaf58898022605e2c5e62fa8f37d27aa038e8201dbbac203", func := "baize/baizelaw05.AesField", spec := "aesField", unfollowed := true, recurses := true, apart := false }
def AesFieldSaid : Prop := aesFieldRow.holds Try.pinned (OpenSpec.ofChange aesFieldSpec)

/-- ITS FALSE NEIGHBOUR: 'it returns false'. Refute it at one input. -/
def aesFieldWrong : ChangeSpec := { name := "aesField", fn := fun _ => fun
  | [d1, d2, d3] => { results := [.lit (.bool false)], args := [d1, d2, d3] }
  | _ => none }
def AesFieldWrongFalsely : Prop := aesFieldRow.holds Try.pinned (OpenSpec.ofChange aesFieldWrong)

/-- 'baizelaw05.AesBlock': WHATEVER THE INPUT: true; the input reads as it did. -/
def aesBlockSpec : ChangeSpec := { name := "aesBlock", fn := fun _ => fun
  | [d1, d2] => { results := [.lit (.bool true)], args := [d1, d2] }
  | _ => none }
def aesBlockRow : OpenClaim := { program := "ytjkdgaehnachdaa", sum := "637719f36fe02b9dfaf58898022605e2c5e62fa8f37d27aa038e8201dbbac203", func := "baize/baizelaw05.AesBlock", spec := "aesBlock", unfollowed := true, recurses := true, apart := false }
def AesBlockSaid : Prop := aesBlockRow.holds Try.pinned (OpenSpec.ofChange aesBlockSpec)

/-- ITS FALSE NEIGHBOUR: 'it returns false'. Refute it at one input. -/
def aesBlockWrong : ChangeSpec := { name := "aesBlock", fn := fun _ => fun
  | [d1, d2] => { results := [.lit (.bool false)], args := [d1, d2] }
  | _ => none }
def AesBlockWrongFalsely : Prop := aesBlockRow.holds Try.pinned (OpenSpec.ofChange aesBlockWrong)

/-- 'baizelaw05.AesStream': WHATEVER THE INPUT: true; the input reads as it did. -/
def aesStreamSpec : ChangeSpec := { name := "aesStream", fn := fun _ => fun
  | [d1, d2, d3] => { results := [.lit (.bool true)], args := [d1, d2, d3] }
  | _ => none }
def aesStreamRow : OpenClaim := { program := "ytjkdgaehnachdaa", sum := "637719f36fe02b9dfaf58898022605e2c5e62fa8f37d27aa038e8201dbbac203", func := "baize/baizelaw05.AesStream", spec := "aesStream", unfollowed := true, recurses := true, apart := false }
def AesStreamSaid : Prop := aesStreamRow.holds Try.pinned (OpenSpec.ofChange aesStreamSpec)

/-- ITS FALSE NEIGHBOUR: 'it returns false'. Refute it at one input. -/
def aesStreamWrong : ChangeSpec := { name := "aesStream", fn := fun _ => fun
  | [d1, d2, d3] => { results := [.lit (.bool false)], args := [d1, d2, d3] }
  | _ => none }
def AesStreamWrongFalsely : Prop := aesStreamRow.holds Try.pinned (OpenSpec.ofChange aesStreamWrong)

/-- 'baizelaw05.AesBack': WHATEVER THE INPUT: true; the input reads as it did. -/
def aesBackSpec : ChangeSpec := { name := "aesBack", fn := fun _ => fun
  | [d1, d2, d3, d4] => { results := [.lit (.bool true)], args := [d1, d2, d3, d4] }
  | _ => none }
def aesBackRow : OpenClaim := { program := "ytjkdgaehnachdaa", sum := "637719f36fe02b9dfaf58898022605e2c5e62fa8f37d27aa038e8201dbbac203", func := "baize/baizelaw05.AesBack", spec := "aesBack", unfollowed := true, recurses := true, apart := false }
def AesBackSaid : Prop := aesBackRow.holds Try.pinned (OpenSpec.ofChange aesBackSpec)

/-- ITS FALSE NEIGHBOUR: 'it returns false'. Refute it at one input. -/
def aesBackWrong : ChangeSpec := { name := "aesBack", fn := fun _ => fun
  | [d1, d2, d3, d4] => { results := [.lit (.bool false)], args := [d1, d2, d3, d4] }
  | _ => none }
def AesBackWrongFalsely : Prop := aesBackRow.holds Try.pinned (OpenSpec.ofChange aesBackWrong)

/- THE SECOND FORM. 'bulk': how many values and letters a reading holds, each counted each time it is reached (what is shared counts as often as it is met; a slice's spare places count too). A statement '..UptoSaid' is the law's where the arguments, and the package variables that the reading takes, are together of bulk at most 1048576: NARROWER than '..Said'. Prove '..Said' where nothing that the law and all that it calls make is longer than what came in: it says more and counts as full. Else prove '..UptoSaid'. A law counts once. -/
mutual
def uptoBulk {H : Type} : DataW H → Nat
  | .lit (.string bytes) => bytes.length + 1
  | .lit _ => 1
  | .nil => 1
  | .ptr d => uptoBulk d + 1
  | .slice elems spare => uptoBulkAll elems + uptoBulkAll spare + 1
  | .agg parts => uptoBulkAll parts + 1
  | .iface _ d => uptoBulk d + 1
  | .map entries => uptoBulkEntries entries + 1
  | .held _ => 1
def uptoBulkAll {H : Type} : List (DataW H) → Nat
  | [] => 0
  | d :: r => uptoBulk d + uptoBulkAll r
def uptoBulkEntries {H : Type} : List (Lit × DataW H) → Nat
  | [] => 0
  | x :: r => uptoBulkEntry x + uptoBulkEntries r
def uptoBulkEntry {H : Type} : Lit × DataW H → Nat
  | (.string bytes, d) => bytes.length + uptoBulk d + 1
  | (_, d) => uptoBulk d + 1
 end
def uptoSmall : (H : Type) → List (DataW H) → Bool := fun _ ds => decide (uptoBulkAll ds ≤ 1048576)
def OpenSpec.upto (s : _root_.Go.ChangeSpec) : _root_.Go.OpenSpec := { _root_.Go.OpenSpec.ofChange s with cond := some uptoSmall }

/-- 'baizelaw05.AesBox', WHERE WHAT IT READS IS OF BULK AT MOST 1048576: true; the input reads as it did. -/
def aesBoxUptoRow : OpenClaim := { program := "ytjkdgaehnachdaa", sum := "637719f36fe02b9dfaf58898022605e2c5e62fa8f37d27aa038e8201dbbac203", func := "baize/baizelaw05.AesBox", spec := "aesBox", unfollowed := true, recurses := true, apart := false, narrowed := true }
def AesBoxUptoSaid : Prop := aesBoxUptoRow.holds Try.pinned (OpenSpec.upto aesBoxSpec)

/-- 'baizelaw05.AesField', WHERE WHAT IT READS IS OF BULK AT MOST 1048576: true; the input reads as it did. -/
def aesFieldUptoRow : OpenClaim := { program := "ytjkdgaehnachdaa", sum := "637719f36fe02b9dfaf58898022605e2c5e62fa8f37d27aa038e8201dbbac203", func := "baize/baizelaw05.AesField", spec := "aesField", unfollowed := true, recurses := true, apart := false, narrowed := true }
def AesFieldUptoSaid : Prop := aesFieldUptoRow.holds Try.pinned (OpenSpec.upto aesFieldSpec)

/-- 'baizelaw05.AesBlock', WHERE WHAT IT READS IS OF BULK AT MOST 1048576: true; the input reads as it did. -/
def aesBlockUptoRow : OpenClaim := { program := "ytjkdgaehnachdaa", sum := "637719f36fe02b9dfaf58898022605e2c5e62fa8f37d27aa038e8201dbbac203", func := "baize/baizelaw05.AesBlock", spec := "aesBlock", unfollowed := true, recurses := true, apart := false, narrowed := true }
def AesBlockUptoSaid : Prop := aesBlockUptoRow.holds Try.pinned (OpenSpec.upto aesBlockSpec)

/-- 'baizelaw05.AesStream', WHERE WHAT IT READS IS OF BULK AT MOST 1048576: true; the input reads as it did. -/
def aesStreamUptoRow : OpenClaim := { program := "ytjkdgaehnachdaa", sum := "637719f36fe02b9dfaf58898022605e2c5e62fa8f37d27aa038e8201dbbac203", func := "baize/baizelaw05.AesStream", spec := "aesStream", unfollowed := true, recurses := true, apart := false, narrowed := true }
def AesStreamUptoSaid : Prop := aesStreamUptoRow.holds Try.pinned (OpenSpec.upto aesStreamSpec)

/-- 'baizelaw05.AesBack', WHERE WHAT IT READS IS OF BULK AT MOST 1048576: true; the input reads as it did. -/
def aesBackUptoRow : OpenClaim := { program := "ytjkdgaehnachdaa", sum := "637719f36fe02b9dfaf58898022605e2c5e62fa8f37d27aa038e8201dbbac203", func := "baize/baizelaw05.AesBack", spec := "aesBack", unfollowed := true, recurses := true, apart := false, narrowed := true }
def AesBackUptoSaid : Prop := aesBackUptoRow.holds Try.pinned (OpenSpec.upto aesBackSpec)

end Rows
end Go.Proofs.Ytjkdgaehnachdaa
