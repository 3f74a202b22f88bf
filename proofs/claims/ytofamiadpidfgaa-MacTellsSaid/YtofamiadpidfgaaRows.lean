/-
  No cell of these rows narrows 'for every input' (looked for: loops, veiled, ifaces, maps, wideKeys, modest, calm, conditions, laid).
  DERIVED. THE GIVEN ROWS OF THIS SEAT. 4 by the template 'for every input the law returns true; each argument reads behind the call as it read before'; 0 by the template 'total and deterministic' (their statements: YtofamiadpidfgaaTotals.lean).
  GIVEN WITH THE SEED: the statements are not yours to turn. If you find one false, say at which input.
  Laid BY PROGRAM, IN A SANDBOX (cutbox-rows.mjs): the forced cells as the released guide's own fill.sh prints them over the translation 8ed7eba1cd7f023d… (all of the seat's roots in one cut). By AI agents, Wed Nov 11 2026. No macro, syntax, notation, axiom, sorry.
-/
import Derived.Test.YtofamiadpidfgaaChecked
import GoSem.Claim
import GoSem.ClaimJoined
import GoSem.ClaimMapViews
import Derived.JoinedTies
import Derived.KernelRfl
namespace Go.Proofs.Ytofamiadpidfgaa
/- THE CELL 'sum', in the pinned program and in every row, IS THE sha256 OF THE DUMP (.gsa) THAT YtofamiadpidfgaaProg.lean LOADS. Nothing in Lean hashes anything: it is a label: what it is worth is what the hold of that sum in a sandbox is worth. -/
noncomputable def Try.pinned : Pinned := { name := "ytofamiadpidfgaa", sum := "8ed7eba1cd7f023dd57afadf979b8b7c34c65a819e4b510faaf2e402fe8440fa", checked := Try.checked }
namespace Rows
def none {H : Type} : Left H := { results := [], args := [] }

/-- 'baizelaw04.MacPieces': WHATEVER THE INPUT: true; the input reads as it did. -/
def macPiecesSpec : ChangeSpec := { name := "macPieces", fn := fun _ => fun
  | [d1, d2] => { results := [.lit (.bool true)], args := [d1, d2] }
  | _ => none }
def macPiecesRow : OpenClaim := { program := "ytofamiadpidfgaa", sum := "8ed7eba1cd7f023dd57afadf979b8b7c34c65a819e4b510faaf2e402fe8440fa", func := "baize/baizelaw04.MacPieces", spec := "macPieces", unfollowed := true, recurses := true, apart := false }
def MacPiecesSaid : Prop := macPiecesRow.holds Try.pinned (OpenSpec.ofChange macPiecesSpec)

/-- ITS FALSE NEIGHBOUR: 'it returns false'. Refute it at one input. -/
def macPiecesWrong : ChangeSpec := { name := "macPieces", fn := fun _ => fun
  | [d1, d2] => { results := [.lit (.bool false)], args := [d1, d2] }
  | _ => none }
def MacPiecesWrongFalsely : Prop := macPiecesRow.holds Try.pinned (OpenSpec.ofChange macPiecesWrong)

/-- 'baizelaw04.MacKeys': WHATEVER THE INPUT: true; the input reads as it did. -/
def macKeysSpec : ChangeSpec := { name := "macKeys", fn := fun _ => fun
  | [d1, d2, d3] => { results := [.lit (.bool true)], args := [d1, d2, d3] }
  | _ => none }
def macKeysRow : OpenClaim := { program := "ytofamiadpidfgaa", sum := "8ed7eba1cd7f023dd57afadf979b8b7c34c65a819e4b510faaf2e402fe8440fa", func := "baize/baizelaw04.MacKeys", spec := "macKeys", unfollowed := true, recurses := true, apart := false }
def MacKeysSaid : Prop := macKeysRow.holds Try.pinned (OpenSpec.ofChange macKeysSpec)

/-- ITS FALSE NEIGHBOUR: 'it returns false'. Refute it at one input. -/
def macKeysWrong : ChangeSpec := { name := "macKeys", fn := fun _ => fun
  | [d1, d2, d3] => { results := [.lit (.bool false)], args := [d1, d2, d3] }
  | _ => none }
def MacKeysWrongFalsely : Prop := macKeysRow.holds Try.pinned (OpenSpec.ofChange macKeysWrong)

/-- 'baizelaw04.MacNil': WHATEVER THE INPUT: true; the input reads as it did. -/
def macNilSpec : ChangeSpec := { name := "macNil", fn := fun _ => fun
  | [d] => { results := [.lit (.bool true)], args := [d] }
  | _ => none }
def macNilRow : OpenClaim := { program := "ytofamiadpidfgaa", sum := "8ed7eba1cd7f023dd57afadf979b8b7c34c65a819e4b510faaf2e402fe8440fa", func := "baize/baizelaw04.MacNil", spec := "macNil", unfollowed := true, recurses := true, apart := false }
def MacNilSaid : Prop := macNilRow.holds Try.pinned (OpenSpec.ofChange macNilSpec)

/-- ITS FALSE NEIGHBOUR: 'it returns false'. Refute it at one input. -/
def macNilWrong : ChangeSpec := { name := "macNil", fn := fun _ => fun
  | [d] => { results := [.lit (.bool false)], args := [d] }
  | _ => none }
def MacNilWrongFalsely : Prop := macNilRow.holds Try.pinned (OpenSpec.ofChange macNilWrong)

/-- 'baizelaw04.MacTells': WHATEVER THE INPUT: true; the input reads as it did. -/
def macTellsSpec : ChangeSpec := { name := "macTells", fn := fun _ => fun
  | [d1, d2, d3, d4] => { results := [.lit (.bool true)], args := [d1, d2, d3, d4] }
  | _ => none }
def macTellsRow : OpenClaim := { program := "ytofamiadpidfgaa", sum := "8ed7eba1cd7f023dd57afadf979b8b7c34c65a819e4b510faaf2e402fe8440fa", func := "baize/baizelaw04.MacTells", spec := "macTells", unfollowed := true, recurses := true, apart := false }
def MacTellsSaid : Prop := macTellsRow.holds Try.pinned (OpenSpec.ofChange macTellsSpec)

/-- ITS FALSE NEIGHBOUR: 'it returns false'. Refute it at one input. -/
def macTellsWrong : ChangeSpec := { name := "macTells", fn := fun _ => fun
  | [d1, d2, d3, d4] => { results := [.lit (.bool false)], args := [d1, d2, d3, d4] }
  | _ => none }
def MacTellsWrongFalsely : Prop := macTellsRow.holds Try.pinned (OpenSpec.ofChange macTellsWrong)

/- THE SECOND FORM. 'bulk': how many values and letters a reading holds, each counted each time it is reached (what is shared counts as often as it is met; a slice's spare places count too). A statement '..UptoSaid' is the law's where the arguments, and the package variables that the reading takes, are together of bulk at most 1048576: NARROWER than '..Said'. Prove '..Said' where nothing that the law and all that it calls make is longer than what came in: it says more and counts as full. Else prove '..UptoSaid'. A law counts once. -/
mutual
def uptoBulk {H : Type} : DataW H → Nat
  | .lit (.string bytes) => bytes.length + 1
  | .lit _ => 1
  | .nil => 1
  | .ptr d => uptoBulk d + 1
  | .slice elems spare => uptoBulkAll elems + uptoBulkAll spare + 1
  | .agg parts => uptoBulkAll parts + 1
  | .iface _ d => uptoBulk d + 1
  | .map entries => uptoBulkEntries entries + 1
  | .held _ => 1
def uptoBulkAll {H : Type} : List (DataW H) → Nat
  | [] => 0
  | d :: r => uptoBulk d + uptoBulkAll r
def uptoBulkEntries {H : Type} : List (Lit × DataW H) → Nat
  | [] => 0
  | x :: r => uptoBulkEntry x + uptoBulkEntries r
def uptoBulkEntry {H : Type} : Lit × DataW H → Nat
  | (.string bytes, d) => bytes.length + uptoBulk d + 1
  | (_, d) => uptoBulk d + 1
 end
def uptoSmall : (H : Type) → List (DataW H) → Bool := fun _ ds => decide (uptoBulkAll ds ≤ 1048576)
def OpenSpec.upto (s : _root_.Go.ChangeSpec) : _root_.Go.OpenSpec := { _root_.Go.OpenSpec.ofChange s with cond := some uptoSmall }

/-- 'baizelaw04.MacPieces', WHERE WHAT IT READS IS OF BULK AT MOST 1048576: true; the input reads as it did. -/
def macPiecesUptoRow : OpenClaim := { program := "ytofamiadpidfgaa", sum := "8ed7eba1cd7f023dd57afadf979b8b7c34c65a819e4b510faaf2e402fe8440fa", func := "baize/baizelaw04.MacPieces", spec := "macPieces", unfollowed := true, recurses := true, apart := false, narrowed := true }
def MacPiecesUptoSaid : Prop := macPiecesUptoRow.holds Try.pinned (OpenSpec.upto macPiecesSpec)

/-- 'baizelaw04.MacKeys', WHERE WHAT IT READS IS OF BULK AT MOST 1048576: true; the input reads as it did. -/
def macKeysUptoRow : OpenClaim := { program := "ytofamiadpidfgaa", sum := "8ed7eba1cd7f023dd57afadf979b8b7c34c65a819e4b510faaf2e402fe8440fa", func := "baize/baizelaw04.MacKeys", spec := "macKeys", unfollowed := true, recurses := true, apart := false, narrowed := true }
def MacKeysUptoSaid : Prop := macKeysUptoRow.holds Try.pinned (OpenSpec.upto macKeysSpec)

/-- 'baizelaw04.MacNil', WHERE WHAT IT READS IS OF BULK AT MOST 1048576: true; the input reads as it did. -/
def macNilUptoRow : OpenClaim := { program := "ytofamiadpidfgaa", sum := "8ed7eba1cd7f023dd57afadf979b8b7c34c65a819e4b510faaf2e402fe8440fa", func := "baize/baizelaw04.MacNil", spec := "macNil", unfollowed := true, recurses := true, apart := false, narrowed := true }
def MacNilUptoSaid : Prop := macNilUptoRow.holds Try.pinned (OpenSpec.upto macNilSpec)

/-- 'baizelaw04.MacTells', WHERE WHAT IT READS IS OF BULK AT MOST 1048576: true; the input reads as it did. -/
def macTellsUptoRow : OpenClaim := { program := "ytofamiadpidfgaa", sum := "8ed7eba1cd7f023dd57afadf979b8b7c34c65a819e4b510faaf2e402fe8440fa", func := "baize/baizelaw04.MacTells", spec := "macTells", unfollowed := true, recurses := true, apart := false, narrowed := true }
def MacTellsUptoSaid : Prop := macTellsUptoRow.holds Try.pinned (OpenSpec.upto macTellsSpec)

end Rows
end Go.Proofs.Ytofamiadpidfgaa
