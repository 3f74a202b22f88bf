/-
  No cell of these rows narrows 'for every input' (looked for: loops, veiled, ifaces, maps, wideKeys, modest, calm, conditions, laid).
  DERIVED. THE GIVEN ROWS OF THIS SEAT. 6 by the template 'for every input the law returns true; each argument reads behind the call as it read before'; 0 by the template 'total and deterministic' (their statements: YtioigihakjlopaaGreatTotals.lean).
  GIVEN WITH THE SEED: the statements are not yours to turn. If you find one false, say at which input.
  Laid BY PROGRAM, IN A SANDBOX (cutbox-rows.mjs): the forced cells as the released guide's own fill.sh prints them over the translation 7d9e82459f7c92f7… (all of the seat's roots in one cut). By AI agents, Wed Nov 11 2026. No macro, syntax, notation, axiom, sorry.
-/
import Derived.Test.YtioigihakjlopaaGreatChecked
import GoSem.Claim
import GoSem.ClaimJoined
import GoSem.ClaimMapViews
import Derived.JoinedTies
import Derived.KernelRfl
namespace Go.Proofs.YtioigihakjlopaaGreat
/- THE CELL 'sum', in the pinned program and in every row, IS THE sha256 OF THE DUMP (.gsa) THAT YtioigihakjlopaaGreatProg.lean LOADS. Nothing in Lean hashes anything: it is a label: what it is worth is what the hold of that sum in a sandbox is worth. -/
noncomputable def Tryz.pinned : Pinned := { name := "ytioigihakjlopaagreat", sum := "7d9e82459f7c92f7851e727fd65b2835ea7c5e747259fe08b199dfad3520902d", checked := Tryz.checked }
namespace Rows
def none {H : Type} : Left H := { results := [], args := [] }

/-- 'baizelaw27.VaultForged': WHATEVER THE INPUT: true; the input reads as it did. -/
def vaultForgedSpec : ChangeSpec := { name := "vaultForged", fn := fun _ => fun
  | [d1, d2, d3, d4, d5] => { results := [.lit (.bool true)], args := [d1, d2, d3, d4, d5] }
  | _ => none }
def vaultForgedRow : OpenClaim := { program := "ytioigihakjlopaagreat", sum := "7d9e82459f7c92f7851e727fd65b2835ea7c5e747259fe08b199dfad3520902d", func := "baize/baizelaw27.VaultForged", spec := "vaultForged", unfollowed := true, recurses := true, apart := false }
def VaultForgedSaid : Prop := vaultForgedRow.holds Tryz.pinned (OpenSpec.ofChange vaultForgedSpec)

/-- ITS FALSE NEIGHBOUR: 'it returns false'. Refute it at one input. -/
def vaultForgedWrong : ChangeSpec := { name := "vaultForged", fn := fun _ => fun
  | [d1, d2, d3, d4, d5] => { results := [.lit (.bool false)], args := [d1, d2, d3, d4, d5] }
  | _ => none }
def VaultForgedWrongFalsely : Prop := vaultForgedRow.holds Tryz.pinned (OpenSpec.ofChange vaultForgedWrong)

/-- 'baizelaw27.VaultPrefix': WHATEVER THE INPUT: true; the input reads as it did. -/
def vaultPrefixSpec : ChangeSpec := { name := "vaultPrefix", fn := fun _ => fun
  | [d1, d2, d3, d4] => { results := [.lit (.bool true)], args := [d1, d2, d3, d4] }
  | _ => none }
def vaultPrefixRow : OpenClaim := { program := "ytioigihakjlopaagreat", sum := "7d9e82459f7c92f7851e727fd65b2835ea7c5e747259fe08b199dfad3520902d", func := "baize/baizelaw27.VaultPrefix", spec := "vaultPrefix", unfollowed := true, recurses := true, apart := false }
def VaultPrefixSaid : Prop := vaultPrefixRow.holds Tryz.pinned (OpenSpec.ofChange vaultPrefixSpec)

/-- ITS FALSE NEIGHBOUR: 'it returns false'. Refute it at one input. -/
def vaultPrefixWrong : ChangeSpec := { name := "vaultPrefix", fn := fun _ => fun
  | [d1, d2, d3, d4] => { results := [.lit (.bool false)], args := [d1, d2, d3, d4] }
  | _ => none }
def VaultPrefixWrongFalsely : Prop := vaultPrefixRow.holds Tryz.pinned (OpenSpec.ofChange vaultPrefixWrong)

/-- 'baizelaw27.VaultGames': WHATEVER THE INPUT: true; the input reads as it did. -/
def vaultGamesSpec : ChangeSpec := { name := "vaultGames", fn := fun _ => fun
  | [d1, d2] => { results := [.lit (.bool true)], args := [d1, d2] }
  | _ => none }
def vaultGamesRow : OpenClaim := { program := "ytioigihakjlopaagreat", sum := "7d9e82459f7c92f7851e727fd65b2835ea7c5e747259fe08b199dfad3520902d", func := "baize/baizelaw27.VaultGames", spec := "vaultGames", unfollowed := true, recurses := true, apart := false }
def VaultGamesSaid : Prop := vaultGamesRow.holds Tryz.pinned (OpenSpec.ofChange vaultGamesSpec)

/-- ITS FALSE NEIGHBOUR: 'it returns false'. Refute it at one input. -/
def vaultGamesWrong : ChangeSpec := { name := "vaultGames", fn := fun _ => fun
  | [d1, d2] => { results := [.lit (.bool false)], args := [d1, d2] }
  | _ => none }
def VaultGamesWrongFalsely : Prop := vaultGamesRow.holds Tryz.pinned (OpenSpec.ofChange vaultGamesWrong)

/-- 'baizelaw27.VaultBytes': WHATEVER THE INPUT: true; the input reads as it did. -/
def vaultBytesSpec : ChangeSpec := { name := "vaultBytes", fn := fun _ => fun
  | [d1, d2, d3] => { results := [.lit (.bool true)], args := [d1, d2, d3] }
  | _ => none }
def vaultBytesRow : OpenClaim := { program := "ytioigihakjlopaagreat", sum := "7d9e82459f7c92f7851e727fd65b2835ea7c5e747259fe08b199dfad3520902d", func := "baize/baizelaw27.VaultBytes", spec := "vaultBytes", unfollowed := true, recurses := true, apart := false }
def VaultBytesSaid : Prop := vaultBytesRow.holds Tryz.pinned (OpenSpec.ofChange vaultBytesSpec)

/-- ITS FALSE NEIGHBOUR: 'it returns false'. Refute it at one input. -/
def vaultBytesWrong : ChangeSpec := { name := "vaultBytes", fn := fun _ => fun
  | [d1, d2, d3] => { results := [.lit (.bool false)], args := [d1, d2, d3] }
  | _ => none }
def VaultBytesWrongFalsely : Prop := vaultBytesRow.holds Tryz.pinned (OpenSpec.ofChange vaultBytesWrong)

/-- 'baizelaw27.VaultBack': WHATEVER THE INPUT: true; the input reads as it did. -/
def vaultBackSpec : ChangeSpec := { name := "vaultBack", fn := fun _ => fun
  | [d1, d2] => { results := [.lit (.bool true)], args := [d1, d2] }
  | _ => none }
def vaultBackRow : OpenClaim := { program := "ytioigihakjlopaagreat", sum := "7d9e82459f7c92f7851e727fd65b2835ea7c5e747259fe08b199dfad3520902d", func := "baize/baizelaw27.VaultBack", spec := "vaultBack", unfollowed := true, recurses := true, apart := false }
def VaultBackSaid : Prop := vaultBackRow.holds Tryz.pinned (OpenSpec.ofChange vaultBackSpec)

/-- ITS FALSE NEIGHBOUR: 'it returns false'. Refute it at one input. -/
def vaultBackWrong : ChangeSpec := { name := "vaultBack", fn := fun _ => fun
  | [d1, d2] => { results := [.lit (.bool false)], args := [d1, d2] }
  | _ => none }
def VaultBackWrongFalsely : Prop := vaultBackRow.holds Tryz.pinned (OpenSpec.ofChange vaultBackWrong)

/-- 'baizelaw27.VaultPlays': WHATEVER THE INPUT: true; the input reads as it did. -/
def vaultPlaysSpec : ChangeSpec := { name := "vaultPlays", fn := fun _ => fun
  | [d1, d2, d3] => { results := [.lit (.bool true)], args := [d1, d2, d3] }
  | _ => none }
def vaultPlaysRow : OpenClaim := { program := "ytioigihakjlopaagreat", sum := "7d9e82459f7c92f7851e727fd65b2835ea7c5e747259fe08b199dfad3520902d", func := "baize/baizelaw27.VaultPlays", spec := "vaultPlays", unfollowed := true, recurses := true, apart := false }
def VaultPlaysSaid : Prop := vaultPlaysRow.holds Tryz.pinned (OpenSpec.ofChange vaultPlaysSpec)

/-- ITS FALSE NEIGHBOUR: 'it returns false'. Refute it at one input. -/
def vaultPlaysWrong : ChangeSpec := { name := "vaultPlays", fn := fun _ => fun
  | [d1, d2, d3] => { results := [.lit (.bool false)], args := [d1, d2, d3] }
  | _ => none }
def VaultPlaysWrongFalsely : Prop := vaultPlaysRow.holds Tryz.pinned (OpenSpec.ofChange vaultPlaysWrong)

/- THE SECOND FORM. 'bulk': how many values and letters a reading holds, each counted each time it is reached (what is shared counts as often as it is met; a slice's spare places count too). A statement '..UptoSaid' is the law's where the arguments, and the package variables that the reading takes, are together of bulk at most 1048576: NARROWER than '..Said'. Prove '..Said' where nothing that the law and all that it calls make is longer than what came in: it says more and counts as full. Else prove '..UptoSaid'. A law counts once. -/
mutual
def uptoBulk {H : Type} : DataW H → Nat
  | .lit (.string bytes) => bytes.length + 1
  | .lit _ => 1
  | .nil => 1
  | .ptr d => uptoBulk d + 1
  | .slice elems spare => uptoBulkAll elems + uptoBulkAll spare + 1
  | .agg parts => uptoBulkAll parts + 1
  | .iface _ d => uptoBulk d + 1
  | .map entries => uptoBulkEntries entries + 1
  | .held _ => 1
def uptoBulkAll {H : Type} : List (DataW H) → Nat
  | [] => 0
  | d :: r => uptoBulk d + uptoBulkAll r
def uptoBulkEntries {H : Type} : List (Lit × DataW H) → Nat
  | [] => 0
  | x :: r => uptoBulkEntry x + uptoBulkEntries r
def uptoBulkEntry {H : Type} : Lit × DataW H → Nat
  | (.string bytes, d) => bytes.length + uptoBulk d + 1
  | (_, d) => uptoBulk d + 1
 end
def uptoSmall : (H : Type) → List (DataW H) → Bool := fun _ ds => decide (uptoBulkAll ds ≤ 1048576)
def OpenSpec.upto (s : _root_.Go.ChangeSpec) : _root_.Go.OpenSpec := { _root_.Go.OpenSpec.ofChange s with cond := some uptoSmall }

/-- 'baizelaw27.VaultForged', WHERE WHAT IT READS IS OF BULK AT MOST 1048576: true; the input reads as it did. -/
def vaultForgedUptoRow : OpenClaim := { program := "ytioigihakjlopaagreat", sum := "7d9e82459f7c92f7851e727fd65b2835ea7c5e747259fe08b199dfad3520902d", func := "baize/baizelaw27.VaultForged", spec := "vaultForged", unfollowed := true, recurses := true, apart := false, narrowed := true }
def VaultForgedUptoSaid : Prop := vaultForgedUptoRow.holds Tryz.pinned (OpenSpec.upto vaultForgedSpec)

/-- 'baizelaw27.VaultPrefix', WHERE WHAT IT READS IS OF BULK AT MOST 1048576: true; the input reads as it did. -/
def vaultPrefixUptoRow : OpenClaim := { program := "ytioigihakjlopaagreat", sum := "7d9e82459f7c92f7851e727fd65b2835ea7c5e747259fe08b199dfad3520902d", func := "baize/baizelaw27.VaultPrefix", spec := "vaultPrefix", unfollowed := true, recurses := true, apart := false, narrowed := true }
def VaultPrefixUptoSaid : Prop := vaultPrefixUptoRow.holds Tryz.pinned (OpenSpec.upto vaultPrefixSpec)

/-- 'baizelaw27.VaultGames', WHERE WHAT IT READS IS OF BULK AT MOST 1048576: true; the input reads as it did. -/
def vaultGamesUptoRow : OpenClaim := { program := "ytioigihakjlopaagreat", sum := "7d9e82459f7c92f7851e727fd65b2835ea7c5e747259fe08b199dfad3520902d", func := "baize/baizelaw27.VaultGames", spec := "vaultGames", unfollowed := true, recurses := true, apart := false, narrowed := true }
def VaultGamesUptoSaid : Prop := vaultGamesUptoRow.holds Tryz.pinned (OpenSpec.upto vaultGamesSpec)

/-- 'baizelaw27.VaultBytes', WHERE WHAT IT READS IS OF BULK AT MOST 1048576: true; the input reads as it did. -/
def vaultBytesUptoRow : OpenClaim := { program := "ytioigihakjlopaagreat", sum := "7d9e82459f7c92f7851e727fd65b2835ea7c5e747259fe08b199dfad3520902d", func := "baize/baizelaw27.VaultBytes", spec := "vaultBytes", unfollowed := true, recurses := true, apart := false, narrowed := true }
def VaultBytesUptoSaid : Prop := vaultBytesUptoRow.holds Tryz.pinned (OpenSpec.upto vaultBytesSpec)

/-- 'baizelaw27.VaultBack', WHERE WHAT IT READS IS OF BULK AT MOST 1048576: true; the input reads as it did. -/
def vaultBackUptoRow : OpenClaim := { program := "ytioigihakjlopaagreat", sum := "7d9e82459f7c92f7851e727fd65b2835ea7c5e747259fe08b199dfad3520902d", func := "baize/baizelaw27.VaultBack", spec := "vaultBack", unfollowed := true, recurses := true, apart := false, narrowed := true }
def VaultBackUptoSaid : Prop := vaultBackUptoRow.holds Tryz.pinned (OpenSpec.upto vaultBackSpec)

/-- 'baizelaw27.VaultPlays', WHERE WHAT IT READS IS OF BULK AT MOST 1048576: true; the input reads as it did. -/
def vaultPlaysUptoRow : OpenClaim := { program := "ytioigihakjlopaagreat", sum := "7d9e82459f7c92f7851e727fd65b2835ea7c5e747259fe08b199dfad3520902d", func := "baize/baizelaw27.VaultPlays", spec := "vaultPlays", unfollowed := true, recurses := true, apart := false, narrowed := true }
def VaultPlaysUptoSaid : Prop := vaultPlaysUptoRow.holds Tryz.pinned (OpenSpec.upto vaultPlaysSpec)

end Rows
end Go.Proofs.YtioigihakjlopaaGreat
