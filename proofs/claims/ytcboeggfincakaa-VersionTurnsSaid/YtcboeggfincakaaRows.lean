/-
  No cell of these rows narrows 'for every input' (looked for: loops, veiled, ifaces, maps, wideKeys, modest, calm, conditions, laid).
  DERIVED. THE GIVEN ROWS OF THIS SEAT. 4 by the template 'for every input the law returns true; each argument reads behind the call as it read before'; 0 by the template 'total and deterministic' (their statements: YtcboeggfincakaaTotals.lean).
  GIVEN WITH THE SEED: the statements are not yours to turn. If you find one false, say at which input.
  Laid BY PROGRAM, IN A SANDBOX (cutbox-rows.mjs): the forced cells as the released guide's own fill.sh prints them over the translation 822a6cac88c1c03a… (all of the seat's roots in one cut). By AI agents, Wed Nov 11 2026. No macro, syntax, notation, axiom, sorry.
-/
import Derived.Test.YtcboeggfincakaaChecked
import GoSem.Claim
import GoSem.ClaimJoined
import GoSem.ClaimMapViews
import Derived.JoinedTies
import Derived.KernelRfl
namespace Go.Proofs.Ytcboeggfincakaa
/- THE CELL 'sum', in the pinned program and in every row, IS THE sha256 OF THE DUMP (.gsa) THAT YtcboeggfincakaaProg.lean LOADS. Nothing in Lean hashes anything: it is a label: what it is worth is what the hold of that sum in a sandbox is worth. -/
noncomputable def Try.pinned : Pinned := { name := "ytcboeggfincakaa", sum := "822a6cac88c1c03a0bbaa7b05611ccc0effc456b82cc6ddd168a850448d5661c", checked := Try.checked }
namespace Rows
def none {H : Type} : Left H := { results := [], args := [] }

/-- 'tabellionlaw50.VersionBytes': WHATEVER THE INPUT: true; the input reads as it did. -/
def versionBytesSpec : ChangeSpec := { name := "versionBytes", fn := fun _ => fun
  | [d1, d2] => { results := [.lit (.bool true)], args := [d1, d2] }
  | _ => none }
def versionBytesRow : OpenClaim := { program := "ytcboeggfincakaa", sum := "822a6cac88c1c03a0bbaa7b05611ccc0effc456b82cc6ddd168a850448d5661c", func := "tabellion/tabellionlaw50.VersionBytes", spec := "versionBytes", inPlace := ["internal/abi.NoEscape"], unfollowed := true, recurses := true, apart := false }
def VersionBytesSaid : Prop := versionBytesRow.holds Try.pinned (OpenSpec.ofChange versionBytesSpec)

/-- ITS FALSE NEIGHBOUR: 'it returns false'. Refute it at one input. -/
def versionBytesWrong : ChangeSpec := { name := "versionBytes", fn := fun _ => fun
  | [d1, d2] => { results := [.lit (.bool false)], args := [d1, d2] }
  | _ => none }
def VersionBytesWrongFalsely : Prop := versionBytesRow.holds Try.pinned (OpenSpec.ofChange versionBytesWrong)

/-- 'tabellionlaw50.VersionSeen': WHATEVER THE INPUT: true; the input reads as it did. -/
def versionSeenSpec : ChangeSpec := { name := "versionSeen", fn := fun _ => fun
  | [d1, d2, d3] => { results := [.lit (.bool true)], args := [d1, d2, d3] }
  | _ => none }
def versionSeenRow : OpenClaim := { program := "ytcboeggfincakaa", sum := "822a6cac88c1c03a0bbaa7b05611ccc0effc456b82cc6ddd168a850448d5661c", func := "tabellion/tabellionlaw50.VersionSeen", spec := "versionSeen", inPlace := ["internal/abi.NoEscape"], unfollowed := true, recurses := true, apart := false }
def VersionSeenSaid : Prop := versionSeenRow.holds Try.pinned (OpenSpec.ofChange versionSeenSpec)

/-- ITS FALSE NEIGHBOUR: 'it returns false'. Refute it at one input. -/
def versionSeenWrong : ChangeSpec := { name := "versionSeen", fn := fun _ => fun
  | [d1, d2, d3] => { results := [.lit (.bool false)], args := [d1, d2, d3] }
  | _ => none }
def VersionSeenWrongFalsely : Prop := versionSeenRow.holds Try.pinned (OpenSpec.ofChange versionSeenWrong)

/-- 'tabellionlaw50.VersionOne': WHATEVER THE INPUT: true; the input reads as it did. -/
def versionOneSpec : ChangeSpec := { name := "versionOne", fn := fun _ => fun
  | [d1, d2, d3] => { results := [.lit (.bool true)], args := [d1, d2, d3] }
  | _ => none }
def versionOneRow : OpenClaim := { program := "ytcboeggfincakaa", sum := "822a6cac88c1c03a0bbaa7b05611ccc0effc456b82cc6ddd168a850448d5661c", func := "tabellion/tabellionlaw50.VersionOne", spec := "versionOne", inPlace := ["internal/abi.NoEscape"], unfollowed := true, recurses := true, apart := false }
def VersionOneSaid : Prop := versionOneRow.holds Try.pinned (OpenSpec.ofChange versionOneSpec)

/-- ITS FALSE NEIGHBOUR: 'it returns false'. Refute it at one input. -/
def versionOneWrong : ChangeSpec := { name := "versionOne", fn := fun _ => fun
  | [d1, d2, d3] => { results := [.lit (.bool false)], args := [d1, d2, d3] }
  | _ => none }
def VersionOneWrongFalsely : Prop := versionOneRow.holds Try.pinned (OpenSpec.ofChange versionOneWrong)

/-- 'tabellionlaw50.VersionTurns': WHATEVER THE INPUT: true; the input reads as it did. -/
def versionTurnsSpec : ChangeSpec := { name := "versionTurns", fn := fun _ => fun
  | [d] => { results := [.lit (.bool true)], args := [d] }
  | _ => none }
def versionTurnsRow : OpenClaim := { program := "ytcboeggfincakaa", sum := "822a6cac88c1c03a0bbaa7b05611ccc0effc456b82cc6ddd168a850448d5661c", func := "tabellion/tabellionlaw50.VersionTurns", spec := "versionTurns", inPlace := ["internal/abi.NoEscape"], unfollowed := true, recurses := true, apart := false }
def VersionTurnsSaid : Prop := versionTurnsRow.holds Try.pinned (OpenSpec.ofChange versionTurnsSpec)

/-- ITS FALSE NEIGHBOUR: 'it returns false'. Refute it at one input. -/
def versionTurnsWrong : ChangeSpec := { name := "versionTurns", fn := fun _ => fun
  | [d] => { results := [.lit (.bool false)], args := [d] }
  | _ => none }
def VersionTurnsWrongFalsely : Prop := versionTurnsRow.holds Try.pinned (OpenSpec.ofChange versionTurnsWrong)

/- THE SECOND FORM. 'bulk': how many values and letters a reading holds, each counted each time it is reached (what is shared counts as often as it is met; a slice's spare places count too). A statement '..UptoSaid' is the law's where the arguments, and the package variables that the reading takes, are together of bulk at most 1048576: NARROWER than '..Said'. Prove '..Said' where nothing that the law and all that it calls make is longer than what came in: it says more and counts as full. Else prove '..UptoSaid'. A law counts once. -/
mutual
def uptoBulk {H : Type} : DataW H → Nat
  | .lit (.string bytes) => bytes.length + 1
  | .lit _ => 1
  | .nil => 1
  | .ptr d => uptoBulk d + 1
  | .slice elems spare => uptoBulkAll elems + uptoBulkAll spare + 1
  | .agg parts => uptoBulkAll parts + 1
  | .iface _ d => uptoBulk d + 1
  | .map entries => uptoBulkEntries entries + 1
  | .held _ => 1
def uptoBulkAll {H : Type} : List (DataW H) → Nat
  | [] => 0
  | d :: r => uptoBulk d + uptoBulkAll r
def uptoBulkEntries {H : Type} : List (Lit × DataW H) → Nat
  | [] => 0
  | x :: r => uptoBulkEntry x + uptoBulkEntries r
def uptoBulkEntry {H : Type} : Lit × DataW H → Nat
  | (.string bytes, d) => bytes.length + uptoBulk d + 1
  | (_, d) => uptoBulk d + 1
 end
def uptoSmall : (H : Type) → List (DataW H) → Bool := fun _ ds => decide (uptoBulkAll ds ≤ 1048576)
def OpenSpec.upto (s : _root_.Go.ChangeSpec) : _root_.Go.OpenSpec := { _root_.Go.OpenSpec.ofChange s with cond := some uptoSmall }

/-- 'tabellionlaw50.VersionBytes', WHERE WHAT IT READS IS OF BULK AT MOST 1048576: true; the input reads as it did. -/
def versionBytesUptoRow : OpenClaim := { program := "ytcboeggfincakaa", sum := "822a6cac88c1c03a0bbaa7b05611ccc0effc456b82cc6ddd168a850448d5661c", func := "tabellion/tabellionlaw50.VersionBytes", spec := "versionBytes", inPlace := ["internal/abi.NoEscape"], unfollowed := true, recurses := true, apart := false, narrowed := true }
def VersionBytesUptoSaid : Prop := versionBytesUptoRow.holds Try.pinned (OpenSpec.upto versionBytesSpec)

/-- 'tabellionlaw50.VersionSeen', WHERE WHAT IT READS IS OF BULK AT MOST 1048576: true; the input reads as it did. -/
def versionSeenUptoRow : OpenClaim := { program := "ytcboeggfincakaa", sum := "822a6cac88c1c03a0bbaa7b05611ccc0effc456b82cc6ddd168a850448d5661c", func := "tabellion/tabellionlaw50.VersionSeen", spec := "versionSeen", inPlace := ["internal/abi.NoEscape"], unfollowed := true, recurses := true, apart := false, narrowed := true }
def VersionSeenUptoSaid : Prop := versionSeenUptoRow.holds Try.pinned (OpenSpec.upto versionSeenSpec)

/-- 'tabellionlaw50.VersionOne', WHERE WHAT IT READS IS OF BULK AT MOST 1048576: true; the input reads as it did. -/
def versionOneUptoRow : OpenClaim := { program := "ytcboeggfincakaa", sum := "822a6cac88c1c03a0bbaa7b05611ccc0effc456b82cc6ddd168a850448d5661c", func := "tabellion/tabellionlaw50.VersionOne", spec := "versionOne", inPlace := ["internal/abi.NoEscape"], unfollowed := true, recurses := true, apart := false, narrowed := true }
def VersionOneUptoSaid : Prop := versionOneUptoRow.holds Try.pinned (OpenSpec.upto versionOneSpec)

/-- 'tabellionlaw50.VersionTurns', WHERE WHAT IT READS IS OF BULK AT MOST 1048576: true; the input reads as it did. -/
def versionTurnsUptoRow : OpenClaim := { program := "ytcboeggfincakaa", sum := "822a6cac88c1c03a0bbaa7b05611ccc0effc456b82cc6ddd168a850448d5661c", func := "tabellion/tabellionlaw50.VersionTurns", spec := "versionTurns", inPlace := ["internal/abi.NoEscape"], unfollowed := true, recurses := true, apart := false, narrowed := true }
def VersionTurnsUptoSaid : Prop := versionTurnsUptoRow.holds Try.pinned (OpenSpec.upto versionTurnsSpec)

end Rows
end Go.Proofs.Ytcboeggfincakaa
