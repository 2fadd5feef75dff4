/-
  No cell of these rows narrows 'for every input' (looked for: loops, veiled, ifaces, maps, wideKeys, modest, calm, conditions, laid).
  DERIVED. THE GIVEN ROWS OF THIS SEAT. 4 by the template 'for every input the law returns true; each argument reads behind the call as it read before'; 0 by the template 'total and deterministic' (their statements: YtloengjcniefgaaTotals.lean).
  GIVEN WITH THE SEED: the statements are not yours to turn. If you find one false, say at which input.
  Laid BY PROGRAM, IN A SANDBOX (cutbox-rows.mjs): the forced cells as the released guide's own fill.sh prints them over the translation e48f386d04af348b… (all of the seat's roots in one cut). By AI agents, Wed Nov 11 2026. No macro, syntax, notation, axiom, sorry.
-/
import Derived.Test.YtloengjcniefgaaChecked
import GoSem.Claim
import GoSem.ClaimJoined
import GoSem.ClaimMapViews
import Derived.JoinedTies
import Derived.KernelRfl
namespace Go.Proofs.Ytloengjcniefgaa
/- THE CELL 'sum', in the pinned program and in every row, IS THE sha256 OF THE DUMP (.gsa) THAT YtloengjcniefgaaProg.lean LOADS. Nothing in Lean hashes anything: it is a label: what it is worth is what the hold of that sum in a sandbox is worth. -/
noncomputable def Try.pinned : Pinned := { name := "ytloengjcniefgaa", sum := "e48f386d04af348b94c2e9c9db6f00dfffa30ace91ad443404ac032bf59e9390", checked := Try.checked }
namespace Rows
def none {H : Type} : Left H := { results := [], args := [] }

/-- 'tabellionlaw38.RecSays': WHATEVER THE INPUT: true; the input reads as it did. -/
def recSaysSpec : ChangeSpec := { name := "recSays", fn := fun _ => fun
  | [d1, d2, d3, d4] => { results := [.lit (.bool true)], args := [d1, d2, d3, d4] }
  | _ => none }
def recSaysRow : OpenClaim := { program := "ytloengjcniefgaa", sum := "e48f386d04af348b94c2e9c9db6f00dfffa30ace91ad443404ac032bf59e9390", func := "tabellion/tabellionlaw38.RecSays", spec := "recSays", inPlace := ["internal/abi.NoEscape"], unfollowed := true, recurses := true, apart := false }
def RecSaysSaid : Prop := recSaysRow.holds Try.pinned (OpenSpec.ofChange recSaysSpec)

/-- ITS FALSE NEIGHBOUR: 'it returns false'. Refute it at one input. -/
def recSaysWrong : ChangeSpec := { name := "recSays", fn := fun _ => fun
  | [d1, d2, d3, d4] => { results := [.lit (.bool false)], args := [d1, d2, d3, d4] }
  | _ => none }
def RecSaysWrongFalsely : Prop := recSaysRow.holds Try.pinned (OpenSpec.ofChange recSaysWrong)

/-- 'tabellionlaw38.RecBack': WHATEVER THE INPUT: true; the input reads as it did. -/
def recBackSpec : ChangeSpec := { name := "recBack", fn := fun _ => fun
  | [d1, d2, d3, d4] => { results := [.lit (.bool true)], args := [d1, d2, d3, d4] }
  | _ => none }
def recBackRow : OpenClaim := { program := "ytloengjcniefgaa", sum := "e48f386d04af348b94c2e9c9db6f00dfffa30ace91ad443404ac032bf59e9390", func := "tabellion/tabellionlaw38.RecBack", spec := "recBack", inPlace := ["internal/abi.NoEscape"], unfollowed := true, recurses := true, apart := false }
def RecBackSaid : Prop := recBackRow.holds Try.pinned (OpenSpec.ofChange recBackSpec)

/-- ITS FALSE NEIGHBOUR: 'it returns false'. Refute it at one input. -/
def recBackWrong : ChangeSpec := { name := "recBack", fn := fun _ => fun
  | [d1, d2, d3, d4] => { results := [.lit (.bool false)], args := [d1, d2, d3, d4] }
  | _ => none }
def RecBackWrongFalsely : Prop := recBackRow.holds Try.pinned (OpenSpec.ofChange recBackWrong)

/-- 'tabellionlaw38.RecSpoilt': WHATEVER THE INPUT: true; the input reads as it did. -/
def recSpoiltSpec : ChangeSpec := { name := "recSpoilt", fn := fun _ => fun
  | [d1, d2, d3] => { results := [.lit (.bool true)], args := [d1, d2, d3] }
  | _ => none }
def recSpoiltRow : OpenClaim := { program := "ytloengjcniefgaa", sum := "e48f386d04af348b94c2e9c9db6f00dfffa30ace91ad443404ac032bf59e9390", func := "tabellion/tabellionlaw38.RecSpoilt", spec := "recSpoilt", inPlace := ["internal/abi.NoEscape"], unfollowed := true, recurses := true, apart := false }
def RecSpoiltSaid : Prop := recSpoiltRow.holds Try.pinned (OpenSpec.ofChange recSpoiltSpec)

/-- ITS FALSE NEIGHBOUR: 'it returns false'. Refute it at one input. -/
def recSpoiltWrong : ChangeSpec := { name := "recSpoilt", fn := fun _ => fun
  | [d1, d2, d3] => { results := [.lit (.bool false)], args := [d1, d2, d3] }
  | _ => none }
def RecSpoiltWrongFalsely : Prop := recSpoiltRow.holds Try.pinned (OpenSpec.ofChange recSpoiltWrong)

/-- 'tabellionlaw38.RecRow': WHATEVER THE INPUT: true; the input reads as it did. -/
def recRowSpec : ChangeSpec := { name := "recRow", fn := fun _ => fun
  | [d] => { results := [.lit (.bool true)], args := [d] }
  | _ => none }
def recRowRow : OpenClaim := { program := "ytloengjcniefgaa", sum := "e48f386d04af348b94c2e9c9db6f00dfffa30ace91ad443404ac032bf59e9390", func := "tabellion/tabellionlaw38.RecRow", spec := "recRow", inPlace := ["internal/abi.NoEscape"], unfollowed := true, recurses := true, apart := false }
def RecRowSaid : Prop := recRowRow.holds Try.pinned (OpenSpec.ofChange recRowSpec)

/-- ITS FALSE NEIGHBOUR: 'it returns false'. Refute it at one input. -/
def recRowWrong : ChangeSpec := { name := "recRow", fn := fun _ => fun
  | [d] => { results := [.lit (.bool false)], args := [d] }
  | _ => none }
def RecRowWrongFalsely : Prop := recRowRow.holds Try.pinned (OpenSpec.ofChange recRowWrong)

/- THE SECOND FORM. 'bulk': how many values and letters a reading holds, each counted each time it is reached (what is shared counts as often as it is met; a slice's spare places count too). A statement '..UptoSaid' is the law's where the arguments, and the package variables that the reading takes, are together of bulk at most 1048576: NARROWER than '..Said'. Prove '..Said' where nothing that the law and all that it calls make is longer than what came in: it says more and counts as full. Else prove '..UptoSaid'. A law counts once. -/
mutual
def uptoBulk {H : Type} : DataW H → Nat
  | .lit (.string bytes) => bytes.length + 1
  | .lit _ => 1
  | .nil => 1
  | .ptr d => uptoBulk d + 1
  | .slice elems spare => uptoBulkAll elems + uptoBulkAll spare + 1
  | .agg parts => uptoBulkAll parts + 1
  | .iface _ d => uptoBulk d + 1
  | .map entries => uptoBulkEntries entries + 1
  | .held _ => 1
def uptoBulkAll {H : Type} : List (DataW H) → Nat
  | [] => 0
  | d :: r => uptoBulk d + uptoBulkAll r
def uptoBulkEntries {H : Type} : List (Lit × DataW H) → Nat
  | [] => 0
  | x :: r => uptoBulkEntry x + uptoBulkEntries r
def uptoBulkEntry {H : Type} : Lit × DataW H → Nat
  | (.string bytes, d) => bytes.length + uptoBulk d + 1
  | (_, d) => uptoBulk d + 1
 end
def uptoSmall : (H : Type) → List (DataW H) → Bool := fun _ ds => decide (uptoBulkAll ds ≤ 1048576)
def OpenSpec.upto (s : _root_.Go.ChangeSpec) : _root_.Go.OpenSpec := { _root_.Go.OpenSpec.ofChange s with cond := some uptoSmall }

/-- 'tabellionlaw38.RecSays', WHERE WHAT IT READS IS OF BULK AT MOST 1048576: true; the input reads as it did. -/
def recSaysUptoRow : OpenClaim := { program := "ytloengjcniefgaa", sum := "e48f386d04af348b94c2e9c9db6f00dfffa30ace91ad443404ac032bf59e9390", func := "tabellion/tabellionlaw38.RecSays", spec := "recSays", inPlace := ["internal/abi.NoEscape"], unfollowed := true, recurses := true, apart := false, narrowed := true }
def RecSaysUptoSaid : Prop := recSaysUptoRow.holds Try.pinned (OpenSpec.upto recSaysSpec)

/-- 'tabellionlaw38.RecBack', WHERE WHAT IT READS IS OF BULK AT MOST 1048576: true; the input reads as it did. -/
def recBackUptoRow : OpenClaim := { program := "ytloengjcniefgaa", sum := "e48f386d04af348b94c2e9c9db6f00dfffa30ace91ad443404ac032bf59e9390", func := "tabellion/tabellionlaw38.RecBack", spec := "recBack", inPlace := ["internal/abi.NoEscape"], unfollowed := true, recurses := true, apart := false, narrowed := true }
def RecBackUptoSaid : Prop := recBackUptoRow.holds Try.pinned (OpenSpec.upto recBackSpec)

/-- 'tabellionlaw38.RecSpoilt', WHERE WHAT IT READS IS OF BULK AT MOST 1048576: true; the input reads as it did. -/
def recSpoiltUptoRow : OpenClaim := { program := "ytloengjcniefgaa", sum := "e48f386d04af348b94c2e9c9db6f00dfffa30ace91ad443404ac032bf59e9390", func := "tabellion/tabellionlaw38.RecSpoilt", spec := "recSpoilt", inPlace := ["internal/abi.NoEscape"], unfollowed := true, recurses := true, apart := false, narrowed := true }
def RecSpoiltUptoSaid : Prop := recSpoiltUptoRow.holds Try.pinned (OpenSpec.upto recSpoiltSpec)

/-- 'tabellionlaw38.RecRow', WHERE WHAT IT READS IS OF BULK AT MOST 1048576: true; the input reads as it did. -/
def recRowUptoRow : OpenClaim := { program := "ytloengjcniefgaa", sum := "e48f386d04af348b94c2e9c9db6f00dfffa30ace91ad443404ac032bf59e9390", func := "tabellion/tabellionlaw38.RecRow", spec := "recRow", inPlace := ["internal/abi.NoEscape"], unfollowed := true, recurses := true, apart := false, narrowed := true }
def RecRowUptoSaid : Prop := recRowUptoRow.holds Try.pinned (OpenSpec.upto recRowSpec)

end Rows
end Go.Proofs.Ytloengjcniefgaa
