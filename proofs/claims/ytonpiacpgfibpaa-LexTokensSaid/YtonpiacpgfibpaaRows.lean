/-
  No cell of these rows narrows 'for every input' (looked for: loops, veiled, ifaces, maps, wideKeys, modest, calm, conditions, laid).
  DERIVED. THE GIVEN ROWS OF THIS SEAT. 6 by the template 'for every input the law returns true; each argument reads behind the call as it read before'; 0 by the template 'total and deterministic' (their statements: YtonpiacpgfibpaaTotals.lean).
  GIVEN WITH THE SEED: the statements are not yours to turn. If you find one false, say at which input.
  Laid BY PROGRAM, IN A SANDBOX (cutbox-rows.mjs): the forced cells as the released guide's own fill.sh prints them over the translation f953f9775f12dd14… (all of the seat's roots in one cut). By AI agents, Wed Nov 11 2026. No macro, syntax, notation, axiom, sorry.
-/
import Derived.Test.YtonpiacpgfibpaaChecked
import GoSem.Claim
import GoSem.ClaimJoined
import GoSem.ClaimMapViews
import Derived.JoinedTies
import Derived.KernelRfl
namespace Go.Proofs.Ytonpiacpgfibpaa
/- THE CELL 'sum', in the pinned program and in every row, IS THE sha256 OF THE DUMP (.gsa) THAT YtonpiacpgfibpaaProg.lean LOADS. Nothing in Lean hashes anything: it is a label: what it is worth is what the hold of that sum in a sandbox is worth. -/
noncomputable def Try.pinned : Pinned := { name := "ytonpiacpgfibpaa", sum := "f953f9775f12dd143571d8a30e58d71a4e379edb1e53a4fc3ff9bd6c1c877fc7", checked := Try.checked }
namespace Rows
def none {H : Type} : Left H := { results := [], args := [] }

/-- 'tabellionlaw08.LexNext': WHATEVER THE INPUT: true; the input reads as it did. -/
def lexNextSpec : ChangeSpec := { name := "lexNext", fn := fun _ => fun
  | [d1, d2] => { results := [.lit (.bool true)], args := [d1, d2] }
  | _ => none }
def lexNextRow : OpenClaim := { program := "ytonpiacpgfibpaa", sum := "f953f9775f12dd143571d8a30e58d71a4e379edb1e53a4fc3ff9bd6c1c877fc7", func := "tabellion/tabellionlaw08.LexNext", spec := "lexNext", inPlace := ["internal/bytealg.IndexByteString", "internal/abi.NoEscape", "internal/bytealg.IndexString"], named := ["internal/bytealg.MaxLen"], apart := false }
def LexNextSaid : Prop := lexNextRow.holds Try.pinned (OpenSpec.ofChange lexNextSpec)

/-- ITS FALSE NEIGHBOUR: 'it returns false'. Refute it at one input. -/
def lexNextWrong : ChangeSpec := { name := "lexNext", fn := fun _ => fun
  | [d1, d2] => { results := [.lit (.bool false)], args := [d1, d2] }
  | _ => none }
def LexNextWrongFalsely : Prop := lexNextRow.holds Try.pinned (OpenSpec.ofChange lexNextWrong)

/-- 'tabellionlaw08.LexTokens': WHATEVER THE INPUT: true; the input reads as it did. -/
def lexTokensSpec : ChangeSpec := { name := "lexTokens", fn := fun _ => fun
  | [d] => { results := [.lit (.bool true)], args := [d] }
  | _ => none }
def lexTokensRow : OpenClaim := { program := "ytonpiacpgfibpaa", sum := "f953f9775f12dd143571d8a30e58d71a4e379edb1e53a4fc3ff9bd6c1c877fc7", func := "tabellion/tabellionlaw08.LexTokens", spec := "lexTokens", inPlace := ["internal/bytealg.IndexByteString", "internal/abi.NoEscape", "internal/bytealg.IndexString"], named := ["internal/bytealg.MaxLen"], apart := false }
def LexTokensSaid : Prop := lexTokensRow.holds Try.pinned (OpenSpec.ofChange lexTokensSpec)

/-- ITS FALSE NEIGHBOUR: 'it returns false'. Refute it at one input. -/
def lexTokensWrong : ChangeSpec := { name := "lexTokens", fn := fun _ => fun
  | [d] => { results := [.lit (.bool false)], args := [d] }
  | _ => none }
def LexTokensWrongFalsely : Prop := lexTokensRow.holds Try.pinned (OpenSpec.ofChange lexTokensWrong)

/-- 'tabellionlaw08.LexLies': WHATEVER THE INPUT: true; the input reads as it did. -/
def lexLiesSpec : ChangeSpec := { name := "lexLies", fn := fun _ => fun
  | [d] => { results := [.lit (.bool true)], args := [d] }
  | _ => none }
def lexLiesRow : OpenClaim := { program := "ytonpiacpgfibpaa", sum := "f953f9775f12dd143571d8a30e58d71a4e379edb1e53a4fc3ff9bd6c1c877fc7", func := "tabellion/tabellionlaw08.LexLies", spec := "lexLies", inPlace := ["internal/bytealg.IndexByteString", "internal/abi.NoEscape", "internal/bytealg.IndexString"], named := ["internal/bytealg.MaxLen"], apart := false }
def LexLiesSaid : Prop := lexLiesRow.holds Try.pinned (OpenSpec.ofChange lexLiesSpec)

/-- ITS FALSE NEIGHBOUR: 'it returns false'. Refute it at one input. -/
def lexLiesWrong : ChangeSpec := { name := "lexLies", fn := fun _ => fun
  | [d] => { results := [.lit (.bool false)], args := [d] }
  | _ => none }
def LexLiesWrongFalsely : Prop := lexLiesRow.holds Try.pinned (OpenSpec.ofChange lexLiesWrong)

/-- 'tabellionlaw08.LexBlanks': WHATEVER THE INPUT: true; the input reads as it did. -/
def lexBlanksSpec : ChangeSpec := { name := "lexBlanks", fn := fun _ => fun
  | [d1, d2] => { results := [.lit (.bool true)], args := [d1, d2] }
  | _ => none }
def lexBlanksRow : OpenClaim := { program := "ytonpiacpgfibpaa", sum := "f953f9775f12dd143571d8a30e58d71a4e379edb1e53a4fc3ff9bd6c1c877fc7", func := "tabellion/tabellionlaw08.LexBlanks", spec := "lexBlanks", inPlace := ["internal/bytealg.IndexByteString", "internal/abi.NoEscape", "internal/bytealg.IndexString"], named := ["internal/bytealg.MaxLen"], apart := false }
def LexBlanksSaid : Prop := lexBlanksRow.holds Try.pinned (OpenSpec.ofChange lexBlanksSpec)

/-- ITS FALSE NEIGHBOUR: 'it returns false'. Refute it at one input. -/
def lexBlanksWrong : ChangeSpec := { name := "lexBlanks", fn := fun _ => fun
  | [d1, d2] => { results := [.lit (.bool false)], args := [d1, d2] }
  | _ => none }
def LexBlanksWrongFalsely : Prop := lexBlanksRow.holds Try.pinned (OpenSpec.ofChange lexBlanksWrong)

/-- 'tabellionlaw08.LexCase': WHATEVER THE INPUT: true; the input reads as it did. -/
def lexCaseSpec : ChangeSpec := { name := "lexCase", fn := fun _ => fun
  | [d] => { results := [.lit (.bool true)], args := [d] }
  | _ => none }
def lexCaseRow : OpenClaim := { program := "ytonpiacpgfibpaa", sum := "f953f9775f12dd143571d8a30e58d71a4e379edb1e53a4fc3ff9bd6c1c877fc7", func := "tabellion/tabellionlaw08.LexCase", spec := "lexCase", inPlace := ["internal/bytealg.IndexByteString", "internal/abi.NoEscape", "internal/bytealg.IndexString"], named := ["internal/bytealg.MaxLen"], apart := false }
def LexCaseSaid : Prop := lexCaseRow.holds Try.pinned (OpenSpec.ofChange lexCaseSpec)

/-- ITS FALSE NEIGHBOUR: 'it returns false'. Refute it at one input. -/
def lexCaseWrong : ChangeSpec := { name := "lexCase", fn := fun _ => fun
  | [d] => { results := [.lit (.bool false)], args := [d] }
  | _ => none }
def LexCaseWrongFalsely : Prop := lexCaseRow.holds Try.pinned (OpenSpec.ofChange lexCaseWrong)

/-- 'tabellionlaw08.LexNames': WHATEVER THE INPUT: true; the input reads as it did. -/
def lexNamesSpec : ChangeSpec := { name := "lexNames", fn := fun _ => fun
  | [d] => { results := [.lit (.bool true)], args := [d] }
  | _ => none }
def lexNamesRow : OpenClaim := { program := "ytonpiacpgfibpaa", sum := "f953f9775f12dd143571d8a30e58d71a4e379edb1e53a4fc3ff9bd6c1c877fc7", func := "tabellion/tabellionlaw08.LexNames", spec := "lexNames", inPlace := ["internal/bytealg.IndexByteString", "internal/abi.NoEscape", "internal/bytealg.IndexString"], named := ["internal/bytealg.MaxLen"], apart := false }
def LexNamesSaid : Prop := lexNamesRow.holds Try.pinned (OpenSpec.ofChange lexNamesSpec)

/-- ITS FALSE NEIGHBOUR: 'it returns false'. Refute it at one input. -/
def lexNamesWrong : ChangeSpec := { name := "lexNames", fn := fun _ => fun
  | [d] => { results := [.lit (.bool false)], args := [d] }
  | _ => none }
def LexNamesWrongFalsely : Prop := lexNamesRow.holds Try.pinned (OpenSpec.ofChange lexNamesWrong)

/- THE SECOND FORM. 'bulk': how many values and letters a reading holds, each counted each time it is reached (what is shared counts as often as it is met; a slice's spare places count too). A statement '..UptoSaid' is the law's where the arguments, and the package variables that the reading takes, are together of bulk at most 1048576: NARROWER than '..Said'. Prove '..Said' where nothing that the law and all that it calls make is longer than what came in: it says more and counts as full. Else prove '..UptoSaid'. A law counts once. -/
mutual
def uptoBulk {H : Type} : DataW H → Nat
  | .lit (.string bytes) => bytes.length + 1
  | .lit _ => 1
  | .nil => 1
  | .ptr d => uptoBulk d + 1
  | .slice elems spare => uptoBulkAll elems + uptoBulkAll spare + 1
  | .agg parts => uptoBulkAll parts + 1
  | .iface _ d => uptoBulk d + 1
  | .map entries => uptoBulkEntries entries + 1
  | .held _ => 1
def uptoBulkAll {H : Type} : List (DataW H) → Nat
  | [] => 0
  | d :: r => uptoBulk d + uptoBulkAll r
def uptoBulkEntries {H : Type} : List (Lit × DataW H) → Nat
  | [] => 0
  | x :: r => uptoBulkEntry x + uptoBulkEntries r
def uptoBulkEntry {H : Type} : Lit × DataW H → Nat
  | (.string bytes, d) => bytes.length + uptoBulk d + 1
  | (_, d) => uptoBulk d + 1
 end
def uptoSmall : (H : Type) → List (DataW H) → Bool := fun _ ds => decide (uptoBulkAll ds ≤ 1048576)
def OpenSpec.upto (s : _root_.Go.ChangeSpec) : _root_.Go.OpenSpec := { _root_.Go.OpenSpec.ofChange s with cond := some uptoSmall }

/-- 'tabellionlaw08.LexNext', WHERE WHAT IT READS IS OF BULK AT MOST 1048576: true; the input reads as it did. -/
def lexNextUptoRow : OpenClaim := { program := "ytonpiacpgfibpaa", sum := "f953f9775f12dd143571d8a30e58d71a4e379edb1e53a4fc3ff9bd6c1c877fc7", func := "tabellion/tabellionlaw08.LexNext", spec := "lexNext", inPlace := ["internal/bytealg.IndexByteString", "internal/abi.NoEscape", "internal/bytealg.IndexString"], named := ["internal/bytealg.MaxLen"], apart := false, narrowed := true }
def LexNextUptoSaid : Prop := lexNextUptoRow.holds Try.pinned (OpenSpec.upto lexNextSpec)

/-- 'tabellionlaw08.LexTokens', WHERE WHAT IT READS IS OF BULK AT MOST 1048576: true; the input reads as it did. -/
def lexTokensUptoRow : OpenClaim := { program := "ytonpiacpgfibpaa", sum := "f953f9775f12dd143571d8a30e58d71a4e379edb1e53a4fc3ff9bd6c1c877fc7", func := "tabellion/tabellionlaw08.LexTokens", spec := "lexTokens", inPlace := ["internal/bytealg.IndexByteString", "internal/abi.NoEscape", "internal/bytealg.IndexString"], named := ["internal/bytealg.MaxLen"], apart := false, narrowed := true }
def LexTokensUptoSaid : Prop := lexTokensUptoRow.holds Try.pinned (OpenSpec.upto lexTokensSpec)

/-- 'tabellionlaw08.LexLies', WHERE WHAT IT READS IS OF BULK AT MOST 1048576: true; the input reads as it did. -/
def lexLiesUptoRow : OpenClaim := { program := "ytonpiacpgfibpaa", sum := "f953f9775f12dd143571d8a30e58d71a4e379edb1e53a4fc3ff9bd6c1c877fc7", func := "tabellion/tabellionlaw08.LexLies", spec := "lexLies", inPlace := ["internal/bytealg.IndexByteString", "internal/abi.NoEscape", "internal/bytealg.IndexString"], named := ["internal/bytealg.MaxLen"], apart := false, narrowed := true }
def LexLiesUptoSaid : Prop := lexLiesUptoRow.holds Try.pinned (OpenSpec.upto lexLiesSpec)

/-- 'tabellionlaw08.LexBlanks', WHERE WHAT IT READS IS OF BULK AT MOST 1048576: true; the input reads as it did. -/
def lexBlanksUptoRow : OpenClaim := { program := "ytonpiacpgfibpaa", sum := "f953f9775f12dd143571d8a30e58d71a4e379edb1e53a4fc3ff9bd6c1c877fc7", func := "tabellion/tabellionlaw08.LexBlanks", spec := "lexBlanks", inPlace := ["internal/bytealg.IndexByteString", "internal/abi.NoEscape", "internal/bytealg.IndexString"], named := ["internal/bytealg.MaxLen"], apart := false, narrowed := true }
def LexBlanksUptoSaid : Prop := lexBlanksUptoRow.holds Try.pinned (OpenSpec.upto lexBlanksSpec)

/-- 'tabellionlaw08.LexCase', WHERE WHAT IT READS IS OF BULK AT MOST 1048576: true; the input reads as it did. -/
def lexCaseUptoRow : OpenClaim := { program := "ytonpiacpgfibpaa", sum := "f953f9775f12dd143571d8a30e58d71a4e379edb1e53a4fc3ff9bd6c1c877fc7", func := "tabellion/tabellionlaw08.LexCase", spec := "lexCase", inPlace := ["internal/bytealg.IndexByteString", "internal/abi.NoEscape", "internal/bytealg.IndexString"], named := ["internal/bytealg.MaxLen"], apart := false, narrowed := true }
def LexCaseUptoSaid : Prop := lexCaseUptoRow.holds Try.pinned (OpenSpec.upto lexCaseSpec)

/-- 'tabellionlaw08.LexNames', WHERE WHAT IT READS IS OF BULK AT MOST 1048576: true; the input reads as it did. -/
def lexNamesUptoRow : OpenClaim := { program := "ytonpiacpgfibpaa", sum := "f953f9775f12dd143571d8a30e58d71a4e379edb1e53a4fc3ff9bd6c1c877fc7", func := "tabellion/tabellionlaw08.LexNames", spec := "lexNames", inPlace := ["internal/bytealg.IndexByteString", "internal/abi.NoEscape", "internal/bytealg.IndexString"], named := ["internal/bytealg.MaxLen"], apart := false, narrowed := true }
def LexNamesUptoSaid : Prop := lexNamesUptoRow.holds Try.pinned (OpenSpec.upto lexNamesSpec)

end Rows
end Go.Proofs.Ytonpiacpgfibpaa
