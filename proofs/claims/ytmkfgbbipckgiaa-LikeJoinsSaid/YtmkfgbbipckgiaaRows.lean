/-
  No cell of these rows narrows 'for every input' (looked for: loops, veiled, ifaces, maps, wideKeys, modest, calm, conditions, laid).
  DERIVED. THE GIVEN ROWS OF THIS SEAT. 4 by the template 'for every input the law returns true; each argument reads behind the call as it read before'; 0 by the template 'total and deterministic' (their statements: YtmkfgbbipckgiaaTotals.lean).
  GIVEN WITH THE SEED: the statements are not yours to turn. If you find one false, say at which input.
  Laid BY PROGRAM, IN A SANDBOX (cutbox-rows.mjs): the forced cells as the released guide's own fill.sh prints them over the translation 152cb4541760ee15… (all of the seat's roots in one cut). By AI agents, Wed Nov 11 2026. No macro, syntax, notation, axiom, sorry.
-/
import Derived.Test.YtmkfgbbipckgiaaChecked
import GoSem.Claim
import GoSem.ClaimJoined
import GoSem.ClaimMapViews
import Derived.JoinedTies
import Derived.KernelRfl
namespace Go.Proofs.Ytmkfgbbipckgiaa
/- THE CELL 'sum', in the pinned program and in every row, IS THE sha256 OF THE DUMP (.gsa) THAT YtmkfgbbipckgiaaProg.lean LOADS. Nothing in Lean hashes anything: it is a label: what it is worth is what the hold of that sum in a sandbox is worth. -/
noncomputable def Try.pinned : Pinned := { name := "ytmkfgbbipckgiaa", sum := "152cb4541760ee151cd99d95d423b7c20be96d3d67ed5e09f3be6d83282ce7c7", checked := Try.checked }
namespace Rows
def none {H : Type} : Left H := { results := [], args := [] }

/-- 'tabellionlaw04.LikeSays': WHATEVER THE INPUT: true; the input reads as it did. -/
def likeSaysSpec : ChangeSpec := { name := "likeSays", fn := fun _ => fun
  | [d1, d2] => { results := [.lit (.bool true)], args := [d1, d2] }
  | _ => none }
def likeSaysRow : OpenClaim := { program := "ytmkfgbbipckgiaa", sum := "152cb4541760ee151cd99d95d423b7c20be96d3d67ed5e09f3be6d83282ce7c7", func := "tabellion/tabellionlaw04.LikeSays", spec := "likeSays", inPlace := ["internal/bytealg.IndexByteString", "internal/abi.NoEscape"], apart := false }
def LikeSaysSaid : Prop := likeSaysRow.holds Try.pinned (OpenSpec.ofChange likeSaysSpec)

/-- ITS FALSE NEIGHBOUR: 'it returns false'. Refute it at one input. -/
def likeSaysWrong : ChangeSpec := { name := "likeSays", fn := fun _ => fun
  | [d1, d2] => { results := [.lit (.bool false)], args := [d1, d2] }
  | _ => none }
def LikeSaysWrongFalsely : Prop := likeSaysRow.holds Try.pinned (OpenSpec.ofChange likeSaysWrong)

/-- 'tabellionlaw04.LikeQuotes': WHATEVER THE INPUT: true; the input reads as it did. -/
def likeQuotesSpec : ChangeSpec := { name := "likeQuotes", fn := fun _ => fun
  | [d1, d2] => { results := [.lit (.bool true)], args := [d1, d2] }
  | _ => none }
def likeQuotesRow : OpenClaim := { program := "ytmkfgbbipckgiaa", sum := "152cb4541760ee151cd99d95d423b7c20be96d3d67ed5e09f3be6d83282ce7c7", func := "tabellion/tabellionlaw04.LikeQuotes", spec := "likeQuotes", inPlace := ["internal/bytealg.IndexByteString", "internal/abi.NoEscape"], apart := false }
def LikeQuotesSaid : Prop := likeQuotesRow.holds Try.pinned (OpenSpec.ofChange likeQuotesSpec)

/-- ITS FALSE NEIGHBOUR: 'it returns false'. Refute it at one input. -/
def likeQuotesWrong : ChangeSpec := { name := "likeQuotes", fn := fun _ => fun
  | [d1, d2] => { results := [.lit (.bool false)], args := [d1, d2] }
  | _ => none }
def LikeQuotesWrongFalsely : Prop := likeQuotesRow.holds Try.pinned (OpenSpec.ofChange likeQuotesWrong)

/-- 'tabellionlaw04.LikeJoins': WHATEVER THE INPUT: true; the input reads as it did. -/
def likeJoinsSpec : ChangeSpec := { name := "likeJoins", fn := fun _ => fun
  | [d1, d2] => { results := [.lit (.bool true)], args := [d1, d2] }
  | _ => none }
def likeJoinsRow : OpenClaim := { program := "ytmkfgbbipckgiaa", sum := "152cb4541760ee151cd99d95d423b7c20be96d3d67ed5e09f3be6d83282ce7c7", func := "tabellion/tabellionlaw04.LikeJoins", spec := "likeJoins", inPlace := ["internal/bytealg.IndexByteString", "internal/abi.NoEscape"], apart := false }
def LikeJoinsSaid : Prop := likeJoinsRow.holds Try.pinned (OpenSpec.ofChange likeJoinsSpec)

/-- ITS FALSE NEIGHBOUR: 'it returns false'. Refute it at one input. -/
def likeJoinsWrong : ChangeSpec := { name := "likeJoins", fn := fun _ => fun
  | [d1, d2] => { results := [.lit (.bool false)], args := [d1, d2] }
  | _ => none }
def LikeJoinsWrongFalsely : Prop := likeJoinsRow.holds Try.pinned (OpenSpec.ofChange likeJoinsWrong)

/-- 'tabellionlaw04.LikeBegins': WHATEVER THE INPUT: true; the input reads as it did. -/
def likeBeginsSpec : ChangeSpec := { name := "likeBegins", fn := fun _ => fun
  | [d1, d2, d3] => { results := [.lit (.bool true)], args := [d1, d2, d3] }
  | _ => none }
def likeBeginsRow : OpenClaim := { program := "ytmkfgbbipckgiaa", sum := "152cb4541760ee151cd99d95d423b7c20be96d3d67ed5e09f3be6d83282ce7c7", func := "tabellion/tabellionlaw04.LikeBegins", spec := "likeBegins", inPlace := ["internal/bytealg.IndexByteString", "internal/abi.NoEscape", "internal/bytealg.MakeNoZero"], apart := false }
def LikeBeginsSaid : Prop := likeBeginsRow.holds Try.pinned (OpenSpec.ofChange likeBeginsSpec)

/-- ITS FALSE NEIGHBOUR: 'it returns false'. Refute it at one input. -/
def likeBeginsWrong : ChangeSpec := { name := "likeBegins", fn := fun _ => fun
  | [d1, d2, d3] => { results := [.lit (.bool false)], args := [d1, d2, d3] }
  | _ => none }
def LikeBeginsWrongFalsely : Prop := likeBeginsRow.holds Try.pinned (OpenSpec.ofChange likeBeginsWrong)

/- THE SECOND FORM. 'bulk': how many values and letters a reading holds, each counted each time it is reached (what is shared counts as often as it is met; a slice's spare places count too). A statement '..UptoSaid' is the law's where the arguments, and the package variables that the reading takes, are together of bulk at most 1048576: NARROWER than '..Said'. Prove '..Said' where nothing that the law and all that it calls make is longer than what came in: it says more and counts as full. Else prove '..UptoSaid'. A law counts once. -/
mutual
def uptoBulk {H : Type} : DataW H → Nat
  | .lit (.string bytes) => bytes.length + 1
  | .lit _ => 1
  | .nil => 1
  | .ptr d => uptoBulk d + 1
  | .slice elems spare => uptoBulkAll elems + uptoBulkAll spare + 1
  | .agg parts => uptoBulkAll parts + 1
  | .iface _ d => uptoBulk d + 1
  | .map entries => uptoBulkEntries entries + 1
  | .held _ => 1
def uptoBulkAll {H : Type} : List (DataW H) → Nat
  | [] => 0
  | d :: r => uptoBulk d + uptoBulkAll r
def uptoBulkEntries {H : Type} : List (Lit × DataW H) → Nat
  | [] => 0
  | x :: r => uptoBulkEntry x + uptoBulkEntries r
def uptoBulkEntry {H : Type} : Lit × DataW H → Nat
  | (.string bytes, d) => bytes.length + uptoBulk d + 1
  | (_, d) => uptoBulk d + 1
 end
def uptoSmall : (H : Type) → List (DataW H) → Bool := fun _ ds => decide (uptoBulkAll ds ≤ 1048576)
def OpenSpec.upto (s : _root_.Go.ChangeSpec) : _root_.Go.OpenSpec := { _root_.Go.OpenSpec.ofChange s with cond := some uptoSmall }

/-- 'tabellionlaw04.LikeSays', WHERE WHAT IT READS IS OF BULK AT MOST 1048576: true; the input reads as it did. -/
def likeSaysUptoRow : OpenClaim := { program := "ytmkfgbbipckgiaa", sum := "152cb4541760ee151cd99d95d423b7c20be96d3d67ed5e09f3be6d83282ce7c7", func := "tabellion/tabellionlaw04.LikeSays", spec := "likeSays", inPlace := ["internal/bytealg.IndexByteString", "internal/abi.NoEscape"], apart := false, narrowed := true }
def LikeSaysUptoSaid : Prop := likeSaysUptoRow.holds Try.pinned (OpenSpec.upto likeSaysSpec)

/-- 'tabellionlaw04.LikeQuotes', WHERE WHAT IT READS IS OF BULK AT MOST 1048576: true; the input reads as it did. -/
def likeQuotesUptoRow : OpenClaim := { program := "ytmkfgbbipckgiaa", sum := "152cb4541760ee151cd99d95d423b7c20be96d3d67ed5e09f3be6d83282ce7c7", func := "tabellion/tabellionlaw04.LikeQuotes", spec := "likeQuotes", inPlace := ["internal/bytealg.IndexByteString", "internal/abi.NoEscape"], apart := false, narrowed := true }
def LikeQuotesUptoSaid : Prop := likeQuotesUptoRow.holds Try.pinned (OpenSpec.upto likeQuotesSpec)

/-- 'tabellionlaw04.LikeJoins', WHERE WHAT IT READS IS OF BULK AT MOST 1048576: true; the input reads as it did. -/
def likeJoinsUptoRow : OpenClaim := { program := "ytmkfgbbipckgiaa", sum := "152cb4541760ee151cd99d95d423b7c20be96d3d67ed5e09f3be6d83282ce7c7", func := "tabellion/tabellionlaw04.LikeJoins", spec := "likeJoins", inPlace := ["internal/bytealg.IndexByteString", "internal/abi.NoEscape"], apart := false, narrowed := true }
def LikeJoinsUptoSaid : Prop := likeJoinsUptoRow.holds Try.pinned (OpenSpec.upto likeJoinsSpec)

/-- 'tabellionlaw04.LikeBegins', WHERE WHAT IT READS IS OF BULK AT MOST 1048576: true; the input reads as it did. -/
def likeBeginsUptoRow : OpenClaim := { program := "ytmkfgbbipckgiaa", sum := "152cb4541760ee151cd99d95d423b7c20be96d3d67ed5e09f3be6d83282ce7c7", func := "tabellion/tabellionlaw04.LikeBegins", spec := "likeBegins", inPlace := ["internal/bytealg.IndexByteString", "internal/abi.NoEscape", "internal/bytealg.MakeNoZero"], apart := false, narrowed := true }
def LikeBeginsUptoSaid : Prop := likeBeginsUptoRow.holds Try.pinned (OpenSpec.upto likeBeginsSpec)

end Rows
end Go.Proofs.Ytmkfgbbipckgiaa
