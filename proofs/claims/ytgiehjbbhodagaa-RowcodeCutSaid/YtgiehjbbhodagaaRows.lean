/-
  No cell of these rows narrows 'for every input' (looked for: loops, veiled, ifaces, maps, wideKeys, modest, calm, conditions, laid).
  DERIVED. THE GIVEN ROWS OF THIS SEAT. 5 by the template 'for every input the law returns true; each argument reads behind the call as it read before'; 0 by the template 'total and deterministic' (their statements: YtgiehjbbhodagaaTotals.lean).
  GIVEN WITH THE SEED: the statements are not yours to turn. If you find one false, say at which input.
  Laid BY PROGRAM, IN A SANDBOX (cutbox-rows.mjs): the forced cells as the released guide's own fill.sh prints them over the translation 05db7f2081c173b0… (all of the seat's roots in one cut). By AI agents, Wed Nov 11 2026. No macro, syntax, notation, axiom, sorry.
-/
import Derived.Test.YtgiehjbbhodagaaChecked
import GoSem.Claim
import GoSem.ClaimJoined
import GoSem.ClaimMapViews
import Derived.JoinedTies
import Derived.KernelRfl
namespace Go.Proofs.Ytgiehjbbhodagaa
/- THE CELL 'sum', in the pinned program and in every row, IS THE sha256 OF THE DUMP (.gsa) THAT YtgiehjbbhodagaaProg.lean LOADS. Nothing in Lean hashes anything: it is a label: what it is worth is what the hold of that sum in a sandbox is worth. -/
noncomputable def Try.pinned : Pinned := { name := "ytgiehjbbhodagaa", sum := "05db7f2081c173b06df055e917575e51d3c9b0f86a9943382922fafa250a57b6", checked := Try.checked }
namespace Rows
def none {H : Type} : Left H := { results := [], args := [] }

/-- 'tabellionlaw06.RowcodePuts': WHATEVER THE INPUT: true; the input reads as it did. -/
def rowcodePutsSpec : ChangeSpec := { name := "rowcodePuts", fn := fun _ => fun
  | [d] => { results := [.lit (.bool true)], args := [d] }
  | _ => none }
def rowcodePutsRow : OpenClaim := { program := "ytgiehjbbhodagaa", sum := "05db7f2081c173b06df055e917575e51d3c9b0f86a9943382922fafa250a57b6", func := "tabellion/tabellionlaw06.RowcodePuts", spec := "rowcodePuts", inPlace := ["internal/abi.NoEscape"], unfollowed := true, recurses := true, apart := false }
def RowcodePutsSaid : Prop := rowcodePutsRow.holds Try.pinned (OpenSpec.ofChange rowcodePutsSpec)

/-- ITS FALSE NEIGHBOUR: 'it returns false'. Refute it at one input. -/
def rowcodePutsWrong : ChangeSpec := { name := "rowcodePuts", fn := fun _ => fun
  | [d] => { results := [.lit (.bool false)], args := [d] }
  | _ => none }
def RowcodePutsWrongFalsely : Prop := rowcodePutsRow.holds Try.pinned (OpenSpec.ofChange rowcodePutsWrong)

/-- 'tabellionlaw06.RowcodeOne': WHATEVER THE INPUT: true; the input reads as it did. -/
def rowcodeOneSpec : ChangeSpec := { name := "rowcodeOne", fn := fun _ => fun
  | [d] => { results := [.lit (.bool true)], args := [d] }
  | _ => none }
def rowcodeOneRow : OpenClaim := { program := "ytgiehjbbhodagaa", sum := "05db7f2081c173b06df055e917575e51d3c9b0f86a9943382922fafa250a57b6", func := "tabellion/tabellionlaw06.RowcodeOne", spec := "rowcodeOne", inPlace := ["internal/abi.NoEscape"], unfollowed := true, recurses := true, apart := false }
def RowcodeOneSaid : Prop := rowcodeOneRow.holds Try.pinned (OpenSpec.ofChange rowcodeOneSpec)

/-- ITS FALSE NEIGHBOUR: 'it returns false'. Refute it at one input. -/
def rowcodeOneWrong : ChangeSpec := { name := "rowcodeOne", fn := fun _ => fun
  | [d] => { results := [.lit (.bool false)], args := [d] }
  | _ => none }
def RowcodeOneWrongFalsely : Prop := rowcodeOneRow.holds Try.pinned (OpenSpec.ofChange rowcodeOneWrong)

/-- 'tabellionlaw06.RowcodeCut': WHATEVER THE INPUT: true; the input reads as it did. -/
def rowcodeCutSpec : ChangeSpec := { name := "rowcodeCut", fn := fun _ => fun
  | [d1, d2, d3] => { results := [.lit (.bool true)], args := [d1, d2, d3] }
  | _ => none }
def rowcodeCutRow : OpenClaim := { program := "ytgiehjbbhodagaa", sum := "05db7f2081c173b06df055e917575e51d3c9b0f86a9943382922fafa250a57b6", func := "tabellion/tabellionlaw06.RowcodeCut", spec := "rowcodeCut", inPlace := ["internal/abi.NoEscape"], unfollowed := true, recurses := true, apart := false }
def RowcodeCutSaid : Prop := rowcodeCutRow.holds Try.pinned (OpenSpec.ofChange rowcodeCutSpec)

/-- ITS FALSE NEIGHBOUR: 'it returns false'. Refute it at one input. -/
def rowcodeCutWrong : ChangeSpec := { name := "rowcodeCut", fn := fun _ => fun
  | [d1, d2, d3] => { results := [.lit (.bool false)], args := [d1, d2, d3] }
  | _ => none }
def RowcodeCutWrongFalsely : Prop := rowcodeCutRow.holds Try.pinned (OpenSpec.ofChange rowcodeCutWrong)

/-- 'tabellionlaw06.RowcodeGets': WHATEVER THE INPUT: true; the input reads as it did. -/
def rowcodeGetsSpec : ChangeSpec := { name := "rowcodeGets", fn := fun _ => fun
  | [d] => { results := [.lit (.bool true)], args := [d] }
  | _ => none }
def rowcodeGetsRow : OpenClaim := { program := "ytgiehjbbhodagaa", sum := "05db7f2081c173b06df055e917575e51d3c9b0f86a9943382922fafa250a57b6", func := "tabellion/tabellionlaw06.RowcodeGets", spec := "rowcodeGets", inPlace := ["internal/abi.NoEscape", "internal/bytealg.abigen_runtime_cmpstring"], unfollowed := true, recurses := true, apart := false }
def RowcodeGetsSaid : Prop := rowcodeGetsRow.holds Try.pinned (OpenSpec.ofChange rowcodeGetsSpec)

/-- ITS FALSE NEIGHBOUR: 'it returns false'. Refute it at one input. -/
def rowcodeGetsWrong : ChangeSpec := { name := "rowcodeGets", fn := fun _ => fun
  | [d] => { results := [.lit (.bool false)], args := [d] }
  | _ => none }
def RowcodeGetsWrongFalsely : Prop := rowcodeGetsRow.holds Try.pinned (OpenSpec.ofChange rowcodeGetsWrong)

/-- 'tabellionlaw06.RowcodeBack': WHATEVER THE INPUT: true; the input reads as it did. -/
def rowcodeBackSpec : ChangeSpec := { name := "rowcodeBack", fn := fun _ => fun
  | [d1, d2] => { results := [.lit (.bool true)], args := [d1, d2] }
  | _ => none }
def rowcodeBackRow : OpenClaim := { program := "ytgiehjbbhodagaa", sum := "05db7f2081c173b06df055e917575e51d3c9b0f86a9943382922fafa250a57b6", func := "tabellion/tabellionlaw06.RowcodeBack", spec := "rowcodeBack", inPlace := ["internal/abi.NoEscape", "internal/bytealg.abigen_runtime_cmpstring"], unfollowed := true, recurses := true, apart := false }
def RowcodeBackSaid : Prop := rowcodeBackRow.holds Try.pinned (OpenSpec.ofChange rowcodeBackSpec)

/-- ITS FALSE NEIGHBOUR: 'it returns false'. Refute it at one input. -/
def rowcodeBackWrong : ChangeSpec := { name := "rowcodeBack", fn := fun _ => fun
  | [d1, d2] => { results := [.lit (.bool false)], args := [d1, d2] }
  | _ => none }
def RowcodeBackWrongFalsely : Prop := rowcodeBackRow.holds Try.pinned (OpenSpec.ofChange rowcodeBackWrong)

/- THE SECOND FORM. 'bulk': how many values and letters a reading holds, each counted each time it is reached (what is shared counts as often as it is met; a slice's spare places count too). A statement '..UptoSaid' is the law's where the arguments, and the package variables that the reading takes, are together of bulk at most 1048576: NARROWER than '..Said'. Prove '..Said' where nothing that the law and all that it calls make is longer than what came in: it says more and counts as full. Else prove '..UptoSaid'. A law counts once. -/
mutual
def uptoBulk {H : Type} : DataW H → Nat
  | .lit (.string bytes) => bytes.length + 1
  | .lit _ => 1
  | .nil => 1
  | .ptr d => uptoBulk d + 1
  | .slice elems spare => uptoBulkAll elems + uptoBulkAll spare + 1
  | .agg parts => uptoBulkAll parts + 1
  | .iface _ d => uptoBulk d + 1
  | .map entries => uptoBulkEntries entries + 1
  | .held _ => 1
def uptoBulkAll {H : Type} : List (DataW H) → Nat
  | [] => 0
  | d :: r => uptoBulk d + uptoBulkAll r
def uptoBulkEntries {H : Type} : List (Lit × DataW H) → Nat
  | [] => 0
  | x :: r => uptoBulkEntry x + uptoBulkEntries r
def uptoBulkEntry {H : Type} : Lit × DataW H → Nat
  | (.string bytes, d) => bytes.length + uptoBulk d + 1
  | (_, d) => uptoBulk d + 1
 end
def uptoSmall : (H : Type) → List (DataW H) → Bool := fun _ ds => decide (uptoBulkAll ds ≤ 1048576)
def OpenSpec.upto (s : _root_.Go.ChangeSpec) : _root_.Go.OpenSpec := { _root_.Go.OpenSpec.ofChange s with cond := some uptoSmall }

/-- 'tabellionlaw06.RowcodePuts', WHERE WHAT IT READS IS OF BULK AT MOST 1048576: true; the input reads as it did. -/
def rowcodePutsUptoRow : OpenClaim := { program := "ytgiehjbbhodagaa", sum := "05db7f2081c173b06df055e917575e51d3c9b0f86a9943382922fafa250a57b6", func := "tabellion/tabellionlaw06.RowcodePuts", spec := "rowcodePuts", inPlace := ["internal/abi.NoEscape"], unfollowed := true, recurses := true, apart := false, narrowed := true }
def RowcodePutsUptoSaid : Prop := rowcodePutsUptoRow.holds Try.pinned (OpenSpec.upto rowcodePutsSpec)

/-- 'tabellionlaw06.RowcodeOne', WHERE WHAT IT READS IS OF BULK AT MOST 1048576: true; the input reads as it did. -/
def rowcodeOneUptoRow : OpenClaim := { program := "ytgiehjbbhodagaa", sum := "05db7f2081c173b06df055e917575e51d3c9b0f86a9943382922fafa250a57b6", func := "tabellion/tabellionlaw06.RowcodeOne", spec := "rowcodeOne", inPlace := ["internal/abi.NoEscape"], unfollowed := true, recurses := true, apart := false, narrowed := true }
def RowcodeOneUptoSaid : Prop := rowcodeOneUptoRow.holds Try.pinned (OpenSpec.upto rowcodeOneSpec)

/-- 'tabellionlaw06.RowcodeCut', WHERE WHAT IT READS IS OF BULK AT MOST 1048576: true; the input reads as it did. -/
def rowcodeCutUptoRow : OpenClaim := { program := "ytgiehjbbhodagaa", sum := "05db7f2081c173b06df055e917575e51d3c9b0f86a9943382922fafa250a57b6", func := "tabellion/tabellionlaw06.RowcodeCut", spec := "rowcodeCut", inPlace := ["internal/abi.NoEscape"], unfollowed := true, recurses := true, apart := false, narrowed := true }
def RowcodeCutUptoSaid : Prop := rowcodeCutUptoRow.holds Try.pinned (OpenSpec.upto rowcodeCutSpec)

/-- 'tabellionlaw06.RowcodeGets', WHERE WHAT IT READS IS OF BULK AT MOST 1048576: true; the input reads as it did. -/
def rowcodeGetsUptoRow : OpenClaim := { program := "ytgiehjbbhodagaa", sum := "05db7f2081c173b06df055e917575e51d3c9b0f86a9943382922fafa250a57b6", func := "tabellion/tabellionlaw06.RowcodeGets", spec := "rowcodeGets", inPlace := ["internal/abi.NoEscape", "internal/bytealg.abigen_runtime_cmpstring"], unfollowed := true, recurses := true, apart := false, narrowed := true }
def RowcodeGetsUptoSaid : Prop := rowcodeGetsUptoRow.holds Try.pinned (OpenSpec.upto rowcodeGetsSpec)

/-- 'tabellionlaw06.RowcodeBack', WHERE WHAT IT READS IS OF BULK AT MOST 1048576: true; the input reads as it did. -/
def rowcodeBackUptoRow : OpenClaim := { program := "ytgiehjbbhodagaa", sum := "05db7f2081c173b06df055e917575e51d3c9b0f86a9943382922fafa250a57b6", func := "tabellion/tabellionlaw06.RowcodeBack", spec := "rowcodeBack", inPlace := ["internal/abi.NoEscape", "internal/bytealg.abigen_runtime_cmpstring"], unfollowed := true, recurses := true, apart := false, narrowed := true }
def RowcodeBackUptoSaid : Prop := rowcodeBackUptoRow.holds Try.pinned (OpenSpec.upto rowcodeBackSpec)

end Rows
end Go.Proofs.Ytgiehjbbhodagaa
