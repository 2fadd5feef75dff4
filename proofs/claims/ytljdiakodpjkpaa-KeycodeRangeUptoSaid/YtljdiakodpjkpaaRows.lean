/-
  No cell of these rows narrows 'for every input' (looked for: loops, veiled, ifaces, maps, wideKeys, modest, calm, conditions, laid).
  DERIVED. THE GIVEN ROWS OF THIS SEAT. 5 by the template 'for every input the law returns true; each argument reads behind the call as it read before'; 0 by the template 'total and deterministic' (their statements: YtljdiakodpjkpaaTotals.lean).
  GIVEN WITH THE SEED: the statements are not yours to turn. If you find one false, say at which input.
  Laid BY PROGRAM, IN A SANDBOX (cutbox-rows.mjs): the forced cells as the released guide's own fill.sh prints them over the translation 1ca1295c8f0f930b… (all of the seat's roots in one cut). By AI agents, Wed Nov 11 2026. No macro, syntax, notation, axiom, sorry.
-/
import Derived.Test.YtljdiakodpjkpaaChecked
import GoSem.Claim
import GoSem.ClaimJoined
import GoSem.ClaimMapViews
import Derived.JoinedTies
import Derived.KernelRfl
namespace Go.Proofs.Ytljdiakodpjkpaa
/- THE CELL 'sum', in the pinned program and in every row, IS THE sha256 OF THE DUMP (.gsa) THAT YtljdiakodpjkpaaProg.lean LOADS. Nothing in Lean hashes anything: it is a label: what it is worth is what the hold of that sum in a sandbox is worth. -/
noncomputable def Try.pinned : Pinned := { name := "ytljdiakodpjkpaa", sum := "1ca1295c8f0f930b31a15f047b2252f4e5abaab6f6a6fa680327dbb993fba098", checked := Try.checked }
namespace Rows
def none {H : Type} : Left H := { results := [], args := [] }

/-- 'tabellionlaw07.KeycodeAfter': WHATEVER THE INPUT: true; the input reads as it did. -/
def keycodeAfterSpec : ChangeSpec := { name := "keycodeAfter", fn := fun _ => fun
  | [d1, d2] => { results := [.lit (.bool true)], args := [d1, d2] }
  | _ => none }
def keycodeAfterRow : OpenClaim := { program := "ytljdiakodpjkpaa", sum := "1ca1295c8f0f930b31a15f047b2252f4e5abaab6f6a6fa680327dbb993fba098", func := "tabellion/tabellionlaw07.KeycodeAfter", spec := "keycodeAfter", inPlace := ["internal/bytealg.abigen_runtime_cmpstring", "internal/bytealg.IndexByteString", "internal/bytealg.IndexString", "internal/abi.NoEscape"], unfollowed := true, recurses := true, named := ["internal/bytealg.MaxLen"], apart := false }
def KeycodeAfterSaid : Prop := keycodeAfterRow.holds Try.pinned (OpenSpec.ofChange keycodeAfterSpec)

/-- ITS FALSE NEIGHBOUR: 'it returns false'. Refute it at one input. -/
def keycodeAfterWrong : ChangeSpec := { name := "keycodeAfter", fn := fun _ => fun
  | [d1, d2] => { results := [.lit (.bool false)], args := [d1, d2] }
  | _ => none }
def KeycodeAfterWrongFalsely : Prop := keycodeAfterRow.holds Try.pinned (OpenSpec.ofChange keycodeAfterWrong)

/-- 'tabellionlaw07.KeycodeSays': WHATEVER THE INPUT: true; the input reads as it did. -/
def keycodeSaysSpec : ChangeSpec := { name := "keycodeSays", fn := fun _ => fun
  | [d1, d2] => { results := [.lit (.bool true)], args := [d1, d2] }
  | _ => none }
def keycodeSaysRow : OpenClaim := { program := "ytljdiakodpjkpaa", sum := "1ca1295c8f0f930b31a15f047b2252f4e5abaab6f6a6fa680327dbb993fba098", func := "tabellion/tabellionlaw07.KeycodeSays", spec := "keycodeSays", inPlace := ["internal/bytealg.IndexByteString", "internal/bytealg.IndexString", "internal/abi.NoEscape", "internal/bytealg.abigen_runtime_cmpstring"], unfollowed := true, recurses := true, named := ["internal/bytealg.MaxLen"], apart := false }
def KeycodeSaysSaid : Prop := keycodeSaysRow.holds Try.pinned (OpenSpec.ofChange keycodeSaysSpec)

/-- ITS FALSE NEIGHBOUR: 'it returns false'. Refute it at one input. -/
def keycodeSaysWrong : ChangeSpec := { name := "keycodeSays", fn := fun _ => fun
  | [d1, d2] => { results := [.lit (.bool false)], args := [d1, d2] }
  | _ => none }
def KeycodeSaysWrongFalsely : Prop := keycodeSaysRow.holds Try.pinned (OpenSpec.ofChange keycodeSaysWrong)

/-- 'tabellionlaw07.KeycodeBack': WHATEVER THE INPUT: true; the input reads as it did. -/
def keycodeBackSpec : ChangeSpec := { name := "keycodeBack", fn := fun _ => fun
  | [d1, d2, d3] => { results := [.lit (.bool true)], args := [d1, d2, d3] }
  | _ => none }
def keycodeBackRow : OpenClaim := { program := "ytljdiakodpjkpaa", sum := "1ca1295c8f0f930b31a15f047b2252f4e5abaab6f6a6fa680327dbb993fba098", func := "tabellion/tabellionlaw07.KeycodeBack", spec := "keycodeBack", inPlace := ["internal/abi.NoEscape", "internal/bytealg.IndexByteString", "internal/bytealg.IndexString", "internal/bytealg.abigen_runtime_cmpstring"], unfollowed := true, recurses := true, named := ["internal/bytealg.MaxLen"], apart := false }
def KeycodeBackSaid : Prop := keycodeBackRow.holds Try.pinned (OpenSpec.ofChange keycodeBackSpec)

/-- ITS FALSE NEIGHBOUR: 'it returns false'. Refute it at one input. -/
def keycodeBackWrong : ChangeSpec := { name := "keycodeBack", fn := fun _ => fun
  | [d1, d2, d3] => { results := [.lit (.bool false)], args := [d1, d2, d3] }
  | _ => none }
def KeycodeBackWrongFalsely : Prop := keycodeBackRow.holds Try.pinned (OpenSpec.ofChange keycodeBackWrong)

/-- 'tabellionlaw07.KeycodeRises': WHATEVER THE INPUT: true; the input reads as it did. -/
def keycodeRisesSpec : ChangeSpec := { name := "keycodeRises", fn := fun _ => fun
  | [d1, d2] => { results := [.lit (.bool true)], args := [d1, d2] }
  | _ => none }
def keycodeRisesRow : OpenClaim := { program := "ytljdiakodpjkpaa", sum := "1ca1295c8f0f930b31a15f047b2252f4e5abaab6f6a6fa680327dbb993fba098", func := "tabellion/tabellionlaw07.KeycodeRises", spec := "keycodeRises", inPlace := ["internal/bytealg.IndexByteString", "internal/bytealg.IndexString", "internal/abi.NoEscape", "internal/bytealg.abigen_runtime_cmpstring"], unfollowed := true, recurses := true, named := ["internal/bytealg.MaxLen"], apart := false }
def KeycodeRisesSaid : Prop := keycodeRisesRow.holds Try.pinned (OpenSpec.ofChange keycodeRisesSpec)

/-- ITS FALSE NEIGHBOUR: 'it returns false'. Refute it at one input. -/
def keycodeRisesWrong : ChangeSpec := { name := "keycodeRises", fn := fun _ => fun
  | [d1, d2] => { results := [.lit (.bool false)], args := [d1, d2] }
  | _ => none }
def KeycodeRisesWrongFalsely : Prop := keycodeRisesRow.holds Try.pinned (OpenSpec.ofChange keycodeRisesWrong)

/-- 'tabellionlaw07.KeycodeRange': WHATEVER THE INPUT: true; the input reads as it did. -/
def keycodeRangeSpec : ChangeSpec := { name := "keycodeRange", fn := fun _ => fun
  | [d1, d2, d3] => { results := [.lit (.bool true)], args := [d1, d2, d3] }
  | _ => none }
def keycodeRangeRow : OpenClaim := { program := "ytljdiakodpjkpaa", sum := "1ca1295c8f0f930b31a15f047b2252f4e5abaab6f6a6fa680327dbb993fba098", func := "tabellion/tabellionlaw07.KeycodeRange", spec := "keycodeRange", inPlace := ["internal/bytealg.IndexByteString", "internal/bytealg.IndexString", "internal/abi.NoEscape", "internal/bytealg.abigen_runtime_cmpstring"], unfollowed := true, recurses := true, named := ["internal/bytealg.MaxLen"], apart := false }
def KeycodeRangeSaid : Prop := keycodeRangeRow.holds Try.pinned (OpenSpec.ofChange keycodeRangeSpec)

/-- ITS FALSE NEIGHBOUR: 'it returns false'. Refute it at one input. -/
def keycodeRangeWrong : ChangeSpec := { name := "keycodeRange", fn := fun _ => fun
  | [d1, d2, d3] => { results := [.lit (.bool false)], args := [d1, d2, d3] }
  | _ => none }
def KeycodeRangeWrongFalsely : Prop := keycodeRangeRow.holds Try.pinned (OpenSpec.ofChange keycodeRangeWrong)

/- THE SECOND FORM. 'bulk': how many values and letters a reading holds, each counted each time it is reached (what is shared counts as often as it is met; a slice's spare places count too). A statement '..UptoSaid' is the law's where the arguments, and the package variables that the reading takes, are together of bulk at most 1048576: NARROWER than '..Said'. Prove '..Said' where nothing that the law and all that it calls make is longer than what came in: it says more and counts as full. Else prove '..UptoSaid'. A law counts once. -/
mutual
def uptoBulk {H : Type} : DataW H → Nat
  | .lit (.string bytes) => bytes.length + 1
  | .lit _ => 1
  | .nil => 1
  | .ptr d => uptoBulk d + 1
  | .slice elems spare => uptoBulkAll elems + uptoBulkAll spare + 1
  | .agg parts => uptoBulkAll parts + 1
  | .iface _ d => uptoBulk d + 1
  | .map entries => uptoBulkEntries entries + 1
  | .held _ => 1
def uptoBulkAll {H : Type} : List (DataW H) → Nat
  | [] => 0
  | d :: r => uptoBulk d + uptoBulkAll r
def uptoBulkEntries {H : Type} : List (Lit × DataW H) → Nat
  | [] => 0
  | x :: r => uptoBulkEntry x + uptoBulkEntries r
def uptoBulkEntry {H : Type} : Lit × DataW H → Nat
  | (.string bytes, d) => bytes.length + uptoBulk d + 1
  | (_, d) => uptoBulk d + 1
 end
def uptoSmall : (H : Type) → List (DataW H) → Bool := fun _ ds => decide (uptoBulkAll ds ≤ 1048576)
def OpenSpec.upto (s : _root_.Go.ChangeSpec) : _root_.Go.OpenSpec := { _root_.Go.OpenSpec.ofChange s with cond := some uptoSmall }

/-- 'tabellionlaw07.KeycodeAfter', WHERE WHAT IT READS IS OF BULK AT MOST 1048576: true; the input reads as it did. -/
def keycodeAfterUptoRow : OpenClaim := { program := "ytljdiakodpjkpaa", sum := "1ca1295c8f0f930b31a15f047b2252f4e5abaab6f6a6fa680327dbb993fba098", func := "tabellion/tabellionlaw07.KeycodeAfter", spec := "keycodeAfter", inPlace := ["internal/bytealg.abigen_runtime_cmpstring", "internal/bytealg.IndexByteString", "internal/bytealg.IndexString", "internal/abi.NoEscape"], unfollowed := true, recurses := true, named := ["internal/bytealg.MaxLen"], apart := false, narrowed := true }
def KeycodeAfterUptoSaid : Prop := keycodeAfterUptoRow.holds Try.pinned (OpenSpec.upto keycodeAfterSpec)

/-- 'tabellionlaw07.KeycodeSays', WHERE WHAT IT READS IS OF BULK AT MOST 1048576: true; the input reads as it did. -/
def keycodeSaysUptoRow : OpenClaim := { program := "ytljdiakodpjkpaa", sum := "1ca1295c8f0f930b31a15f047b2252f4e5abaab6f6a6fa680327dbb993fba098", func := "tabellion/tabellionlaw07.KeycodeSays", spec := "keycodeSays", inPlace := ["internal/bytealg.IndexByteString", "internal/bytealg.IndexString", "internal/abi.NoEscape", "internal/bytealg.abigen_runtime_cmpstring"], unfollowed := true, recurses := true, named := ["internal/bytealg.MaxLen"], apart := false, narrowed := true }
def KeycodeSaysUptoSaid : Prop := keycodeSaysUptoRow.holds Try.pinned (OpenSpec.upto keycodeSaysSpec)

/-- 'tabellionlaw07.KeycodeBack', WHERE WHAT IT READS IS OF BULK AT MOST 1048576: true; the input reads as it did. -/
def keycodeBackUptoRow : OpenClaim := { program := "ytljdiakodpjkpaa", sum := "1ca1295c8f0f930b31a15f047b2252f4e5abaab6f6a6fa680327dbb993fba098", func := "tabellion/tabellionlaw07.KeycodeBack", spec := "keycodeBack", inPlace := ["internal/abi.NoEscape", "internal/bytealg.IndexByteString", "internal/bytealg.IndexString", "internal/bytealg.abigen_runtime_cmpstring"], unfollowed := true, recurses := true, named := ["internal/bytealg.MaxLen"], apart := false, narrowed := true }
def KeycodeBackUptoSaid : Prop := keycodeBackUptoRow.holds Try.pinned (OpenSpec.upto keycodeBackSpec)

/-- 'tabellionlaw07.KeycodeRises', WHERE WHAT IT READS IS OF BULK AT MOST 1048576: true; the input reads as it did. -/
def keycodeRisesUptoRow : OpenClaim := { program := "ytljdiakodpjkpaa", sum := "1ca1295c8f0f930b31a15f047b2252f4e5abaab6f6a6fa680327dbb993fba098", func := "tabellion/tabellionlaw07.KeycodeRises", spec := "keycodeRises", inPlace := ["internal/bytealg.IndexByteString", "internal/bytealg.IndexString", "internal/abi.NoEscape", "internal/bytealg.abigen_runtime_cmpstring"], unfollowed := true, recurses := true, named := ["internal/bytealg.MaxLen"], apart := false, narrowed := true }
def KeycodeRisesUptoSaid : Prop := keycodeRisesUptoRow.holds Try.pinned (OpenSpec.upto keycodeRisesSpec)

/-- 'tabellionlaw07.KeycodeRange', WHERE WHAT IT READS IS OF BULK AT MOST 1048576: true; the input reads as it did. -/
def keycodeRangeUptoRow : OpenClaim := { program := "ytljdiakodpjkpaa", sum := "1ca1295c8f0f930b31a15f047b2252f4e5abaab6f6a6fa680327dbb993fba098", func := "tabellion/tabellionlaw07.KeycodeRange", spec := "keycodeRange", inPlace := ["internal/bytealg.IndexByteString", "internal/bytealg.IndexString", "internal/abi.NoEscape", "internal/bytealg.abigen_runtime_cmpstring"], unfollowed := true, recurses := true, named := ["internal/bytealg.MaxLen"], apart := false, narrowed := true }
def KeycodeRangeUptoSaid : Prop := keycodeRangeUptoRow.holds Try.pinned (OpenSpec.upto keycodeRangeSpec)

end Rows
end Go.Proofs.Ytljdiakodpjkpaa
