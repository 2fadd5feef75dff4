/-
  DERIVED. GIVEN WITH THE SEED: THE CARDS: each row of YtcimkkmkiedobaaGreatDoorRows.lean that lists a variable, with what it lists TIED to the program's text (the seventh form; the later family's looks); each row that meets fmt, with fmt's text TOLD by the authors' own Lean function (tested against real Go, not proved from fmt's source: count such statements apart). THE CARD IS WHAT COUNTS. Prove the row's statement (the work); the ties are given (YtcimkkmkiedobaaGreatDoorTie.lean); close each card by the builder's one call (the guide's Derived/Test/ToyasCard.lean, 'card_holds'). Laid BY PROGRAM, IN A SANDBOX (cutbox-door.mjs). By AI agents, Wed Nov 11 2026. No macro, syntax, notation, axiom, sorry.
-/
import Derived.Test.YtcimkkmkiedobaaGreatDoorRows
import GoSem.ClaimSeven
namespace Go.Proofs.YtcimkkmkiedobaaGreatDoor
namespace Rows

/-- THE TIED CARD OF 'tabelliontop.TopRewrites'. -/
def topRewritesCard : Claim7 := { stood := { row := topRewritesRow, standIns := [], harness := (true, "00ef8e801036e080bd3d3eed7fca98c8834f7efe9e8054d13c30f66968cd0dc8"), looks := true }, kinds := [], alts := [], laidByText := true, laidKinds := [.data, .data, .data], laidTests := true, laidLooks := .later }
def TopRewritesCardSaid : Prop := Claim7.holds Tryz.pinned (.plain (OpenSpec.ofChange topRewritesSpec)) topRewritesCard

/-- THE SECOND FORM's CARD OF 'tabelliontop.TopRewrites'. -/
def topRewritesUptoCard : Claim7 := { stood := { row := topRewritesUptoRow, standIns := [], harness := (true, "00ef8e801036e080bd3d3eed7fca98c8834f7efe9e8054d13c30f66968cd0dc8"), looks := true }, kinds := [], alts := [], laidByText := true, laidKinds := [.data, .data, .data], laidTests := true, laidLooks := .later }
def TopRewritesUptoCardSaid : Prop := Claim7.holds Tryz.pinned (.plain (OpenSpec.upto topRewritesSpec)) topRewritesUptoCard
end Rows
end Go.Proofs.YtcimkkmkiedobaaGreatDoor
