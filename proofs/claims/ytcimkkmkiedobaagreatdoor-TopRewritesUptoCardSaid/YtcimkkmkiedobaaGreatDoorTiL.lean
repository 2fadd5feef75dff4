/- TopRewrites: a part of the proof. -/
import Derived.Test.YtcimkkmkiedobaaGreatDoorRows
import Derived.KernelRfl
import Derived.LaidByTextLater
import Derived.SevenTiedAt
namespace Go.Proofs.YtcimkkmkiedobaaGreatDoor
set_option maxRecDepth 100000
set_option linter.all false
def LL:List (String×DataW Unit):=Rows.topRewritesUptoRow.laid
end Go.Proofs.YtcimkkmkiedobaaGreatDoor
