/- TopRewrites: a part of the proof. -/
import Derived.Test.YtcimkkmkiedobaaGreatDoorTiL
import Derived.KernelRfl
import Derived.LaidByTextLater
import Derived.SevenTiedAt
namespace Go.Proofs.YtcimkkmkiedobaaGreatDoor
set_option maxRecDepth 100000
set_option linter.all false
theorem w3:Tryz.prog.worded rootWordLater=true:=by kernel_rfl
end Go.Proofs.YtcimkkmkiedobaaGreatDoor
