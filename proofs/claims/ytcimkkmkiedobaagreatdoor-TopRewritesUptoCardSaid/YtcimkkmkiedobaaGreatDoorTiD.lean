/- TopRewrites: a part of the proof. -/
import Derived.Test.YtcimkkmkiedobaaGreatDoorTiL
import Derived.KernelRfl
import Derived.LaidByTextLater
import Derived.SevenTiedAt
namespace Go.Proofs.YtcimkkmkiedobaaGreatDoor
set_option maxRecDepth 100000
set_option linter.all false
theorem w4:(LL.map fun x=>Tryz.prog.kindOfLater x.1)=[LaidKind.data,.data,.data].map some:=by kernel_rfl
end Go.Proofs.YtcimkkmkiedobaaGreatDoor
