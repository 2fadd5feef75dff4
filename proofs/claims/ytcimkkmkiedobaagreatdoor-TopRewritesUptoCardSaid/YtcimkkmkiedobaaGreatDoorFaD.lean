/- TopRewrites: a part of the proof. -/
import Derived.Test.YtcimkkmkiedobaaGreatDoorRows
import Derived.KernelRfl
import Derived.JoinedOf
namespace Go.Proofs.YtcimkkmkiedobaaGreatDoor
set_option maxRecDepth 100000
set_option linter.all false
theorem q_mr:mapsRowed Tryz.prog = true:=by kernel_rfl
end Go.Proofs.YtcimkkmkiedobaaGreatDoor
