/- TopRewrites: a part of the proof. -/
import Derived.Test.YtcimkkmkiedobaaGreatDoorTiA
import Derived.Test.YtcimkkmkiedobaaGreatDoorTiB
import Derived.Test.YtcimkkmkiedobaaGreatDoorTiC
import Derived.Test.YtcimkkmkiedobaaGreatDoorTiD
import Derived.Test.YtcimkkmkiedobaaGreatDoorTiE
import Derived.Test.YtcimkkmkiedobaaGreatDoorTiF
import Derived.KernelRfl
import Derived.LaidByTextLater
import Derived.SevenTiedAt
namespace Go.Proofs.YtcimkkmkiedobaaGreatDoor
set_option maxRecDepth 100000
set_option linter.all false
theorem tie:Tryz.prog.laidByTextLater LL [.data,.data,.data] true:=Program.laidByTextLater_of_run 757 400 8 w1 w2 w3 w4 w5 w6 w7 w8 w9 (by kernel_rfl)
end Go.Proofs.YtcimkkmkiedobaaGreatDoor
