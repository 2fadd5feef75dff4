/- TopRewrites: a part of the proof. -/
import Derived.Test.YtcimkkmkiedobaaGreatDoorTiL
import Derived.KernelRfl
import Derived.LaidByTextLater
import Derived.SevenTiedAt
namespace Go.Proofs.YtcimkkmkiedobaaGreatDoor
set_option maxRecDepth 100000
set_option linter.all false
theorem w6:varsNamedLaterB Tryz.prog 757 LL=true:=by kernel_rfl
theorem w7:∀ (os:Go.Os) (tape:Go.Tape),varsDone Tryz.prog 400 757 os tape=true:=fun _ _=>by kernel_rfl
theorem w8:∀ (os:Go.Os) (tape:Go.Tape),(DataW.laidRun Tryz.prog (varsWorld Tryz.prog 400 757 os tape).memory 8 (LL.map (·.1))).map (·.1)=some LL:=fun _ _=>by kernel_rfl
theorem w9:∀ (os:Go.Os) (tape:Go.Tape),(DataW.laidRun Tryz.prog (varsWorld Tryz.prog 400 757 os tape).memory 8 (LL.map (·.1))).map (fun x=>decide x.2.Nodup&&laidRowsB Tryz.prog (varsWorld Tryz.prog 400 757 os tape).memory x.2)=some true:=fun _ _=>by kernel_rfl
end Go.Proofs.YtcimkkmkiedobaaGreatDoor
