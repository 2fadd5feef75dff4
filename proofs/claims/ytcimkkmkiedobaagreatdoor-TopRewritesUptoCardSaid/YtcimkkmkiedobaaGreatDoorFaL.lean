/- TopRewrites: a part of the proof. -/
import Derived.Test.YtcimkkmkiedobaaGreatDoorRows
import Derived.KernelRfl
import Derived.SevenTiedAt
import GoSem.ClaimSeven
namespace Go.Proofs.YtcimkkmkiedobaaGreatDoor
set_option maxRecDepth 100000
set_option linter.all false
theorem k_wt:Rows.topRewritesUptoRow.wfByText (Rows.OpenSpec.upto Rows.topRewritesSpec) = true:=by kernel_rfl
theorem k_mi:Tryz.prog.mainIs = some (true, "00ef8e801036e080bd3d3eed7fca98c8834f7efe9e8054d13c30f66968cd0dc8".toList):=by kernel_rfl
theorem k_lk:true = Tryz.prog.looks []:=by kernel_rfl
theorem k_s1:Tryz.prog.wantsStandIn 29 = false:=by kernel_rfl
theorem k_s2:Tryz.prog.wantsStandIn 30 = false:=by kernel_rfl
theorem noOwnUnsafe:Tryz.pinned.checked.prog.headLifts.contains "ownunsafe"=false:=by kernel_rfl
end Go.Proofs.YtcimkkmkiedobaaGreatDoor
