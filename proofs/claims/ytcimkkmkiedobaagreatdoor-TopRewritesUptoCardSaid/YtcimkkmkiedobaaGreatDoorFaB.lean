/- TopRewrites: a part of the proof. -/
import Derived.Test.YtcimkkmkiedobaaGreatDoorFaA
import Derived.KernelRfl
import Derived.JoinedOf
namespace Go.Proofs.YtcimkkmkiedobaaGreatDoor
set_option maxRecDepth 100000
set_option linter.all false
theorem q_ip:(Rows.topRewritesUptoRow.inPlace==Tryz.prog.inPlace 3)=true:=by
 unfold Program.inPlace
 rw[cl]
 kernel_rfl
end Go.Proofs.YtcimkkmkiedobaaGreatDoor
