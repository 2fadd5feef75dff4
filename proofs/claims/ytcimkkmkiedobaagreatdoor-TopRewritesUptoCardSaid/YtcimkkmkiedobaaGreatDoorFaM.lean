/- TopRewrites: a part of the proof. -/
import Derived.Test.YtcimkkmkiedobaaGreatDoorFaA
import Derived.KernelRfl
import Derived.JoinedOf
namespace Go.Proofs.YtcimkkmkiedobaaGreatDoor
set_option maxRecDepth 100000
set_option linter.all false
theorem q_vn:(Rows.topRewritesUptoRow.named==Tryz.prog.varsNamed 3)=true:=by
 unfold Program.varsNamed
 rw[cl]
 kernel_rfl
theorem unf:Tryz.prog.unfollowed 3=true:=by
 unfold Program.unfollowed
 rw[cl,List.any_eq_true]
 exact ⟨96,by decide,by kernel_rfl⟩
theorem q_uf:(Rows.topRewritesUptoRow.unfollowed==Tryz.prog.unfollowed 3)=true:=by rw[unf];rfl
theorem q_rc:(Rows.topRewritesUptoRow.recurses==Tryz.prog.recurses 3)=true:=by unfold Program.recurses;rw[unf];rfl
end Go.Proofs.YtcimkkmkiedobaaGreatDoor
