/- TopRewrites: a part of the proof. -/
import Derived.Test.YtcimkkmkiedobaaGreatDoorRows
import Derived.KernelRfl
import Derived.JoinedOf
namespace Go.Proofs.YtcimkkmkiedobaaGreatDoor
set_option maxRecDepth 100000
set_option linter.all false
theorem q_wf:Rows.topRewritesUptoRow.wf (OpenSpec.ofChange (Rows.OpenSpec.upto Rows.topRewritesSpec).bare) = true:=by kernel_rfl
theorem q_pa:Tryz.f3.params.all (Tryz.prog.readableRec ·) = true:=by kernel_rfl
theorem q_nt:namedTie Tryz.prog Rows.topRewritesUptoRow.named (Rows.OpenSpec.upto Rows.topRewritesSpec).bare.vars = true:=by kernel_rfl
theorem q_cs:(Rows.topRewritesUptoRow.stops == []) = true:=by kernel_rfl
theorem q_st:(Tryz.prog.stops == []) = true:=by kernel_rfl
theorem q_ck:(Rows.topRewritesUptoRow.knobs == []) = true:=by kernel_rfl
theorem q_sk:(Tryz.prog.stopKnobs == []) = true:=by kernel_rfl
theorem q_mp:(Rows.topRewritesUptoRow.maps == (Tryz.f3.params.toList ++ (Rows.OpenSpec.upto Rows.topRewritesSpec).bare.plain.varTypes Tryz.prog).any (Tryz.prog.mapsRec ·)) = true:=by kernel_rfl
theorem q_if:(Rows.topRewritesUptoRow.ifaces == (Tryz.f3.params.toList ++ (Rows.OpenSpec.upto Rows.topRewritesSpec).bare.plain.varTypes Tryz.prog).any (Tryz.prog.ifacesRec ·)) = true:=by kernel_rfl
theorem q_mo:(Rows.topRewritesUptoRow.mapsOut == Tryz.prog.mapsAmong Tryz.f3.resultTypes.toList) = true:=by kernel_rfl
theorem q_lo:(Rows.topRewritesUptoRow.loops == (Tryz.f3.params.toList ++ (Rows.OpenSpec.upto Rows.topRewritesSpec).bare.plain.varTypes Tryz.prog).any (Tryz.prog.loopsFrom ·)) = true:=by kernel_rfl
theorem q_wk:(Rows.topRewritesUptoRow.wideKeys == ((Tryz.f3.params.toList ++ (Rows.OpenSpec.upto Rows.topRewritesSpec).bare.plain.varTypes Tryz.prog) ++ Tryz.f3.resultTypes.toList).any (Tryz.prog.wideKeysFrom ·)) = true:=by kernel_rfl
theorem q_vr:(Rows.OpenSpec.upto Rows.topRewritesSpec).bare.vars.all (Tryz.prog.varReadable ·) = true:=by kernel_rfl
theorem q_rr:Tryz.f3.resultTypes.all (fun t => Tryz.prog.readableRec t && decide (t < Tryz.prog.types.size)) = true:=by kernel_rfl
theorem q_io:(Rows.topRewritesUptoRow.ifacesOut == Tryz.f3.resultTypes.toList.any (Tryz.prog.ifacesRec ·)) = true:=by kernel_rfl
theorem q_ll:(Rows.topRewritesUptoRow.loopsOut == Tryz.f3.resultTypes.toList.any (Tryz.prog.loopsFrom ·)) = true:=by kernel_rfl
theorem q_sn:Rows.topRewritesUptoRow.shortTexts.isNone = true:=by kernel_rfl
theorem q_li:(Rows.topRewritesUptoRow.lifted == Tryz.prog.liftsFinal) = true:=by kernel_rfl
theorem q_mk:(Tryz.prog.make == some Rows.topRewritesUptoRow.make) = true:=by kernel_rfl
theorem q_kd:(Rows.topRewritesUptoRow.kinds == (if Rows.topRewritesUptoRow.domain.isEmpty then [] else Tryz.f3.params.toList.map fun t => match Tryz.prog.underlying t with | some (.int k) => some k | _ => Option.none)) = true:=by kernel_rfl
theorem q_pn:(Rows.topRewritesUptoRow.pinned == Rows.topRewritesUptoRow.pinnedBy) = true:=by kernel_rfl
theorem q_ve:(Rows.topRewritesUptoRow.veiled == ((Tryz.f3.params.toList ++ (Rows.OpenSpec.upto Rows.topRewritesSpec).bare.plain.varTypes Tryz.prog) ++ Tryz.f3.resultTypes.toList).any (Tryz.prog.veiledRec ·)) = true:=by kernel_rfl
theorem q_vf:Rows.topRewritesUptoRow.veiledFits Tryz.prog Tryz.f3.params.toList ((Tryz.f3.params.toList ++ (Rows.OpenSpec.upto Rows.topRewritesSpec).bare.plain.varTypes Tryz.prog) ++ Tryz.f3.resultTypes.toList) = true:=by kernel_rfl
theorem fnm:Tryz.prog.funcNamed Rows.topRewritesUptoRow.func=some 3:=by kernel_rfl
theorem inst:Tryz.f3.isInstance Tryz.prog Rows.topRewritesUptoRow.origin Rows.topRewritesUptoRow.targs:=of_decide_eq_true (by kernel_rfl)
theorem wrp:Tryz.f3.isWrapper Tryz.prog Rows.topRewritesUptoRow.wrapper Rows.topRewritesUptoRow.mainSum:=by
 unfold Func.isWrapper
 first|(rw[if_pos (by decide +kernel)];kernel_rfl)|(rw[if_neg (by decide +kernel)];exact ⟨rfl,rfl⟩)
end Go.Proofs.YtcimkkmkiedobaaGreatDoor
