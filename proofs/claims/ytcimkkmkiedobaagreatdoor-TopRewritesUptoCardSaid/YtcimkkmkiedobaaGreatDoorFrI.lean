/- TopRewrites: a part of the proof. -/
import Derived.Test.YtcimkkmkiedobaaGreatDoorFrG
import Derived.Test.YtcimkkmkiedobaaGreatDoorFaH
import Derived.JoinedCond
namespace Go.Proofs.YtcimkkmkiedobaaGreatDoor
set_option maxRecDepth 100000
theorem a2 {a b:Bool} (h:a=true) (k:b=true):(a&&b)=true:=by rw[h,k];rfl
theorem closed:joinedFacts Tryz.prog 3 Tryz.f3 (Rows.OpenSpec.upto Rows.topRewritesSpec).bare Rows.topRewritesUptoRow=true:=by
 unfold joinedFacts
 exact (a2 (a2 (a2 (a2 (a2 (a2 (a2 (a2 (a2 (a2 (a2 (a2 (a2 (a2 (a2 (a2 (a2 (a2 (a2 (a2 (a2 (a2 (a2 (a2 (a2 (a2 (a2 (a2 (a2 (a2 (a2 q_wf laidOut) q_mr) q_pa) q_nt) q_cs) q_st) q_ck) q_sk) q_ip) q_uf) q_rc) q_vn) q_mp) q_if) q_mo) q_lo) q_wk) q_vr) q_rr) q_io) q_ll) q_pk) q_sn) q_sh) q_me) q_li) q_mk) q_kd) q_pn) q_ve) q_vf)
theorem over:Rows.topRewritesUptoRow.holds Tryz.pinned (Rows.OpenSpec.upto Rows.topRewritesSpec):=
 OpenClaim.holds_of_cond 3 Tryz.f3 rfl rfl rfl rfl rfl rfl rfl ⟨rfl,rfl,rfl,rfl,rfl⟩ rfl rfl rfl rfl rfl fnm Tryz.func3 closed inst wrp
  (fun os started H enc _ F=>lifted os started H enc F)
end Go.Proofs.YtcimkkmkiedobaaGreatDoor
