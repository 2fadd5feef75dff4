/- TopRewrites: a part of the proof. -/
import Derived.Test.YtcimkkmkiedobaaGreatDoorFaH
import Derived.KernelRfl
import Derived.JoinedOf
import GoSem.ClaimSeven
namespace Go.Proofs.YtcimkkmkiedobaaGreatDoor
set_option maxRecDepth 100000
set_option linter.all false
theorem g0:((Tryz.prog.funcs.toList.drop 0).take 127).all (fun f=>!f.goes)=true:=by kernel_rfl
theorem g1:((Tryz.prog.funcs.toList.drop 127).take 127).all (fun f=>!f.goes)=true:=by kernel_rfl
theorem g2:((Tryz.prog.funcs.toList.drop 254).take 127).all (fun f=>!f.goes)=true:=by kernel_rfl
theorem g3:((Tryz.prog.funcs.toList.drop 381).take 127).all (fun f=>!f.goes)=true:=by kernel_rfl
theorem g4:((Tryz.prog.funcs.toList.drop 508).take 127).all (fun f=>!f.goes)=true:=by kernel_rfl
theorem g5:((Tryz.prog.funcs.toList.drop 635).take 127).all (fun f=>!f.goes)=true:=by kernel_rfl
theorem fs2:Tryz.prog.funcs.toList.length=758:=by kernel_rfl
theorem cut_all {α:Type} {p:α->Bool} {l:List α} {o k:Nat} (h1:((l.drop o).take k).all p=true) (h2:(l.drop (o+k)).all p=true):(l.drop o).all p=true:=by
 rw[<-List.take_append_drop k (l.drop o),List.all_append,h1,List.drop_drop,h2];rfl
theorem gg6:(Tryz.prog.funcs.toList.drop 762).all (fun f=>!f.goes)=true:=by rw[List.drop_of_length_le (by rw[fs2];decide)];rfl
theorem gg5:(Tryz.prog.funcs.toList.drop 635).all (fun f=>!f.goes)=true:=cut_all (o:=635) (k:=127) g5 gg6
theorem gg4:(Tryz.prog.funcs.toList.drop 508).all (fun f=>!f.goes)=true:=cut_all (o:=508) (k:=127) g4 gg5
theorem gg3:(Tryz.prog.funcs.toList.drop 381).all (fun f=>!f.goes)=true:=cut_all (o:=381) (k:=127) g3 gg4
theorem gg2:(Tryz.prog.funcs.toList.drop 254).all (fun f=>!f.goes)=true:=cut_all (o:=254) (k:=127) g2 gg3
theorem gg1:(Tryz.prog.funcs.toList.drop 127).all (fun f=>!f.goes)=true:=cut_all (o:=127) (k:=127) g1 gg2
theorem gg0:(Tryz.prog.funcs.toList.drop 0).all (fun f=>!f.goes)=true:=cut_all (o:=0) (k:=127) g0 gg1
theorem none_goes {f:Func} (h:f∈Tryz.prog.funcs):f.goes=false:=by
 have:=List.all_eq_true.1 gg0 f (by simpa using h)
 simpa using this
theorem goes_no (P:Program) (c:OpenClaim) {i:FuncId} (h1:P.funcNamed c.func=some i) (hs:c.start=.entering) (hg:∀ f∈P.funcs,f.goes=false):false=c.goesBy P:=by
 have h:P.goes i=false:=by
  unfold Program.goes
  rw[Bool.or_eq_false_iff]
  refine ⟨?_,?_⟩
  ·rw[List.any_eq_false]
   intro g _ q
   cases e:P.funcs[g]? with
   |none=>rw[e] at q;cases q
   |some f=>
    rw[e] at q
    have:=hg f (Array.mem_of_getElem? e)
    simp only[Option.any_some] at q
    rw[this] at q;cases q
  ·rw[Bool.and_eq_false_iff]
   right
   rw[Array.any_eq_false']
   intro f hf
   rw[hg f hf];exact Bool.false_ne_true
 unfold OpenClaim.goesBy Program.goesAt Program.goesFrom
 rw[h1,hs]
 simp only[Option.any_some,h,Bool.or_self]
theorem k_gb:false=Rows.topRewritesUptoRow.goesBy Tryz.prog:=goes_no _ _ fnm rfl fun _ h=>none_goes h
end Go.Proofs.YtcimkkmkiedobaaGreatDoor
