/- TopRewrites: a part of the proof. -/
import Derived.Below
import Derived.Test.YtcimkkmkiedobaaGreatDoorM12
import Derived.Test.YtcimkkmkiedobaaGreatDoorM29
set_option maxRecDepth 100000
set_option maxHeartbeats 32000000
set_option linter.all false
namespace Go.Ev
open Go.Proofs
def ag8{w:World}{c f:Value}{r:N}{g:List Dt}{m:Int}(j:w.cell? ⟨2,0,none⟩=some (.int .i64 m))(n:R w B0 F0 (dd r) c)(p:R w B0 F0 (jJ g) f)(s:jc r<=BK)(t:Qh g)(v:kS g<=1000000000):Calls Tryz.prog 3 #[c,f] w λe i=>e=.returned (.bool true)/\Go.RowKit.Below w.heap.size w i:=by obtain⟨_,x⟩:=Vu afi s t v;have H:HR w B0 F0 .e:=⟨λb l mk h=>by simp at h,λb es h=>by simp at h,λb C o D B d E h=>by simp at h,λB h=>h.elim,⟨m,j,λh=>h⟩⟩;have:=(x .e 0).2 w B0 F0 #[c,f] H (.c n (.c p .n)) (λ_ _ _=>A);refine this.mono λe i q=>?_;match e,q with|.returned u,⟨G,F,y,a⟩=>cases y;exact⟨A,a.ext.os,a.ext.tape,a.ext.output,a.ext.size,λk z=>a.ext.keep k (λh=>h) z⟩|.panicked _,q=>exact q.elim|.outgrown,q=>exact q.elim
end Go.Ev
