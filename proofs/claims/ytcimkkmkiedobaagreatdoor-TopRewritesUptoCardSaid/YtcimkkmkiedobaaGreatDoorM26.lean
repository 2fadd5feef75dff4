/- TopRewrites: a part of the proof. -/
import Derived.Test.YtcimkkmkiedobaaGreatDoorM25
set_option maxRecDepth 100000
set_option maxHeartbeats 32000000
set_option linter.all false
namespace Go.Ev
def Zr(v:Vl):Nat:=4+v.s.length
def kX(x:W):Nat:=1+(x.map Zr).sum
def aej(c:Cl):Nat:=4+(c.t.length+c.n.length)
mutual
def kY:J->Nat|.mk op v d a b K sub ty=>12+(v.s.length+(b.length+(PV K+Vm sub)))
def PV:List J->Nat|[]=>0|t::l=>kY t+PV l
def Gp:Ag->Nat|.mk a d t=>4+(a.length+PV t)
def Zs:List Ag->Nat|[]=>0|a::l=>Gp a+Zs l
def jc:N->Nat|.mk op a aP K ao aJ cq bH skip all rows=>12+(a.length+((aP.map aej).sum+(Vm K+(PV ao+(Zs aJ+(3*cq.length+(rows.map kX).sum))))))
def Vm:List N->Nat|[]=>0|r::l=>jc r+Vm l
end
def zv:∀l:List J,PV l=(l.map kY).sum|[]=>by simp[PV]|t::l=>by simp[PV,zv l]
def Fi:∀l:List N,Vm l=(l.map jc).sum|[]=>by simp[Vm]|t::l=>by simp[Vm,Fi l]
def Np:∀l:List Ag,Zs l=(l.map Gp).sum|[]=>by simp[Zs]|t::l=>by simp[Zs,Np l]
def xC(t:J):kY t=12+(t.v.s.length+(t.name.length+((t.K.map kY).sum+(t.sub.map jc).sum))):=by cases t;rw[kY,zv,Fi];rfl
def tu(a:Ag):Gp a=4+(a.name.length+(a.t.map kY).sum):=by cases a;rw[Gp,zv];rfl
def nK(r:N):jc r=12+(r.de.length+((r.aP.map aej).sum+((r.K.map jc).sum+((r.ao.map kY).sum+((r.aJ.map Gp).sum+(3*r.cq.length+(r.rows.map kX).sum)))))):=by cases r;rw[jc,Fi,zv,Np];rfl
def hM{b:Type}{f:b->Nat}(h:∀a,1<=f a):∀l:List b,l.length<=(l.map f).sum|[]=>au _|a::l=>by have:=h a;have:=hM h l;simp only[aE,aw,bj];omega
def wo(t:J):12<=kY t:=by rw[xC];omega
def SB(r:N):12<=jc r:=by rw[nK];omega
structure alw(t:J)(N:Nat):Prop where
 kl:t.K.length<=N
 Z:t.sub.length<=N
 s:t.v.s.length<=N
 nm:t.name.length<=N
 K:∀k∈t.K,kY k<=N
 sub:∀r∈t.sub,jc r<=N
def jP{t:J}{N:Nat}(h:kY t<=N):alw t N:=by rw[xC]at h;have c:=hM (f:=kY) (λa=>by have:=wo a;omega) t.K;have d:=hM (f:=jc) (λa=>by have:=SB a;omega) t.sub;exact⟨by omega,G,G,G,λk b=>by have:=dx (f:=kY) b;omega,λk b=>by have:=dx (f:=jc) b;omega⟩
structure alx(r:N)(b:Nat):Prop where
 cl:r.aP.length<=b
 kl:r.K.length<=b
 tl:r.ao.length<=b
 al:r.aJ.length<=b
 yl:r.cq.length<=b
 rl:r.rows.length<=b
 tb:r.de.length<=b
 K:∀k∈r.K,jc k<=b
 ao:∀t∈r.ao,kY t<=b
 aJ:∀a∈r.aJ,Gp a<=b
 rows:∀x∈r.rows,kX x<=b
def gy{r:N}{c:Nat}(h:jc r<=c):alx r c:=by rw[nK]at h;have d:=hM (f:=kY) (λa=>by have:=wo a;omega) r.ao;have e:=hM (f:=jc) (λa=>by have:=SB a;omega) r.K;have g:=hM (f:=Gp) (λa=>by rw[tu];omega) r.aJ;have i:=hM (f:=aej) (λa=>by unfold aej;omega) r.aP;have j:=hM (f:=kX) (λa=>by unfold kX;omega) r.rows;exact⟨by omega,G,G,G,G,G,G,λk b=>by have:=dx (f:=jc) b;omega,λk b=>by have:=dx (f:=kY) b;omega,λk b=>by have:=dx (f:=Gp) b;omega,λk b=>by have:=dx (f:=kX) b;omega⟩
def nL{a:Ag}{N:Nat}(h:Gp a<=N):a.name.length<=N/\a.t.length<=N/\∀t∈a.t,kY t<=N:=by rw[tu]at h;have c:=hM (f:=kY) (λa=>by have:=wo a;omega) a.t;exact⟨by omega,G,λk b=>by have:=dx (f:=kY) b;omega⟩
def Nq{x:W}{N:Nat}(h:kX x<=N):x.length<=N/\∀v∈x,v.s.length<=N:=by unfold kX at h;have c:=hM (f:=Zr) (λa=>by unfold Zr;omega) x;exact⟨by omega,λv b=>by have d:=dx (f:=Zr) b;have e:Zr v=4+v.s.length:=A;omega⟩
def tv{d:Type}{f g:d->Nat}{c:Nat}:∀{b:List d},(∀x∈b,c*f x<=g x)->c*(b.map f).sum<=(b.map g).sum|[],_=>by simp|a::b,h=>by have i:=h a aS;have j:=tv (b:=b) λx e=>h x (by simp[e]);simp only[aw,bj,ix];omega
def PX{f:J->Nat}(l:List Ag):((eQ l).map f).sum=(l.map λa=>(a.t.map f).sum).sum:=by induction l with|nil=>rfl|cons a l b=>rw[eQ,zJ,dy,lH,aw,bj,<-b];rfl
def aiK:∀n:Nat,(∀t:J,SizeOf.sizeOf t<n->12*xT t<=kY t)/\(∀r:N,SizeOf.sizeOf r<n->12*xR r<=jc r)|0=>⟨λt h=>absurd h (aB _),λt h=>absurd h (aB _)⟩|n+1=>by obtain⟨c,d⟩:=aiK n;refine⟨λt e=>?_,λr e=>?_⟩;(.have f:12*(t.K.map xT).sum<=(t.K.map kY).sum:=tv λk b=>c k (by have:=J.bK b;omega);have g:12*(t.sub.map xR).sum<=(t.sub.map jc).sum:=tv λk b=>d k (by have:=J.sub_lt b;omega);rw[HL,xC];omega);have f:12*(r.ao.map xT).sum<=(r.ao.map kY).sum:=tv λk b=>c k (by have:=N.eD b;omega);have g:12*(r.K.map xR).sum<=(r.K.map jc).sum:=tv λk b=>d k (by have:=N.bK b;omega);(have j:12*(r.aJ.map λa=>(a.t.map xT).sum).sum<=(r.aJ.map Gp).sum:=tv λa i=>by have:12*(a.t.map xT).sum<=(a.t.map kY).sum:=tv λk b=>c k (by have:=N.hQ i;have:=Ag.qi b;omega);rw[tu];omega);rw[Sy,nK,PX];omega
def Zt:∀n:Nat,(∀t:J,SizeOf.sizeOf t<n->na t<=kY t)/\(∀r:N,SizeOf.sizeOf r<n->mj r+4<=jc r)
|0=>⟨λt h=>absurd h (aB _),λt h=>absurd h (aB _)⟩|n+1=>by
 obtain⟨c,d⟩:=Zt n;refine⟨λt e=>?_,λr e=>?_⟩;.have g:(t.K.map na).sum<=(t.K.map kY).sum:=rq λk b=>c k (by have:=J.bK b;omega);(have i:(t.sub.map λr=>4+mj r).sum<=(t.sub.map jc).sum:=rq λk b=>by have:=d k (by have:=J.sub_lt b;omega);omega);rw[xB,xC];omega
 have g:(r.ao.map na).sum<=(r.ao.map kY).sum:=rq λk b=>c k (by have:=N.eD b;omega);have i:(r.K.map mj).sum<=(r.K.map jc).sum:=rq λk b=>by have:=d k (by have:=N.bK b;omega);omega
 have l:(r.aJ.map λa=>(a.t.map na).sum).sum<=(r.aJ.map Gp).sum:=rq λa j=>by have:(a.t.map na).sum<=(a.t.map kY).sum:=rq λk b=>c k (by have:=N.hQ j;have:=Ag.qi b;omega);rw[tu];omega
 have m:=hM (f:=kX) (λa=>by unfold kX;omega) r.rows;rw[tq,nK,PX];split<;>omega
def agc(t:J):na t<=kY t:=(Zt _).1 t (ax _)
def Zu(r:N):mj r+4<=jc r:=(Zt _).2 r (ax _)
def aiL{r:N}(h:jc r<=BK):xR r<=87381:=by have:=(aiK _).2 r (ax _);unfold BK at h;omega
end Go.Ev
