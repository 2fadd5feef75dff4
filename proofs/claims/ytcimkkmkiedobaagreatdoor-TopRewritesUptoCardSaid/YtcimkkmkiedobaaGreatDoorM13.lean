/- TopRewrites: a part of the proof. -/
import Derived.Test.YtcimkkmkiedobaaGreatDoorM9
set_option maxRecDepth 100000
set_option maxHeartbeats 32000000
set_option linter.all false
namespace Go.Ev
open Go.Proofs
def own{g:Nat}{b:Func}{a:List V}{n z:Nat}{c:List V}(e:Tryz.prog.funcs[g]?=some b)(d:Nat)(f:max a.length b.ntmps=d)(h:bp a=true)(i:bp c=true)(j:ra Tryz.prog yo .e .e 0 d b a (ki n z c)):Own Tryz.prog g a n z c:=Own.of TB e d f h i j
def TU{g:Nat}{b:Func}{a:List V}{n z:Nat}{d:List V}(f:Tryz.prog.funcs[g]?=some b)(e:Nat)(h:max a.length b.ntmps=e)(i:b.body.isSome=true)(j:bp a=true)(k:bp d=true)(l:IT a->ra Tryz.prog yo .e .e 0 e b a (ki n z d)):Own Tryz.prog g a n z d:=by obtain⟨c,m⟩:=fe.1 i;exact Own.ok (lI.ID f m) λo=>own f e h j k (l o)
def rJ(l:List N):Own Tryz.prog 78 [.Q l.length (aM iA l)] l.length 11 (aM iA l):=by have b:bp (aM iA l)=true:=aT eL l;cases l with|nil=>exact⟨λ_=>Pu.is0 (ef Tryz.func78 8 ⟨.E⟩) (ef Tryz.func78 8 (D.y (Y.Q [] A ⟨.GC _ _ _ _⟩))),λh=>absurd A h⟩|cons a l=>refine TU Tryz.func78 8 A A (by simp only[bp,ee,b,cQ]) b λc=>?_;have d:=my c.1;refine⟨bf (f:=iA) (z:=11) kG (a::l),D.no (by simp) ⟨⟨A,A,G⟩,Y.Q [] A ?_⟩⟩;have e:0+(a::l).length=(a::l).length:=bR _;rw[e];exact ki.some aS (af _) A A
def Dy(l:List W):Own Tryz.prog 142 [.Q l.length (aM (λr=>[bl r]) l)] l.length 1 (aM (λr=>[bl r]) l):=by have b:bp (aM (λr=>[bl r]) l)=true:=aT (λr=>by simp[bp,bt]) l;cases l with|nil=>exact⟨λ_=>Pu.is0 (ef Tryz.func142 8 ⟨.E⟩) (ef Tryz.func142 8 (D.y (Y.Q [] A ⟨.GC _ _ _ _⟩))),λh=>absurd A h⟩|cons a l=>refine TU Tryz.func142 8 A A (by simp only[bp,ee,b,cQ]) b λc=>?_;have d:=my c.1;refine⟨bf (f:=(λr=>[bl r])) (z:=1) (λ_=>A) (a::l),D.no (by simp) ⟨⟨A,A,G⟩,Y.Q [] A ?_⟩⟩;have e:0+(a::l).length=(a::l).length:=bR _;rw[e];exact ki.some aS (af _) A A
def rL(l:List J):Own Tryz.prog 79 [.Q l.length (aM fD l)] l.length 10 (aM fD l):=by have b:bp (aM fD l)=true:=aT bT l;cases l with|nil=>exact⟨λ_=>Pu.is0 (ef Tryz.func79 8 ⟨.E⟩) (ef Tryz.func79 8 (D.y (Y.Q [] A ⟨.GC _ _ _ _⟩))),λh=>absurd A h⟩|cons a l=>refine TU Tryz.func79 8 A A (by simp only[bp,ee,b,cQ]) b λc=>?_;have d:=my c.1;refine⟨bf (f:=fD) (z:=10) cL (a::l),D.no (by simp) ⟨⟨A,A,G⟩,Y.Q [] A ?_⟩⟩;have e:0+(a::l).length=(a::l).length:=bR _;rw[e];exact ki.some aS (af _) A A
def Dz(l:List Ag):Own Tryz.prog 36 [.Q l.length (aM pg l)] l.length 3 (aM pg l):=by have b:bp (aM pg l)=true:=aT iN l;cases l with|nil=>exact⟨λ_=>Pu.is0 (ef Tryz.func36 8 ⟨.E⟩) (ef Tryz.func36 8 (D.y (Y.Q [] A ⟨.GC _ _ _ _⟩))),λh=>absurd A h⟩|cons a l=>refine TU Tryz.func36 8 A A (by simp only[bp,ee,b,cQ]) b λc=>?_;have d:=my c.1;refine⟨bf (f:=pg) (z:=3) kE (a::l),D.no (by simp) ⟨⟨A,A,G⟩,Y.Q [] A ?_⟩⟩;have e:0+(a::l).length=(a::l).length:=bR _;rw[e];exact ki.some aS (af _) A A
def TV(l:List Vl):Own Tryz.prog 535 [.Q l.length (aM eB l)] l.length 3 (aM eB l):=by have b:bp (aM eB l)=true:=aT fk l;cases l with|nil=>exact⟨λ_=>Pu.is0 (ef Tryz.func535 8 ⟨.E⟩) (ef Tryz.func535 8 (D.y (Y.Q [] A ⟨.GC _ _ _ _⟩))),λh=>absurd A h⟩|cons a l=>refine TU Tryz.func535 8 A A (by simp only[bp,ee,b,cQ]) b λc=>?_;have d:=my c.1;refine⟨bf (f:=eB) (z:=3) fb (a::l),D.no (by simp) ⟨⟨A,A,G⟩,Y.Q [] A ?_⟩⟩;have e:0+(a::l).length=(a::l).length:=bR _;rw[e];exact ki.some aS (af _) A A
def Xg(l:List Vl):Own Tryz.prog 252 [.Q l.length (aM eB l)] l.length 3 (aM eB l):=by have b:bp (aM eB l)=true:=aT fk l;cases l with|nil=>exact⟨λ_=>Pu.is0 (ef Tryz.func252 8 ⟨.E⟩) (ef Tryz.func252 8 (D.y (Y.Q [] A ⟨.GC _ _ _ _⟩))),λh=>absurd A h⟩|cons a l=>refine TU Tryz.func252 8 A A (by simp only[bp,ee,b,cQ]) b λc=>?_;have d:=my c.1;refine⟨bf (f:=eB) (z:=3) fb (a::l),D.no (by simp) ⟨⟨A,A,G⟩,Y.Q [] A ?_⟩⟩;have e:0+(a::l).length=(a::l).length:=bR _;rw[e];exact ki.some aS (af _) A A
def adP(a:Int):Bool:=decide (a=0\/a=1\/a=2)
def rM(a:Int):Int:=if a=0\/a=1\/a=2 then a else 1
def adQ(b:Bool):Int:=if b then 2 else 0
def Xh(a:Int):Int:=2-rM a
def xe(a b:Int):Int:=if rM a<=rM b then rM a else rM b
def Ri(a b:Int):Int:=if rM b<=rM a then rM a else rM b
def TW:Int->List Int->Int|m,[]=>m|m,a::l=>TW (Ri m a) l
def sP(a:Int):Vl:=if rM a=0 then⟨1,0,[]⟩else if rM a=2 then⟨1,1,[]⟩else null
def fj(v:Vl):Int:=if v.k=1 then adQ (decide (v.n≠0))else 1
def Ov(a:Int):rM a=0\/rM a=1\/rM a=2:=by unfold rM;split<;>omega
def afj(a:Int):Ct 626 [.i .i64 a] (.b (adP a)):=by
 refine ef Tryz.func626 13 ?_;refine D.bk ?_ ?_<;>intro b;.exact aQ (by simp[adP,b])
 refine D.bk ?_ ?_<;>intro c;.exact aQ (by simp[adP,c])
 refine D.bk ?_ ?_<;>intro d;.exact aQ (by simp[adP,d])
 exact aQ (by simp[adP,b,c,d])
def vJ(a:Int):Ct 544 [.i .i64 a] (.i .i64 (rM a)):=by refine ef Tryz.func544 6 (O.C (afj a) ?_);cases h:adP a;(.exact aQ (by simp only[adP,fu]at h;simp[rM,h]));exact aQ (by simp only[adP,bG]at h;simp[rM,h])
def IX(b:Bool):Ct 157 [.b b] (.i .i64 (adQ b)):=by refine ef Tryz.func157 4 ?_;cases b<;>exact fin A
def aby(a:Int):Ct 413 [.i .i64 a] (.i .i64 (Xh a)):=by refine ef Tryz.func413 6 (O.C (vJ a) ?_);have:=Ov a;exact Ar.k (fin A)
def Rj(a b:Int):Ct 417 [.i .i64 a,.i .i64 b] (.i .i64 (xe a b)):=by refine ef Tryz.func417 10 (O.C (vJ a) (O.C (vJ b) ?_));refine D.bk ?_ ?_<;>intro h;(.exact aQ (by simp[xe,h]));exact aQ (by simp[xe,h])
def DA(a b:Int):Ct 418 [.i .i64 a,.i .i64 b] (.i .i64 (Ri a b)):=by refine ef Tryz.func418 10 (O.C (vJ a) (O.C (vJ b) ?_));refine D.bk ?_ ?_<;>intro h;(.exact aQ (by simp[Ri,h]));exact aQ (by simp[Ri,h])
def vK(a:Int):Ct 412 [.i .i64 a] (eS (sP a)):=by
 refine ef Tryz.func412 12 (O.C (vJ a) ?_);refine D.bk ?_ ?_<;>intro h;.exact ca (by simp[sP,h,eS]) (br _)
 refine D.bk ?_ ?_<;>intro b;.exact ca (by simp[sP,b,eS]) (br _)
 exact ca (by simp[sP,h,b,eS,null]) (br _)
def py(v:Vl):Ct 77 [eS v] (.i .i64 (fj v)):=by refine ef Tryz.func77 10 ?_;refine D.bk ?_ ?_<;>intro h;(.refine D.bk ?_ ?_<;>intro a;(.exact O.C (IX false) (aQ (by simp[fj,h,a])));exact O.C (IX true) (aQ (by simp[fj,h,a])));exact aQ (by simp[fj,h])
def gK(b:Bool):Ct 264 [.b b] (eS (oj b)):=by refine ef Tryz.func264 8 ?_;cases b<;>exact fin A
def rN(n:Int):Ct 19 [.i .i64 n] (eS (Dv n)):=by exact ef Tryz.func19 5 (fin A)
def Aj(s:List Nat):Ct 20 [.s s] (eS (FY s)):=by exact ef Tryz.func20 5 (fin A)
def lg(a b:Int):Int:=if a<b then-1 else if b<a then 1 else 0
def Xi(a:Int):Ct 539 [.i .i64 a] (.b false):=by exact ef Tryz.func539 6 (D.mk (λh=>fin A) (λh=>absurd A h))
def uA(a b:Int):Ct 406 [.i .i64 a,.i .i64 b] (.i .i64 (lg a b)):=by
 refine ef Tryz.func406 20 (O.C (Xi a) (O.C (Xi b) ?_));refine D.bk ?_ ?_<;>intro h;.exact aQ (by simp[lg,h])
 refine D.bk ?_ ?_<;>intro c;.exact aQ (by simp[lg,h,c])
 exact aQ (by simp[lg,h,c])
def qx(n:Int):Bool:=decide (-1000000000000000<=n/\n<=1000000000000000)
abbrev NB:=Int×Bool
def nV(x:NB):V:=.ey [.i .i64 x.1,.b x.2]
def tJ(a b n:Int):NB:=if qx a&&qx b&&qx n then(n,true)else(0,false)
def addN(a b:Int):NB:=if qx a&&qx b then tJ a b (a+b)else(0,false)
def TX(a b:Int):NB:=if qx a&&qx b then tJ a b (a-b)else(0,false)
def qj(a:Int):Int:=if-a<=a then a else-a
def mulN(a b:Int):NB:=if !(qx a&&qx b)then(0,false)else if a=0\/b=0 then(0,true)else if(1000000000000000:Int).tdiv (qj b)<qj a then(0,false)else tJ a b (a*b)
def divN(a b:Int):NB:=if qx a&&qx b&&decide (b≠0)then tJ a b (a.tdiv b)else(0,false)
def TY(a b:Int):NB:=if qx a&&qx b&&decide (b≠0)then tJ a b (a.tmod b)else(0,false)
def afk(a:Int):NB:=TX 0 a
def sQ{a:Int}(h:qx a=true):-1000000000000000<=a/\a<=1000000000000000:=by simpa[qx]using h
def lh(a:Int):Ct 478 [.i .i64 a] (.b (qx a)):=by refine ef Tryz.func478 9 ?_;refine D.bk ?_ ?_<;>intro h;(.refine D.bk ?_ ?_<;>intro b;(.exact aQ (by simp[qx];omega));exact aQ (by simp[qx];omega));exact aQ (by simp[qx];omega)
def uB(a b n:Int):Ct 625 [.i .i64 a,.i .i64 b,.i .i64 n] (nV (tJ a b n)):=by
 refine ef Tryz.func625 22 (O.C (lh a) ?_);cases c:qx a;.exact aQ (by simp[tJ,c,nV])
 refine O.C (lh b) ?_;cases d:qx b;.exact aQ (by simp[tJ,d,nV])
 refine O.C (lh n) ?_;cases e:qx n;.exact aQ (by simp[tJ,e,nV])
 exact aQ (by simp[tJ,c,d,e,nV])
def abz(a b:Int):Ct 545 [.i .i64 a,.i .i64 b] (nV (addN a b)):=by
 refine ef Tryz.func545 22 (O.C (lh a) ?_);cases c:qx a;.exact aQ (by simp[addN,c,nV])
 refine O.C (lh b) ?_;cases d:qx b;.exact aQ (by simp[addN,d,nV])
 have e:=sQ c;have f:=sQ d;exact Ar.k (O.C (uB a b _) (aQ (by simp[addN,c,d,nV])))
def Rk(a b:Int):Ct 543 [.i .i64 a,.i .i64 b] (nV (TX a b)):=by
 refine ef Tryz.func543 22 (O.C (lh a) ?_);cases c:qx a;.exact aQ (by simp[TX,c,nV])
 refine O.C (lh b) ?_;cases d:qx b;.exact aQ (by simp[TX,d,nV])
 have e:=sQ c;have f:=sQ d;exact Ar.k (O.C (uB a b _) (aQ (by simp[TX,c,d,nV])))
def Rm(a:Int):Ct 411 [.i .i64 a] (nV (afk a)):=by exact ef Tryz.func411 8 (O.C (Rk 0 a) (fin A))
def abA(a b:Int):Ct 547 [.i .i64 a,.i .i64 b] (nV (divN a b)):=by
 refine ef Tryz.func547 26 (O.C (lh a) ?_);cases c:qx a;.exact aQ (by simp[divN,c,nV])
 refine O.C (lh b) ?_;cases d:qx b;.exact aQ (by simp[divN,d,nV])
 refine D.bk ?_ ?_<;>intro h;.exact aQ (by simp[divN,h,nV])
 have e:=sQ c;have f:=sQ d;have g:(a.tdiv b).natAbs<=a.natAbs:=la a b;exact⟨h,Ar.k (O.C (uB a b _) (aQ (by simp[divN,c,d,nV,h])))⟩
def abB(a b:Int):Ct 548 [.i .i64 a,.i .i64 b] (nV (TY a b)):=by
 refine ef Tryz.func548 26 (O.C (lh a) ?_);cases c:qx a;.exact aQ (by simp[TY,c,nV])
 refine O.C (lh b) ?_;cases d:qx b;.exact aQ (by simp[TY,d,nV])
 refine D.bk ?_ ?_<;>intro h;.exact aQ (by simp[TY,h,nV])
 exact⟨h,O.C (uB a b _) (aQ (by simp[TY,c,d,nV,h]))⟩
def abC(a b:Int):Ct 546 [.i .i64 a,.i .i64 b] (nV (mulN a b)):=by
 refine ef Tryz.func546 41 (O.C (lh a) ?_);cases c:qx a;.exact aQ (by simp[mulN,c,nV])
 refine O.C (lh b) ?_;cases d:qx b;.exact aQ (by simp[mulN,d,nV])
 have v:=sQ c;have w:=sQ d;refine D.bk ?_ ?_<;>intro h;.exact aQ (by rw[show mulN a b=(0,true)by unfold mulN;rw[c,d,I (by simp),U (by omega)]];rfl)
 refine D.mk (λi=>aQ (by rw[show mulN a b=(0,true)by unfold mulN;rw[c,d,I (by simp),U (by omega)]];rfl)) (λi=>?_);have n:∀(x y:Int),x=qj a->y=qj b->(0<y/\y<=1000000000000000)->(∀K:Int->Prop,((1000000000000000:Int).tdiv y<x->nV (mulN a b)=nV (0,false))/\(¬(1000000000000000:Int).tdiv y<x->nV (mulN a b)=nV (tJ a b (a*b))/\-9223372036854775808<=a*b/\a*b<=9223372036854775807)):=by intro x y j f z K;subst j f;refine⟨λg=>by simp[mulN,c,d,h,i,g],λg=>⟨by simp[mulN,c,d,h,i,g],?_⟩⟩;(have o:qj a=a.natAbs:=by unfold qj;split<;>omega);(have p:qj b=b.natAbs:=by unfold qj;split<;>omega);rw[o,p]at g;have q:(a.natAbs:Int)<=(1000000000000000:Int).tdiv b.natAbs:=G;(have r:(a.natAbs:Int)*b.natAbs<=1000000000000000:=by (have:(1000000000000000:Int).tdiv b.natAbs*b.natAbs<=1000000000000000:=by rw[fP G];exact Int.ediv_mul_le _ G);exact Int.le_trans (Int.mul_le_mul_of_nonneg_right q G) this);(have A:((a*b).natAbs:Int)<=1000000000000000:=by rw[Int.natAbs_mul];push_cast;exact r);omega
 have s:(0:Int)<qj b/\qj b<=1000000000000000:=by unfold qj;split<;>omega
 have B:qj a<=1000000000000000:=by unfold qj;split<;>omega
 refine Ar.k ?_;have k:∀(x y:Int),x=qj a->y=qj b->D ((1000000000000000:Int).tdiv y<x) (nV (mulN a b)=nV (0,false)) (nV (mulN a b)=nV (tJ a b (a*b))/\-9223372036854775808<=a*b/\a*b<=9223372036854775807):=λx y j f=>by have:=n x y j f (by rw[f];exact s) (λ_=>True);exact⟨this.1,this.2⟩
 have l:∀y:Int,y=qj b->-9223372036854775808<=(1000000000000000:Int).tdiv y/\(1000000000000000:Int).tdiv y<=9223372036854775807:=by intro y f;have:((1000000000000000:Int).tdiv y).natAbs<=(1000000000000000:Int).natAbs:=la _ _;omega
 refine D.bk ?_ ?_<;>intro C;all_goals refine Ar.k ?_;refine D.bk ?_ ?_<;>intro E;all_goals refine⟨by omega,Ar.ok (l _ (by unfold qj;split<;>omega)).1 (l _ (by unfold qj;split<;>omega)).2 ?_⟩;refine D.bk ?_ ?_<;>intro m;(.exact aQ ((k _ _ (by unfold qj;split<;>omega) (by unfold qj;split<;>omega)).t m).symm);.obtain⟨e,t,u⟩:=(k _ _ (by unfold qj;split<;>omega) (by unfold qj;split<;>omega)).f m;exact Ar.ok t u (O.C (uB a b _) (aQ e.symm))
def gq(a b:Vl):NB:=if a.k≠b.k\/a.k<1\/3<a.k then(0,false)else if a.k=3 then(iM a.s b.s,true)else(lg a.n b.n,true)
def dR(a b:Vl):Int:=if lg a.k b.k≠0 then lg a.k b.k else if lg a.n b.n≠0 then lg a.n b.n else iM a.s b.s
def cY:W->W->Int|[],[]=>0|[],_::_=>-1|_::_,[]=>1|a::x,b::y=>if dR a b≠0 then dR a b else cY x y
def re(a b:Vl):Ct 530 [eS a,eS b] (nV (gq a b)):=by refine ef Tryz.func530 36 ?_;refine D.bk ?_ ?_<;>intro h;(.refine D.bk ?_ ?_<;>intro d;(.exact aQ (by simp[gq,d,nV]));refine D.bk ?_ ?_<;>intro e;(.exact aQ (by simp[gq,e,nV]));refine D.bk ?_ ?_<;>intro c;(.exact O.C (adz a.s b.s) (aQ (by unfold gq;rw[I (by omega),U c];rfl)));exact O.C (uA a.n b.n) (aQ (by unfold gq;rw[I (by omega),I c];rfl)));exact aQ (by simp[gq,h,nV])
def Rn(l:List Int):Ct 550 [du l] (.i .i64 (TW 0 l)):=by refine ef Tryz.func550 17 (bh.cA TB (c:=Nat×Int) (λa=>⟨[(6,du l),(7,.i .i64 (.ofNat l.length)),(8,.i .i64 (.ofNat a.1)),(3,.i .i64 a.2)],[],0⟩) (λa=>a.1<=l.length/\TW a.2 (l.drop a.1)=TW 0 l) (λa=>l.length-a.1) (0,0) ⟨au _,A⟩ (Sm.e A ⟨.B _ (cH l),.B _ A,.B _ A,.B _ A,M⟩) ?_);rintro⟨k,m⟩⟨d,b⟩e;simp only at d b;refine D.bk ?_ ?_<;>intro h;(.have c:k<l.length:=ai.1 h;refine⟨c,Y.Q [.i .i64 l[k]] (dc (aa c)) (O.C (DA m l[k]) (Ar.nx (by have:=my (e 6 _ A);omega) (cr.to (k+1,Ri m l[k]) ⟨c,?_⟩ aN (Sm.e A ⟨.B _ (cH l),.B _ A,.B _ A,.B _ A,M⟩))))⟩;rw[ad c]at b;exact b);have f:l.length<=k:=eO λq=>h (ai.2 q);rw[ae f]at b;exact aQ (by simp only[TW]at b;rw[b])
def adR:List Int->Int|[]=>0|a::l=>if a≠0 then a else adR l
def afl(l:List Int):Ct 405 [du l] (.i .i64 (adR l)):=by refine ef Tryz.func405 18 (bh.cA TB (c:=Nat) (λa=>⟨[(6,du l),(7,.i .i64 (.ofNat l.length)),(8,.i .i64 (.ofNat a)),(3,.i .i64 0)],[],0⟩) (λa=>a<=l.length/\adR (l.drop a)=adR l) (λa=>l.length-a) 0 ⟨au _,A⟩ (Sm.e A ⟨.B _ (cH l),.B _ A,.B _ A,.B _ A,M⟩) ?_);rintro k⟨g,b⟩e;refine D.bk ?_ ?_<;>intro h;(.have c:k<l.length:=ai.1 h;rw[ad c]at b;refine⟨c,Y.Q [.i .i64 l[k]] (dc (aa c)) ?_⟩;refine D.bk ?_ ?_<;>intro d;(.refine Ar.nx (by have:=my (e 6 _ A);omega) (cr.to (k+1) ⟨c,?_⟩ G (Sm.e A ⟨.B _ (cH l),.B _ A,.B _ A,.B _ A,M⟩));rw[<-b,adR,I (by simp;exact d)]);exact aQ (by rw[<-b,adR,U d]));have f:l.length<=k:=eO λq=>h (ai.2 q);rw[ae f]at b;exact aQ (by simp only[adR]at b;rw[<-b])
def lZ(a b:Vl):Ct 260 [eS a,eS b] (.i .i64 (dR a b)):=by exact ef Tryz.func260 22 (cV.a [(0,0),(1,0),(2,0),(3,0),(4,0),(5,0),(6,0),(7,0),(8,0),(9,1),(10,0),(11,0),(12,0),(13,0),(14,2),(15,3),(16,3),(17,4)] (O.C (uA a.k b.k) ⟨A,⟨A,O.C (uA a.n b.n) ⟨A,⟨A,⟨A,⟨A,O.C (adz a.s b.s) (O.rd (afl [lg a.k b.k,lg a.n b.n,iM a.s b.s]) A (.cons (.fz _ 0 3 3 3 _ _ _ _ _ ⟨_,A⟩ A A A A) .nil) (aQ (by simp only[adR,dR,FD];congr 1;by_cases c:lg a.k b.k=0<;>by_cases d:lg a.n b.n=0<;>by_cases e:iM a.s b.s=0<;>simp[c,d,e])))⟩⟩⟩⟩⟩⟩))
def IY(a b:W):Ct 392 [bl a,bl b,.f 260 [] []] (.i .i64 (cY a b)):=by
 refine ct Tryz.func392 39 A (by simp[bp,bt,ee]) A (bh.cA TB (c:=Nat) (λk=>⟨[(11,bl a),(12,.i .i64 (.ofNat a.length)),(13,.i .i64 (.ofNat k)),(0,bl a),(1,bl b),(2,.f 260 [] [])],[],0⟩) (λk=>k<=a.length/\k<=b.length/\cY (a.drop k) (b.drop k)=cY a b) (λk=>a.length-k) 0 ⟨au _,au _,A⟩ (Sm.e A ⟨.B _ (bt a),.B _ A,.B _ A,.B _ (bt a),.B _ (bt b),.B _ A,M⟩) ?_);rintro k⟨m,n,c⟩l;refine D.bk ?_ ?_<;>intro h;.have f:k<a.length:=ai.1 h;rw[ad f]at c;refine⟨f,Y.Q _ (eC (aa f)) ?_⟩;refine D.bk ?_ ?_<;>intro d;(.have g:b.length<=k:=av.1 d;rw[ae g]at c;exact aQ (by rw[<-c,cY]));have e:k<b.length:=nM λq=>d (av.2 q);rw[ad e]at c;refine⟨e,Y.Q _ (eC (aa e)) (O.C (lZ a[k] b[k]) ?_)⟩;refine D.bk ?_ ?_<;>intro i;(.refine Ar.nx (by have:=my (l 11 _ A);omega) (cr.to (k+1) ⟨f,e,?_⟩ G (Sm.e A ⟨.B _ (bt a),.B _ A,.B _ A,.B _ (bt a),.B _ (bt b),.B _ A,M⟩));rw[<-c,cY,I (by simp;exact i)]);exact aQ (by rw[<-c,cY,U i])
 have g:a.length<=k:=eO λq=>h (ai.2 q);rw[ae g]at c;refine D.bk ?_ ?_<;>intro d;.have e:a.length<b.length:=ai.1 d;cases j:b.drop k with|nil=>have:=List.drop_eq_nil_iff.1 j;omega|cons x y=>rw[j]at c;exact aQ (by rw[<-c,cY])
 have o:b.length<=a.length:=eO λq=>d (ai.2 q);rw[ae G]at c;exact aQ (by rw[<-c,cY])
def oV(a b:W):Ct 245 [bl a,bl b] (.i .i64 (cY a b)):=by exact ef Tryz.func245 8 (O.C (IY a b) (fin A))
def hN{b:Type}(p:b->Bool):List b->Nat->Int|[],_=>-1|a::l,k=>if p a then .ofNat k else hN p l (k+1)
def jz{b:Type}(p:b->Bool):∀(l:List b)(k:Nat),(0<=hN p l k)↔l.any p=true|[],k=>by simp[hN]|a::l,k=>by simp only[hN,jH,dH];by_cases h:p a=true;(.simp[h]);rw[I h,jz p l (k+1)];simp[h]
def mC{b:Type}(p:b->Bool):List b->Option (Nat×b)|[]=>none|a::l=>if p a then some (0,a)else(mC p l).map λx=>(x.1+1,x.2)
def xf{b:Type}(p:b->Bool):∀(l:List b)(k:Nat),hN p l k=(match mC p l with|some (i,_)=>.ofNat (k+i)|none=>-1)|[],k=>A|a::l,k=>by simp only[hN,mC];by_cases h:p a=true;(.rw[U h,U h];rfl);rw[I h,I h,xf p l (k+1)];cases mC p l with|none=>rfl|some x=>simp only[eG];congr 1;omega
def xg{c:Type}(p:c->Bool):∀(l:List c)(i:Nat)(a:c),mC p l=some (i,a)->l[i]?=some a/\p a=true|[],i,a,h=>by cases h|x::l,i,a,h=>by simp only[mC]at h;by_cases d:p x=true;(.rw[U d]at h;cases h;exact⟨A,d⟩);rw[I d]at h;cases e:mC p l with|none=>rw[e]at h;cases h|some y=>obtain⟨j,b⟩:=y;rw[e]at h;simp only[eG,bB,cj]at h;obtain⟨rfl,rfl⟩:=h;simpa using xg p l j b e
def jy{a b:Nat}(h:Int.ofNat a<Int.ofNat b):a<b:=ai.1 h
def jK{a b:Nat}(h:¬Int.ofNat a<Int.ofNat b):b<=a:=eO λq=>h (ai.2 q)
def IZ(l:List Int)(p:Int->Bool)(g:Nat)(b:List V)(i:bp b=true)(n:∀a∈l,Ct g (.i .i64 a::b) (.b (p a))):Ct 554 [.Q l.length (aM (λa=>[V.i .i64 a]) l),.f g [] b] (.i .i64 (hN p l 0)):=by
 have c:bp (aM (λa=>[V.i .i64 a]) l)=true:=aT (λ_=>A) l;have j:ee (.f g [] b)=true:=by simp[ee,bp,i]
 refine ct Tryz.func554 19 A (by simp only[bp,ee,c,i,cQ]) A (bh.cA TB (c:=Nat) (λk=>⟨[(6,.Q l.length (aM (λa=>[V.i .i64 a]) l)),(7,.i .i64 (.ofNat l.length)),(8,.i .i64 (.ofNat k)),(0,.Q l.length (aM (λa=>[V.i .i64 a]) l)),(1,.f g [] b)],[],0⟩) (λk=>k<=l.length/\hN p (l.drop k) k=hN p l 0) (λk=>l.length-k) 0 ⟨au _,A⟩ (Sm.e A ⟨.B _ c,.B _ A,.B _ A,.B _ c,.B _ j,M⟩) ?_);rintro k⟨r,d⟩o;refine D.bk ?_ ?_<;>intro h;.have e:=jy h;rw[ad e,hN]at d;refine⟨e,Y.Q _ (hv (f:=λa=>[V.i .i64 a]) (z:=1) (λ_=>A) l k _ (aa e)) (O.C (n l[k] (aq e)) ?_)⟩;cases m:p l[k];(.refine Ar.nx (by have:=my (o 6 _ A);omega) (cr.to (k+1) ⟨e,?_⟩ G (Sm.e A ⟨.B _ c,.B _ A,.B _ A,.B _ c,.B _ j,M⟩));rw[<-d,m];rfl);exact aQ (by rw[<-d,m];rfl)
 have q:=jK h;rw[ae q]at d;exact aQ (by rw[<-d];rfl)
def tK(l:List Int)(p:Int->Bool)(g:Nat)(b:List V)(c:bp b=true)(d:∀a∈l,Ct g (.i .i64 a::b) (.b (p a))):Ct 425 [.Q l.length (aM (λa=>[V.i .i64 a]) l),.f g [] b] (.b (l.any p)):=by have e:bp (aM (λa=>[V.i .i64 a]) l)=true:=aT (λ_=>A) l;refine ct Tryz.func425 9 A (by simp only[bp,ee,e,c,cQ]) A (O.C (IZ l p g b c d) ?_);refine D.bk ?_ ?_<;>intro h;(.exact aQ (by rw[(jz p l 0).1 h]));exact aQ (by rw[iu.2 λq=>h ((jz p l 0).2 q)])
def Bm(l:List Vl)(p:Vl->Bool)(g:Nat)(b:List V)(i:bp b=true)(n:∀a∈l,Ct g (eS a::b) (.b (p a))):Ct 551 [.Q l.length (aM (eB) l),.f g [] b] (.i .i64 (hN p l 0)):=by
 have c:bp (aM (eB) l)=true:=aT fk l;have j:ee (.f g [] b)=true:=by simp[ee,bp,i]
 refine ct Tryz.func551 19 A (by simp only[bp,ee,c,i,cQ]) A (bh.cA TB (c:=Nat) (λk=>⟨[(6,.Q l.length (aM (eB) l)),(7,.i .i64 (.ofNat l.length)),(8,.i .i64 (.ofNat k)),(0,.Q l.length (aM (eB) l)),(1,.f g [] b)],[],0⟩) (λk=>k<=l.length/\hN p (l.drop k) k=hN p l 0) (λk=>l.length-k) 0 ⟨au _,A⟩ (Sm.e A ⟨.B _ c,.B _ A,.B _ A,.B _ c,.B _ j,M⟩) ?_);rintro k⟨r,d⟩o;refine D.bk ?_ ?_<;>intro h;.have e:=jy h;rw[ad e,hN]at d;refine⟨e,Y.Q _ (hv (f:=eB) (z:=3) fb l k _ (aa e)) (O.C (n l[k] (aq e)) ?_)⟩;cases m:p l[k];(.refine Ar.nx (by have:=my (o 6 _ A);omega) (cr.to (k+1) ⟨e,?_⟩ G (Sm.e A ⟨.B _ c,.B _ A,.B _ A,.B _ c,.B _ j,M⟩));rw[<-d,m];rfl);exact aQ (by rw[<-d,m];rfl)
 have q:=jK h;rw[ae q]at d;exact aQ (by rw[<-d];rfl)
def DB(l:List Vl)(p:Vl->Bool)(g:Nat)(b:List V)(c:bp b=true)(d:∀a∈l,Ct g (eS a::b) (.b (p a))):Ct 541 [.Q l.length (aM (eB) l),.f g [] b] (.b (l.any p)):=by have e:bp (aM (eB) l)=true:=aT fk l;refine ct Tryz.func541 9 A (by simp only[bp,ee,e,c,cQ]) A (O.C (Bm l p g b c d) ?_);refine D.bk ?_ ?_<;>intro h;(.exact aQ (by rw[(jz p l 0).1 h]));exact aQ (by rw[iu.2 λq=>h ((jz p l 0).2 q)])
def Ja(l:List W)(p:W->Bool)(g:Nat)(b:List V)(i:bp b=true)(n:∀a∈l,Ct g (bl a::b) (.b (p a))):Ct 401 [.Q l.length (aM (λa=>[bl a]) l),.f g [] b] (.i .i64 (hN p l 0)):=by
 have c:bp (aM (λa=>[bl a]) l)=true:=aT (λa=>by simp[bp,bt]) l;have j:ee (.f g [] b)=true:=by simp[ee,bp,i]
 refine ct Tryz.func401 19 A (by simp only[bp,ee,c,i,cQ]) A (bh.cA TB (c:=Nat) (λk=>⟨[(6,.Q l.length (aM (λa=>[bl a]) l)),(7,.i .i64 (.ofNat l.length)),(8,.i .i64 (.ofNat k)),(0,.Q l.length (aM (λa=>[bl a]) l)),(1,.f g [] b)],[],0⟩) (λk=>k<=l.length/\hN p (l.drop k) k=hN p l 0) (λk=>l.length-k) 0 ⟨au _,A⟩ (Sm.e A ⟨.B _ c,.B _ A,.B _ A,.B _ c,.B _ j,M⟩) ?_);rintro k⟨r,d⟩o;refine D.bk ?_ ?_<;>intro h;.have e:=jy h;rw[ad e,hN]at d;refine⟨e,Y.Q _ (hv (f:=λa=>[bl a]) (z:=1) (λ_=>A) l k _ (aa e)) (O.C (n l[k] (aq e)) ?_)⟩;cases m:p l[k];(.refine Ar.nx (by have:=my (o 6 _ A);omega) (cr.to (k+1) ⟨e,?_⟩ G (Sm.e A ⟨.B _ c,.B _ A,.B _ A,.B _ c,.B _ j,M⟩));rw[<-d,m];rfl);exact aQ (by rw[<-d,m];rfl)
 have q:=jK h;rw[ae q]at d;exact aQ (by rw[<-d];rfl)
def iU(op:Int):Int×Bool:=if op=3\/op=4\/op=19 then(1,false)else if op=22 then(3,false)else if op=21\/op=23 then(2,true)else if op=24 then(0,true)else(2,false)
def yq(op:Int):Ct 408 [.i .i64 op] (nV (iU op)):=by
 refine ef Tryz.func408 16 ?_;refine D.bk ?_ ?_<;>intro a;.exact aQ (by simp[iU,a,nV])
 refine D.bk ?_ ?_<;>intro b;.exact aQ (by simp[iU,b,nV])
 refine D.bk ?_ ?_<;>intro c;.exact aQ (by simp[iU,c,nV])
 refine D.bk ?_ ?_<;>intro d;.exact aQ (by simp[iU,d,nV])
 refine D.bk ?_ ?_<;>intro e;.exact aQ (by simp[iU,e,nV])
 refine D.bk ?_ ?_<;>intro f;.exact aQ (by simp[iU,f,nV])
 refine D.bk ?_ ?_<;>intro g;.exact aQ (by simp[iU,g,nV])
 exact aQ (by simp[iU,a,b,c,d,e,f,g,nV])
def pz(l:W)(k:Int):Bool:=!(l.any λv=>decide (v.k≠k))
def abD(v:Vl)(k:Int):Ct 542 [eS v,.ip [.i .i64 k]] (.b (decide (v.k≠k))):=by refine ef Tryz.func542 8 ?_;refine D.bk ?_ ?_<;>intro h;(.exact aQ (by simp[h]));exact aQ (by simp[h])
def oW(l:W)(k:Int):Ct 409 [bl l,.i .i64 k] (.b (pz l k)):=by refine ef Tryz.func409 9 (O.rd (DB l (λv=>decide (v.k≠k)) 542 [.ip [.i .i64 k]] A (λa _=>abD a k)) A (.cons (.B _ (bt l)) (.cons (.f _ [] [] _ _ A (λi v c h=>by simp at h) A (λi v c h b=>by cases i with|zero=>simp at h b;subst h b;exact .fp _ 0 _ [.i .i64 k] false ⟨_,A⟩ A A A|succ i=>simp at h)) .nil)) ?_);cases h:l.any λv=>decide (v.k≠k);(.exact aQ (by simp only[pz,h];rfl));exact aQ (by simp only[pz,h];rfl)
def yr(x:NB):Vl:=if x.2 then Dv x.1 else null
def qy(x:NB):Ct 410 [.i .i64 x.1,.b x.2] (eS (yr x)):=by refine ef Tryz.func410 10 ?_;obtain⟨n,b⟩:=x;cases b;(.exact fin (br _));exact O.C (rN n) (fin (br _))
def Ln(op:Int):Nat:=if op=5 then 545 else if op=6 then 543 else if op=7 then 546 else if op=8 then 547 else 548
def afm(op a b:Int):NB:=if op=5 then addN a b else if op=6 then TX a b else if op=7 then mulN a b else if op=8 then divN a b else TY a b
def Ox(op:Int)(h:op=5\/op=6\/op=7\/op=8\/op=9):Ct 414 [.i .i64 op] (.f (Ln op) [] []):=by
 refine ef Tryz.func414 7 ?_;refine D.bk ?_ ?_<;>intro a;.exact aQ (by simp[Ln,a])
 refine D.bk ?_ ?_<;>intro b;.exact aQ (by simp[Ln,b])
 refine D.bk ?_ ?_<;>intro c;.exact aQ (by simp[Ln,c])
 refine D.bk ?_ ?_<;>intro d;.exact aQ (by simp[Ln,d])
 refine D.bk ?_ ?_<;>intro e;.exact aQ (by simp[Ln,e])
 omega
def Xj(op a b:Int):Ct (Ln op) [.i .i64 a,.i .i64 b] (nV (afm op a b)):=by
 unfold Ln afm;split;.exact abz a b
 split;.exact Rk a b
 split;.exact abC a b
 split;.exact abA a b
 exact abB a b
def Jb(l:List Int)(x:Int):Ct 376 [du l,.i .i64 x] (.i .i64 (hN (λa=>decide (x=a)) l 0)):=by refine ef Tryz.func376 19 (bh.cA TB (c:=Nat) (λk=>⟨[(6,du l),(7,.i .i64 (.ofNat l.length)),(8,.i .i64 (.ofNat k)),(0,du l),(1,.i .i64 x)],[],0⟩) (λk=>k<=l.length/\hN (λa=>decide (x=a)) (l.drop k) k=hN (λa=>decide (x=a)) l 0) (λk=>l.length-k) 0 ⟨au _,A⟩ (Sm.e A ⟨.B _ (cH l),.B _ A,.B _ A,.B _ (cH l),.B _ A,M⟩) ?_);rintro k⟨g,b⟩e;refine D.bk ?_ ?_<;>intro h;(.have c:=jy h;rw[ad c,hN]at b;refine⟨c,Y.Q [.i .i64 l[k]] (dc (aa c)) ?_⟩;refine D.bk ?_ ?_<;>intro d;(.exact aQ (by rw[<-b,U (by simpa using d)]));refine Ar.nx (by have:=my (e 6 _ A);omega) (cr.to (k+1) ⟨c,?_⟩ G (Sm.e A ⟨.B _ (cH l),.B _ A,.B _ A,.B _ (cH l),.B _ A,M⟩));rw[<-b,I (by simpa using d)]);have f:=jK h;rw[ae f]at b;exact aQ (by rw[<-b];rfl)
def hU(l:List Int)(x:Int):Ct 307 [du l,.i .i64 x] (.b (l.any λa=>decide (x=a))):=by refine ef Tryz.func307 9 (O.C (Jb l x) ?_);refine D.bk ?_ ?_<;>intro h;(.exact aQ (by rw[(jz _ l 0).1 h]));exact aQ (by rw[iu.2 λq=>h ((jz _ l 0).2 q)])
def adS(op:Int):List Int:=if op=11 then[0]else if op=12 then[-1,1]else if op=13 then[-1]else if op=14 then[-1,0]else if op=15 then[1]else if op=16 then[0,1]else[]
def fS(op:Int)(a b:Vl):Vl:=if(gq a b).2 then oj ((adS op).any λc=>decide ((gq a b).1=c))else null
def lC(op:Int)(a b:Vl)(p:op=11\/op=12\/op=13\/op=14\/op=15\/op=16):Ct 415 [.i .i64 op,eS a,eS b] (eS (fS op a b)):=by
 refine ef Tryz.func415 33 (O.C (re a b) ?_);generalize f:gq a b=x;obtain⟨c,g⟩:=x;cases g;.exact ca (by simp[fS,f,eS,null]) (br _)
 have e:∀(l:List Int),adS op=l->fS op a b=oj (l.any λd=>decide (c=d)):=λl h=>by simp[fS,f,h]
 refine D.bk ?_ ?_<;>intro i;.exact O.rd (hU [0] c) A (.cons (.fz _ 0 1 1 1 _ _ _ _ _ ⟨_,A⟩ A A A A) (.cons (.B _ A) .nil)) (O.C (gK _) (ca (by rw[e [0] (by simp[adS,i])];rfl) (br _)))
 refine D.bk ?_ ?_<;>intro j;.exact O.rd (hU [-1,1] c) A (.cons (.fz _ 0 2 2 2 _ _ _ _ _ ⟨_,A⟩ A A A A) (.cons (.B _ A) .nil)) (O.C (gK _) (ca (by rw[e [-1,1] (by simp[adS,j])];rfl) (br _)))
 refine D.bk ?_ ?_<;>intro k;.exact O.rd (hU [-1] c) A (.cons (.fz _ 0 1 1 1 _ _ _ _ _ ⟨_,A⟩ A A A A) (.cons (.B _ A) .nil)) (O.C (gK _) (ca (by rw[e [-1] (by simp[adS,k])];rfl) (br _)))
 refine D.bk ?_ ?_<;>intro m;.exact O.rd (hU [-1,0] c) A (.cons (.fz _ 0 2 2 2 _ _ _ _ _ ⟨_,A⟩ A A A A) (.cons (.B _ A) .nil)) (O.C (gK _) (ca (by rw[e [-1,0] (by simp[adS,m])];rfl) (br _)))
 refine D.bk ?_ ?_<;>intro n;.exact O.rd (hU [1] c) A (.cons (.fz _ 0 1 1 1 _ _ _ _ _ ⟨_,A⟩ A A A A) (.cons (.B _ A) .nil)) (O.C (gK _) (ca (by rw[e [1] (by simp[adS,n])];rfl) (br _)))
 refine D.bk ?_ ?_<;>intro o;.exact O.rd (hU [0,1] c) A (.cons (.fz _ 0 2 2 2 _ _ _ _ _ ⟨_,A⟩ A A A A) (.cons (.B _ A) .nil)) (O.C (gK _) (ca (by rw[e [0,1] (by simp[adS,o])];rfl) (br _)))
 omega
def GK(f:Int->Int->Int)(a b:Vl):Vl:=sP (f (fj a) (fj b))
def uC(g:Nat)(f:Int->Int->Int)(c:∀x y,Ct g [.i .i64 x,.i .i64 y] (.i .i64 (f x y)))(a b:Vl):Ct 416 [.f g [] [],eS a,eS b] (eS (GK f a b)):=by exact ef Tryz.func416 14 (cV.a [(1,0),(2,0),(3,0),(4,1),(0,0),(5,2),(6,3),(7,4)] (O.C (py a) ⟨A,O.C (py b) (O.C (c _ _) (O.C (vK _) (fin (br _))))⟩))
def Oy(v:Vl)(l:W):Vl:=sP (TW 0 (l.map λx=>fj (fS 11 v x)))
def Jc(v:Vl)(l:W):Ct 420 [eS v,bl l] (eS (Oy v l)):=by
 refine ef Tryz.func420 25 ?_;let S:Nat×List Int->SL:=λa=>match a.2 with|[]=>⟨[(8,bl l),(9,.i .i64 (.ofNat l.length)),(10,.i .i64 (.ofNat a.1)),(2,.p 0 0),(4,.p 1 0),(5,.E)],[(0,.c (eB v)),(1,.c [.i .i64 0,.i .i64 0,.s []])],3⟩|x::b=>⟨[(8,bl l),(9,.i .i64 (.ofNat l.length)),(10,.i .i64 (.ofNat a.1)),(2,.p 0 0),(4,.p 1 0),(5,.Z 2 0 (b.length+1) (b.length+1) (some 1))],[(0,.c (eB v)),(1,.c [.i .i64 0,.i .i64 0,.s []]),(2,.y ((x::b).map (V.i .i64)) false)],3⟩
 refine bh.cA TB (c:=Nat×List Int) S (λa=>a.1<=l.length/\a.2++(l.drop a.1).map (λx=>fj (fS 11 v x))=l.map (λx=>fj (fS 11 v x))) (λa=>l.length-a.1) (0,[]) ⟨au _,A⟩ (Sm.a [(0,0),(1,1)]) ?_;rintro⟨k,b⟩⟨e,c⟩f;simp only at e c;have g:l.length<=1000000000000:=by cases b<;>exact my (f 8 _ A)
 rcases b with _|⟨x,b⟩;all_goals refine D.bk ?_ ?_<;>intro h;(.have d:=jy h;rw[ad d]at c;refine⟨d,Y.Q _ (eC (aa d)) (O.C (lC 11 v l[k] aS) (O.C (py _) ?_))⟩;(first|refine D.n ⟨by decide,?_⟩|refine D.n ⟨⟨A,A,mi c (by simpa using g)⟩,Y.Q _ (bz (by simp)) ?_⟩);refine Ar.n ?_;first|exact cr.a (k+1,[fj (fS 11 v l[k])]) ⟨d,c⟩ [(0,0),(1,1),(2,5)]|exact cr.a (k+1,x::(b++[fj (fS 11 v l[k])])) ⟨d,by rw[<-c];simp only[bE,aI,aw,bM]⟩ [(0,0),(1,1),(2,5)] (j:=⟨cE A A,cE A A,dQ aS (bQ (λ_=>A) _) (cG (λ_=>A) _),M⟩));.have i:=jK h;rw[ae i]at c;simp only[bN,ak]at c;(first|refine O.rd (Rn []) A (.cons .E .nil) ?_|refine O.rd (Rn (x::b)) A (.cons (Cv ⟨_,A⟩ A (aF ..) (bQ (λ_=>A) _)) .nil) ?_);exact O.C (vK _) (ca (by rw[Oy,<-c];rfl) (br _))
def jL:W->Vl|a::b::l=>if fj a=2 then b else jL l|[a]=>a|[]=>null
def Jd(l:W):Ct 421 [bl l] (eS (jL l)):=by refine ef Tryz.func421 23 (bh.cA TB (c:=W) (λl=>⟨[(0,bl l),(2,.p 0 0)],[(0,.c [.i .i64 0,.i .i64 0,.s []])],1⟩) (λc=>jL c=jL l) (λc=>c.length) l A (Sm.a [(0,0)]) ?_);rintro c d j;refine D.bk ?_ ?_<;>intro h;(.have f:1<c.length:=jy h;match c,f with|a::b::c,_=>refine⟨by simp,Y.Q _ (eC (r:=a::b::c) (i:=0) A) (O.C (py a) ?_)⟩;refine D.bk ?_ ?_<;>intro e;(.exact⟨by simp,Y.Q _ (eC (r:=a::b::c) (i:=1) A) (ca (by rw[<-d,jL,U e];rfl) (br _))⟩);refine⟨⟨by simp only[aE];omega,af _⟩,Y.Q (gI c) (by rw[show gI c=aM eB (((a::b::c).drop 2).take c.length)by simp[gI]];exact Du fb (a::b::c) 2 c.length (by simp only[aE];omega)) (cr.a c (by rw[<-d,jL,I e]) [(0,0)])⟩);have g:c.length<=1:=jK h;match c,g with|[],_=>exact D.n (ca (by rw[<-d];rfl) (br _))|[a],_=>exact D.yes A ⟨oG,Y.Q _ (eC (r:=[a]) (i:=0) A) (ca (by rw[<-d];rfl) (br _))⟩
def gL:List Nat:=[99,111,97,108,101,115,99,101]
def fl:List Nat:=[110,117,108,108,105,102]
def uD:List Nat:=[97,98,115]
def iV:List Nat:=[108,101,110,103,116,104]
def kH:List Nat:=[108,111,119,101,114]
def kI:List Nat:=[117,112,112,101,114]
def rO(a:Nat)(b:Int)(c:Nat):Nat:=if a<=c/\c<a+26 then((c:Int)+b).toNat else c
def mD(s:List Nat)(a:Nat)(b:Int):List Nat:=s.map (rO a b)
def Bn:∀{a:List Nat},(∀c∈a,c<256)->bytesOf (a.map λc=>V.i .u8 (.ofNat c))=some a|[],_=>A|c::a,h=>by (have b:Nat.blt c 256=true:=by rw[eW];exact h c aS);have d:=Bn (a:=a) λx e=>h x (bA _ e);simp only[aw,bytesOf,b,d]
def ald{n:Int}(a:0<=n)(b:n<256):iR .u8 n=n:=by rw[hf];exact nU .u8 n A a (by simp only[IntKind.bits];omega)
def Ar.u8{n:Int}{K:Int->Prop}(a:0<=n)(b:n<256)(k:K n):Ar .u8 n K:=⟨by rw[ald a b];exact k⟩
def Xk{a:Nat}{c:Nat}{b:Int}(d:(a=65/\b=32)\/(a=97/\b=-32))(e:c<256):rO a b c<256:=by unfold rO;split<;>rcases d with⟨rfl,rfl⟩|⟨rfl,rfl⟩<;>omega
def pA(s:List Nat)(a:Nat)(b:Int)(k:Nat):List V:=((s.take k).map (rO a b)++s.drop k).map λc=>V.i .u8 (.ofNat c)
def uE(s:List Nat)(a:Nat)(d:Int)(k j:Nat):(pA s a d k)[j]?=(s[j]?).map λc=>V.i .u8 (.ofNat (if j<k then rO a d c else c)):=by
 simp only[pA,ck];by_cases b:j<k;.by_cases e:j<s.length;(.rw[cb aN,ck,cT,U b,aa e];simp[b]);rw[bO aN,bO G];rfl
 by_cases f:k<=s.length;.rw[bU aN,aF,cU,cR f,dj,show k+(j-k)=j by omega];simp[b]
 rw[bO aN,bO G];rfl
def TZ{s:List Nat}{a:Nat}{b:Int}{k:Nat}(h:k<s.length):(pA s a b k)[k]?=some (.i .u8 (.ofNat s[k])):=by rw[uE,aa h];simp
def Ak{s:List Nat}{a:Nat}{b:Int}{k:Nat}:(pA s a b k).length=s.length:=by simp[pA];omega
def Ua{l:List V}{k:Nat}{x:V}(h:k<l.length):setAt l k [x]=some (l.set k x):=by (have a:Nat.ble (k+1) l.length=true:=by rw[cf];exact h);simp only[setAt,bw,a];congr 1;rw[mm,U h];rfl
def Ub{s:List Nat}{a:Nat}{b:Int}{k:Nat}(h:k<s.length):setAt (pA s a b k) k [.i .u8 (.ofNat (rO a b s[k]))]=some (pA s a b (k+1)):=by
 rw[Ua (by rw[Ak];exact h)];congr 1;apply ke;intro j;rw[qO,uE,uE,Ak];by_cases e:k=j;.subst e;rw[U A,U h,aa h];simp
 rw[I e];congr 1;funext c;by_cases d:j<k;.rw[U d,U G]
 rw[I d,I G]
def DC{s:List Nat}{a:Nat}{b:Int}{k:Nat}(h:k<s.length)(e:rO a b s[k]=s[k]):pA s a b (k+1)=pA s a b k:=by
 apply ke;intro j;rw[uE,uE];by_cases f:k=j;.subst f;rw[aa h];simp[e]
 congr 1;funext c;by_cases d:j<k;.rw[U d,U G]
 rw[I d,I G]
def wJ(s:List Nat)(b:Nat)(d:Int)(j:(b=65/\d=32)\/(b=97/\d=-32))(v:s.length<=1000000000000):Ct 553 [.s s,.i .u8 (.ofNat b),.i .i64 d] (.s (mD s b d)):=by
 refine aff Tryz.func553 39 λp=>?_;have l:∀c∈s,c<256:=ajz p.1;refine⟨by omega,bh.cA TB (c:=Nat) (λk=>⟨[(7,.Z 0 0 s.length s.length (some 1)),(12,.Z 0 0 s.length s.length (some 1)),(13,.i .i64 (.ofNat s.length)),(14,.i .i64 (.ofNat k)),(1,.i .u8 (.ofNat b)),(2,.i .i64 d)],[(0,.y (pA s b d k) true)],1⟩) (λk=>k<=s.length) (λk=>s.length-k) 0 (au _) (Sm.a [(0,0)] (b:=⟨dQ (by simp[pA]) (bQ (λ_=>A) _) (cG (λ_=>A) _),M⟩)) ?_⟩;rintro k w y;have z:∀{h:T EO},Vw h (lr [(0,0)]) (·∈([]:List Nat)) (.Z 0 0 s.length s.length (some 1)) (.Z 0 0 s.length s.length (some 1)):=.Z 0 0 0 _ _ _ A;refine D.bk ?_ ?_<;>intro h;.have f:=jy h;have m:=l s[k] (aq f);refine⟨f,Y.Q (.i .u8 (.ofNat s[k])) (by have:=TZ (a:=b) (b:=d) f;simpa[iG]using this) ?_⟩;refine D.bk ?_ ?_<;>intro g;(.have g:b<=s[k]:=av.1 g;refine Ar.u8 (show(0:Int)<=(b:Int)+26 by omega) (by simp;rcases j with⟨rfl,_⟩|⟨rfl,_⟩<;>omega) ?_;refine D.bk ?_ ?_<;>intro i;(. (have i:s[k]<b+26:=by have:(Int.ofNat s[k])<Int.ofNat b+26:=i;simp at this;omega);(have ht:rO b d s[k]=((s[k]:Int)+d).toNat:=by rw[rO,U ⟨g,i⟩]);(have n:0<=(s[k]:Int)+d/\(s[k]:Int)+d<256:=by rcases j with⟨rfl,rfl⟩|⟨rfl,rfl⟩<;>omega);exact Ar.ok (show-9223372036854775808<=(s[k]:Int)by omega) (show(s[k]:Int)<=9223372036854775807 by omega) (Ar.ok (show-9223372036854775808<=(s[k]:Int)+d by omega) (show(s[k]:Int)+d<=9223372036854775807 by omega) (Ar.u8 n.1 n.2 ⟨f,Y.Q (pA s b d (k+1)) (by have:=Ub (a:=b) (b:=d) f;rw[ht]at this;(have e:((s[k]:Int)+d)=Int.ofNat (((s[k]:Int)+d).toNat):=by simp;omega);rw[bR,qQ];rw[<-e]at this;exact this) (Ar.n (cr.a (k+1) f [(0,0)] (j:=⟨dQ A (bQ (λ_=>A) _) (cG (λ_=>A) _),M⟩)))⟩)));(have i:¬s[k]<b+26:=by have:¬(Int.ofNat s[k])<Int.ofNat b+26:=i;simp at this;omega);(have ht:rO b d s[k]=s[k]:=by rw[rO,I G]);exact Ar.n (cr.a (k+1) f [(0,0)] (j:=⟨dQ (DC f ht).symm (bQ (λ_=>A) _) (cG (λ_=>A) _),M⟩)));have g:¬b<=s[k]:=λq=>g (av.2 q);(have ht:rO b d s[k]=s[k]:=by rw[rO,I G]);exact Ar.n (cr.a (k+1) f [(0,0)] (j:=⟨dQ (DC f ht).symm (bQ (λ_=>A) _) (cG (λ_=>A) _),M⟩))
 have o:=jK h;refine Y.Q (pA s b d k) (bz Ak) ?_;have r:pA s b d k=(mD s b d).map λc=>V.i .u8 (.ofNat c):=by unfold pA mD;rw[bq o,ae o,ak]
 have t:∀c∈mD s b d,c<256:=λc m=>by obtain⟨x,u,rfl⟩:=aV.1 m;exact Xk j (l x u)
 rw[r];exact Y.Q (mD s b d) (Bn t) (fin A)
def Bo(l:W):Vl:=match mC (λv:Vl=>decide (v.k≠0)) l with|some (_,v)=>v|none=>null
def Je(l:W):Vl:=match l with|a::b::_=>if(gq a b).2=false\/(gq a b).1≠0 then a else null|_=>null
def ys(b:List Nat)(l:W):Vl:=match l with|[a]=>if b=uD/\a.k=2 then(if a.n<0 then yr (afk a.n)else yr (a.n,qx a.n))else if a.k≠3 then null else if b=iV then Dv (.ofNat a.s.length)else if b=kH then FY (mD a.s 65 32)else if b=kI then FY (mD a.s 97 (-32))else null|_=>null
def jX(a:List Nat)(l:W):Vl:=if a=gL then Bo l else if a=fl/\l.length=2 then Je l else ys a l
def Xl(v:Vl):Ct 552 [eS v] (.b (decide (v.k≠0))):=by refine ef Tryz.func552 6 ?_;refine D.bk ?_ ?_<;>intro h;(.exact aQ (by simp[h]));exact aQ (by simp[h])
def Ga(d:List Nat)(l:W)(G:∀v∈l,v.s.length<=1000000000000):Ct 422 [.s d,bl l] (eS (jX d l)):=by
 refine ef Tryz.func422 110 ?_;refine D.bk ?_ ?_<;>intro h;.have h:d=gL:=h;refine O.C (Bm l (λv=>decide (v.k≠0)) 552 [] A (λa _=>Xl a)) ?_;(have g:jX d l=Bo l:=by rw[jX,U h]);rw[xf];cases p:mC (λv:Vl=>decide (v.k≠0)) l with|none=>exact D.n (ca (by rw[g,Bo,p];rfl) (br _))|some x=>obtain⟨H,v⟩:=x;obtain⟨t,_⟩:=xg _ l H v p;exact D.yes aS ⟨by have:=(ba.1 t).1;omega,Y.Q (eB v) (by rw[bR];exact eC t) (ca (by rw[g,Bo,p];rfl) (br _))⟩
 have u:d≠gL:=h;refine D.mk (λh=>D.mk (λn=>?two) (λn=>?_)) (λh=>?_);case two=>have h:d=fl:=h;have n:l.length=2:=bo n;match l,n with|[a,b],_=>(have g:jX d [a,b]=if(gq a b).2=false\/(gq a b).1≠0 then a else null:=by rw[jX,I u,U ⟨h,A⟩];rfl);refine cV.a [(0,0),(1,0),(2,0),(3,0),(4,0),(5,0),(6,0),(7,1),(8,1),(9,1),(10,1),(11,1)] ⟨by simp,Y.Q _ (eC (r:=[a,b]) (i:=0) A) ⟨by simp,Y.Q _ (eC (r:=[a,b]) (i:=1) A) (O.C (re a b) ?_)⟩⟩;rw[show jX d [a,b]=_ from g];generalize gq a b=x;obtain⟨c,J⟩:=x;cases J;(.exact⟨by simp,Y.Q _ (eC (r:=[a,b]) (i:=0) A) (ca (by simp[eS]) (br _))⟩);refine D.bk ?_ ?_<;>intro e;(.have e:c=0:=e;exact ca (by simp[e,eS,null]) (br _));have e:c≠0:=e;exact⟨by simp,Y.Q _ (eC (r:=[a,b]) (i:=0) A) (ca (by simp[e,eS]) (br _))⟩
 all_goals (have g:jX d l=ys d l:=by rw[jX,I u,I];rintro⟨L,M⟩;first|exact n (aY Int.ofNat M)|exact h L);refine D.bk ?_ ?_<;>intro e;(.have e:l.length=1:=bo e;match l,e with|[a],_=>have w:=G a aS;have j:∀{K:List V->Prop},K (eB a)->An (0<[a].length) (Y (cM (gI [a]) (0*3) 3) K):=λk=>⟨oG,Y.Q _ (eC (r:=[a]) (i:=0) A) k⟩;rw[g];refine D.bk ?_ ?_<;>intro f;(.have f:d=uD:=f;refine j ?_;refine D.bk ?_ ?_<;>intro s;(.refine j ?_;refine D.bk ?_ ?_<;>intro m;(.exact O.C (Rm a.n) (O.C (qy _) (ca (by rw[ys,U ⟨f,s⟩,U m];rfl) (br _))));exact O.C (lh a.n) (O.C (qy (a.n,qx a.n)) (ca (by rw[ys,U ⟨f,s⟩,I m];rfl) (br _))));refine j ?_;(have y:d≠iV:=by rw[f];decide);(have z:d≠kH:=by rw[f];decide);(have B:d≠kI:=by rw[f];decide);(have o:ys d [a]=null:=by rw[ys,I (λq=>s q.2)];split<;>simp[y,z,B]);rw[o];refine D.bk ?_ ?_<;>intro m;(.exact D.no y (D.no z (D.no B (fin (br _)))));exact fin (br _));have f:d≠uD:=f;refine j ?_;(have o:ys d [a]=if a.k≠3 then null else if d=iV then Dv (.ofNat a.s.length)else if d=kH then FY (mD a.s 65 32)else if d=kI then FY (mD a.s 97 (-32))else null:=by rw[ys,I (λq=>f q.1)]);rw[o];refine D.bk ?_ ?_<;>intro m;(.rw[I (by simpa using m)];refine D.bk ?_ ?_<;>intro C;(.exact j (O.C (rN _) (ca (by rw[U (show d=iV from C)];rfl) (br _))));rw[I (show¬d=iV from C)];refine D.bk ?_ ?_<;>intro E;(.exact j (O.C (wJ a.s 65 32 (.inl ⟨A,A⟩) w) (O.C (Aj _) (ca (by rw[U (show d=kH from E)];rfl) (br _)))));rw[I (show¬d=kH from E)];refine D.bk ?_ ?_<;>intro F;(.exact j (O.C (wJ a.s 97 (-32) (.inr ⟨A,A⟩) w) (O.C (Aj _) (ca (by rw[U (show d=kI from F)];rfl) (br _)))));rw[I (show¬d=kI from F)];exact fin (br _));rw[U m];exact fin (br _));.have e:l.length≠1:=λq=>e (aY Int.ofNat q);(have o:ys d l=null:=by match l,e with|[],_=>rfl|[a],h=>exact absurd A h|_::_::_,_=>rfl);rw[g,o];exact fin (br _)
structure Sg where
 k:Int
 b:Nat
def adT(x:Sg):List V:=[.i .i64 x.k,.i .u8 (.ofNat x.b)]
def sR(x:Sg):(adT x).length=2:=rfl
def oX(x:Sg):bp (adT x)=true:=rfl
def vM(x:Sg):(adT x).all V.one=true:=rfl
def Lo:List Nat:=[37,95,92]
def Uc(c:Nat):Sg:=if c=37 then⟨2,0⟩else if c=95 then⟨1,0⟩else⟨0,c⟩
def gM:List Nat->List Sg|[]=>[]|[c]=>[Uc c]|c::d::r=>if c=92/\0<=Xe Lo (Int.ofNat d)then⟨0,d⟩::gM r else Uc c::gM (d::r)
def Lp(c:Nat)(r:List Nat):gM (c::r)=if c=37 then⟨2,0⟩::gM r else if c=95 then⟨1,0⟩::gM r else if c=92 then(match r with|d::r=>if 0<=Xe Lo (Int.ofNat d)then⟨0,d⟩::gM r else⟨0,c⟩::gM (d::r)|[]=>[⟨0,c⟩])else⟨0,c⟩::gM r:=by
 by_cases a:c=37;.subst a;cases r<;>simp[gM,Uc]
 by_cases b:c=95;.subst b;cases r<;>simp[gM,Uc]
 rw[I a,I b];by_cases e:c=92;.subst e;cases r<;>simp[gM,Uc]
 rw[I e];cases r<;>simp[gM,Uc,a,b,e]
def kJ:∀p:List Nat,(gM p).length<=p.length|[]=>af _|[c]=>by simp[gM]|c::d::r=>by have a:=kJ r;have b:=kJ (d::r);simp only[gM];split<;>simp only[aE]at*<;>omega
def Oz(p:List Nat)(r:p.length<=1000000):Own Tryz.prog 549 [.s p] (gM p).length 2 (aM adT (gM p)):=by refine own Tryz.func549 66 A (by simp[bp,ee]) (aT oX _) ?_;(let S:Nat×List Sg->SL:=λa=>match a.2 with|[]=>⟨[(0,.s p),(3,.E),(4,.i .i64 (.ofNat a.1))],[],1⟩|x::c=>⟨[(0,.s p),(3,.Z 0 0 (c.length+1) (c.length+1) (some 2)),(4,.i .i64 (.ofNat a.1))],[(0,.y (aM adT (x::c)) false)],1⟩);refine bh.cA TB (c:=Nat×List Sg) S (λa=>a.1<=p.length/\a.2++gM (p.drop a.1)=gM p) (λa=>p.length-a.1) (0,[]) ⟨au _,A⟩ (Sm.e A ⟨.B _ A,.B _ A,.B _ A,M⟩) ?_;rintro⟨k,c⟩⟨n,b⟩s;simp only at n b;rcases c with _|⟨x,c⟩;all_goals refine D.bk ?_ ?_<;>intro h;(.have d:=jy h;rw[ad d,Lp]at b;refine Y.Q p[k] (aa d) ?_;refine D.bk ?_ ?_<;>intro e;(.have e:p[k]=37:=bo e;rw[U e]at b;(first|refine D.n ⟨by decide,?_⟩|refine D.n ⟨⟨A,A,mi b (aL (kJ p) (by omega))⟩,Y.Q _ (bz (by rw[bf sR];simp)) ?_⟩);refine Ar.n ?_;first|exact cr.a (k+1,[⟨2,0⟩]) ⟨by simp only;omega,by rw[<-b];rfl⟩ [(0,2)]|exact cr.a (k+1,x::(c++[⟨2,0⟩])) ⟨by simp only;omega,by rw[<-b];simp only[bE,aI,bM]⟩ [(0,2)] (j:=⟨dQ (by simp[aM,bP];rfl) (aT oX _) (bu vM _),M⟩));have e:¬p[k]=37:=λq=>e (aY Int.ofNat q);rw[I e]at b;refine Y.Q p[k] (aa d) ?_;refine D.bk ?_ ?_<;>intro f;(.have f:p[k]=95:=bo f;rw[U f]at b;(first|refine D.n ⟨by decide,?_⟩|refine D.n ⟨⟨A,A,mi b (aL (kJ p) (by omega))⟩,Y.Q _ (bz (by rw[bf sR];simp)) ?_⟩);refine Ar.n ?_;first|exact cr.a (k+1,[⟨1,0⟩]) ⟨by simp only;omega,by rw[<-b];rfl⟩ [(0,2)]|exact cr.a (k+1,x::(c++[⟨1,0⟩])) ⟨by simp only;omega,by rw[<-b];simp only[bE,aI,bM]⟩ [(0,2)] (j:=⟨dQ (by simp[aM,bP];rfl) (aT oX _) (bu vM _),M⟩));have f:¬p[k]=95:=λq=>f (aY Int.ofNat q);rw[I f]at b;refine Y.Q p[k] (aa d) ?_;refine D.bk ?_ ?_<;>intro g;(.have g:p[k]=92:=bo g;rw[U g]at b;refine Ar.n ?_;refine D.bk ?_ ?_<;>intro m;(.have j:=jy m;rw[ad j]at b;simp only at b;refine Ar.n (Y.Q p[k+1] (aa j) (O.C (ahy Lo (Int.ofNat p[k+1])) ?_));refine D.bk ?_ ?_<;>intro i;(.have i:0<=Xe Lo (Int.ofNat p[k+1]):=i;rw[U i]at b;refine Ar.n (Y.Q p[k+1] (aa j) ?_);(first|refine D.n ⟨by decide,?_⟩|refine D.n ⟨⟨A,A,mi b (aL (kJ p) (by omega))⟩,Y.Q _ (bz (by rw[bf sR];simp)) ?_⟩);refine Ar.n ?_;first|exact cr.a (k+1+1,[⟨0,p[k+1]⟩]) ⟨by simp only;omega,by rw[<-b];rfl⟩ [(0,2)]|exact cr.a (k+1+1,x::(c++[⟨0,p[k+1]⟩])) ⟨by simp only;omega,by rw[<-b];simp only[bE,aI,bM]⟩ [(0,2)] (j:=⟨dQ (by simp[aM,bP];rfl) (aT oX _) (bu vM _),M⟩));have i:¬0<=Xe Lo (Int.ofNat p[k+1]):=i;rw[I i,<-ad j]at b;refine Y.Q p[k] (aa d) ?_;(first|refine D.n ⟨by decide,?_⟩|refine D.n ⟨⟨A,A,mi b (aL (kJ p) (by omega))⟩,Y.Q _ (bz (by rw[bf sR];simp)) ?_⟩);refine Ar.n ?_;first|exact cr.a (k+1,[⟨0,p[k]⟩]) ⟨by simp only;omega,by rw[<-b];rfl⟩ [(0,2)]|exact cr.a (k+1,x::(c++[⟨0,p[k]⟩])) ⟨by simp only;omega,by rw[<-b];simp only[bE,aI,bM]⟩ [(0,2)] (j:=⟨dQ (by simp[aM,bP];rfl) (aT oX _) (bu vM _),M⟩));have l:=jK m;rw[ae l]at b;simp only at b;refine Y.Q p[k] (aa d) ?_;(first|refine D.n ⟨by decide,?_⟩|refine D.n ⟨⟨A,A,mi b (aL (kJ p) (by omega))⟩,Y.Q _ (bz (by rw[bf sR];simp)) ?_⟩);refine Ar.n ?_;first|exact cr.a (k+1,[⟨0,p[k]⟩]) ⟨by simp only;omega,by rw[<-b,ae l];rfl⟩ [(0,2)]|exact cr.a (k+1,x::(c++[⟨0,p[k]⟩])) ⟨by simp only;omega,by rw[<-b,ae l];simp only[gM,bE,aI,bM]⟩ [(0,2)] (j:=⟨dQ (by simp[aM,bP];rfl) (aT oX _) (bu vM _),M⟩));have g:¬p[k]=92:=λq=>g (aY Int.ofNat q);rw[I g]at b;refine Y.Q p[k] (aa d) ?_;(first|refine D.n ⟨by decide,?_⟩|refine D.n ⟨⟨A,A,mi b (aL (kJ p) (by omega))⟩,Y.Q _ (bz (by rw[bf sR];simp)) ?_⟩);refine Ar.n ?_;first|exact cr.a (k+1,[⟨0,p[k]⟩]) ⟨by simp only;omega,by rw[<-b];rfl⟩ [(0,2)]|exact cr.a (k+1,x::(c++[⟨0,p[k]⟩])) ⟨by simp only;omega,by rw[<-b];simp only[bE,aI,bM]⟩ [(0,2)] (j:=⟨dQ (by simp[aM,bP];rfl) (aT oX _) (bu vM _),M⟩));.have o:=jK h;rw[ae o,gM,ak]at b;rw[<-b];first|exact ki.none A .E|exact ki.some aS (af _) A A
def isAny(l:List Sg)(k:Nat):Bool:=match l[k]?with|some x=>decide (x.k=2)|none=>false
def Lq(l:List Sg)(k:Nat)(c:Nat):Bool:=match l[k]?with|some x=>decide (x.k=1)||decide (x.b=c)|none=>false
def mT(s:List Nat)(l:List Sg):Nat->Nat->Nat->Int->Nat->Bool|0,_,_,_,_=>false|f+1,at_,k,a,b=>match s[at_]?with|some c=>if isAny l k then mT s l f at_ (k+1) (.ofNat k) at_ else if Lq l k c then mT s l f (at_+1) (k+1) a b else if 0<=a then mT s l f (b+1) (a.toNat+1) a (b+1)else false|none=>(l.drop k).all λx=>decide (x.k=2)
def afn(n L at_:Nat)(a:Int)(b:Nat):Nat:=((L-(a+1).toNat)*(n+2)+(n+1-b))*(n+2)+(n-at_)
def ahY{A a B b C c n:Nat}(h:a<A)(f:b<=n+1)(g:c<=n):(a*(n+2)+b)*(n+2)+c<(A*(n+2)+B)*(n+2)+C:=by have d:(a+1)*(n+2)<=A*(n+2):=bZ _ h;rw[cc,mg]at d;have e:(a*(n+2)+b+1)*(n+2)<=(A*(n+2)+B)*(n+2):=bZ _ G;rw[cc _ 1,mg]at e;omega
def Xm{A B a C b n:Nat}(h:a<B)(d:b<=n):(A*(n+2)+a)*(n+2)+b<(A*(n+2)+B)*(n+2)+C:=by have c:(A*(n+2)+a+1)*(n+2)<=(A*(n+2)+B)*(n+2):=bZ _ G;rw[cc _ 1,mg]at c;omega
def Xn(s p:List Nat):Bool:=mT s (gM p) (afn s.length (gM p).length 0 (-1) 0+1) 0 0 (-1) 0
def ajL(l:List Sg):V:=.Q l.length (aM adT l)
def qz(l:List Sg):ee (ajL l)=true:=aT oX l
def Jf{l:List Sg}{i:Nat}{t:Sg}(h:l[i]?=some t):cM (aM adT l) (i*2) 2=some (adT t):=hv sR l i t h
def OA(s p:List Nat)(R:s.length<=1000000)(L:p.length<=1000000):Ct 419 [.s s,.s p] (.b (Xn s p)):=by refine ef Tryz.func419 87 (O.C (Own.fz (Oz p L) A (aT oX _) (λh=>by rw[mf.1 h];rfl)) ?_);have E:=kJ p;have E:(gM p).length<=1000000:=G;unfold Xn;generalize gM p=l at E|-;refine bh.cA TB (c:=Nat×Nat×Nat×Int×Nat) (λa=>⟨[(0,.s s),(5,ajL l),(6,.i .i64 (.ofNat a.2.1)),(7,.i .i64 (.ofNat a.2.2.1)),(8,.i .i64 a.2.2.2.1),(9,.i .i64 (.ofNat a.2.2.2.2))],[],0⟩) (λa=>mT s l a.1 a.2.1 a.2.2.1 a.2.2.2.1 a.2.2.2.2=mT s l (afn s.length l.length 0 (-1) 0+1) 0 0 (-1) 0/\afn s.length l.length a.2.1 a.2.2.2.1 a.2.2.2.2<a.1/\a.2.1<=s.length/\a.2.2.1<=l.length/\-1<=a.2.2.2.1/\a.2.2.2.1<.ofNat a.2.2.1/\a.2.2.2.2<=a.2.1) (λa=>a.1) (_,0,0,-1,0) ⟨A,ax _,au _,au _,by simp,by simp,af _⟩ (Sm.e A ⟨.B _ A,.B _ (qz l),.B _ A,.B _ A,.B _ A,.B _ A,M⟩) ?_;rintro⟨f,at_,k,o,e⟩⟨c,r,F,H,z,J,N⟩S;simp only at c r F H z J N;generalize mT s l (afn s.length l.length 0 (-1) 0+1) 0 0 (-1) 0=b at c|-;match f,r with|f+1,r=>rw[mT]at c;refine D.bk ?_ ?_<;>intro h;(.have y:at_<s.length:=jy h;have T:o<(k:Int):=J;rw[aa y]at c;simp only at c;(have K:afn s.length l.length (at_+1) o e<afn s.length l.length at_ o e:=by unfold afn;omega);refine D.bk ?_ ?_<;>intro w;(.have d:k<l.length:=jy w;(have B:isAny l k=decide (l[k].k=2):=by unfold isAny;rw[aa d]);(have C:Lq l k s[at_]=(decide (l[k].k=1)||decide (l[k].b=s[at_])):=by unfold Lq;rw[aa d]);rw[B,C]at c;refine⟨d,Y.Q _ (Jf (aa d)) ?_⟩;refine D.bk ?_ ?_<;>intro n;(.have n:l[k].k=2:=n;rw[U (by simp[n])]at c;exact Ar.nx (i:=k) G (cr.to (f,at_,k+1,.ofNat k,at_) ⟨c,bS (ahY (show l.length-(Int.ofNat k+1).toNat<l.length-(o+1).toNat by have:(Int.ofNat k+1).toNat=k+1:=A;omega) G (FF _ _)) (kf r),F,d,show(-1:Int)<=(k:Int)by omega,show(k:Int)<((k+1:Nat):Int)by omega,af _⟩ (ax _) (Sm.e A ⟨.B _ A,.B _ (qz l),.B _ A,.B _ A,.B _ A,.B _ A,M⟩)));have n:¬l[k].k=2:=n;rw[I (by simp[n])]at c;refine cV.a [(0,0),(1,0),(2,0),(3,0),(4,0),(5,0),(6,0),(7,0),(8,0),(9,0),(10,0),(11,0),(12,0),(13,0),(14,0),(15,0),(16,0),(17,0),(18,0),(19,0),(20,0),(21,0),(22,0),(23,0)] (D.y ⟨d,Y.Q _ (Jf (aa d)) ?_⟩);refine D.bk ?_ ?_<;>intro u;(.have u:l[k].k=1:=u;rw[U (by simp[u])]at c;exact Ar.nx (i:=at_) G (Ar.nx (i:=k) G (cr.to (f,at_+1,k+1,o,e) ⟨c,bS (K) (kf r),y,d,z,show o<((k+1:Nat):Int)by omega,show e<=at_+1 by omega⟩ (ax _) (Sm.e A ⟨.B _ A,.B _ (qz l),.B _ A,.B _ A,.B _ A,.B _ A,M⟩))));have u:¬l[k].k=1:=u;refine⟨d,Y.Q _ (Jf (aa d)) (Y.Q s[at_] (aa y) ?_)⟩;refine D.bk ?_ ?_<;>intro v;(.have v:l[k].b=s[at_]:=bo v;rw[U (by simp[v])]at c;exact Ar.nx (i:=at_) G (Ar.nx (i:=k) G (cr.to (f,at_+1,k+1,o,e) ⟨c,bS (K) (kf r),y,d,z,show o<((k+1:Nat):Int)by omega,show e<=at_+1 by omega⟩ (ax _) (Sm.e A ⟨.B _ A,.B _ (qz l),.B _ A,.B _ A,.B _ A,.B _ A,M⟩))));have v:¬l[k].b=s[at_]:=λq=>v (aY Int.ofNat q);rw[I (by simp[u,v])]at c;refine D.bk ?_ ?_<;>intro g;(.have g:0<=o:=g;rw[U g]at c;refine Ar.nx (i:=e) G ?_;obtain⟨m,rfl⟩:=bX g;have P:m<k:=G;exact Ar.nx (i:=m) G (cr.to (f,e+1,m+1,m,e+1) ⟨by simpa using c,bS (Xm (show s.length+1-(e+1)<s.length+1-e by omega) (FF _ _)) (kf r),show e+1<=s.length by omega,show m+1<=l.length by omega,show(-1:Int)<=(m:Int)by omega,show(m:Int)<((m+1:Nat):Int)by omega,af _⟩ (ax _) (Sm.e A ⟨.B _ A,.B _ (qz l),.B _ A,.B _ A,.B _ A,.B _ A,M⟩)));have g:¬0<=o:=g;rw[I g]at c;rw[<-c];exact fin A);have d:l.length<=k:=jK w;(have B:isAny l k=false:=by unfold isAny;rw[bO d]);(have C:Lq l k s[at_]=false:=by unfold Lq;rw[bO d]);rw[B,C,I aS,I aS]at c;refine cV.a [(0,0),(1,0),(2,0),(3,0),(4,0),(5,0),(6,0),(7,0),(8,0),(9,0),(10,0),(11,0),(12,0),(13,0),(14,0),(15,0),(16,0),(17,0),(18,0),(19,0),(20,0),(21,0),(22,0),(23,0)] (D.n ?_);refine D.bk ?_ ?_<;>intro g;(.have g:0<=o:=g;rw[U g]at c;refine Ar.nx (i:=e) G ?_;obtain⟨m,rfl⟩:=bX g;have P:m<k:=G;exact Ar.nx (i:=m) G (cr.to (f,e+1,m+1,m,e+1) ⟨by simpa using c,bS (Xm (show s.length+1-(e+1)<s.length+1-e by omega) (FF _ _)) (kf r),show e+1<=s.length by omega,show m+1<=l.length by omega,show(-1:Int)<=(m:Int)by omega,show(m:Int)<((m+1:Nat):Int)by omega,af _⟩ (ax _) (Sm.e A ⟨.B _ A,.B _ (qz l),.B _ A,.B _ A,.B _ A,.B _ A,M⟩)));have g:¬0<=o:=g;rw[I g]at c;rw[<-c];exact fin A);have Q:s.length<=at_:=jK h;rw[bO Q]at c;simp only at c;refine bh.cA TB (c:=Nat) (λj=>⟨[(5,ajL l),(7,.i .i64 (.ofNat j))],[],0⟩) (λj=>j<=l.length/\((l.drop j).all λx=>decide (x.k=2))=b) (λj=>l.length-j) k ⟨H,c⟩ (Sm.e A ⟨.B _ (qz l),.B _ A,M⟩) ?_;rintro j⟨V,t⟩W;refine D.bk ?_ ?_<;>intro w;(.have d:=jy w;rw[ad d,bD]at t;refine⟨d,Y.Q _ (Jf (aa d)) ?_⟩;refine D.bk ?_ ?_<;>intro n;(.have n:l[j].k=2:=n;rw[aG n,bc]at t;exact Ar.nx (i:=j) G (cr.to (j+1) ⟨d,t⟩ G (Sm.e A ⟨.B _ (qz l),.B _ A,M⟩)));have n:¬l[j].k=2:=n;rw[aH n,pZ]at t;refine D.no (λq=>by have:=bo q;omega) ?_;rw[<-t];exact fin A);have d:=jK w;rw[ae d]at t;refine D.yes (aY Int.ofNat G) ?_;rw[<-t];exact fin A
def FK{l:W}{i:Nat}{K:List V->Prop}(h:i<l.length)(k:K (eB (l.getD i null))):An (i<l.length) (Y (cM (gI l) (i*3) 3) K):=⟨h,Y.Q _ (eC (by rw[az,aa h];rfl)) k⟩
def GL(op:Int)(a:List Nat)(l:W):Vl:=if op=3 then(if pz l 2 then yr (afk (l.getD 0 null).n)else null)else if op=4 then sP (Xh (fj (l.getD 0 null)))else if op=19 then oj (decide ((l.getD 0 null).k=0))else if op=5\/op=6\/op=7\/op=8\/op=9 then(if pz l 2 then yr (afm op (l.getD 0 null).n (l.getD 1 null).n)else null)else if op=10 then(if pz l 3/\(l.getD 0 null).s.length+(l.getD 1 null).s.length<=100 then FY ((l.getD 0 null).s++(l.getD 1 null).s)else null)else if op=11\/op=12\/op=13\/op=14\/op=15\/op=16 then fS op (l.getD 0 null) (l.getD 1 null)else if op=17 then GK xe (l.getD 0 null) (l.getD 1 null)else if op=18 then GK Ri (l.getD 0 null) (l.getD 1 null)else if op=20 then(if pz l 3 then oj (Xn (l.getD 0 null).s (l.getD 1 null).s)else null)else if op=21 then Oy (l.getD 0 null) (l.drop 1)else if op=22 then GK xe (fS 16 (l.getD 0 null) (l.getD 1 null)) (fS 14 (l.getD 0 null) (l.getD 2 null))else if op=23 then jL l else if op=24 then jX a l else null
def ko(op:Int)(a:List Nat)(l:W):Vl:=if Int.ofNat l.length<(iU op).1\/((iU op).2=false/\(iU op).1<Int.ofNat l.length)then null else GL op a l
def Xo{l:W}{i:Nat}(h:i<l.length):l.getD i null∈l:=by rw[az,aa h];exact aq h
def ap{op:Int}{a:List Nat}{l:W}(b:¬Int.ofNat l.length<(iU op).1)(c:¬((iU op).2=false/\(iU op).1<Int.ofNat l.length)):ko op a l=GL op a l:=by rw[ko,I];rintro(q|q);(.exact b q);exact c q
def drop1{l:W}{K:List V->Prop}(h:1<=l.length)(k:K (gI (l.drop 1))):Y (cM (gI l) (1*3) ((l.length-1)*3)) K:=Y.Q _ (by have:=Du fb l 1 (l.length-1) (by omega);rwa[show(l.drop 1).take (l.length-1)=l.drop 1 from bq (by simp)]at this) k
def Ud(op:Int)(e:List Nat)(a:W)(j:∀v∈a,v.s.length<=1000000)(k:op∈([3,4,19,5,6,7,8,9,10,11,12,13,14,15,16,17,18,20,21,22,23,24]:List Int)):Ct 263 [.i .i64 op,.s e,bl a] (eS (ko op e a)):=by
 simp only[aR,cJ,fO]at k;rcases k with rfl|rfl|rfl|rfl|rfl|rfl|rfl|rfl|rfl|rfl|rfl|rfl|rfl|rfl|rfl|rfl|rfl|rfl|rfl|rfl|rfl|rfl;all_goals refine ct Tryz.func263 190 A (by simp[bp,ee,bt]) (br _) ?_;refine O.C (yq _) ?_;refine D.mk (λf=>?_) (λf=>?_);(.exact ca (by rw[ko,U (.inl f)];rfl) (br _));have m:=f;simp[iU]at m;have d:=λn h=>j _ (Xo (l:=a) (i:=n) h);(first|refine D.mk (λg=>ca (by rw[ko,U (.inr ⟨A,g⟩)];rfl) (br _)) (λg=>?_)|skip);have b:=ap f (by first|exactλq=>g q.2|exactλq=>absurd q.1 (by decide)) (a:=e);(repeat refine D.no (by decide) ?_);refine D.yes (by decide) ?_
 iterate 1 refine O.C (oW a 2) ?_;cases c:pz a 2;(.exact ca (by rw[b];simp[GL,c,null,eS]) (br _));exact FK (show 0<a.length by omega) (O.C (Rm _) (O.C (qy _) (ca (by rw[b];simp[GL,c,eS]) (br _))))
 .exact FK (show 0<a.length by omega) (O.C (py _) (O.C (aby _) (O.C (vK _) (ca (by rw[b];rfl) (br _)))))
 .refine FK (show 0<a.length by omega) ?_;refine D.mk (λh=>?_) (λh=>?_)<;>refine O.C (gK _) (ca ?_ (br _))<;>rw[b,GL,I (by decide),I (by decide),U A];(.rw[aG h];rfl);rw[aH h];rfl
 iterate 5 refine O.C (oW a 2) ?_;cases c:pz a 2;(.exact ca (by rw[b];simp[GL,c,null,eS]) (br _));refine cV.eo [(0,0),(1,0),(2,0),(3,0),(4,0),(5,0),(6,0),(7,0),(8,0),(9,0),(10,1),(11,2),(12,2),(13,2),(14,3)] (by kernel_rfl) (O.C (Ox _ (by simp)) (FK (show 0<a.length by omega) ⟨A,FK (show 1<a.length by omega) ⟨A,?_⟩⟩));exact O.C (Xj _ _ _) (O.C (qy _) (ca (by rw[b];simp[GL,c,eS]) (br _)))
 .refine cV.eo [(0,0),(1,0),(2,1),(3,1),(4,1),(5,1),(6,1),(7,1),(8,1),(9,1),(10,1),(11,1),(12,1),(13,1),(14,1),(15,1)] (by kernel_rfl) (O.C (oW a 3) ?_);cases c:pz a 3;(.exact ca (by rw[b];simp[GL,c,null,eS]) (br _));have p:=d 1 (by omega);have d:=d 0 (by omega);refine FK (show 0<a.length by omega) (FK (show 1<a.length by omega) (Ar.ok (show-9223372036854775808<=(((a.getD 0 null).s.length:Nat):Int)+((a.getD 1 null).s.length:Nat)by omega) (show(((a.getD 0 null).s.length:Nat):Int)+((a.getD 1 null).s.length:Nat)<=9223372036854775807 by omega) ?_));refine D.mk (λh=>?_) (λh=>?_);(.have h:(((a.getD 0 null).s.length:Nat):Int)+((a.getD 1 null).s.length:Nat)<=100:=h;refine cV.eo [(0,0),(1,0),(2,0),(3,0),(4,0),(5,0),(6,0),(7,0),(8,0),(9,0),(10,1)] (by kernel_rfl) (FK (show 0<a.length by omega) (FK (show 1<a.length by omega) ⟨show(a.getD 0 null).s.length+(a.getD 1 null).s.length<=9223372036854775807 by omega,O.C (Aj _) (ca ?_ (br _))⟩));rw[b,GL,I (by decide),I (by decide),I (by decide),I (by decide),U A,U ⟨c,by omega⟩];rfl);have h:¬(((a.getD 0 null).s.length:Nat):Int)+((a.getD 1 null).s.length:Nat)<=100:=h;refine ca ?_ (br _);rw[b,GL,I (by decide),I (by decide),I (by decide),I (by decide),U A,I (by rintro⟨_,q⟩;omega)];rfl
 iterate 6 exact cV.eo [(0,0),(1,0),(2,0),(3,0),(4,0),(5,0),(6,0),(7,0),(8,1)] (by kernel_rfl) (FK (show 0<a.length by omega) (FK (show 1<a.length by omega) (O.C (lC _ _ _ (by simp)) (ca (by rw[b];rfl) (br _)))))
 .exact cV.eo [(0,0),(1,0),(2,0),(3,0),(4,0),(5,0),(6,0),(7,1)] (by kernel_rfl) (FK (show 0<a.length by omega) (FK (show 1<a.length by omega) (O.C (uC _ xe Rj _ _) (ca (by rw[b];rfl) (br _)))))
 .exact cV.eo [(0,0),(1,0),(2,0),(3,0),(4,0),(5,0),(6,0),(7,1)] (by kernel_rfl) (FK (show 0<a.length by omega) (FK (show 1<a.length by omega) (O.C (uC _ Ri DA _ _) (ca (by rw[b];rfl) (br _)))))
 .refine O.C (oW a 3) ?_;cases c:pz a 3;(.exact ca (by rw[b];simp[GL,c,null,eS]) (br _));exact cV.eo [(0,0),(1,0),(2,0),(3,0),(4,0),(5,0),(6,0),(7,0),(8,0),(9,1),(10,2)] (by kernel_rfl) (FK (show 0<a.length by omega) (FK (show 1<a.length by omega) (O.C (OA _ _ (d 0 (by omega)) (d 1 (by omega))) (O.C (gK _) (ca (by rw[b];simp[GL,c,eS]) (br _))))))
 .refine cV.eo [(0,0),(1,0),(2,0),(3,0),(4,0),(5,0),(6,1)] (by kernel_rfl) (FK (show 0<a.length by omega) ⟨⟨show 1<=a.length by omega,af _⟩,drop1 (by omega) ?_⟩);rw[show V.Q (a.length-1) (gI (a.drop 1))=bl (a.drop 1)by rw[bl,cP]];exact O.C (Jc _ _) (ca (by rw[b];rfl) (br _))
 .exact cV.eo [(0,0),(1,0),(2,0),(3,0),(4,0),(5,0),(6,0),(7,0),(8,0),(9,0),(10,0),(11,0),(12,0),(13,1),(14,2),(15,3)] (by kernel_rfl) (FK (show 0<a.length by omega) (FK (show 1<a.length by omega) (O.C (lC 16 _ _ (by simp)) (FK (show 0<a.length by omega) ⟨A,FK (show 2<a.length by omega) ⟨A,O.C (lC 14 _ _ (by simp)) (O.C (uC _ xe Rj _ _) (ca (by rw[b];rfl) (br _)))⟩⟩))))
 .exact O.C (Jd a) (ca (by rw[b];rfl) (br _))
 exact O.C (Ga e a λv o=>by have:=j v o;omega) (ca (by rw[b];rfl) (br _))
def Xp(op:Int)(a:List Nat)(l:W)(h:op≠3/\op≠4/\op≠19/\op≠5/\op≠6/\op≠7/\op≠8/\op≠9/\op≠10/\op≠11/\op≠12/\op≠13/\op≠14/\op≠15/\op≠16/\op≠17/\op≠18/\op≠20/\op≠21/\op≠22/\op≠23/\op≠24):Ct 263 [.i .i64 op,.s a,bl l] (eS (ko op a l)):=by
 refine ct Tryz.func263 190 A (by simp[bp,ee,bt]) (br _) ?_;obtain⟨b,c,d,e,f,g,i,j,k,m,n,o,p,q,r,s,t,u,v,w,x,y⟩:=h;have z:iU op=(2,false):=by simp[iU,b,c,d,e,f,g,i,j,k,m,n,o,p,q,r,s,t,u,v,w,x,y]
 have B:ko op a l=null:=by unfold ko;split;(.rfl);simp[GL,b,c,d,e,f,g,i,j,k,m,n,o,p,q,r,s,t,u,v,w,x,y]
 refine O.C (yq op) ?_;rw[z,B];refine D.mk (λC=>?_) (λC=>?_);.exact fin (br _)
 refine D.mk (λE=>?_) (λE=>?_);.exact fin (br _)
 refine D.no b<|D.no c<|D.no d<|D.no e<|D.no f<|D.no g<|D.no i<|D.no j<|D.no k<|D.no m<|D.no n<|D.no o<|D.no p<|D.no q<|D.no r<|D.no s<|D.no t<|D.no u<|D.no v<|D.no w<|D.no x<|D.no y<|?_;exact fin (br _)
def yt(op:Int)(a:List Nat)(l:W)(c:∀v∈l,v.s.length<=1000000):Ct 263 [.i .i64 op,.s a,bl l] (eS (ko op a l)):=by by_cases b:op∈([3,4,19,5,6,7,8,9,10,11,12,13,14,15,16,17,18,20,21,22,23,24]:List Int);(.exact Ud op a l c b);exact Xp op a l (by simpa using b)
def oD(b:List W)(d a:Int):Vl:=if 0<=d/\d<Int.ofNat b.length/\0<=a/\a<Int.ofNat (b.getD d.toNat []).length then(b.getD d.toNat []).getD a.toNat null else null
mutual
def jY(b:List W):J->Vl|.mk op v d a c K sub ty=>if op=1 then v else if op=2 then oD b d a else if op=26\/op=27\/op=28 then null else ko op c (DD b K)
def DD(a:List W):List J->W|[]=>[]|t::l=>jY a t::DD a l
end
def Lr(b:List W)(t:J):jY b t=if t.op=1 then t.v else if t.op=2 then oD b t.depth t.at_ else if t.op=26\/t.op=27\/t.op=28 then null else ko t.op t.name (t.K.map (jY b)):=by (have:∀l,DD b l=l.map (jY b):=by intro l;induction l with|nil=>simp[DD]|cons a l c=>simp[DD,c]);cases t;simp only[jY,this];rfl
def Ue{b:List W}{d a:Nat}{r:W}{v:Vl}(c:b[d]?=some r)(e:r[a]?=some v):oD b (Int.ofNat d) (Int.ofNat a)=v:=by
 have h:=(ba.1 c).1;have f:b.getD d []=r:=by rw[az,c];rfl
 have i:=(ba.1 e).1;have g:r.getD a null=v:=by rw[az,e];rfl
 unfold oD;rw[U];.simp only[bY,ir,f,g]
 simp only[bY,ir,f];omega
inductive lj(a:List W):J->Prop|mk(t:J)(b:t.K.length<=1000000000)(h:∀k∈t.K,lj a k)(c:∀k∈t.K,(jY a k).s.length<=1000000):lj a t
def lj.l1{a:List W}{t:J}(h:lj a t):t.K.length<=1000000000:=by cases h;assumption
def lj.l2{a:List W}{t:J}(h:lj a t):∀k∈t.K,lj a k:=by cases h;assumption
def lj.l3{a:List W}{t:J}(h:lj a t):∀k∈t.K,(jY a k).s.length<=1000000:=by cases h;assumption
def Ro(t:J)(b:List W)(f:t.op=2):Ct 155 [dr t,bW b] (eS (oD b t.depth t.at_)):=by obtain⟨op,v,d,a,j,K,sub,ty⟩:=t;simp only[J.op]at f;subst f;show Ct _ _ (eS (oD b d a));refine ef Tryz.func155 81 (D.no (show¬(2:Int)=1 by decide) (D.yes (show(2:Int)=2 from A) (cV.eo [(0,0),(1,0),(2,0),(3,0),(4,0),(5,0),(6,0),(7,0),(8,0),(9,0),(10,0),(11,0),(12,0),(13,0),(14,0),(15,0),(16,0),(17,0),(18,0),(19,0),(20,0),(21,0),(22,0),(23,0),(24,0),(25,0)] (by kernel_rfl) ?_)));refine D.bk ?_ ?_<;>intro g;(.obtain⟨n,rfl⟩:=bX g;refine D.bk ?_ ?_<;>intro h;(.have e:n<b.length:=ai.1 h;refine D.bk ?_ ?_<;>intro i;(.obtain⟨m,rfl⟩:=bX i;refine⟨e,Y.Q [bl b[n]] (dc (aa e)) ?_⟩;refine D.bk ?_ ?_<;>intro c;(.have c:m<b[n].length:=ai.1 c;exact cV.a [(0,0),(1,0),(2,0),(3,0),(4,0),(5,0),(6,0),(7,0),(8,0),(9,0)] ⟨e,Y.Q [bl b[n]] (dc (aa e)) ⟨c,Y.Q _ (eC (aa c)) (ca (by rw[show oD b (n:Int) (m:Int)=b[n][m]from Ue (aa e) (aa c)];rfl) (br _))⟩⟩);have c:¬m<b[n].length:=λq=>c (ai.2 q);exact ca (by rw[oD,I (by simp only[ir,az,aa e,nN,bY];omega)];rfl) (br _));exact ca (by rw[oD,I (by rintro⟨_,_,q,_⟩;exact i q)];rfl) (br _));exact ca (by rw[oD,I (by rintro⟨_,q,_,_⟩;exact h q)];rfl) (br _));exact ca (by rw[oD,I (by rintro⟨q,_,_,_⟩;exact g q)];rfl) (br _)
def yu:∀n:Nat,rep n (eB null)=aM eB ([]++List.replicate (n-0) null)|0=>A|n+1=>by have:=yu n;simp only[bM,kT]at this|-;rw[rep,this,oP,aM]
def Ls(a:W)(n:Nat)(v:Vl)(h:a.length+1<=n):setAt (aM eB (a++List.replicate (n-a.length) null)) (0+a.length*3) (eB v)=some (aM eB ((a++[v])++List.replicate (n-(a.length+1)) null)):=by have e:n-a.length=(n-(a.length+1))+1:=G;rw[e,oP];have b:(aM eB a).length=a.length*3:=bf fb a;(have c:Nat.ble (0+a.length*3+(eB v).length) (aM eB (a++null::List.replicate (n-(a.length+1)) null)).length=true:=by rw[cf,bf fb,fb];simp;omega);simp only[setAt,c];congr 1;rw[bP,aM,bP,bP,bR];rw[cu G,bq G,fv,ae G,bM,b];rw[show a.length*3+(eB v).length-a.length*3=(eB null).length by rw[fb,fb];omega];rw[fa (af _),su,bM];simp[aM]
def Bp(b:List W)(t:J)(d:lj b t):Ct 155 [dr t,bW b] (eS (jY b t)):=by
 have B:=d.l1;have m:=d.l2;have n:=d.l3;have o:∀k∈t.K,Ct 155 [dr k,bW b] (eS (jY b k)):=λk d=>Bp b k (m k d);rw[Lr];by_cases f:t.op=2;.rw[I G,U f];exact Ro t b f
 refine ef Tryz.func155 81 ?_;refine D.bk ?_ ?_<;>intro i;.exact ca (by rw[U i];rfl) (br _)
 rw[I i,I f];refine D.no f ?_;refine D.bk ?_ ?_<;>intro p;.exact ca (by rw[U (.inl p)];rfl) (br _)
 refine D.bk ?_ ?_<;>intro r;.exact ca (by rw[U (.inr (.inl r))];rfl) (br _)
 refine D.bk ?_ ?_<;>intro s;.exact ca (by rw[U (.inr (.inr s))];rfl) (br _)
 rw[I (by rintro(q|q|q)<;>contradiction)];refine⟨⟨au _,aN,G⟩,bh.cA TB (c:=Nat×W) (λa=>⟨[(2,.p 0 0),(4,.p 1 0),(62,cg t.K),(63,.i .i64 (.ofNat t.K.length)),(64,.i .i64 (.ofNat a.1)),(1,bW b),(5,.Z 2 0 a.2.length t.K.length none)],[(0,.c (fB t)),(1,.c [.i .i64 0,.i .i64 0,.s []]),(2,.y (aM eB (a.2++List.replicate (t.K.length-a.2.length) null)) false)],3⟩) (λa=>a.1<=t.K.length/\a.2=(t.K.take a.1).map (jY b)) (λa=>t.K.length-a.1) (0,[]) ⟨au _,A⟩ ?_ ?_⟩;.refine Sm.a [(0,0),(1,1),(2,2)] (b:=⟨cE (bg t) A,cE A A,dQ (yu _) (aT fk _) (bu mB _),M⟩)
 rintro⟨k,c⟩⟨u,g⟩C;simp only at u g;have w:c.length=k:=by rw[g];simp;omega
 refine D.bk ?_ ?_<;>intro h;.have e:k<t.K.length:=jy h;have x:=aq e;refine⟨e,Y.Q _ (cB (aa e)) (O.C (o t.K[k] x) (D.yes (show c.length+1<=t.K.length by omega) (Y.Q (aM eB ((c++[jY b t.K[k]])++List.replicate (t.K.length-(c.length+1)) null)) (Ls c t.K.length (jY b t.K[k]) G) (Ar.n (cr.a (k+1,c++[jY b t.K[k]]) ⟨e,?_⟩ [(0,0),(1,1),(2,2)] (j:=⟨cE (bg t) A,cE A A,dQ aS (aT fk _) (bu mB _),M⟩))))))⟩;show c++[jY b t.K[k]]=_;rw[g,ed,aa e,dy];rfl
 have E:=jK h;have y:k=t.K.length:=G;subst y;have j:c=t.K.map (jY b):=by rw[g,bq (af _)]
 have z:c++List.replicate (t.K.length-c.length) null=c:=by rw[w,fN];simp
 exact O.rd (yt t.op t.name c (λv l=>by rw[j]at l;obtain⟨k,d,rfl⟩:=aV.1 l;exact n k d)) A (.cons (.B _ A) (.cons (.B _ A) (.cons (by simp only[z];exact Cv ⟨_,A⟩ A A (ib _)) .nil))) (ca (by rw[j];rfl) (br _))termination_by SizeOf.sizeOf t decreasing_by exact J.bK d
end Go.Ev
