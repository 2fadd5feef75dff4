/- TopRewrites: a part of the proof. -/
import Derived.Test.YtcimkkmkiedobaaGreatDoorM23
set_option maxRecDepth 100000
set_option maxHeartbeats 32000000
set_option linter.all false
namespace Go.Ev
section
def BD{d f:W->Bool}{left:Bool}{g:W}{right:List W}:∀{c:List W},(∀a∈c,∀b∈right,f (a++b)=d (a++b))->gr f left g right c=gr d left g right c|[],_=>A|a::c,h=>by have e:(right.filter λb=>f (a++b))=right.filter λb=>d (a++b):=eA λb i=>h a aS b i;have j:=BD (c:=c) (left:=left) (g:=g) λx k=>h x (bA _ k);simp only[gr,e,j]
def yU{b c:W->W}:∀{rows:List W}{a:List (W×List W)},(∀x∈rows,c x=b x)->dM c a rows=dM b a rows|[],a,_=>A|x::l,a,h=>by have d:=yU (rows:=l) (a:=nv (b x) x a) λy e=>h y (bA _ e);simp only[dM,h x aS,d]
def UO(db:List Dt)(a:List W):cO db [] a=[]:=by rw[cO]
def eV(db:List Dt)(r:N)(l:List N)(a:List W):cO db (r::l) a=er db r a:=by rw[cO]
def hV(db:List Dt)(l:List N)(b:List W):fc db l b=cO db (l.drop 1) b:=by cases l with|nil=>simp[fc,cO]|cons a l=>simp[fc]
def dh(db:List Dt)(a:List W):∀l:List J,cF db l a=l.map λt=>cN db t a|[]=>by simp[cF]|t::l=>by simp[cF,dh db a l]
def mK(db:List Dt)(a:List W):∀l:List J,sA db l a=l.all λt=>decide (fj (cN db t a)=2)|[]=>by simp[sA]|t::l=>by simp[sA,mK db a l]
def jD(db:List Dt)(rows b:List W):∀l:List Ag,iX db l rows b=l.map λa=>Uf db a rows b|[]=>by simp[iX]|t::l=>by simp[iX,jD db rows b l]
def qK(db:List Dt)(a:Ag)(rows b:List W):Uf db a rows b=wv a.name a.dt (!a.t.isEmpty) (match a.t with|[]=>rows.map λ_=>null|t::_=>rows.map λx=>cN db t (x::b)):=by cases a with|mk c d t=>cases t<;>(rw[Uf];rfl)
def xt{db:List Dt}{r d:N}{e m:List W}(S:W->Prop)(v:d.op=r.op)(D:d.de=r.de)(E:d.rows=r.rows)(F:d.cq=r.cq)(G:d.bH=r.bH)(H:d.skip=r.skip)(J:d.all=r.all)(w:cO db d.K m=cO db r.K e)(z:fc db d.K m=fc db r.K e)(f:(d.K[1]?).map (λk=>k.aP.length)=(r.K[1]?).map λk=>k.aP.length)(t:(r.op=3\/r.op=4\/r.op=7)->∀x∈cO db r.K e,S x)(K:(r.op=5\/r.op=6)->∀a∈cO db r.K e,∀b∈fc db r.K e,S (a++b))(A:∀x,S x->sA db d.ao (x::m)=sA db r.ao (x::e))(B:∀x,S x->cF db d.ao (x::m)=cF db r.ao (x::e))(L:d.ao.isEmpty=r.ao.isEmpty)(O:∀rows,(∀x∈rows,S x)->iX db d.aJ rows m=iX db r.aJ rows e):er db d m=er db r e:=by
 rw[ig,ig,v,D,E,F,G,H,J,w,z,L];by_cases i:r.op=1;.simp[i]
 by_cases j:r.op=2;.simp[j]
 by_cases g:r.op=3;.simp only[g];rw[I aD,I aD,U M,I aD,I aD,U M];exact eA λx p=>A x (t (.inl g) x p)
 by_cases h:r.op=4;.simp only[h];rw[I aD,I aD,I aD,U M,I aD,I aD,I aD,U M];exact bF λx p=>B x (t (.inr (.inl h)) x p)
 by_cases l:r.op=5\/r.op=6
 .rw[I i,I j,I g,I h,U l,I i,I j,I g,I h,U l];unfold oL;rw[jA,uL,jA,uL,w,z,v];cases u:r.K[1]?with
  |none=>cases s:d.K[1]?with|none=>rfl|some b=>rw[u,s]at f;cases f
  |some b=>cases s:d.K[1]?with|none=>rw[u,s]at f;cases f|some P=>rw[u,s]at f;(have f:P.aP.length=b.aP.length:=by simpa using f);simp only[f];exact BD λa Q c R=>A _ (K l a Q c R)
 by_cases q:r.op=7;.rw[I i,I j,I g,I h,I l,U q,I i,I j,I g,I h,I l,U q];have C:=t (.inr (.inr q));rw[yU λx p=>B x (C x p)];refine bF λb o=>?_;rw[O];have:=rZ (S:=S) (n:=0) C (λb o=>by split at o;(.simp at o;subst o;exact⟨λy T=>(by cases T),af _⟩);cases o) b o;exact this.1
 rw[I i,I j,I g,I h,I l,I q,I i,I j,I g,I h,I l,I q]
def qL{db:List Dt}{t a:J}{c d:List W}(f:a.op=t.op)(g:a.v=t.v)(h:t.op=2->oD d a.depth a.at_=oD c t.depth t.at_)(i:a.name=t.name)(j:cF db a.K d=cF db t.K c)(k:cO db a.sub d=cO db t.sub c):cN db a d=cN db t c:=by
 rw[fZ,fZ,f,g,i,j,k];by_cases e:t.op=1;.rw[U e,U e]
 rw[I e,I e];by_cases b:t.op=2;.rw[U b,U b,h b]
 rw[I b,I b]
def JB(b:List W)(x:W)(post:List W)(a:Int):oD (b++x::post) (b.length:Int) a=cellS x a:=by unfold oD cellS;have e:(b++x::post).getD (b.length:Int).toNat []=x:=aS;rw[e];by_cases h:0<=a/\a<Int.ofNat x.length;(.rw[U ⟨by omega,aN,h.1,h.2⟩,U h]);rw[I (λq=>h q.2.2),I h]
def RU{b:List W}{x y:W}{post:List W}{d a:Int}(h:d≠b.length):oD (b++x::post) d a=oD (b++y::post) d a:=by
 unfold oD;have e:∀z:W,0<=d->(b++z::post).getD d.toNat []=if d.toNat<b.length then b.getD d.toNat []else post.getD (d.toNat-b.length-1) []:=λz c=>by simp only[az];split;(.rename_i q;rw[cb q]);rename_i q;rw[bU G];have:d.toNat-b.length=(d.toNat-b.length-1)+1:=G;rw[this,gH];rfl
 by_cases c:0<=d;.simp only[e x c,e y c,aj,aE]
 rw[I (λq=>c q.1),I (λq=>c q.1)]
def ik{c d:Int}{a:Int}:∀{b:List J},a∈fG c d b↔∃k∈b,a∈fq c d k|[]=>by simp[fG]|t::b=>by simp[fG,ik (b:=b)]
def oy{c d:Int}{a:Int}:∀{b:List N},a∈gv c d b↔∃k∈b,a∈pC c d k|[]=>by simp[gv]|t::b=>by simp[gv,oy (b:=b)]
def uX{c d:Int}{a:Int}:∀{b:List Ag},a∈lK c d b↔∃k∈b,a∈Rt c d k|[]=>by simp[lK]|t::b=>by simp[lK,uX (b:=b)]
section
variable(db:List Dt)(tO:Int->Int)(x1 x2:W)(post:List W)
def JC:∀n:Nat,(∀(t:J)(d:List W)(k:Int),SizeOf.sizeOf t<n->k=d.length->(∀a∈fq 0 k t,cellS x1 (tO a)=cellS x2 a)->cN db (eU 0 tO k t) (d++x1::post)=cN db t (d++x2::post))/\(∀(r:N)(d:List W)(k:Int),SizeOf.sizeOf r<n->k=d.length+1->(∀a∈pC 0 k r,cellS x1 (tO a)=cellS x2 a)->er db (gj 0 tO k r) (d++x1::post)=er db r (d++x2::post))
|0=>⟨λt _ _ h=>absurd h (aB _),λt _ _ h=>absurd h (aB _)⟩|n+1=>by
 obtain⟨v,z⟩:=JC n;have o:∀(l:List N)(d:List W)(k:Int),(∀r∈l,SizeOf.sizeOf r<n)->k=d.length+1->(∀r∈l,∀a∈pC 0 k r,cellS x1 (tO a)=cellS x2 a)->cO db (l.map (gj 0 tO k)) (d++x1::post)=cO db l (d++x2::post):=λl d k p i B=>by cases l with|nil=>simp[cO]|cons r l=>rw[aw,eV,eV];exact z r d k (p r aS) i (B r aS)
 refine⟨λt d k C j g=>?_,λr d k C j g=>?_⟩;.rw[mG]at g;(have m:∀q∈t.K,SizeOf.sizeOf q<n:=λq c=>by have:=J.bK c;omega);(have D:∀q∈t.sub,SizeOf.sizeOf q<n:=λq c=>by have:=J.sub_lt c;omega);(have e:eU 0 tO k t=.mk t.op t.v t.depth (if t.op=2/\t.depth-k=0 then tO t.at_ else t.at_) t.name (t.K.map (eU 0 tO k)) (t.sub.map (gj 0 tO (k+1))) t.ty:=by cases t;rw[eU,iY,jC];rfl);rw[e];refine qL A A (λi=>?_) A ?_ ?_;(.show oD _ t.depth (if t.op=2/\t.depth-k=0 then tO t.at_ else t.at_)=_;by_cases s:t.depth-k=0;(.rw[U ⟨i,s⟩,show t.depth=(d.length:Int)by omega,JB,JB];exact g _ (by rw[U ⟨i,s⟩];simp));rw[I (λq=>s q.2)];exact RU G);(.show cF db (t.K.map (eU 0 tO k)) _=_;rw[dh,dh,cI];exact bF λq c=>(v q d k (m q c) j λa f=>g a (by simp only[aZ];exact .inr (.inl (ik.2 ⟨q,c,f⟩)))));exact o t.sub d (k+1) D G λr E a f=>g a (by simp only[aZ];exact .inr (.inr (oy.2 ⟨r,E,f⟩)))
 rw[yy]at g;have m:∀q∈r.K,SizeOf.sizeOf q<n:=λq c=>by have:=N.bK c;omega
 have F:∀q∈r.ao,SizeOf.sizeOf q<n:=λq c=>by have:=N.eD c;omega
 have H:∀a∈r.aJ,∀q∈a.t,SizeOf.sizeOf q<n:=λa f q c=>by have:=N.hQ f;have:=Ag.qi c;omega
 have w:∀q∈r.K,∀a∈pC 0 k q,cellS x1 (tO a)=cellS x2 a:=λq c a f=>g a (by simp only[aZ];exact .inr (.inr (oy.2 ⟨q,c,f⟩)));have y:∀q,SizeOf.sizeOf q<n->(∀a∈fq 0 k q,cellS x1 (tO a)=cellS x2 a)->∀x:W,cN db (eU 0 tO k q) (x::(d++x1::post))=cN db q (x::(d++x2::post)):=λq p i x=>v q (x::d) k p aN i;have u:∀q∈r.ao,∀x:W,cN db (eU 0 tO k q) (x::(d++x1::post))=cN db q (x::(d++x2::post)):=λq c=>y q (F q c) λa f=>g a (by simp only[aZ];exact .inl (ik.2 ⟨q,c,f⟩));rw[td];refine xt (S:=λ_=>True) A A A A A A A (o r.K d k m j w) ?_ ?_ (λ_ _ _=>M) (λ_ _ _ _ _=>M) (λx _=>?_) (λx _=>?_) ?_ (λrows _=>?_);.show fc db (r.K.map (gj 0 tO k)) _=_;rw[hV,hV,<-lA];exact o (r.K.drop 1) d k (λq c=>m q (dN c)) j λq c=>w q (dN c)
 .show Option.map _ ((r.K.map (gj 0 tO k))[1]?)=_;rw[ck,ff];congr 1;funext q;simp[Function.comp,td,N.aP]
 .show sA db (r.ao.map (eU 0 tO k)) _=_;rw[mK,mK,zI];exact dW.2 (by simp only[aU,Function.comp];exact⟨λh q c=>by rw[<-u q c x];exact h q c,λh q c=>by rw[u q c x];exact h q c⟩)
 .show cF db (r.ao.map (eU 0 tO k)) _=_;rw[dh,dh,cI];exact bF λq c=>u q c x
 .show(r.ao.map (eU 0 tO k)).isEmpty=_;cases r.ao<;>rfl
 show iX db (r.aJ.map (mapA 0 tO k)) rows _=_;rw[jD,jD,cI];refine bF λa f=>?_;show Uf db (mapA 0 tO k a) rows _=_;have c:∀q∈a.t,∀x,cN db (eU 0 tO k q) (x::(d++x1::post))=cN db q (x::(d++x2::post)):=λq c x=>y q (H a f q c) (λb K=>g b (by simp only[aZ];exact .inr (.inl (uX.2 ⟨a,f,by rw[yz];exact ik.2 ⟨q,c,K⟩⟩)))) x;rw[qK,qK,vQ];obtain⟨L,O,t⟩:=a;simp only[Ag.name,Ag.dt,Ag.t]at c|-;cases t with|nil=>rfl|cons q l=>simp only[aw,List.isEmpty_cons];congr 1;exact bF λx _=>c q aS x
end
def map_id(c:Int):∀n:Nat,(∀(t:J)(k:Int),SizeOf.sizeOf t<n->eU c id k t=t)/\(∀(r:N)(k:Int),SizeOf.sizeOf r<n->gj c id k r=r)
|0=>⟨λt _ h=>absurd h (aB _),λt _ h=>absurd h (aB _)⟩|n+1=>by
 obtain⟨i,j⟩:=map_id c n;have mT:∀(l:List J)(k:Int),(∀q∈l,SizeOf.sizeOf q<n)->l.map (eU c id k)=l:=λl k h=>by (conv=>rhs;rw[<-vr l]);exact bF λq b=>i q k (h q b)
 have mR:∀(l:List N)(k:Int),(∀q∈l,SizeOf.sizeOf q<n)->l.map (gj c id k)=l:=λl k h=>by (conv=>rhs;rw[<-vr l]);exact bF λq b=>j q k (h q b)
 refine⟨λt k h=>?_,λr k h=>?_⟩
 .have e:=mT t.K k λq b=>by have:=J.bK b;omega
  have f:=mR t.sub (k+1) λq b=>by have:=J.sub_lt b;omega
  cases t with|mk op v d a p K sub ty=>simp only[J.K,J.sub]at e f;rw[eU,iY,jC,e,f];simp
 have e:=mT r.ao k λq b=>by have:=N.eD b;omega
 have f:=mR r.K k λq b=>by have:=N.bK b;omega
 have g:r.aJ.map (mapA c id k)=r.aJ:=by (conv=>rhs;rw[<-vr r.aJ]);refine bF λa m=>?_;(have o:=mT a.t k λq b=>by have:=N.hQ m;have:=Ag.qi b;omega);rw[vQ,o];cases a;rfl
 cases r with|mk op s aP K ao aJ cq bH skip all rows=>simp only[N.K,N.ao,N.aJ]at e f g;rw[gj,iY,jC,Aq,e,f,g]
def Pj(db:List Dt)(t:J)(x1 x2:W)(b:List W)(h:∀a∈fq 0 0 t,cellS x1 a=cellS x2 a):cN db t (x1::b)=cN db t (x2::b):=by have:=(JC db id x1 x2 b _).1 t [] 0 (ax _) A h;rw[(map_id 0 _).1 t 0 (ax _)]at this;exact this
def Yp(db:List Dt)(t:J)(tO:Int->Int)(x1 x2:W)(b:List W)(h:∀a∈fq 0 0 t,cellS x1 (tO a)=cellS x2 a):cN db (eU 0 tO 0 t) (x1::b)=cN db t (x2::b):=(JC db tO x1 x2 b _).1 t [] 0 (ax _) A h
end
def nE(a:List Dt)(b:List W)(t:J)(x:W):Bool:=decide (fj (cN a t (x::b))=2)
def Mi(v:Vl):fj v=0\/fj v=1\/fj v=2:=by unfold fj adQ;split;(.split<;>simp);simp
def JD{a:Int}(h:a=0\/a=1\/a=2):rM a=a:=by unfold rM;rw[U h]
def UQ{a:Int}(h:a=0\/a=1\/a=2):fj (sP a)=a:=by unfold sP;rw[JD h];rcases h with rfl|rfl|rfl<;>simp[fj,adQ,null]
def Yq{a b:Int}(c:a=0\/a=1\/a=2)(d:b=0\/b=1\/b=2):(xe a b=0\/xe a b=1\/xe a b=2)/\(xe a b=2↔a=2/\b=2):=by unfold xe;rw[JD c,JD d];split<;>omega
def Yr(c:List Dt)(d:List W){t a b:J}(e:t.op=17)(f:t.K=[a,b]):cN c t d=GK xe (cN c a d) (cN c b d):=by rw[fZ,I G,I G,I G,I G,I G,e,f,dh];simp[ko,iU,GL]
def aci(c:List Dt)(d:List W){t a b:J}(e:t.op=17)(f:t.K=[a,b]):fj (cN c t d)=2↔fj (cN c a d)=2/\fj (cN c b d)=2:=by rw[Yr c d e f,GK];have h:=Yq (Mi (cN c a d)) (Mi (cN c b d));rw[UQ h.1,h.2]
def RV(c:List Dt)(d:List W){t a b:J}(e:t.op=17)(f:t.K=[a,b])(x:W):nE c d t x=(nE c d a x&&nE c d b x):=by unfold nE;rw[dW,aA,bG,bG,bG,aci c (x::d) e f]
def Ew(c:List Dt)(d:List W)(x:W):∀(n:Nat)(t:J),SizeOf.sizeOf t<n->((bL t).all λp=>nE c d p x)=nE c d t x|0,t,h=>absurd h (aB _)|n+1,t,h=>by by_cases e:t.op=17/\t.K.length=2;(.obtain⟨a,b,f⟩:=iP e.2;rw[fH e.1 f,fT,Ew c d x n a (by have:=J.bK (t:=t) (k:=a) (by rw[f];simp);omega),Ew c d x n b (by have:=J.bK (t:=t) (k:=b) (by rw[f];simp);omega),RV c d e.1 f]);rw[gO e];simp
def pn(a:List Dt)(b:List W)(t:J)(x:W):((bL t).all λp=>nE a b p x)=nE a b t x:=Ew a b x _ t (ax _)
def Mj(c:List Dt)(d:List W)(x:W)(l:List J):nE c d (dC l) x=l.all λp=>nE c d p x:=by
 rcases l with _|⟨a,l⟩;.show nE c d (dC []) x=true;unfold nE;rw[dC,fZ];rfl
 have e:∀(l:List J)(a:J),nE c d (l.foldl oY a) x=(nE c d a x&&l.all λp=>nE c d p x):=by intro l;induction l with|nil=>intro a;simp|cons b l f=>intro a;rw[hW,f (oY a b),RV c d (t:=oY a b) A A];simp[Bool.and_assoc]
 rw[dC,e,bD]
def run_filter3{a:List Dt}{r k:N}{t:J}{b:List W}(h:r.op=3)(c:r.K=[k])(ht:r.ao=[t]):er a r b=(er a k b).filter (nE a b t):=by rw[ig,I G,I G,U h,c,ht,eV];refine eA λx _=>?_;rw[mK];simp[nE]
def il(a:List Dt)(r:N)(l:List J)(b:List W):er a (bI r l) b=(er a r b).filter λx=>l.all λp=>nE a b p x:=by unfold bI;split;(.rename_i h;subst h;exact(oQ.2 λx _=>A).symm);rw[run_filter3 (k:=r) (t:=dC l) A A A];exact eA λx _=>Mj a b x l
def Ey{f g q:W->Bool}{c i:W->Bool}{j:W}{right:List W}:∀{d:List W},(∀a∈d,∀b∈right,(f (a++b)&&q (a++b))=(c a&&(i b&&g (a++b))))->(gr f false j right d).filter q=gr g false j (right.filter i) (d.filter c)|[],_=>A|a::d,h=>by have o:=Ey (d:=d) (j:=j) λx p=>h x (bA _ p);have m:=h a aS;simp only[gr,Bool.and_false,cy,dz,hG,o];(have e:((right.filter λb=>f (a++b)).map (a++·)).filter q=if c a then((right.filter i).filter λb=>g (a++b)).map (a++·)else[]:=by rw[tU,jw];cases n:c a;(.simp only[cy,dz];rw[List.map_eq_nil_iff,jr];intro b k;have:=m b k;rw[n,pZ]at this;simp only[Function.comp,lB]at this|-;rw[this];simp);simp only[fi,jw];congr 1;refine eA λb k=>?_;have:=m b k;rw[n,bc]at this;simp only[Function.comp];rw[lB,this,lB]);rw[e,cw];cases c a;(.simp);simp[gr]
def Ez{g q d:W->Bool}{i:W}{right:List W}:∀{f:List W},(∀a∈f,∀b,q (a++b)=d a)->(gr g true i right f).filter q=gr g true i right (f.filter d)|[],_=>A|a::f,h=>by have o:=Ez (g:=g) (i:=i) (right:=right) (f:=f) λx p=>h x (bA _ p);have j:=h a aS;simp only[gr,hG,o];(have e:∀m:List W,(∀y∈m,∃b,y=a++b)->m.filter q=if d a then m else[]:=λm k=>by cases n:d a;(.simp only[cy,dz];rw[jr];intro y c;obtain⟨b,rfl⟩:=k y c;rw[j,n];simp);simp only[fi];rw[oQ];intro y c;obtain⟨b,rfl⟩:=k y c;rw[j,n]);rw[e _ (by intro y c;split at c;(.simp at c;exact⟨_,c⟩);obtain⟨b,_,rfl⟩:=aV.1 c;exact⟨b,A⟩),cw];cases d a;(.simp);simp[gr]
def JE(r:W):cY r r=0:=DQ.refl DW r
def Ml(r x:W):mE r x=decide (r=x):=by unfold mE;by_cases h:r=x;(.subst h;simp[JE]);rw[aH h,aH λq=>h (pF _ _ q).symm]
def Ho(r:W)(l:List W):l.any (mE r)=decide (r∈l):=by rw[dW,nR,bG];constructor;(.rintro⟨x,a,h⟩;rw[Ml,bG]at h;subst h;exact a);intro h;exact⟨r,h,by rw[Ml];simp⟩
def BE(q:W->Bool):∀(l a:List W),(ma a l).filter q=ma (a.filter q) (l.filter q)
|[],a=>by simp[ma]|r::l,a=>by
 rw[ma,Ho,BE q l];cases b:q r;.rw[gF (by simp[b])];split;(.rfl);rw[hG,gF (by simp[b])];simp
 rw[gG (by simp[b]),ma,Ho];have:(r∈a.filter q)↔r∈a:=by simp[cd,b]
 simp only[this];split;.rfl
 rw[hG,gG (by simp[b])];simp
def yV(q:W->Bool)(l:List W):(kp l).filter q=kp (l.filter q):=BE q l []
def ordered_filter(cq:List Ky)(q:W->Bool)(l:List W):(kq cq l).filter q=kq cq (l.filter q):=(LI (AA cq) q l).symm
def JF(all:Bool)(q:W->Bool)(a b:List W):(qk 9 all a b).filter q=qk 9 all (a.filter q) (b.filter q):=by unfold qk;simp only[fi];cases all;(.simp only[cy,dz];rw[yV,hG]);simp only[fi,hG]
def BF(q:W->Bool)(a x:W):∀d:List (W×List W),(nv a x d).filter (λb=>q b.1)=if q a then nv a x (d.filter λb=>q b.1)else d.filter λb=>q b.1
|[]=>by cases h:q a<;>simp[nv,h]|(k,l)::g=>by
 have e:=BF q a x g;simp only[nv];by_cases c:cY k a=0;.have:=pF _ _ c;subst this;rw[U c];cases h:q k;(.simp[h]);simp[h,nv,c]
 rw[I c];cases h:q k;.simp only[cw,h,e];simp
 simp only[cw,h,e];cases q a;.simp
 simp[nv,c]
def wR(q:W->Bool)(a:W->W):∀(rows:List W)(c:List (W×List W)),(dM a c rows).filter (λb=>q b.1)=dM a (c.filter λb=>q b.1) (rows.filter λx=>q (a x))|[],c=>by simp[dM]|x::l,c=>by rw[dM,wR q a l,BF,cw];cases q (a x);(.simp);simp[dM]
structure kz(v:Vl):Prop where
 z:v.k=0->v.n=0/\v.s=[]
 b:v.k=1->(v.n=0\/v.n=1)/\v.s=[]
 s:v.s.length<=100
def sa(n:Nat)(x:W):Prop:=x.length=n/\∀v∈x,kz v
def gC(a:List W):Prop:=∀x∈a,∀v∈x,kz v
def gC.cons{b:List W}{x:W}(h:gC b)(c:∀v∈x,kz v):gC (x::b):=λy a=>by rcases aR.1 a with rfl|a;(.exact c);exact h y a
def dZ:kz null:=⟨λ_=>⟨A,A⟩,λh=>by simp[null]at h,au _⟩
def oz(b:Bool):kz (oj b):=⟨λh=>by simp[oj]at h,λ_=>⟨by cases b<;>simp[oj],A⟩,au _⟩
def Cz(n:Int):kz (Dv n):=⟨λh=>by simp[Dv]at h,λh=>by simp[Dv]at h,au _⟩
def JG{s:List Nat}(h:s.length<=100):kz (FY s):=⟨λh=>by simp[FY]at h,λh=>by simp[FY]at h,h⟩
def sb(a:Int):kz (sP a):=by
 unfold sP;split;.exact oz false
 split;.exact oz true
 exact dZ
def yW(x:NB):kz (yr x):=by unfold yr;split;(.exact Cz _);exact dZ
def acj{l:W}(h:∀v∈l,kz v)(i:Nat):kz (l.getD i null):=by rw[az];cases a:l[i]?with|none=>exact dZ|some v=>exact h v (bb a)
def Hq:∀{l:W},(∀v∈l,kz v)->kz (jL l)|[],_=>dZ|[a],h=>h a aS|a::b::l,h=>by rw[jL];split;(.exact h b aS);exact Hq λv c=>h v (by simp[c])
def xu{p:Vl->Bool}:∀{b:W}{c:Nat}{v:Vl},mC p b=some (c,v)->v∈b
|[],c,v,h=>by simp[mC]at h
|a::b,c,v,h=>by
 simp only[mC]at h;split at h;.simp at h;simp[h.2]
 cases d:mC p b with
 |none=>rw[d]at h;simp at h
 |some y=>rw[d]at h;simp at h;have:=xu (b:=b) (c:=y.1) (v:=y.2) d;rw[<-h.2];simp[this]
def Ys{l:W}(h:∀v∈l,kz v):kz (Bo l):=by unfold Bo;split;(.rename_i i v a;exact h v (xu a));exact dZ
def ec{p:Prop} [Decidable p]{a b:Vl}(c:kz a)(d:kz b):kz (if p then a else b):=by split<;>assumption
def pO{p:Prop} [Decidable p]{a b:Vl}(c:p->kz a)(d:¬p->kz b):kz (if p then a else b):=by split;(.exact c (by assumption));exact d (by assumption)
def Pk{l:W}(h:∀v∈l,kz v)(c:List Nat):kz (jX c l):=by
 unfold jX;refine ec (Ys h) (ec ?_ ?_);.unfold Je;split;(.exact ec (h _ aS) dZ);exact dZ
 unfold ys;split;.rename_i a;have b:=(h a aS).s;exact ec (ec (yW _) (yW _)) (ec dZ (ec (Cz _) (ec (JG (by simpa[mD]using b)) (ec (JG (by simpa[mD]using b)) dZ))))
 exact dZ
def JH(op:Int)(a b:Vl):kz (fS op a b):=by unfold fS;exact ec (oz _) dZ
def afU{l:W}(h:∀v∈l,kz v)(op:Int)(a:List Nat):kz (GL op a l):=by unfold GL;refine ec (ec (yW _) dZ) (ec (sb _) (ec (oz _) (ec (ec (yW _) dZ) (ec (pO (λq=>JG (by simpa using q.2)) λ_=>dZ) (ec (JH _ _ _) (ec (sb _) (ec (sb _) (ec (ec (oz _) dZ) (ec (sb _) (ec (sb _) (ec (Hq h) (ec (Pk h a) dZ))))))))))))
def UR{l:W}(h:∀v∈l,kz v)(op:Int)(a:List Nat):kz (ko op a l):=ec dZ (afU h op a)
def ack{b:List W}(h:gC b)(d a:Int):kz (oD b d a):=by unfold oD;refine pO (λq=>acj (λv e=>?_) _) λ_=>dZ;(have:b.getD d.toNat []∈b:=by (have c:d.toNat<b.length:=by have:=q.2.1;simp at this;omega);rw[az,aa c];exact aq c);exact h _ this v e
def US(v:Vl)(l:List W):kz (DG v l):=sb _
def Hr{x:Acc}(h:kz x.v){v:Vl}(a:kz v):kz (eT x v).v:=by unfold eT;(repeat' split);all_goals assumption
def Yt{l:List Vl}:∀{x:Acc},kz x.v->(∀v∈l,kz v)->kz (l.foldl eT x).v:=by induction l with|nil=>intro x h _;exact h|cons v l b=>intro x h a;exact b (Hr h (a v aS)) λw c=>a w (by simp[c])
def Pl{v:Vl}(b:kz v):∀{l:List Vl},(∀w∈l,kz w)->∀w∈iO v l,kz w:=λc w a=>by rcases pN a with rfl|a;(.exact b);exact c w a
structure Mm(x:Acc):Prop where
 v:kz x.v
 l:∀w∈x.l,kz w
def Pm{x:Acc}(h:Mm x){v:Vl}(a:kz v):Mm (jZ x v):=by unfold jZ;split;(.split;(.exact⟨h.v,Pl a h.l⟩);refine⟨Hr h.v a,?_⟩;have:=(th x v).2.1;rw[this];exact h.l);exact h
def Mn(a:List Nat)(d t:Bool):Mm (gd a d t):=by unfold gd;(repeat' split);all_goals exact⟨dZ,λw b=>by cases b⟩
def UT{l:List Vl}:∀{x:Acc},Mm x->(∀v∈l,kz v)->Mm (l.foldl jZ x):=by induction l with|nil=>intro x h _;exact h|cons v l b=>intro x h a;exact b (Pm h (a v aS)) λw c=>a w (by simp[c])
def acm(a:List Nat)(d t:Bool){l:List Vl}(b:∀v∈l,kz v):kz (wv a d t l):=by unfold wv DF;have h:=UT (Mn a d t) b;have c:=Yt h.v h.l;unfold DE;refine ec (Cz _) (ec ?_ (ec c dZ));unfold sS;exact ec dZ (ec (Cz _) dZ)
def BK:Nat:=1048576
def wd(l:List N)(i:Nat):Nat:=(l.map λk=>k.aP.length).getD i 0
def acn(op:Int):Nat:=if op=26\/op=27\/op=28 then 1 else 0
def mY(op:Int)(l:List N):Nat:=if op=5\/op=6 then wd l 0+wd l 1 else wd l 0
structure JI(op:Int)(aP:List Cl)(K:List N)(ao:List J)(aJ:List Ag):Prop where
 o:1<=op/\op<=12
 k:(K.length:Int)=hO op
 c:aP.length<=BK
 t:ao.length<=BK
 w:op≠1->op≠2->aP.length=if op=4 then ao.length else if op=7 then ao.length+aJ.length else mY op K
 s:op=9\/op=10\/op=11->wd K 1=wd K 0
 t3:op=3\/op=6->ao.length=1
 t5:op=5->ao.length<=1
 tn:¬(op=3\/op=4\/op=5\/op=6\/op=7)->ao=[]
 an:op≠7->aJ=[]
mutual
def kc(b:List Dt)(E:List Nat):J->Prop|.mk op v d a c K sub ty=>K.length<=BK/\sub.length=acn op/\(op=1->kz v/\K=[])/\(op=2->K=[]/\0<=d/\d<=(BK:Int)/\d<E.length/\0<=a/\a<E.getD d.toNat 0)/\Pn b E K/\UU b E sub
def Pn(a:List Dt)(E:List Nat):List J->Prop|[]=>True|t::l=>kc a E t/\Pn a E l
def akG(a:List Dt)(E:List Nat):Ag->Prop|.mk b d t=>Pn a E t
def Yu(b:List Dt)(E:List Nat):List Ag->Prop|[]=>True|a::l=>akG b E a/\Yu b E l
def mZ(a:List Dt)(E:List Nat):N->Prop|.mk op b aP K ao aJ cq bH skip all rows=>JI op aP K ao aJ/\(op=1->∀x∈jM a b,sa aP.length x)/\(op=2->∀x∈rows,sa aP.length x)/\UU a E K/\Pn a (mY op K::E) ao/\Yu a (mY op K::E) aJ
def UU(a:List Dt)(E:List Nat):List N->Prop|[]=>True|r::l=>mZ a E r/\UU a E l
end
def yX{b:List Dt}{E:List Nat}:∀{a:List J},Pn b E a↔∀t∈a,kc b E t|[]=>by simp[Pn]|t::a=>by simp[Pn,yX (a:=a)]
def EA{b:List Dt}{E:List Nat}:∀{a:List N},UU b E a↔∀t∈a,mZ b E t|[]=>by simp[UU]|t::a=>by simp[UU,EA (a:=a)]
def Mo{c:List Dt}{E:List Nat}:∀{b:List Ag},Yu c E b↔∀a∈b,∀t∈a.t,kc c E t|[]=>by simp[Yu]|.mk e d t::b=>by simp[Yu,Mo (b:=b),akG,yX,Ag.t]
structure aln(a:List Dt)(E:List Nat)(t:J):Prop where
 kl:t.K.length<=BK
 Z:t.sub.length=acn t.op
 c1:t.op=1->kz t.v/\t.K=[]
 c2:t.op=2->t.K=[]/\0<=t.depth/\t.depth<=(BK:Int)/\t.depth<E.length/\0<=t.at_/\t.at_<E.getD t.depth.toNat 0
 K:∀k∈t.K,kc a E k
 sub:∀r∈t.sub,mZ a E r
def ek{g:List Dt}{E:List Nat}{t:J}:kc g E t↔aln g E t:=by cases t with|mk op v d a h K sub ty=>rw[kc,yX,EA];exact⟨λ⟨a,b,c,d,e,f⟩=>⟨a,b,c,d,e,f⟩,λ⟨a,b,c,d,e,f⟩=>⟨a,b,c,d,e,f⟩⟩
structure aco(b:List Dt)(E:List Nat)(r:N):Prop where
 o:JI r.op r.aP r.K r.ao r.aJ
 tb:r.op=1->∀x∈jM b r.de,sa r.aP.length x
 rw:r.op=2->∀x∈r.rows,sa r.aP.length x
 K:∀k∈r.K,mZ b E k
 ao:∀t∈r.ao,kc b (mY r.op r.K::E) t
 aJ:∀a∈r.aJ,∀t∈a.t,kc b (mY r.op r.K::E) t
def dB{g:List Dt}{E:List Nat}{r:N}:mZ g E r↔aco g E r:=by cases r with|mk op h aP K ao aJ cq bH skip all rows=>rw[mZ,yX,EA,Mo];exact⟨λ⟨a,b,c,d,e,f⟩=>⟨a,b,c,d,e,f⟩,λ⟨a,b,c,d,e,f⟩=>⟨a,b,c,d,e,f⟩⟩
def nF(op:Int):hO op=if op=1\/op=2 then 0 else if op=3\/op=4\/op=7\/op=8\/op=12\/op=13 then 1 else if op=5\/op=6\/op=9\/op=10\/op=11 then 2 else-1:=rfl
def JI.one{op:Int}{aP:List Cl}{K:List N}{ao:List J}{aJ:List Ag}(h:JI op aP K ao aJ)(a:op=3\/op=4\/op=7\/op=8\/op=12):∃k,K=[k]:=by have:=h.k;rw[nF,I G,U G]at this;exact fI G
def JI.two{op:Int}{aP:List Cl}{K:List N}{ao:List J}{aJ:List Ag}(h:JI op aP K ao aJ)(c:op=5\/op=6\/op=9\/op=10\/op=11):∃a b,K=[a,b]:=by have:=h.k;rw[nF,I G,I G,U G]at this;exact iP G
def Mp{d:List Dt}:∀(n:Nat)(r:N)(E:List Nat),SizeOf.sizeOf r<n->mZ d E r->bJ r=r.aP.length|0,r,E,h,_=>absurd h (aB _)|n+1,r,E,h,e=>by have H:=dB.1 e;have f:∀k∈r.K,bJ k=k.aP.length:=λk b=>Mp n k E (by have:=N.bK b;omega) (H.K k b);have g:r.K.map bJ=r.K.map λk=>k.aP.length:=bF f;have b:=H.o.k;have i:¬(hO r.op<0\/(r.K.length:Int)<hO r.op):=G;rw[rW,I i,g];by_cases a:r.op=1\/r.op=2;(.rw[U a]);rw[I a];have j:=H.o.w (λq=>a (.inl q)) (λq=>a (.inr q));rw[j];unfold mY wd;by_cases c:r.op=4;(.simp[c]);simp[c]
def lz{a:List Dt}{r:N}{E:List Nat}(h:mZ a E r):bJ r=r.aP.length:=Mp _ r E (ax _) h
def Yv{c:List Dt}:∀(n:Nat)(r:N)(E:List Nat),SizeOf.sizeOf r<n->mZ c E r->LK r|0,r,E,h,_=>absurd h (aB _)|n+1,r,E,h,a=>by have H:=dB.1 a;refine .mk r ?_ λk b=>Yv n k E (by have:=N.bK b;omega) (H.K k b);rw[lz a];have:=H.o.c;unfold BK at this;omega
def afV{a:List Dt}{r:N}{E:List Nat}(h:mZ a E r):LK r:=Yv _ r E (ax _) h
def AI{n m:Nat}{a b:W}(d:sa n a)(e:sa m b):sa (n+m) (a++b):=⟨by rw[aj,d.1,e.1],λv c=>by rcases aZ.1 c with c|c;(.exact d.2 v c);exact e.2 v c⟩
def Po(n:Nat):sa n (List.replicate n null):=⟨by simp,λv a=>by rw[iF a];exact dZ⟩
def EB{c:W->Bool}{left:Bool}{none:W}{right:List W}:∀{l:List W}{x:W},x∈gr c left none right l->∃a∈l,(∃b∈right,x=a++b)\/x=a++none
|[],x,h=>by simp[gr]at h
|a::l,x,h=>by simp only[gr,aZ]at h;rcases h with h|h;(.refine⟨a,by simp,?_⟩;split at h;(.simp at h;exact .inr h);obtain⟨b,d,rfl⟩:=aV.1 h;exact .inl ⟨b,(cd.1 d).1,A⟩);obtain⟨y,e,h⟩:=EB h;exact⟨y,by simp[e],h⟩
def uY:∀{l a:List W}{x:W},x∈ma a l->x∈a\/x∈l|[],a,x,h=>.inl (by simpa[ma]using h)|r::l,a,x,h=>by rw[ma]at h;rcases uY h with h|h;(.split at h;(.exact .inl h);rcases aZ.1 h with h|h;(.exact .inl h);simp at h;exact .inr (by simp[h]));exact .inr (by simp[h])
def AJ{a:Bool}:∀{l left:List W}{x:W},x∈hy a l left->x∈l
|[],left,x,h=>by simp[hy]at h
|r::l,left,x,h=>by rw[hy]at h;split at h;(.rcases aR.1 h with rfl|h;(.simp);simp[AJ h]);simp[AJ h]
def RW{op:Int}{all:Bool}{a b:List W}{x:W}(h:x∈qk op all a b):x∈a\/(op=9/\x∈b):=by
 unfold qk at h;have d:x∈(if op=9 then a++b else a):=by by_cases c:op=9;(.rw[U c]at h|-;rw[U c]at h;split at h;(.exact h);rcases uY h with h|h;(.cases h);exact h);rw[I c]at h|-;rw[I c]at h;have:=AJ h;split at this;(.exact this);rcases uY this with h|h;(.cases h);exact h
 split at d;.rename_i c;rcases aZ.1 d with h|h;(.exact .inl h);exact .inr ⟨c,h⟩
 exact .inl d
def Mq{S:W->Prop}{c x:W}(d:S c):∀{l:List (W×List W)},(∀b∈l,S b.1)->∀b∈nv c x l,S b.1|[],h,b,a=>by simp[nv]at a;subst a;exact d|(k,l)::g,h,b,a=>by simp only[nv]at a;have e:=h (k,l) aS;split at a;(.rcases aR.1 a with rfl|a;(.exact e);exact h b (by simp[a]));rcases aR.1 a with rfl|a;(.exact e);exact Mq d (λb a=>h b (by simp[a])) b a
def ti{S:W->Prop}{c:W->W}:∀{rows:List W}{l:List (W×List W)},(∀x∈rows,S (c x))->(∀b∈l,S b.1)->∀b∈dM c l rows,S b.1|[],l,_,h,b,a=>h b (by simpa[dM]using a)|x::rows,l,d,h,b,a=>by rw[dM]at a;exact ti (λy e=>d y (by simp[e])) (Mq (d x aS) h) b a
def sd{a:List Dt}{l:List N}{b:List W}{x:W}(h:x∈cO a l b):∃k,l[0]?=some k/\x∈er a k b:=by
 cases l with
 |nil=>simp[cO]at h
 |cons k l=>rw[eV]at h;exact⟨k,A,h⟩
def AK{a:List Dt}{l:List N}{b:List W}{x:W}(h:x∈fc a l b):∃k,l[1]?=some k/\x∈er a k b:=by rw[hV]at h;obtain⟨k,c,d⟩:=sd h;exact⟨k,by simpa using c,d⟩
def Yw{l:List N}{i:Nat}{k:N}(h:l[i]?=some k):wd l i=k.aP.length:=by simp[wd,az,h]
def JJ(i:List Dt):∀F:Nat,(∀(t:J)(E:List Nat)(f:List W),SizeOf.sizeOf t<F->kc i E t->gC f->kz (cN i t f))/\(∀(r:N)(E:List Nat)(f:List W),SizeOf.sizeOf r<F->mZ i E r->gC f->∀x∈er i r f,sa r.aP.length x)
|0=>⟨λt _ _ h=>absurd h (aB _),λt _ _ h=>absurd h (aB _)⟩|F+1=>by
 obtain⟨L,M⟩:=JJ i F;refine⟨λt E f Z h s=>?_,λr E f Z h s=>?_⟩;.have H:=ek.1 h;(have a0:∀v∈cF i t.K f,kz v:=λv m=>by rw[dh]at m;obtain⟨q,B,rfl⟩:=aV.1 m;exact L q E f (by have:=J.bK B;omega) (H.K q B) s);rw[fZ];refine pO (λq=>(H.c1 q).1) λ_=>pO (λ_=>ack s _ _) λ_=>pO (λ_=>?_) λ_=>pO (λ_=>oz _) λ_=>pO (λ_=>?_) λ_=>UR a0 _ _;(.split;(.rename_i x l e;obtain⟨r,j,o⟩:=sd (show(x::l)∈cO i t.sub f by rw[e];simp);have Q:r∈t.sub:=bb j;exact(M r E f (by have:=J.sub_lt Q;omega) (H.sub r Q) s _ o).2 x aS);exact dZ);split;(.exact dZ);exact US _ _
 have H:=dB.1 h;have k0:∀x∈cO i r.K f,sa (wd r.K 0) x:=λx d=>by obtain⟨u,j,o⟩:=sd d;have C:u∈r.K:=bb j;rw[Yw j];exact M u E f (by have:=N.bK C;omega) (H.K u C) s x o
 have k1:∀x∈fc i r.K f,sa (wd r.K 1) x:=λx d=>by obtain⟨u,j,o⟩:=AK d;have C:u∈r.K:=bb j;rw[Yw j];exact M u E f (by have:=N.bK C;omega) (H.K u C) s x o
 have R:∀x:W,(∀v∈x,kz v)->∀v∈cF i r.ao (x::f),kz v:=λx d v m=>by rw[dh]at m;obtain⟨q,B,rfl⟩:=aV.1 m;exact L q _ _ (by have:=N.eD B;omega) (H.ao q B) (s.cons d)
 intro x d;rw[ig]at d;by_cases j:r.op=1;.rw[U j]at d;exact H.tb j x d
 rw[I j]at d;by_cases o:r.op=2;.rw[U o]at d;exact H.rw o x d
 rw[I o]at d;have z:=H.o.w j o;rw[z];unfold mY;by_cases T:r.op=3;.rw[U T]at d;rw[I G,I G,I G];exact k0 x (cd.1 d).1
 rw[I T]at d;by_cases V:r.op=4;.rw[U V]at d|-;obtain⟨y,p,rfl⟩:=aV.1 d;exact⟨by rw[dh,aF],R y (k0 y p).2⟩
 rw[I V]at d|-;by_cases O:r.op=5\/r.op=6;.rw[U O]at d;rw[I G,U O];unfold oL at d;cases g:r.K[1]?with|none=>rw[g]at d;cases d|some b=>rw[g]at d;simp only[jA,uL]at d;obtain⟨A,D,d⟩:=EB d;rcases d with⟨c,hc,rfl⟩|rfl;(.exact AI (k0 A D) (k1 c hc));rw[Yw g];exact AI (k0 A D) (Po _)
 rw[I O]at d|-;by_cases X:r.op=7;.rw[U X]at d|-;obtain⟨b,g,rfl⟩:=aV.1 d;have a1:=ti (S:=λy=>(y.length=r.ao.length)/\∀v∈y,kz v) (c:=λx=>cF i r.ao (x::f)) (rows:=cO i r.K f) (λy p=>⟨by rw[dh,aF],R y (k0 y p).2⟩) (λb g=>by split at g;(.rename_i a2;simp at g;subst g;exact⟨by rw[gg.1 a2];rfl,λv m=>by cases m⟩);cases g) b g;have a3:=rZ (S:=λy=>∀v∈y,kz v) (n:=0) (λy p=>(k0 y p).2) (λb g=>by split at g;(.simp at g;subst g;exact⟨λy p=>(by cases p),af _⟩);cases g) b g;refine AI a1 ⟨by rw[jD,aF],λv m=>?_⟩;rw[jD]at m;obtain⟨A,D,rfl⟩:=aV.1 m;rw[qK];refine acm _ _ _ λw z=>?_;cases K:A.t with|nil=>rw[K]at z;obtain⟨_,_,rfl⟩:=aV.1 z;exact dZ|cons q l=>rw[K]at z;obtain⟨y,p,rfl⟩:=aV.1 z;exact L q _ _ (by have:=N.hQ D;have:=Ag.qi (a:=A) (k:=q) (by rw[K];simp);omega) (H.aJ A D q (by rw[K];simp)) (s.cons (a3.1 y p))
 rw[I X]at d|-;by_cases Y:r.op=8;.rw[U Y]at d;rcases uY d with h|h;(.cases h);exact k0 x h
 rw[I Y]at d;by_cases P:r.op=9\/r.op=10\/r.op=11;.rw[U P]at d;rcases RW d with h|⟨_,h⟩;(.exact k0 x h);rw[<-H.o.s P];exact k1 x h
 rw[I P]at d;by_cases a4:r.op=12;.rw[U a4]at d;exact k0 x ((ln _ _).mem_iff.1 d)
 have:=H.o.o;omega
def EC{a:List Dt}{t:J}{E:List Nat}{b:List W}(h:kc a E t)(c:gC b):kz (cN a t b):=(JJ a _).1 t E b (ax _) h c
def xv{a:List Dt}{r:N}{E:List Nat}{b:List W}(h:mZ a E r)(c:gC b):∀x∈er a r b,sa r.aP.length x:=(JJ a _).2 r E b (ax _) h c
def AL{d:List Dt}{E:List Nat}:∀(n:Nat)(t:J),SizeOf.sizeOf t<n->kc d E t->∀p∈bL t,kc d E p|0,t,h,_=>absurd h (aB _)|n+1,t,h,e=>by intro p a;by_cases c:t.op=17/\t.K.length=2;(.obtain⟨x,y,b⟩:=iP c.2;rw[fH c.1 b]at a;have H:=(ek.1 e).K;rw[b]at H;rcases aZ.1 a with a|a;(.exact AL n x (by have:=J.bK (t:=t) (k:=x) (by rw[b];simp);omega) (H x aS) p a);exact AL n y (by have:=J.bK (t:=t) (k:=y) (by rw[b];simp);omega) (H y aS) p a);rw[gO c]at a;simp at a;subst a;exact e
def pP{a:List Dt}{E:List Nat}{t:J}(h:kc a E t):∀p∈bL t,kc a E p:=AL _ t (ax _) h
def afW{d:List Dt}{E:List Nat}{a b:J}(e:kc d E a)(f:kc d E b):kc d E (oY a b):=ek.2 ⟨by show 2<=BK;decide,A,λh=>(by cases h),λh=>(by cases h),λk c=>(by rcases aR.1 (c)with rfl|c;(.exact e);simp at c;subst c;exact f),λr g=>(by cases g)⟩
def Mr{c:List Dt}{E:List Nat}{l:List J}(h:∀p∈l,kc c E p):kc c E (dC l):=by
 rcases l with _|⟨a,l⟩;.exact ek.2 ⟨au _,A,λ_=>⟨oz true,A⟩,λh=>(by cases h),λk g=>(by cases g),λr i=>(by cases i)⟩
 have j:∀(l:List J)(a:J),kc c E a->(∀p∈l,kc c E p)->kc c E (l.foldl oY a):=by intro l;induction l with|nil=>intro a d _;exact d|cons b l m=>intro a d f;exact m _ (afW d (f b aS)) λp e=>f p (by simp[e])
 exact j l a (h a aS) λp e=>h p (by simp[e])
def fg(r:N)(l:List J):(bI r l).aP=r.aP:=by unfold bI;split<;>rfl
def jk{b:List Dt}{E:List Nat}{r:N}{l:List J}(h:mZ b E r)(c:∀p∈l,kc b (r.aP.length::E) p):mZ b E (bI r l):=by
 unfold bI;split;.exact h
 have d:=(dB.1 h).o.c;refine dB.2 ⟨⟨(by show(1:Int)<=3/\(3:Int)<=12;decide),A,d,(by show 1<=BK;decide),λ_ _=>A,λq=>(by simp[N.op]at q),λ_=>A,λq=>(by simp[N.op]at q),λq=>absurd (Or.inl A) q,λ_=>A⟩,λq=>(by simp[N.op]at q),λq=>(by simp[N.op]at q),λk e=>?_,λt ht=>?_,λa f=>(by cases f)⟩;.rw[show k=r by simpa[N.K]using e];exact h
 rw[show t=dC l by simpa[N.ao]using ht];exact Mr c
def JK{f:N->N}(a:∀r,(f r).aP=r.aP)(l:List N)(i:Nat):wd (l.map f) i=wd l i:=by unfold wd;rw[cI];congr 1;exact bF λr _=>by simp[Function.comp,a]
def RX{f:N->N}(a:∀r,(f r).aP=r.aP)(op:Int)(l:List N):mY op (l.map f)=mY op l:=by unfold mY;rw[JK a,JK a]
def JI.map{op:Int}{aP:List Cl}{K:List N}{ao:List J}{aJ:List Ag}(h:JI op aP K ao aJ){f:N->N}(b:∀r,(f r).aP=r.aP)(g:J->J)(q:Ag->Ag):JI op aP (K.map f) (ao.map g) (aJ.map q):={o:=h.o,k:=by rw[aF];exact h.k,c:=h.c,t:=by rw[aF];exact h.t,w:=λa c=>by rw[aF,aF,RX b];exact h.w a c,s:=λa=>by rw[JK b,JK b];exact h.s a,t3:=λa=>by rw[aF];exact h.t3 a,t5:=λa=>by rw[aF];exact h.t5 a,tn:=λa=>by rw[h.tn a];rfl,an:=λa=>by rw[h.an a];rfl}
def Hs(a:Int)(b:Int->Int)(k:Int)(r:N):(gj a b k r).aP=r.aP:=by rw[td];rfl
def Yx(o:List Dt)(d:Int->Int)(g s:Nat)(i:List Nat):∀n:Nat,(∀(t:J)(c:List Nat)(k:Int),SizeOf.sizeOf t<n->k=c.length->kc o (c++s::i) t->(∀a∈fq 0 k t,0<=d a/\d a<(g:Int))->kc o (c++g::i) (eU 0 d k t))/\(∀(r:N)(c:List Nat)(k:Int),SizeOf.sizeOf r<n->k=c.length+1->mZ o (c++s::i) r->(∀a∈pC 0 k r,0<=d a/\d a<(g:Int))->mZ o (c++g::i) (gj 0 d k r))
|0=>⟨λt _ _ h=>absurd h (aB _),λt _ _ h=>absurd h (aB _)⟩|n+1=>by
 obtain⟨y,A⟩:=Yx o d g s i n;refine⟨λt c k E v h l=>?_,λr c k E v h l=>?_⟩;.have H:=ek.1 h;rw[mG]at l;(have e:eU 0 d k t=.mk t.op t.v t.depth (if t.op=2/\t.depth-k=0 then d t.at_ else t.at_) t.name (t.K.map (eU 0 d k)) (t.sub.map (gj 0 d (k+1))) t.ty:=by cases t;rw[eU,iY,jC];rfl);rw[e];refine ek.2 ⟨by show(t.K.map _).length<=BK;rw[aF];exact H.kl,by show(t.sub.map _).length=acn t.op;rw[aF];exact H.Z,λq=>⟨(H.c1 q).1,by show t.K.map _=[];rw[(H.c1 q).2];rfl⟩,λq=>?_,λp m=>?_,λp m=>?_⟩;(.obtain⟨F,K,L,M,O,P⟩:=H.c2 q;refine⟨by show t.K.map _=[];rw[F];rfl,K,L,by show t.depth<_;simp only[aj,aE]at M|-;omega,?_⟩;show 0<=(if t.op=2/\t.depth-k=0 then d t.at_ else t.at_)/\(if t.op=2/\t.depth-k=0 then d t.at_ else t.at_)<_;by_cases w:t.depth-k=0;(.rw[U ⟨q,w⟩];have x:=l t.at_ (by rw[U ⟨q,w⟩];simp);(have u:(c++g::i).getD t.depth.toNat 0=g:=by rw[show t.depth.toNat=c.length by omega];simp);show 0<=d t.at_/\d t.at_<(((c++g::i).getD t.depth.toNat 0:Nat):Int);rw[u];exact x);rw[I (λz=>w z.2)];refine⟨O,?_⟩;(have u:(c++g::i).getD t.depth.toNat 0=(c++s::i).getD t.depth.toNat 0:=by simp only[az];by_cases B:t.depth.toNat<c.length;(.rw[cb B,cb B]);rw[bU G,bU G];have:t.depth.toNat-c.length=(t.depth.toNat-c.length-1)+1:=G;rw[this,gH,gH]);show t.at_<(((c++g::i).getD t.depth.toNat 0:Nat):Int);rw[u];exact P);(.obtain⟨q,f,rfl⟩:=aV.1 (m);exact y q c k (by have:=J.bK f;omega) v (H.K q f) λa j=>l a (by simp only[aZ];exact .inr (.inl (ik.2 ⟨q,f,j⟩))));obtain⟨q,f,rfl⟩:=aV.1 (show p∈t.sub.map (gj 0 d (k+1))from m);exact A q c (k+1) (by have:=J.sub_lt f;omega) G (H.sub q f) λa j=>l a (by simp only[aZ];exact .inr (.inr (oy.2 ⟨q,f,j⟩)))
 have H:=dB.1 h;rw[yy]at l;have C:=Hs 0 d k;have D:∀q,SizeOf.sizeOf q<n->kc o (mY r.op r.K::(c++s::i)) q->(∀a∈fq 0 k q,0<=d a/\d a<(g:Int))->kc o (mY r.op (r.K.map (gj 0 d k))::(c++g::i)) (eU 0 d k q):=λq x u Q=>by rw[RX C];exact y q (mY r.op r.K::c) k x aN u Q
 rw[td];refine dB.2 ⟨H.o.map C _ _,H.tb,H.rw,λp m=>?_,λp m=>?_,λp m t ht=>?_⟩;.obtain⟨q,f,rfl⟩:=aV.1 (m);exact A q c k (by have:=N.bK f;omega) v (H.K q f) λa j=>l a (by simp only[aZ];exact .inr (.inr (oy.2 ⟨q,f,j⟩)))
 .obtain⟨q,f,rfl⟩:=aV.1 (m);exact D q (by have:=N.eD f;omega) (H.ao q f) λa j=>l a (by simp only[aZ];exact .inl (ik.2 ⟨q,f,j⟩))
 obtain⟨a,j,rfl⟩:=aV.1 (m);rw[vQ]at ht;obtain⟨q,f,rfl⟩:=aV.1 (ht);exact D q (by have:=N.hQ j;have:=Ag.qi f;omega) (H.aJ a j q f) λb R=>l b (by simp only[aZ];exact .inr (.inl (uX.2 ⟨a,j,by rw[yz];exact ik.2 ⟨q,f,R⟩⟩)))
def RY{c:List Dt}{b:Int->Int}{d e:Nat}{E:List Nat}{t:J}(h:kc c (e::E) t)(f:∀a∈fq 0 0 t,0<=b a/\b a<(d:Int)):kc c (d::E) (eU 0 b 0 t):=(Yx c b d e E _).1 t [] 0 (ax _) A h f
def Ms{b:List Dt}{c d:Nat}{E:List Nat}{t:J}(h:kc b (d::E) t)(e:∀a∈fq 0 0 t,0<=a/\a<(c:Int)):kc b (c::E) t:=by have:=RY (b:=id) h e;rwa[(map_id 0 _).1 t 0 (ax _)]at this
def nG{t:J}(h:eM t=true):t.sub=[]/\∀k∈t.K,eM k=true:=by cases t;rw[eM,aA,qH,aU]at h;exact⟨gg.1 h.1,h.2⟩
def Hc.inv{l:List J}{t:J}(h:Hc l t):(t.op=2->t.depth=0->0<=t.at_/\t.at_<l.length)/\(t.op≠2->∀k∈t.K,Hc l k):=by cases h;exact⟨by assumption,by assumption⟩
def Pp(a:List Dt)(l:List J)(x:W)(b:List W):∀(n:Nat)(t:J),SizeOf.sizeOf t<n->eM t=true->Hc l t->cN a (zO l t) (x::b)=cN a t (cF a l (x::b)::b)|0,t,h,_,_=>absurd h (aB _)|n+1,t,h,f,g=>by obtain⟨i,j⟩:=nG f;obtain⟨k,m⟩:=g.inv;rw[Ee];by_cases c:t.op=2;(.rw[U c];by_cases d:t.depth=0;(.rw[U d];obtain⟨o,p⟩:=k c d;rw[fZ a t,I G,U c,d];have:oD (cF a l (x::b)::b) 0 t.at_=cellS (cF a l (x::b)) t.at_:=JB [] (cF a l (x::b)) b t.at_;rw[this,cellS,U ⟨o,by rw[dh,aF];exact p⟩,dh];have r:t.at_.toNat<l.length:=G;simp[az,r]);rw[I d,fZ,fZ,I G,U c,I G,U c];exact RU (b:=[]) (by simpa using d));rw[I c];refine qL A A (λq=>absurd q c) A ?_ ?_;(.show cF a (t.K.map (zO l)) _=_;rw[dh,dh,cI];exact bF λq e=>Pp a l x b n q (by have:=J.bK e;omega) (j q e) (m c q e));show cO a t.sub _=_;rw[i];simp[cO]
def Yy{d:List Dt}{l:List J}{m:Nat}{E:List Nat}(g:∀p∈l,kc d (m::E) p):∀(n:Nat)(t:J)(w:Nat),SizeOf.sizeOf t<n->eM t=true->Hc l t->kc d (w::E) t->kc d (m::E) (zO l t)|0,t,w,h,_,_,_=>absurd h (aB _)|n+1,t,w,h,s,u,v=>by obtain⟨i,x⟩:=nG s;obtain⟨y,z⟩:=u.inv;have H:=ek.1 v;rw[Ee];by_cases b:t.op=2;(.rw[U b];by_cases e:t.depth=0;(.rw[U e];obtain⟨f,j⟩:=y b e;have o:t.at_.toNat<l.length:=G;rw[az,aa o];exact g _ (aq o));rw[I e];obtain⟨f,j,A,B,C,r⟩:=H.c2 b;refine ek.2 ⟨H.kl,H.Z,H.c1,λ_=>⟨f,j,A,(by simpa using B),C,?_⟩,λk a=>(by rw[f]at a;cases a),λk a=>(by rw[i]at a;cases a)⟩;have:t.depth.toNat=(t.depth.toNat-1)+1:=G;rw[this,oR]at r|-;exact r);rw[I b];refine ek.2 ⟨by show(t.K.map _).length<=BK;rw[aF];exact H.kl,H.Z,λq=>⟨(H.c1 q).1,by show t.K.map _=[];rw[(H.c1 q).2];rfl⟩,λq=>absurd q b,λp D=>?_,λk a=>absurd (show k∈t.sub from a) (by rw[i];simp)⟩;obtain⟨q,c,rfl⟩:=aV.1 (D);exact Yy g n q w (by have:=J.bK c;omega) (x q c) (z b q c) (H.K q c)
section
structure xw(db:List Dt)(E:List Nat)(t:J)(k o:N):Prop where
 rg:mZ db E o
 aP:o.aP.length=k.aP.length
 zP:∀a,gC a->er db o a=(er db k a).filter (nE db a t)
theorem uZ{b:Type}(q p:b->Bool):∀l:List b,l.all p=((l.filter q).all p&&(l.filter λx=>!q x).all p)|[]=>A|a::l=>by rw[bD,uZ q p l];cases h:q a;(.simp only[cw,h,cy,dz,vu,fi,bD];cases p a<;>simp);simp only[cw,h,ru,cy,dz,fi,bD];cases p a<;>simp
theorem pQ{b:Type}{p q:b->Bool}{l:List b}(h:∀x∈l,p x=q x):l.all p=l.all q:=by induction l with|nil=>rfl|cons a l c=>rw[bD,bD,h a aS,c λx d=>h x (by simp[d])]
theorem within_iff{t:J}{b c:Int}:dk t b c=true↔∀a∈fq 0 0 t,b<=a/\a<c:=by unfold dk;simp[aU]
theorem UW{a b:W}{i:Int}(c:0<=i)(h:i<(a.length:Int)):cellS (a++b) i=cellS a i:=by unfold cellS;rw[U ⟨c,aN⟩,U ⟨c,by simpa using h⟩];simp only[az];rw[cb G]
theorem Pq{a b:W}{i:Int}(c:(a.length:Int)<=i)(h:i<(a.length:Int)+b.length):cellS b (i-a.length)=cellS (a++b) i:=by unfold cellS;rw[U ⟨by omega,aN⟩,U ⟨by omega,aN⟩];simp only[az];rw[bU G];congr 2;omega
theorem ED{n m:Nat}{i:Int}(a:0<=i)(h:i<(m:Int)):rT ((List.range m).map λi=>Int.ofNat i-Int.ofNat n) i=i-n:=by unfold rT;rw[U ⟨a,by simpa using h⟩];have:i.toNat<m:=G;simp[az,this];omega
theorem EE{db:List Dt}{c:List W}{p:J}{a b:W}{n:Nat}(d:a.length=n)(h:dk p 0 (.ofNat n)=true):nE db c p (a++b)=nE db c p a:=by unfold nE;rw[Pj db p (a++b) a c λi e=>by have:=within_iff.1 h i e;exact UW this.1 (by rw[d];simpa using this.2)]
theorem UX{db:List Dt}{c:List W}{p:J}{a b:W}{n m:Nat}(d:a.length=n)(f:b.length=m)(h:dk p (.ofNat n) (.ofNat (n+m))=true):nE db c (qJ n (n+m) p) b=nE db c p (a++b):=by unfold nE qJ;rw[Yp db p _ b (a++b) c λi e=>by have:=within_iff.1 h i e;simp at this;rw[ED G G];rw[<-d];exact Pq G G]
theorem yY{db:List Dt}{E:List Nat}{k:N}{l:List N}(H:aco db E k)(d:l.map (λr=>r.aP.length)=k.K.map λr=>r.aP.length)(e:∀r∈l,mZ db E r):mZ db E (hD k l):=by
 have b:∀i,wd l i=wd k.K i:=λi=>by unfold wd;rw[d]
 have c:∀op,mY op l=mY op k.K:=λop=>by unfold mY;rw[b,b]
 have f:l.length=k.K.length:=by have:=aY List.length d;simpa using this
 refine dB.2 ⟨⟨H.o.o,by show(l.length:Int)=_;rw[f];exact H.o.k,H.o.c,H.o.t,λg j=>?_,λh=>?_,H.o.t3,H.o.t5,H.o.tn,H.o.an⟩,H.tb,H.rw,e,λt ht=>?_,λa m t ht=>?_⟩;.show k.aP.length=if k.op=4 then _ else if k.op=7 then _ else mY k.op l;rw[c];exact H.o.w g j
 .show wd l 1=wd l 0;rw[b,b];exact H.o.s h
 .show kc db (mY k.op l::E) t;rw[c];exact H.ao t ht
 show kc db (mY k.op l::E) t;rw[c];exact H.aJ a m t ht
theorem qM{op:Int}{a:N}(h:¬(op=5\/op=6)):mY op [a]=a.aP.length:=by unfold mY;rw[I h];rfl
theorem yZ{op:Int}{a b:N}(h:op=5\/op=6):mY op [a,b]=a.aP.length+b.aP.length:=by unfold mY;rw[U h];rfl
theorem se{db:List Dt}{a:N}{l:List N}{b:List W}:cO db (a::l) b=er db a b:=eV db a l b
theorem Ht{db:List Dt}{a b:N}{l:List N}{c:List W}:fc db (a::b::l) c=er db b c:=by rw[hV];exact eV db b l c
theorem run_join{db:List Dt}{k a b:N}{c:List W}(h:k.op=5\/k.op=6)(d:k.K=[a,b]):er db k c=gr (λx=>sA db k.ao (x::c)) (decide (k.op=6)) (List.replicate b.aP.length null) (er db b c) (er db a c):=by rw[ig,I G,I G,I G,I G,U h,oL,jA,uL,d,se,Ht];rfl
section
variable{db:List Dt}{E:List Nat}{t:J}{k:N}(H:aco db E k)(ht:kc db (k.aP.length::E) t)
include H ht
theorem Pr{k0:N}{t0:J}(h:k.op=3)(b:k.K=[k0])(c:k.ao=[t0]):xw db E t k (bI k0 (bL t0++bL t)):=by
 have d:k.aP.length=k0.aP.length:=by rw[H.o.w G G,I G,I G,b,qM G]
 have e:kc db (k0.aP.length::E) t0:=by have:=H.ao t0 (by rw[c];simp);rwa[b,qM G]at this
 refine⟨jk (H.K k0 (by rw[b];simp)) λp a=>?_,by rw[fg,d],λf g=>?_⟩;.rcases aZ.1 a with a|a;(.exact pP e p a);rw[<-d];exact pP ht p a
 rw[il,run_filter3 h b c,jw];refine eA λx _=>?_;rw[fT,pn,pn,lB]
theorem UY{a b:N}(h:k.op=5)(f:k.K=[a,b]):xw db E t k (kr t k a b):=by
 have m:=H.K a (by rw[f];simp);have n:=H.K b (by rw[f];simp);have v:k.aP.length=a.aP.length+b.aP.length:=by rw[H.o.w G G,I G,I G,f,yZ (.inl h)]
 have g:=lz m;have o:=lz n;rw[v]at ht;have r:=pP ht;have B:∀p∈wQ k,kc db ((a.aP.length+b.aP.length)::E) p:=λp c=>by unfold wQ at c;cases j:k.ao with|nil=>rw[j]at c;cases c|cons t0 l=>rw[j]at c;have:=H.ao t0 (by rw[j];simp);rw[f,yZ (.inl h)]at this;exact pP this p c
 have s:∀p∈ih t a,p∈bL t/\dk p 0 (.ofNat a.aP.length)=true:=λp c=>by rw[ih,g]at c;exact cd.1 c
 have u:∀p∈ij t a b,p∈bL t/\dk p (.ofNat a.aP.length) (.ofNat (a.aP.length+b.aP.length))=true:=λp c=>by rw[ij,g,o]at c;obtain⟨C,D⟩:=cd.1 c;exact⟨(cd.1 C).1,D⟩
 have F:∀p∈ez t a b,p∈bL t:=λp c=>(cd.1 (cd.1 c).1).1;refine⟨?_,A,λd w=>?_⟩;.unfold kr VE;refine dB.2 ⟨⟨(by show(1:Int)<=5/\(5:Int)<=12;decide),A,H.o.c,?_,λ_ _=>?_,λq=>(by simp[N.op]at q),λq=>(by simp[N.op]at q),λ_=>?_,λq=>absurd (Or.inr (Or.inr (Or.inl A))) q,λ_=>A⟩,λq=>(by simp[N.op]at q),λq=>(by simp[N.op]at q),λq e=>?_,λq e=>?_,λq e=>(by cases e)⟩;(.show List.length (if _ then _ else _)<=BK;split<;>(show _<=BK;simp[BK]));(.show k.aP.length=mY 5 [bI a _,bI b _];rw[yZ (.inl A),fg,fg,v]);(.show List.length (if _ then _ else _)<=1;split<;>simp);(. (have e:q=bI a (ih t a)\/q=bI b ((ij t a b).map (qJ (bJ a) (bJ a+bJ b))):=by simpa[N.K]using e);rcases e with rfl|rfl;(.exact jk m λp c=>Ms (r p (s p c).1) (by simpa using within_iff.1 (s p c).2));refine jk n λX c=>?_;obtain⟨p,J,rfl⟩:=aV.1 c;clear c;have c:=J;unfold qJ;rw[g,o];refine RY (r p (u p c).1) λi K=>?_;have:=within_iff.1 (u p c).2 i K;simp at this;rw[ED G G];omega);have e:q∈(if wQ k++ez t a b=[]then[]else[dC (wQ k++ez t a b)]):=e;show kc db (mY 5 [bI a _,bI b _]::E) q;rw[yZ (.inl A),fg,fg];split at e;(.cases e);simp at e;subst e;refine Mr λp c=>?_;rcases aZ.1 c with c|c;(.exact B p c);exact r p (F p c)
 have L:=xv m w;have M:=xv n w;have O:er db k d=gr (λx=>sA db k.ao (x::d)) false (List.replicate b.aP.length null) (er db b d) (er db a d):=by rw[run_join (.inl h) f,h];rfl
 have P:=run_join (db:=db) (c:=d) (k:=kr t k a b) (.inl A) A;rw[P,O,il,il,fg];refine(Ey λx Q y R=>?_).symm;have z:=(L x Q).1;have S:=(M y R).1;have T:nE db d t (x++y)=((ih t a).all (λp=>nE db d p x)&&(((ij t a b).map (qJ (bJ a) (bJ a+bJ b))).all (λp=>nE db d p y)&&(ez t a b).all λp=>nE db d p (x++y))):=by rw[<-pn,uZ (λp=>dk p 0 (.ofNat (bJ a)))];congr 1;(.exact pQ λp c=>EE z (s p c).2);rw[uZ (λp=>dk p (.ofNat (bJ a)) (.ofNat (bJ a+bJ b)))];congr 1;rw[zI];refine pQ λp c=>?_;have:=UX (db:=db) (c:=d) z S (u p c).2;simp only[Function.comp,g,o];exact this.symm
 have U:sA db k.ao ((x++y)::d)=(wQ k).all λp=>nE db d p (x++y):=by unfold wQ;rw[mK];have V:=H.o.t5 h;match j:k.ao,V with|[],_=>rfl|[t0],_=>simp only[bD,zH,jG];exact(pn db d t0 _).symm
 have W:sA db (kr t k a b).ao ((x++y)::d)=((wQ k).all (λp=>nE db d p (x++y))&&(ez t a b).all λp=>nE db d p (x++y)):=by show sA db (if wQ k++ez t a b=[]then[]else[dC (wQ k++ez t a b)]) _=_;rw[<-fT];split;(.rename_i q;rw[q];rw[mK];rfl);rw[mK,<-Mj];simp[nE]
 rw[T,U,W];generalize(wQ k).all _=c1;generalize(ih t a).all _=c2;generalize(List.map _ (ij t a b)).all _=c3;generalize(ez t a b).all _=c4;cases c1<;>cases c2<;>cases c3<;>cases c4<;>rfl
theorem UZ{c f:N}(h:k.op=6)(i:k.K=[c,f]):xw db E t k (yO t k c f):=by
 have j:=H.K c (by rw[i];simp);have o:=H.K f (by rw[i];simp);have r:k.aP.length=c.aP.length+f.aP.length:=by rw[H.o.w G G,I G,I G,i,yZ (.inr h)]
 have s:=lz j;have m:=pP ht;have l:∀p∈gx t c,p∈bL t/\dk p 0 (.ofNat c.aP.length)=true:=λp d=>by rw[gx,s]at d;exact cd.1 d
 have u:∀p∈qI t c,p∈bL t:=λp d=>(cd.1 d).1;have v:mZ db E (hD k [bI c (gx t c),f]):=yY H (by rw[i];simp[fg]) λD n=>by simp at n;rcases n with rfl|rfl;(.refine jk j λp d=>?_;have:=m p (l p d).1;rw[r]at this;exact Ms this (by simpa using within_iff.1 (l p d).2));exact o
 refine⟨jk v λp d=>m p (u p d),by rw[yO,fg];rfl,λg w=>?_⟩;have z:=xv j w;rw[yO,il,run_join (k:=hD k [bI c (gx t c),f]) (a:=bI c (gx t c)) (b:=f) (.inr h) A,run_join (.inr h) i,il];have B:decide ((hD k [bI c (gx t c),f]).op=6)=true:=aG (h);rw[B,show decide (k.op=6)=true by simpa using h];have e:∀x:W,nE db g t x=((gx t c).all (λp=>nE db g p x)&&(qI t c).all λp=>nE db g p x):=λx=>by rw[<-pn,uZ (λp=>dk p 0 (.ofNat (bJ c)))];rfl
 rw[show(nE db g t)=λx=>((qI t c).all (λp=>nE db g p x)&&(gx t c).all λp=>nE db g p x)from funext λx=>by rw[e,lB],<-jw];exact aY _ ((Ez (q:=λx=>(gx t c).all λp=>nE db g p x) (d:=λx=>(gx t c).all λp=>nE db g p x) λx C y=>pQ λp d=>EE (z x C).1 (l p d).2).symm)
theorem JL{a:N}(h:k.op=4)(d:k.K=[a])(b:gU t k.ao=true):xw db E t k (mJ t k a):=by
 have m:=H.K a (by rw[d];simp);have i:eM t=true:=by unfold gU at b;simp only[aA]at b;exact b.1
 have j:=nC b;have n:∀p∈k.ao,kc db (a.aP.length::E) p:=λp o=>by have:=H.ao p o;rwa[d,qM G]at this
 refine⟨yY H (by rw[d];simp[fg]) λq l=>?_,A,λf v=>?_⟩;.simp at l;subst l;refine jk m λp b=>?_;simp at b;subst b;exact Yy n _ t _ (ax _) i j ht
 have e:∀c:N,c.op=4->c.ao=k.ao->∀g,c.K=[g]->er db c f=(er db g f).map λx=>cF db k.ao (x::f):=λc r s g u=>by rw[ig,I G,I G,I G,U r,s,u,se]
 rw[e k h A a d,e (mJ t k a) h A _ A,il,tU];refine aY _ (eA λx _=>?_);simp only[bD,zH,jG,Function.comp,nE];rw[Pp db k.ao x f _ t (ax _) i j]
theorem JM(h:k.op=8\/k.op=12\/k.op=9):xw db E t k (lx t k):=by
 have r:=H.o.w G G;rw[I G,I G]at r;have x:∀q∈k.K,q.aP.length=k.aP.length:=λq i=>by rw[r];by_cases s:k.op=9;(.obtain⟨a,b,d⟩:=H.o.two (.inr (.inr (.inl s)));have u:=H.o.s (.inl s);rw[d]at i u|-;unfold mY;rw[I G];simp at i;rcases i with rfl|rfl;(.rfl);exact u);obtain⟨a,d⟩:=H.o.one G;rw[d]at i|-;simp at i;subst i;rw[qM G]
 refine⟨yY H (by rw[cI];exact bF λq _=>by simp[Function.comp,fg]) λq i=>?_,A,λg z=>?_⟩;.obtain⟨y,v,rfl⟩:=aV.1 i;refine jk (H.K y v) λp w=>?_;simp at w;subst w;rw[x y v];exact ht
 have m:∀q:N,er db (bI q [t]) g=(er db q g).filter (nE db g t):=λq=>by rw[il];simp
 rcases h with h|h|h;.obtain⟨a,d⟩:=H.o.one G;(have e:∀c:N,c.op=8->∀f,c.K=[f]->er db c g=kp (er db f g):=λc j f l=>by rw[ig,I G,I G,I G,I G,I G,I G,U j,l,se]);rw[e k h a d,e (lx t k) h (bI a [t]) (by show k.K.map _=_;rw[d];rfl),m,yV]
 .obtain⟨a,d⟩:=H.o.one G;(have e:∀c:N,c.op=12->c.cq=k.cq->∀f,c.K=[f]->er db c g=kq k.cq (er db f g):=λc j n f l=>by rw[ig,I G,I G,I G,I G,I G,I G,I G,I G,U j,n,l,se]);rw[e k h A a d,e (lx t k) h A (bI a [t]) (by show k.K.map _=_;rw[d];rfl),m,ordered_filter]
 obtain⟨a,b,d⟩:=H.o.two (.inr (.inr (.inl h)));have e:∀c:N,c.op=9->c.all=k.all->∀f o,c.K=[f,o]->er db c g=qk 9 k.all (er db f g) (er db o g):=λc j n f o l=>by rw[ig,I G,I G,I G,I G,I G,I G,I G,U (.inl j),j,n,l,se,Ht]
 rw[e k h A a b d,e (lx t k) h A (bI a [t]) (bI b [t]) (by show k.K.map _=_;rw[d];rfl),m,m,JF]
theorem Ps{a:N}(h:k.op=7)(l:k.K=[a])(m:kO t k=true):xw db E t k (tc t k a):=by
 have v:=H.K a (by rw[l];simp);have s:=pP ht;have w:k.ao≠[]:=by unfold kO at m;intro q;rw[q]at m;simp at m
 have L:k.aP.length=k.ao.length+k.aJ.length:=by rw[H.o.w G G,I G,U h]
 have i:∀p∈fY t k,p∈bL t/\dk p 0 (.ofNat k.ao.length)=true/\gU p k.ao=true:=λp d=>by obtain⟨n,j⟩:=cd.1 d;unfold nB at j;simp only[aA]at j;exact⟨n,j⟩
 have u:∀p∈fY t k,eM p=true:=λp d=>by have:=(i p d).2.2;unfold gU at this;simp only[aA]at this;exact this.1
 have z:∀p∈k.ao,kc db (a.aP.length::E) p:=λp B=>by have:=H.ao p B;rwa[l,qM G]at this
 have C:mZ db E (hD k [bI a ((fY t k).map (zO k.ao))]):=yY H (by rw[l];simp[fg]) λq f=>by simp at f;subst f;refine jk v λM D=>?_;obtain⟨p,d,rfl⟩:=aV.1 D;exact Yy z _ p _ (ax _) (u p d) (nC (i p d).2.2) (s p (i p d).1)
 refine⟨jk C λp d=>s p (cd.1 d).1,by rw[tc,fg];rfl,λc O=>?_⟩;have e:∀g:N,g.op=7->g.ao=k.ao->g.aJ=k.aJ->∀o,g.K=[o]->er db g c=(dM (λx=>cF db k.ao (x::c)) [] (er db o c)).map λb=>b.1++iX db k.aJ b.2 c:=λg n j F o J=>by rw[ig,I G,I G,I G,I G,I G,U n,j,J,F,se];(have:k.ao.isEmpty=false:=by cases f:k.ao with|nil=>exact absurd f w|cons=>rfl);rw[this];rfl
 have es:∀x:W,nE db c t x=((pJ t k).all (λp=>nE db c p x)&&(fY t k).all λp=>nE db c p x):=λx=>by rw[<-pn,uZ (nB k),lB];rfl
 rw[tc,il,e k h A A a l,e (hD k _) h A A _ A,il,show(nE db c t)=λx=>((pJ t k).all (λp=>nE db c p x)&&(fY t k).all λp=>nE db c p x)from funext es,<-jw];refine aY _ ?_;rw[tU];refine aY _ ?_;have f:∀b∈dM (λx=>cF db k.ao (x::c)) [] (er db a c),((λx=>(fY t k).all λp=>nE db c p x)∘λb=>b.1++iX db k.aJ b.2 c) b=(fY t k).all λp=>nE db c p b.1:=λb r=>by have K:=ti (S:=λy=>y.length=k.ao.length) (rows:=er db a c) (λy _=>by rw[dh,aF]) (λb r=>by cases r) b r;exact pQ λp d=>EE K (i p d).2.1
 rw[eA f,wR (λx=>(fY t k).all λp=>nE db c p x)];refine aY _ (eA λx _=>?_);rw[zI];refine pQ λp d=>?_;simp only[Function.comp,nE];rw[Pp db k.ao x c _ p (ax _) (u p d) (nC (i p d).2.2)]
theorem acp{o:N}(h:iZ t k=some o):xw db E t k o:=by
 unfold iZ at h;by_cases d:k.op=3;.rw[U d]at h;split at h;(.rename_i k0 t0 c m;cases h;exact Pr H ht d c m);cases h
 rw[I d]at h;by_cases e:k.op=5;.rw[U e]at h;split at h;(.rename_i a b c;cases h;exact UY H ht e c);cases h
 rw[I e]at h;by_cases f:k.op=6;.rw[U f]at h;split at h;(.rename_i a b c;split at h;(.cases h);cases h;exact UZ H ht f c);cases h
 rw[I f]at h;by_cases g:k.op=4;.rw[U g]at h;split at h;(.rename_i a c;split at h;(.rename_i i;cases h;exact JL H ht g c i);cases h);cases h
 rw[I g]at h;by_cases j:k.op=8\/k.op=12\/k.op=9;.rw[U j]at h;cases h;exact JM H ht j
 rw[I j]at h;by_cases l:k.op=7;.rw[U l]at h;split at h;(.rename_i a c;split at h;(.rename_i i;cases h;exact Ps H ht l c i);cases h);cases h
 rw[I l]at h;cases h
end
end
def comb(m a b:Nat):Nat:=if m=0 then max a b else a+b
def Pt(m a b:Nat):a<=comb m a b:=by unfold comb;split<;>omega
def Yz(m a b:Nat):b<=comb m a b:=by unfold comb;split<;>omega
def mL{m a b c d:Nat}(e:a<=c)(f:b<=d):comb m a b<=comb m c d:=by unfold comb;split<;>omega
def Hu(m a:Nat):comb m a 0=a:=by unfold comb;split<;>omega
def im(m:Nat)(op:Int)(l:List Nat):Nat:=if m=0 then(if op=17/\l.length=2 then l.sum else l.foldr max 1)else if op=2 then 1 else l.sum
def md(m:Nat):Nat:=if m=0 then 0 else 2
mutual
def dF(m:Nat)(c:List Nat):J->Nat|.mk op v d a b K sub ty=>if op=2/\d=0 then c.getD a.toNat 1 else im m op (aaa m c K)+m%2*ja m sub
def aaa(m:Nat)(c:List Nat):List J->List Nat|[]=>[]|t::l=>dF m c t::aaa m c l
def JN(m:Nat)(c:List Nat):Ag->Nat|.mk a d t=>(aaa m c t).sum
def YA(m:Nat)(c:List Nat):List Ag->Nat|[]=>0|a::l=>JN m c a+YA m c l
def dT(m:Nat):N->List Nat|.mk op a aP K ao aJ cq bH skip all rows=>if op=4 then(aaa (md m) (if op=5\/op=6 then(nH m K).getD 0 []++(nH m K).getD 1 []else(nH m K).getD 0 []) ao).map (max 1)else if op=7 then(aaa (md m) (if op=5\/op=6 then(nH m K).getD 0 []++(nH m K).getD 1 []else(nH m K).getD 0 []) ao).map (max 1)++List.replicate aJ.length 1 else if op=5\/op=6 then(if op=5\/op=6 then(nH m K).getD 0 []++(nH m K).getD 1 []else(nH m K).getD 0 [])else if op=3\/op=8\/op=12 then(if op=5\/op=6 then(nH m K).getD 0 []++(nH m K).getD 1 []else(nH m K).getD 0 [])else if op=9 then List.zipWith max ((nH m K).getD 0 []) ((nH m K).getD 1 [])else List.replicate aP.length 1
def nH(m:Nat):List N->List (List Nat)|[]=>[]|r::l=>dT m r::nH m l
def je(m:Nat):N->Nat->Nat|.mk op a aP K ao aJ cq bH skip all rows,F=>if op=3 then fX m K (F+(aaa m (if op=5\/op=6 then(nH m K).getD 0 []++(nH m K).getD 1 []else(nH m K).getD 0 []) ao).sum)else comb m (F+(if m=0/\¬(op=5\/op=6)then 0 else(aaa m (if op=5\/op=6 then(nH m K).getD 0 []++(nH m K).getD 1 []else(nH m K).getD 0 []) ao).sum+YA m (if op=5\/op=6 then(nH m K).getD 0 []++(nH m K).getD 1 []else(nH m K).getD 0 []) aJ)) (fX m K F)
def fX(m:Nat):List N->Nat->Nat|[],F=>0|r::l,F=>comb m (je m r F) (fX m l F)
def ja(m:Nat):List N->Nat|[]=>0|r::l=>je m r 0+ja m l
end
def za(m:Nat)(c:List Nat):∀l:List J,aaa m c l=l.map (dF m c)|[]=>by simp[aaa]|t::l=>by simp[aaa,za m c l]
def EF(m:Nat):∀l:List N,nH m l=l.map (dT m)|[]=>by simp[nH]|t::l=>by simp[nH,EF m l]
def cin(m:Nat)(r:N):List Nat:=if r.op=5\/r.op=6 then(r.K.map (dT m)).getD 0 []++(r.K.map (dT m)).getD 1 []else(r.K.map (dT m)).getD 0 []
def fC(m:Nat)(c:List Nat)(t:J):dF m c t=if t.op=2/\t.depth=0 then c.getD t.at_.toNat 1 else im m t.op (t.K.map (dF m c))+m%2*ja m t.sub:=by cases t;rw[dF,za];rfl
def va(m:Nat)(c:List Nat)(a:Ag):JN m c a=(a.t.map (dF m c)).sum:=by cases a;rw[JN,za];rfl
def Mt(m:Nat)(c:List Nat):∀l:List Ag,YA m c l=(l.map (JN m c)).sum|[]=>by simp[YA]|a::l=>by simp[YA,Mt m c l]
def lM(m:Nat)(r:N):dT m r=if r.op=4 then(r.ao.map (dF (md m) (cin m r))).map (max 1)else if r.op=7 then(r.ao.map (dF (md m) (cin m r))).map (max 1)++List.replicate r.aJ.length 1 else if r.op=5\/r.op=6 then cin m r else if r.op=3\/r.op=8\/r.op=12 then cin m r else if r.op=9 then List.zipWith max ((r.K.map (dT m)).getD 0 []) ((r.K.map (dT m)).getD 1 [])else List.replicate r.aP.length 1:=by cases r;rw[dT,za,EF];rfl
def hR(m:Nat)(r:N)(F:Nat):je m r F=if r.op=3 then fX m r.K (F+(r.ao.map (dF m (cin m r))).sum)else comb m (F+(if m=0/\¬(r.op=5\/r.op=6)then 0 else(r.ao.map (dF m (cin m r))).sum+(r.aJ.map (JN m (cin m r))).sum)) (fX m r.K F):=by cases r;rw[je,za,Mt,EF];rfl
def rq{c:Type}{f g:c->Nat}:∀{b:List c},(∀x∈b,f x<=g x)->(b.map f).sum<=(b.map g).sum|[],_=>af _|a::b,h=>by have:=rq (b:=b) λx d=>h x (by simp[d]);have:=h a aS;simp only[aw,bj];omega
def CA{c:Type}{f:c->Nat}{l:List c}{a:c}(h:a∈l):f a<=(l.map f).sum:=by induction l with|nil=>cases h|cons b l d=>simp only[aw,bj];rcases aR.1 h with rfl|h;(.omega);have:=d h;omega
def C1(c:List Nat):Prop:=∀x∈c,1<=x
def C1.get{c:List Nat}(h:C1 c)(i:Nat):1<=c.getD i 1:=by rw[az];cases a:c[i]?with|none=>exact af _|some v=>exact h v (bb a)
def AM:∀l:List Nat,1<=l.foldr max 1|[]=>af _|a::l=>by have:=AM l;simp only[lF];omega
def AN{a:Nat}:∀{l:List Nat},a∈l->a<=l.foldr max 1|b::l,h=>by simp only[lF];rcases aR.1 h with rfl|h;(.omega);have:=AN h;omega
def Mu{M:Nat}(d:1<=M):∀{c:List Nat},(∀a∈c,a<=M)->c.foldr max 1<=M|[],_=>d|b::c,h=>by have:=Mu d (c:=c) λa e=>h a (by simp[e]);have:=h b aS;simp only[lF];omega
def Le:List Nat->List Nat->Prop|[],[]=>True|a::l,b::k=>a<=b/\Le l k|_,_=>False
def Le.refl:∀l:List Nat,Le l l|[]=>M|a::l=>⟨af _,Le.refl l⟩
def Le.len:∀{l k:List Nat},Le l k->l.length=k.length|[],[],_=>A|a::l,b::k,h=>by simp[Le.len h.2]
def Le.sum:∀{l k:List Nat},Le l k->l.sum<=k.sum|[],[],_=>af _|a::l,b::k,h=>by have:=Le.sum h.2;have:=h.1;simp only[bj];omega
def Le.fold:∀{l k:List Nat},Le l k->l.foldr max 1<=k.foldr max 1|[],[],_=>af _|a::l,b::k,h=>by have:=Le.fold h.2;have:=h.1;simp only[lF];omega
def Le.map{b:Type}{f g:b->Nat}:∀{l:List b},(∀x∈l,f x<=g x)->Le (l.map f) (l.map g)|[],_=>M|a::l,h=>⟨h a aS,Le.map λx c=>h x (by simp[c])⟩
def JO{m:Nat}{op:Int}{l k:List Nat}(h:Le l k):im m op l<=im m op k:=by
 unfold im;rw[h.len];split;.split;(.exact h.sum);exact h.fold
 split;.exact af _
 exact h.sum
def EG{m:Nat}{op:Int}{l:List Nat}{a:Nat}(h:a∈l)(c:¬op=2):a<=im m op l:=by
 have b:a<=l.sum:=by have:=CA (f:=id) h;simpa using this
 unfold im;split;.split;(.exact b);exact AN h
 first|exact b|(rw[I c];exact b)
def Mv(m a b:Nat):im m 17 [a,b]=a+b:=by unfold im;split;(.rw[U ⟨A,A⟩];simp);rw[I aD];simp
def YB{c:List Nat}(h:C1 c):∀(n:Nat)(t:J),SizeOf.sizeOf t<n->1<=dF 0 c t|0,t,d=>absurd d (aB _)|n+1,t,d=>by rw[fC];split;(.exact h.get _);unfold im;rw[U A];split;(.rename_i q;have e:=q.2;rw[aF]at e;match f:t.K,e with|[a,b],_=>have:=YB h n a (by have:=J.bK (t:=t) (k:=a) (by rw[f];simp);omega);simp only[aw,bj];omega);have:=AM (t.K.map (dF 0 c));omega
def YC{c:List Nat}(h:C1 c)(t:J):1<=dF 0 c t:=YB h _ t (ax _)
def C1.Pv{b:Type}{f:b->List Nat}{l:List b}(h:∀a∈l,C1 (f a))(i:Nat):C1 ((l.map f).getD i []):=by rw[az,ck];cases c:l[i]?with|none=>intro x d;cases d|some v=>exact h v (bb c)
def C1.app{a b:List Nat}(c:C1 a)(d:C1 b):C1 (a++b):=λx e=>(aZ.1 e).elim (c x) (d x)
def YD(m:Nat):∀(n:Nat)(r:N),SizeOf.sizeOf r<n->C1 (dT m r)
|0,r,c=>absurd c (aB _)|n+1,r,c=>by
 have b:∀k∈r.K,C1 (dT m k):=λk g=>YD m n k (by have:=N.bK g;omega);have d:C1 (cin m r):=by unfold cin;split;(.exact(C1.Pv b 0).app (C1.Pv b 1));exact C1.Pv b 0
 have e:C1 ((r.ao.map (dF (md m) (cin m r))).map (max 1)):=λx a=>by obtain⟨t,_,rfl⟩:=aV.1 a;exact Nat.le_max_left _ _
 have f:∀k,C1 (List.replicate k 1):=λk x a=>by rw[iF a];exact af _
 rw[lM];split;.exact e
 split;.exact e.app (f _)
 split;.exact d
 split;.exact d
 split;.intro x a;obtain⟨i,h,rfl⟩:=oO a;rw[List.getElem_zipWith];(have j:i<((r.K.map (dT m)).getD 0 []).length:=by rw[lp]at h;omega);have:=C1.Pv b 0 _ (aq j);omega
 exact f _
def AO(m:Nat)(r:N):C1 (dT m r):=YD m _ r (ax _)
def zb(m:Nat)(r:N):C1 (cin m r):=by unfold cin;split;(.exact(C1.Pv (λk _=>AO m k) 0).app (C1.Pv (λk _=>AO m k) 1));exact C1.Pv (λk _=>AO m k) 0
def ad6(c d:List Nat):Prop:=∀i,c.getD i 1<=d.getD i 1
def ad6.refl(c:List Nat):ad6 c c:=λ_=>af _
def RZ{a:Nat}{c d:List Nat}(h:ad6 c d):∀(n:Nat)(t:J),SizeOf.sizeOf t<n->dF a c t<=dF a d t|0,t,b=>absurd b (aB _)|n+1,t,b=>by rw[fC,fC];split;(.exact h _);have:=JO (m:=a) (op:=t.op) (Le.map (f:=dF a c) (g:=dF a d) (l:=t.K) λk e=>RZ h n k (by have:=J.bK e;omega));omega
def BG{m:Nat}{c d:List Nat}(h:ad6 c d)(t:J):dF m c t<=dF m d t:=RZ h _ t (ax _)
def vV{m F G:Nat}:∀{l:List N},(∀r∈l,je m r F<=je m r G)->fX m l F<=fX m l G|[],_=>by simp[fX]|r::l,h=>by rw[fX,fX];exact mL (h r aS) (vV λq a=>h q (by simp[a]))
def Mw(m:Nat):∀(n:Nat)(r:N)(F a:Nat),SizeOf.sizeOf r<n->F<=a->je m r F<=je m r a|0,r,F,a,b,_=>absurd b (aB _)|n+1,r,F,a,b,h=>by have c:∀(A B:Nat),A<=B->∀k∈r.K,je m k A<=je m k B:=λA B d k e=>Mw m n k A B (by have:=N.bK e;omega) d;rw[hR,hR];split;(.exact vV (c _ _ G));exact mL G (vV (c _ _ h))
def nI{m:Nat}(r:N){F G:Nat}(h:F<=G):je m r F<=je m r G:=Mw m _ r F G (ax _) h
def pR(m:Nat)(r:N)(F:Nat):fX m [r] F=je m r F:=by rw[fX,fX,Hu]
def iB{m:Nat}{r k:N}{t:J}(h:r.op=3)(a:r.K=[k])(ht:r.ao=[t])(F:Nat):je m r F=je m k (F+dF m (dT m k) t):=by rw[hR,U h,a,ht,pR];(have:cin m r=dT m k:=by unfold cin;rw[I G,a];rfl);rw[this];simp
def Mx{f:List Dt}(m:Nat):∀(n:Nat)(a:N)(E:List Nat)(F:Nat),SizeOf.sizeOf a<n->mZ f E a->F<=je m a F|0,a,E,F,e,_=>absurd e (aB _)|n+1,a,E,F,e,h=>by have H:=dB.1 h;by_cases b:a.op=3;(.obtain⟨c,d⟩:=H.o.one (.inl b);obtain⟨t,ht⟩:=fI (H.o.t3 (.inl b));rw[iB b d ht];have:=Mx m n c E (F+dF m (dT m c) t) (by have:=N.bK (r:=a) (k:=c) (by rw[d];simp);omega) (H.K c (by rw[d];simp));omega);rw[hR,I b];exact aL G (Pt _ _ _)
def JP{a:List Dt}{m:Nat}{r:N}{E:List Nat}(h:mZ a E r)(F:Nat):F<=je m r F:=Mx m _ r E F (ax _) h
def Sa{i:List Dt}:∀(n:Nat)(a:N)(E:List Nat)(c b:Nat),SizeOf.sizeOf a<n->mZ i E a->c+je 1 a b<=je 1 a (c+b)|0,a,E,c,b,g,_=>absurd g (aB _)|n+1,a,E,c,b,g,h=>by have H:=dB.1 h;by_cases d:a.op=3;(.obtain⟨e,f⟩:=H.o.one (.inl d);obtain⟨t,ht⟩:=fI (H.o.t3 (.inl d));rw[iB d f ht,iB d f ht];have:=Sa n e E c (b+dF 1 (dT 1 e) t) (by have:=N.bK (r:=a) (k:=e) (by rw[f];simp);omega) (H.K e (by rw[f];simp));rw[gm];exact this);rw[hR,hR,I d,I d];have:=vV (m:=1) (F:=b) (G:=c+b) (l:=a.K) λe _=>nI e G;unfold comb;simp only[lG,dz];omega
def afX(m:Nat)(c:List Nat){t a b:J}(d:t.op=17)(e:t.K=[a,b]):dF m c a+dF m c b<=dF m c t:=by rw[fC m c t,I G,e,d,aw,aw,bN,Mv];omega
def AP(m:Nat)(c:List Nat):∀(n:Nat)(t:J),SizeOf.sizeOf t<n->((bL t).map (dF m c)).sum<=dF m c t|0,t,h=>absurd h (aB _)|n+1,t,h=>by by_cases d:t.op=17/\t.K.length=2;(.obtain⟨a,b,e⟩:=iP d.2;rw[fH d.1 e,dy,lH];have f:=AP m c n a (by have:=J.bK (t:=t) (k:=a) (by rw[e];simp);omega);have g:=AP m c n b (by have:=J.bK (t:=t) (k:=b) (by rw[e];simp);omega);have:=afX m c d.1 e;omega);rw[gO d];simp
def pS(m:Nat)(c:List Nat)(t:J):((bL t).map (dF m c)).sum<=dF m c t:=AP m c _ t (ax _)
def Sb{c:List Nat}(h:C1 c):∀l:List J,l.length<=(l.map (dF 0 c)).sum|[]=>au _|t::l=>by have:=Sb h l;have:=YC h t;simp only[aE,aw,bj];omega
def Hv{c:List Nat}(h:C1 c)(t:J):(bL t).length<=dF 0 c t:=aL (Sb h _) (pS 0 c t)
def My(m:Nat)(c:List Nat){l:List J}(h:l≠[]):dF m c (dC l)=(l.map (dF m c)).sum:=by
 rcases l with _|⟨a,l⟩;.exact absurd A h
 have d:∀(l:List J)(a:J),dF m c (l.foldl oY a)=dF m c a+(l.map (dF m c)).sum:=by intro l;induction l with|nil=>intro a;simp|cons b l e=>intro a;rw[hW,e];(have:dF m c (oY a b)=dF m c a+dF m c b:=by rw[fC m c (oY a b)];simp[oY,J.op,J.K,J.sub,ja,Mv]);rw[this,aw,bj];omega
 rw[dC,d];simp
def nJ{m:Nat}{r k:N}(h:r.op=3\/r.op=8\/r.op=12)(a:r.K=[k]):dT m r=dT m k:=by rw[lM,I G,I G,I G,U h];unfold cin;rw[I G,a];rfl
def jl(m:Nat)(r:N)(l:List J):dT m (bI r l)=dT m r:=by unfold bI;split;(.rfl);exact nJ (.inl A) A
def iq(m:Nat)(r:N)(l:List J)(F:Nat):je m (bI r l) F=je m r (F+(l.map (dF m (dT m r))).sum):=by unfold bI;split;(.rename_i h;subst h;simp);rename_i h;rw[iB (k:=r) (t:=dC l) A A A,My _ _ h]
def AQ{m:Nat}{r a:N}(b:a.op=r.op)(c:a.K.map (dT m)=r.K.map (dT m)):cin m a=cin m r:=by unfold cin;rw[b,c]
def Mz{m:Nat}{r a:N}(b:a.op=r.op)(d:a.K.map (dT m)=r.K.map (dT m))(ht:∀c,a.ao.map (dF (md m) c)=r.ao.map (dF (md m) c))(e:a.aJ.length=r.aJ.length)(f:a.aP.length=r.aP.length):dT m a=dT m r:=by rw[lM,lM m r,AQ b d,b,d,ht,e,f]
def zc(m:Nat)(b:Int->Int):∀n:Nat,(∀(t:J)(c:List Nat)(k:Int),SizeOf.sizeOf t<n->1<=k->dF m c (eU 0 b k t)=dF m c t)/\(∀(r:N)(k:Int),SizeOf.sizeOf r<n->1<=k->dT m (gj 0 b k r)=dT m r/\∀F,je m (gj 0 b k r) F=je m r F)
|0=>⟨λt _ _ h=>absurd h (aB _),λt _ h=>absurd h (aB _)⟩|n+1=>by
 obtain⟨z,j⟩:=zc m b n;obtain⟨A,_⟩:=zc (md m) b n;have mS:∀(l:List N)(k:Int),(∀q∈l,SizeOf.sizeOf q<n)->1<=k->ja m (l.map (gj 0 b k))=ja m l:=λl k h f=>by induction l with|nil=>rfl|cons r l o=>rw[aw,ja,ja,(j r k (h r aS) f).2,o λq d=>h q (by simp[d])]
 have u:∀(l:List N)(k:Int)(F:Nat),(∀q∈l,SizeOf.sizeOf q<n)->1<=k->fX m (l.map (gj 0 b k)) F=fX m l F:=λl k F h f=>by induction l with|nil=>rfl|cons r l o=>rw[aw,fX,fX,(j r k (h r aS) f).2,o λq d=>h q (by simp[d])]
 have mT:∀(l:List J)(c:List Nat)(k:Int),(∀q∈l,SizeOf.sizeOf q<n)->1<=k->(l.map (eU 0 b k)).map (dF m c)=l.map (dF m c):=λl c k h f=>by rw[cI];exact bF λq d=>z q c k (h q d) f
 refine⟨λt c k B f=>?_,λr k B f=>?_⟩;.rw[fC,fC m c t];(have e:eU 0 b k t=.mk t.op t.v t.depth (if t.op=2/\t.depth-k=0 then b t.at_ else t.at_) t.name (t.K.map (eU 0 b k)) (t.sub.map (gj 0 b (k+1))) t.ty:=by cases t;rw[eU,iY,jC];rfl);rw[e];have C:=mT t.K c k (λq d=>by have:=J.bK d;omega) f;have D:=mS t.sub (k+1) (λq d=>by have:=J.sub_lt d;omega) G;show(if t.op=2/\t.depth=0 then c.getD (if t.op=2/\t.depth-k=0 then b t.at_ else t.at_).toNat 1 else im m t.op ((t.K.map (eU 0 b k)).map (dF m c))+m%2*ja m (t.sub.map (gj 0 b (k+1))))=_;rw[C,D];by_cases g:t.op=2/\t.depth=0;(.rw[U g,U g,I G]);rw[I g,I g]
 have p:∀q∈r.K,SizeOf.sizeOf q<n:=λq d=>by have:=N.bK d;omega
 have E:(r.K.map (gj 0 b k)).map (dT m)=r.K.map (dT m):=by rw[cI];exact bF λq d=>(j q k (p q d) f).1
 have H:=λc=>mT r.ao c k (λq d=>by have:=N.eD d;omega) f;have K:∀c,(r.ao.map (eU 0 b k)).map (dF (md m) c)=r.ao.map (dF (md m) c):=λc=>by rw[cI];exact bF λq d=>A q c k (by have:=N.eD d;omega) f
 have L:∀c,(r.aJ.map (mapA 0 b k)).map (JN m c)=r.aJ.map (JN m c):=λc=>by rw[cI];refine bF λa M=>?_;show JN m c (mapA 0 b k a)=_;rw[va,va,vQ];show((a.t.map (eU 0 b k)).map (dF m c)).sum=_;rw[mT a.t c k (λq d=>by have:=N.hQ M;have:=Ag.qi d;omega) f]
 have i:=td 0 b k r;have s:(gj 0 b k r).op=r.op:=by rw[i];rfl
 have v:(gj 0 b k r).K=r.K.map (gj 0 b k):=by rw[i];rfl
 have w:(gj 0 b k r).ao=r.ao.map (eU 0 b k):=by rw[i];rfl
 have x:(gj 0 b k r).aJ=r.aJ.map (mapA 0 b k):=by rw[i];rfl
 have y:(gj 0 b k r).K.map (dT m)=r.K.map (dT m):=by rw[v];exact E
 refine⟨Mz s y (λc=>by rw[w];exact K c) (by rw[x,aF]) (by rw[Hs]),λF=>?_⟩;rw[hR,hR m r,AQ s y,s,w,H,x,L,v,u _ k _ p f,u _ k _ p f]
def Sc(m:Nat)(b:Int->Int)(c d:List Nat):∀(n:Nat)(t:J),SizeOf.sizeOf t<n->(∀a∈fq 0 0 t,c.getD (b a).toNat 1=d.getD a.toNat 1)->dF m c (eU 0 b 0 t)=dF m d t
|0,t,h,_=>absurd h (aB _)|n+1,t,s,g=>by
 rw[mG]at g;have e:eU 0 b 0 t=.mk t.op t.v t.depth (if t.op=2/\t.depth-0=0 then b t.at_ else t.at_) t.name (t.K.map (eU 0 b 0)) (t.sub.map (gj 0 b (0+1))) t.ty:=by cases t;rw[eU,iY,jC];rfl
 rw[fC,fC m d t,e];have j:(t.K.map (eU 0 b 0)).map (dF m c)=t.K.map (dF m d):=by rw[cI];exact bF λq i=>Sc m b c d n q (by have:=J.bK i;omega) λa k=>g a (by simp only[aZ];exact .inr (.inl (ik.2 ⟨q,i,k⟩)))
 have o:ja m (t.sub.map (gj 0 b (0+1)))=ja m t.sub:=by (have:∀l:List N,ja m (l.map (gj 0 b (0+1)))=ja m l:=λl=>by induction l with|nil=>rfl|cons r l p=>rw[aw,ja,ja,((zc m b _).2 r (0+1) (ax _) G).2,p]);exact this _
 show(if t.op=2/\t.depth=0 then c.getD (if t.op=2/\t.depth-0=0 then b t.at_ else t.at_).toNat 1 else im m t.op ((t.K.map (eU 0 b 0)).map (dF m c))+m%2*ja m (t.sub.map (gj 0 b (0+1))))=_;rw[j,o];by_cases f:t.op=2/\t.depth=0;.rw[U f,U f,U G];exact g _ (by rw[U G];simp)
 rw[I f,I f]
def YE{m:Nat}{b:Int->Int}{c d:List Nat}{t:J}(e:∀a∈fq 0 0 t,c.getD (b a).toNat 1=d.getD a.toNat 1):dF m c (eU 0 b 0 t)=dF m d t:=Sc m b c d _ t (ax _) e
def YF{b:Nat}{c d:List Nat}{t:J}(e:∀a∈fq 0 0 t,c.getD a.toNat 1=d.getD a.toNat 1):dF b c t=dF b d t:=by have:=YE (m:=b) (b:=id) e;rwa[(map_id 0 _).1 t 0 (ax _)]at this
mutual
def ua:J->Nat|.mk op v d a b K sub ty=>max (EH K) (ad7 sub)
def EH:List J->Nat|[]=>0|t::l=>max (ua t) (EH l)
def akH:Ag->Nat|.mk a d t=>EH t
def Va:List Ag->Nat|[]=>0|a::l=>max (akH a) (Va l)
def tN:N->Nat|.mk op a aP K ao aJ cq bH skip all rows=>max (EH ao) (max (Va aJ) (Vb K))
def Vb:List N->Nat|[]=>0|r::l=>max (tN r) (Vb l)
def ad7:List N->Nat|[]=>0|r::l=>max (1+tN r) (ad7 l)
end
mutual
def xM:N->Nat|.mk op a aP K ao aJ cq bH skip all rows=>aiy K+(if op=3 then 0 else 1)
def aiy:List N->Nat|[]=>0|r::l=>xM r+aiy l
def vb:N->Nat|.mk op a aP K ao aJ cq bH skip all rows=>if op=3 then 1+alo K else 0
def alo:List N->Nat|[]=>0|r::_=>vb r
end
mutual
def ei(a:List Dt):N->Nat|.mk op b aP K ao aJ cq bH skip all rows=>if op=1 then max 1 (jM a b).length else if op=2 then max 1 rows.length else if op=5\/op=6 then(JQ a K).getD 0 1*(JQ a K).getD 1 1 else if op=9\/op=10\/op=11 then(JQ a K).getD 0 1+(JQ a K).getD 1 1 else(JQ a K).getD 0 1
def JQ(a:List Dt):List N->List Nat|[]=>[]|r::l=>ei a r::JQ a l
end
structure Qd(a:List Dt)(r:N):Prop where
 p0:je 0 r 0<=1000000000000
 p1:je 1 r 0<=1000000000000
 cap:ei a r<=1000000000
mutual
def wy(b:List Dt):J->Prop|.mk op v d a c K sub ty=>EI b K/\ad8 b sub
def EI(a:List Dt):List J->Prop|[]=>True|t::l=>wy a t/\EI a l
def akI(a:List Dt):Ag->Prop|.mk b d t=>EI a t
def Vc(b:List Dt):List Ag->Prop|[]=>True|a::l=>akI b a/\Vc b l
def wz(a:List Dt):N->Prop|.mk op b aP K ao aJ cq bH skip all rows=>EI a ao/\Vc a aJ/\Vd a K
def Vd(a:List Dt):List N->Prop|[]=>True|r::l=>wz a r/\Vd a l
def ad8(a:List Dt):List N->Prop|[]=>True|r::l=>(Qd a r/\wz a r)/\ad8 a l
end
def CB{n:Nat}:∀{a:List J},EH a<=n↔∀t∈a,ua t<=n|[]=>by simp[EH]|t::a=>by simp only[EH,fR,CB (a:=a),fx]
def Sd{n:Nat}:∀{a:List N},Vb a<=n↔∀t∈a,tN t<=n|[]=>by simp[Vb]|t::a=>by simp only[Vb,fR,Sd (a:=a),fx]
def YG{n:Nat}:∀{a:List N},ad7 a<=n↔∀t∈a,1+tN t<=n|[]=>by simp[ad7]|t::a=>by simp only[ad7,fR,YG (a:=a),fx]
def Se{n:Nat}:∀{b:List Ag},Va b<=n↔∀a∈b,∀t∈a.t,ua t<=n|[]=>by simp[Va]|.mk c d t::b=>by simp only[Va,fR,Se (b:=b),fx,akH,CB,Ag.t]
def jm{n:Nat}{t:J}:ua t<=n↔(∀k∈t.K,ua k<=n)/\∀r∈t.sub,1+tN r<=n:=by cases t;rw[ua,fR,CB,YG];rfl
def gV{n:Nat}{r:N}:tN r<=n↔(∀t∈r.ao,ua t<=n)/\(∀a∈r.aJ,∀t∈a.t,ua t<=n)/\∀k∈r.K,tN k<=n:=by cases r;rw[tN,fR,fR,CB,Se,Sd];rfl
def zd{b:List Dt}:∀{a:List J},EI b a↔∀t∈a,wy b t|[]=>by simp[EI]|t::a=>by simp[EI,zd (a:=a)]
def MA{b:List Dt}:∀{a:List N},Vd b a↔∀t∈a,wz b t|[]=>by simp[Vd]|t::a=>by simp[Vd,MA (a:=a)]
def Sf{b:List Dt}:∀{a:List N},ad8 b a↔∀t∈a,Qd b t/\wz b t|[]=>by simp[ad8]|t::a=>by simp[ad8,Sf (a:=a)]
def MB{c:List Dt}:∀{b:List Ag},Vc c b↔∀a∈b,∀t∈a.t,wy c t|[]=>by simp[Vc]|.mk e d t::b=>by simp[Vc,MB (b:=b),akI,zd,Ag.t]
def hJ{a:List Dt}{t:J}:wy a t↔(∀k∈t.K,wy a k)/\∀r∈t.sub,Qd a r/\wz a r:=by cases t;rw[wy,zd,Sf];rfl
def gk{b:List Dt}{r:N}:wz b r↔(∀t∈r.ao,wy b t)/\(∀a∈r.aJ,∀t∈a.t,wy b t)/\∀k∈r.K,wz b k:=by cases r;rw[wz,zd,MB,MA];rfl
def Sh:∀l:List N,aiy l=(l.map xM).sum|[]=>by simp[aiy]|t::l=>by simp[aiy,Sh l]
def vc(r:N):xM r=(r.K.map xM).sum+(if r.op=3 then 0 else 1):=by cases r;rw[xM,Sh];rfl
def Pw(r:N):vb r=if r.op=3 then 1+(match r.K with|[]=>0|k::_=>vb k)else 0:=by cases r with|mk op a aP K ao aJ cq bH skip all rows=>cases K<;>(rw[vb];rfl)
def MC(a:List Dt):∀l:List N,JQ a l=l.map (ei a)|[]=>by simp[JQ]|t::l=>by simp[JQ,MC a l]
def kQ(a:List Dt)(r:N):ei a r=if r.op=1 then max 1 (jM a r.de).length else if r.op=2 then max 1 r.rows.length else if r.op=5\/r.op=6 then(r.K.map (ei a)).getD 0 1*(r.K.map (ei a)).getD 1 1 else if r.op=9\/r.op=10\/r.op=11 then(r.K.map (ei a)).getD 0 1+(r.K.map (ei a)).getD 1 1 else(r.K.map (ei a)).getD 0 1:=by cases r;rw[ei,MC];rfl
def AR{a:List Dt}{r b:N}(c:b.op=r.op)(ht:b.de=r.de)(d:b.rows=r.rows)(e:b.K.map (ei a)=r.K.map (ei a)):ei a b=ei a r:=by rw[kQ,kQ a r,c,ht,d,e]
def sf{r k:N}(h:r.op=3)(a:r.K=[k]):vb r=1+vb k:=by rw[Pw,U h,a]
def xx{r:N}(h:¬r.op=3):vb r=0:=by rw[Pw,I h]
def vW{r k:N}(h:r.op=3)(a:r.K=[k]):xM r=xM k:=by rw[vc,U h,a];simp
def tj{a:List Dt}{r k:N}(h:r.op=3)(b:r.K=[k]):ei a r=ei a k:=by rw[kQ,I G,I G,I G,I G,b];rfl
def kt(r:N)(l:List J):xM (bI r l)=xM r:=by unfold bI;split;(.rfl);exact vW A A
def jh(a:List Dt)(r:N)(l:List J):ei a (bI r l)=ei a r:=by unfold bI;split;(.rfl);exact tj A A
def afY{n:Nat}{a b:J}(e:ua a<=n)(f:ua b<=n):ua (oY a b)<=n:=jm.2 ⟨λk c=>by (have:k=a\/k=b:=by simpa[oY,J.K]using c);rcases this with rfl|rfl<;>assumption,λr d=>by cases d⟩
def afZ{c:List Dt}{a b:J}(f:wy c a)(g:wy c b):wy c (oY a b):=hJ.2 ⟨λk d=>by (have:k=a\/k=b:=by simpa[oY,J.K]using d);rcases this with rfl|rfl<;>assumption,λr e=>by cases e⟩
def Hw{P:J->Prop}(f:P (hC (oj true) 1))(g:∀a b,P a->P b->P (oY a b)){l:List J}(h:∀p∈l,P p):P (dC l):=by
 rcases l with _|⟨a,l⟩;.exact f
 have i:∀(l:List J)(a:J),P a->(∀p∈l,P p)->P (l.foldl oY a):=by intro l;induction l with|nil=>intro a c _;exact c|cons b l j=>intro a c e;exact j _ (g _ _ c (e b aS)) λp d=>e p (by simp[d])
 exact i l a (h a aS) λp d=>h p (by simp[d])
def MD{n:Nat}{l:List J}(h:∀p∈l,ua p<=n):ua (dC l)<=n:=Hw (P:=λt=>ua t<=n) (by show ua (.mk 1 _ 0 0 [] [] [] 1)<=n;simp[ua,EH,ad7]) (λ_ _=>afY) h
def ME{a:List Dt}{l:List J}(h:∀p∈l,wy a p):wy a (dC l):=Hw (P:=wy a) (by show wy a (.mk 1 _ 0 0 [] [] [] 1);simp[wy,EI,ad8]) (λ_ _=>afZ) h
def vX{P:J->Prop}(h:∀t a b,t.op=17->t.K=[a,b]->P t->P a/\P b):∀(n:Nat)(t:J),SizeOf.sizeOf t<n->P t->∀p∈bL t,P p|0,t,f,_=>absurd f (aB _)|n+1,t,f,g=>by intro p c;by_cases d:t.op=17/\t.K.length=2;(.obtain⟨x,y,e⟩:=iP d.2;rw[fH d.1 e]at c;obtain⟨i,j⟩:=h t x y d.1 e g;rcases aZ.1 c with c|c;(.exact vX h n x (by have:=J.bK (t:=t) (k:=x) (by rw[e];simp);omega) i p c);exact vX h n y (by have:=J.bK (t:=t) (k:=y) (by rw[e];simp);omega) j p c);rw[gO d]at c;simp at c;subst c;exact g
def sg{n:Nat}{t:J}(h:ua t<=n):∀p∈bL t,ua p<=n:=vX (P:=λt=>ua t<=n) (λt a b _ c ht=>by have:=(jm.1 ht).1;rw[c]at this;exact⟨this a aS,this b aS⟩) _ t (ax _) h
def sh{c:List Dt}{t:J}(h:wy c t):∀p∈bL t,wy c p:=vX (P:=wy c) (λt a b _ d ht=>by have:=(hJ.1 ht).1;rw[d]at this;exact⟨this a aS,this b aS⟩) _ t (ax _) h
def jn{n:Nat}{r:N}{l:List J}(h:tN r<=n)(b:∀p∈l,ua p<=n):tN (bI r l)<=n:=by
 unfold bI;split;.exact h
 refine gV.2 ⟨λt ht=>?_,λa c=>(by cases c),λk d=>?_⟩;.rw[show t=dC l by simpa[N.ao]using ht];exact MD b
 rw[show k=r by simpa[N.K]using d];exact h
def jo{b:List Dt}{r:N}{l:List J}(h:wz b r)(c:∀p∈l,wy b p):wz b (bI r l):=by
 unfold bI;split;.exact h
 refine gk.2 ⟨λt ht=>?_,λa d=>(by cases d),λk e=>?_⟩;.rw[show t=dC l by simpa[N.ao]using ht];exact ME c
 rw[show k=r by simpa[N.K]using e];exact h
def EJ:∀(n:Nat)(t:J),SizeOf.sizeOf t<n->eM t=true->ua t=0|0,t,a,_=>absurd a (aB _)|n+1,t,a,h=>by obtain⟨d,e⟩:=nG h;refine BO.1 (jm.2 ⟨λk b=>mQ (EJ n k (by have:=J.bK b;omega) (e k b)),λr c=>by rw[d]at c;cases c⟩)
def EK{d:List Dt}:∀(n:Nat)(t:J),SizeOf.sizeOf t<n->eM t=true->wy d t|0,t,a,_=>absurd a (aB _)|n+1,t,a,h=>by obtain⟨e,f⟩:=nG h;exact hJ.2 ⟨λk b=>EK n k (by have:=J.bK b;omega) (f k b),λr c=>by rw[e]at c;cases c⟩
def Ve{t:J}:eM t=true↔t.sub=[]/\∀k∈t.K,eM k=true:=by cases t;rw[eM,aA,qH,aU,gg];rfl
def MF{l:List J}:∀(n:Nat)(t:J),SizeOf.sizeOf t<n->eM t=true->(∀a∈fq 0 0 t,oZ l a=false)->eM (zO l t)=true|0,t,e,_,_=>absurd e (aB _)|n+1,t,e,h,b=>by obtain⟨g,i⟩:=nG h;rw[mG]at b;rw[Ee];by_cases c:t.op=2;(.rw[U c];by_cases f:t.depth=0;(.rw[U f];have:=b t.at_ (by rw[U ⟨c,G⟩];simp);unfold oZ at this;simp only[oB,fu,Bool.not_eq_false']at this;exact this.2.2);rw[I f];exact h);rw[I c];refine Ve.2 ⟨g,λk j=>?_⟩;obtain⟨q,d,rfl⟩:=aV.1 (j);exact MF n q (by have:=J.bK d;omega) (i q d) λa m=>b a (by simp only[aZ];exact .inr (.inl (ik.2 ⟨q,d,m⟩)))
def vd{t:J}{l:List J}(h:gU t l=true):eM (zO l t)=true:=by unfold gU at h;simp only[aA,gE,kg]at h;exact MF _ t (ax _) h.1 λa b=>by simpa using h.2 a b
def ad9{g:List Dt}(m:Nat)(c:List Nat)(l:List J):∀(n:Nat)(t:J)(E:List Nat),SizeOf.sizeOf t<n->eM t=true->Hc l t->kc g E t->dF m c (zO l t)=dF m (l.map (dF m c)) t|0,t,_,e,_,_,_=>absurd e (aB _)|n+1,t,E,e,h,i,j=>by obtain⟨f,k⟩:=nG h;obtain⟨o,p⟩:=i.inv;have H:=ek.1 j;rw[Ee,fC m _ t];by_cases a:t.op=2;(.rw[U a];by_cases b:t.depth=0;(.rw[U b,U ⟨a,b⟩];obtain⟨s,u⟩:=o a b;have r:t.at_.toNat<l.length:=G;simp[az,r]);rw[I b,I (λq=>b q.2),fC,I (λq=>b q.2),(H.c2 a).1,f];rfl);rw[I a,I (λq=>a q.1),fC,I (λq=>a q.1),f];show im m t.op ((t.K.map (zO l)).map (dF m c))+m%2*ja m []=_;rw[cI];have:t.K.map (dF m c∘zO l)=t.K.map (dF m (l.map (dF m c))):=bF λq d=>ad9 m c l n q E (by have:=J.bK d;omega) (k q d) (p a q d) (H.K q d);rw[this]
def YH{s:List Dt}(m:Nat):∀(n:Nat)(r:N)(E:List Nat),SizeOf.sizeOf r<n->mZ s E r->(dT m r).length=r.aP.length
|0,r,E,g,_=>absurd g (aB _)|n+1,r,E,g,h=>by
 have H:=dB.1 h;have t:∀k∈r.K,(dT m k).length=k.aP.length:=λk j=>YH m n k E (by have:=N.bK j;omega) (H.K k j);have b:∀i,((r.K.map (dT m)).getD i []).length=wd r.K i:=λi=>by unfold wd;simp only[az,ck];cases u:r.K[i]?with|none=>rfl|some k=>exact t k (bb u)
 have l:(cin m r).length=mY r.op r.K:=by unfold cin mY;split;(.rw[aj,b,b]);exact b 0
 rw[lM];by_cases o:r.op=1;.simp[o]
 by_cases p:r.op=2;.simp[p]
 have a:=H.o.w o p;by_cases c:r.op=4;.rw[U c,a,U c,aF,aF]
 rw[I c];rw[I c]at a;by_cases d:r.op=7;.rw[U d,a,U d];simp
 rw[I d];rw[I d]at a;by_cases e:r.op=5\/r.op=6;.rw[U e,a,l]
 rw[I e];by_cases q:r.op=3\/r.op=8\/r.op=12;.rw[U q,a,l]
 rw[I q];by_cases f:r.op=9;.rw[U f,lp,b,b,H.o.s (.inl f),a];unfold mY;rw[I e];simp
 rw[I f];simp
def jE{a:List Dt}{m:Nat}{r:N}{E:List Nat}(h:mZ a E r):(dT m r).length=r.aP.length:=YH m _ r E (ax _) h
section
theorem EL(db:List Dt)(d:Int->Int):∀n:Nat,(∀(t:J)(k:Int),SizeOf.sizeOf t<n->0<=k->(∀f,ua t<=f->ua (eU 0 d k t)<=f)/\(wy db t->wy db (eU 0 d k t)))/\(∀(r:N)(k:Int),SizeOf.sizeOf r<n->1<=k->(∀f,tN r<=f->tN (gj 0 d k r)<=f)/\(wz db r->wz db (gj 0 d k r))/\ei db (gj 0 d k r)=ei db r)
|0=>⟨λt _ h=>absurd h (aB _),λt _ h=>absurd h (aB _)⟩|n+1=>by
 obtain⟨m,v⟩:=EL db d n;refine⟨λt k I o=>?_,λr k I o=>?_⟩
 .have s:∀q∈t.K,SizeOf.sizeOf q<n:=λq b=>by have:=J.bK b;omega
  have z:∀q∈t.sub,SizeOf.sizeOf q<n:=λq b=>by have:=J.sub_lt b;omega
  have e:eU 0 d k t=.mk t.op t.v t.depth (if t.op=2/\t.depth-k=0 then d t.at_ else t.at_) t.name (t.K.map (eU 0 d k)) (t.sub.map (gj 0 d (k+1))) t.ty:=by cases t;rw[eU,iY,jC];rfl
  rw[e];refine⟨λf h=>?_,λh=>?_⟩;.obtain⟨j,g⟩:=jm.1 h;refine jm.2 ⟨λq b=>?_,λq b=>?_⟩;(.obtain⟨p,c,rfl⟩:=aV.1 (b);exact(m p k (s p c) o).1 f (j p c));obtain⟨p,c,rfl⟩:=aV.1 (show q∈t.sub.map (gj 0 d (k+1))from b);have x:=g p c;have:=(v p (k+1) (z p c) G).1 (f-1) G;omega
  obtain⟨j,g⟩:=hJ.1 h;refine hJ.2 ⟨λq b=>?_,λq b=>?_⟩;.obtain⟨p,c,rfl⟩:=aV.1 (b);exact(m p k (s p c) o).2 (j p c)
  obtain⟨p,c,rfl⟩:=aV.1 (show q∈t.sub.map (gj 0 d (k+1))from b);have i:=v p (k+1) (z p c) G;have K:=((zc 0 d _).2 p (k+1) (ax _) G).2;have L:=((zc 1 d _).2 p (k+1) (ax _) G).2;exact⟨⟨by rw[K];exact(g p c).1.p0,by rw[L];exact(g p c).1.p1,by rw[i.2.2];exact(g p c).1.cap⟩,i.2.1 (g p c).2⟩
 have s:∀q∈r.K,SizeOf.sizeOf q<n:=λq b=>by have:=N.bK b;omega
 have A:∀q∈r.ao,SizeOf.sizeOf q<n:=λq b=>by have:=N.eD b;omega
 have B:∀a∈r.aJ,∀q∈a.t,SizeOf.sizeOf q<n:=λa l q b=>by have:=N.hQ l;have:=Ag.qi b;omega
 have u:=td 0 d k r;have M:(gj 0 d k r).op=r.op:=by rw[u];rfl
 have y:(gj 0 d k r).K=r.K.map (gj 0 d k):=by rw[u];rfl
 have C:(gj 0 d k r).ao=r.ao.map (eU 0 d k):=by rw[u];rfl
 have D:(gj 0 d k r).aJ=r.aJ.map (mapA 0 d k):=by rw[u];rfl
 have F:∀a:Ag,(mapA 0 d k a).t=a.t.map (eU 0 d k):=λa=>by rw[vQ];rfl
 refine⟨λf h=>?_,λh=>?_,?_⟩;.obtain⟨j,g,x⟩:=gV.1 h;refine gV.2 ⟨λq b=>?_,λa l q b=>?_,λq b=>?_⟩;(.rw[C]at b;obtain⟨p,c,rfl⟩:=aV.1 b;exact(m p k (A p c) G).1 f (j p c));(.rw[D]at l;obtain⟨a,w,rfl⟩:=aV.1 l;rw[F]at b;obtain⟨p,c,rfl⟩:=aV.1 b;exact(m p k (B a w p c) G).1 f (g a w p c));rw[y]at b;obtain⟨p,c,rfl⟩:=aV.1 b;exact(v p k (s p c) o).1 f (x p c)
 .obtain⟨j,g,x⟩:=gk.1 h;refine gk.2 ⟨λq b=>?_,λa l q b=>?_,λq b=>?_⟩;(.rw[C]at b;obtain⟨p,c,rfl⟩:=aV.1 b;exact(m p k (A p c) G).2 (j p c));(.rw[D]at l;obtain⟨a,w,rfl⟩:=aV.1 l;rw[F]at b;obtain⟨p,c,rfl⟩:=aV.1 b;exact(m p k (B a w p c) G).2 (g a w p c));rw[y]at b;obtain⟨p,c,rfl⟩:=aV.1 b;exact(v p k (s p c) o).2.1 (x p c)
 refine AR M (by rw[u];rfl) (by rw[u];rfl) ?_;rw[y,cI];exact bF λp c=>(v p k (s p c) o).2.2
structure EM(db:List Dt)(t:J)(k o:N):Prop where
 je:∀m F,je m o F<=je m k (F+dF m (dT m k) t)
 cx:∀m,dT m o=dT m k
 sk:xM o=xM k
 cap:ei db o=ei db k
 qd:∀n,ua t<=n->tN k<=n->tN o<=n
 hs:wy db t->wz db k->wz db o
theorem pT{b:Type}(f:b->Nat)(q:b->Bool):∀l:List b,((l.filter q).map f).sum+((l.filter λx=>!q x).map f).sum=(l.map f).sum|[]=>A|a::l=>by have:=pT f q l;cases h:q a;(.simp only[cw,h,cy,dz,vu,fi,aw,bj];omega);simp only[cw,h,ru,cy,dz,fi,aw,bj];omega
theorem vY{a b:List Nat}{i:Nat}(h:i<a.length):(a++b).getD i 1=a.getD i 1:=by simp only[az];rw[cb h]
theorem vZ{a b:List Nat}{i:Nat}(h:a.length<=i):(a++b).getD i 1=b.getD (i-a.length) 1:=by simp only[az];rw[bU h]
theorem JR{m n:Nat}{c d:List Nat}{p:J}(e:c.length=n)(h:dk p 0 (.ofNat n)=true):dF m c p=dF m (c++d) p:=YF λa b=>by have:=within_iff.1 h a b;simp at this;exact(vY G).symm
theorem acq{m n k:Nat}{c d:List Nat}{p:J}(b:c.length=n)(h:dk p (.ofNat n) (.ofNat (n+k))=true):dF m d (qJ n (n+k) p)=dF m (c++d) p:=YE λa e=>by have:=within_iff.1 h a e;simp at this;rw[ED G G,vZ G,b];congr 1;omega
theorem ze{m:Nat}{r a:N}(h:¬(r.op=5\/r.op=6))(b:r.K=[a]):cin m r=dT m a:=by unfold cin;rw[I h,b];rfl
theorem CC{m:Nat}{r a b:N}(h:r.op=5\/r.op=6)(c:r.K=[a,b]):cin m r=dT m a++dT m b:=by unfold cin;rw[U h,c];rfl
theorem JS{m:Nat}{r:N}(h:r.op=5\/r.op=6):dT m r=cin m r:=by rw[lM,I G,I G,U h]
theorem zf(m:Nat)(a b:N)(F:Nat):fX m [a,b] F=comb m (je m a F) (je m b F):=by rw[fX,pR]
section
variable{db:List Dt}{E:List Nat}{t:J}{k:N}(H:aco db E k)(ht:kc db (k.aP.length::E) t)
include H ht
theorem MG{k0:N}{t0:J}(h:k.op=3)(b:k.K=[k0])(c:k.ao=[t0]):EM db t k (bI k0 (bL t0++bL t)):=by
 refine⟨λm F=>?_,λm=>by rw[jl,nJ (.inl h) b],by rw[kt,vW h b],by rw[jh,tj h b],λn d e=>?_,λd e=>?_⟩;.rw[iq,iB h b c,nJ (.inl h) b,dy,lH];have i:=pS m (dT m k0) t0;have j:=pS m (dT m k0) t;exact nI k0 G
 .obtain⟨f,_,g⟩:=gV.1 e;refine jn (g k0 (by rw[b];simp)) λp a=>?_;rcases aZ.1 a with a|a;(.exact sg (f t0 (by rw[c];simp)) p a);exact sg d p a
 obtain⟨f,_,g⟩:=gk.1 e;refine jo (g k0 (by rw[b];simp)) λp a=>?_;rcases aZ.1 a with a|a;.exact sh (f t0 (by rw[c];simp)) p a
 exact sh d p a
theorem Px{a b:N}(h:k.op=5)(f:k.K=[a,b]):EM db t k (kr t k a b):=by
 have u:=H.K a (by rw[f];simp);have J:=H.K b (by rw[f];simp);have v:=lz u;have B:=lz J;have w:∀p∈ih t a,p∈bL t/\dk p 0 (.ofNat a.aP.length)=true:=λp d=>by rw[ih,v]at d;exact cd.1 d
 have x:∀p∈ij t a b,p∈bL t/\dk p (.ofNat a.aP.length) (.ofNat (a.aP.length+b.aP.length))=true:=λp d=>by rw[ij,v,B]at d;obtain⟨j,o⟩:=cd.1 d;exact⟨(cd.1 j).1,o⟩
 have C:∀p∈ez t a b,p∈bL t:=λp d=>(cd.1 (cd.1 d).1).1;have D:∀c,cin c (kr t k a b)=cin c k:=λc=>by rw[CC (.inl h) f,CC (r:=kr t k a b) (.inl A) A,jl,jl]
 refine⟨λc F=>?_,λc=>by rw[JS (.inl h),JS (r:=kr t k a b) (.inl A),D],?_,?_,λn j o=>?_,λj o=>?_⟩;.rw[JS (.inl h),hR c (kr t k a b),I (by show¬(5:Int)=3;decide),I (show¬(c=0/\¬((kr t k a b).op=5\/(kr t k a b).op=6))fromλq=>q.2 (.inl A)),hR c k,I G,I (show¬(c=0/\¬(k.op=5\/k.op=6))fromλq=>q.2 (.inl h)),D,f,zf];have K:=CC (m:=c) (.inl h) f;rw[K];show comb c (F+(((if wQ k++ez t a b=[]then[]else[dC (wQ k++ez t a b)]).map (dF c (dT c a++dT c b))).sum+0)) (fX c [bI a (ih t a),bI b ((ij t a b).map (qJ (bJ a) (bJ a+bJ b)))] F)<=_;rw[zf,iq,iq];have S:=pS c (dT c a++dT c b) t;have L:=pT (dF c (dT c a++dT c b)) (λp=>dk p 0 (.ofNat (bJ a))) (bL t);have M:=pT (dF c (dT c a++dT c b)) (λp=>dk p (.ofNat (bJ a)) (.ofNat (bJ a+bJ b))) (ox t a);(have O:((ih t a).map (dF c (dT c a))).sum=((ih t a).map (dF c (dT c a++dT c b))).sum:=by congr 1;exact bF λp d=>JR (jE u) (w p d).2);(have P:(((ij t a b).map (qJ (bJ a) (bJ a+bJ b))).map (dF c (dT c b))).sum=((ij t a b).map (dF c (dT c a++dT c b))).sum:=by rw[cI];congr 1;refine bF λp d=>?_;show dF c (dT c b) (qJ (bJ a) (bJ a+bJ b) p)=_;rw[v,B];exact acq (jE u) (x p d).2);(have T:((wQ k).map (dF c (dT c a++dT c b))).sum<=(k.ao.map (dF c (dT c a++dT c b))).sum:=by unfold wQ;cases k.ao with|nil=>exact af _|cons t0 l=>have:=pS c (dT c a++dT c b) t0;simp only[aw,bj];omega);(have Q:((if wQ k++ez t a b=[]then[]else[dC (wQ k++ez t a b)]).map (dF c (dT c a++dT c b))).sum=((wQ k).map (dF c (dT c a++dT c b))).sum+((ez t a b).map (dF c (dT c a++dT c b))).sum:=by rw[<-lH,<-dy];split;(.rename_i q;rw[q]);rename_i q;simp only[aw,bN,bj,kU,cC];exact My _ _ q);rw[O,P,Q];have U:((ih t a).map (dF c (dT c a++dT c b))).sum+((ox t a).map (dF c (dT c a++dT c b))).sum=_:=L;have V:((ij t a b).map (dF c (dT c a++dT c b))).sum+((ez t a b).map (dF c (dT c a++dT c b))).sum=_:=M;exact mL G (mL (nI a G) (nI b G))
 .rw[vc,vc k,f,h];show(([bI a _,bI b _]:List N).map xM).sum+1=_;simp[kt]
 .rw[kQ,kQ db k,f,h];show(([bI a _,bI b _]:List N).map (ei db)).getD 0 1*(([bI a _,bI b _]:List N).map (ei db)).getD 1 1=_;simp[jh]
 .obtain⟨y,_,s⟩:=gV.1 o;have g:=sg j;refine gV.2 ⟨λq e=>?_,λq e=>(by cases e),λq e=>?_⟩;(.have e:q∈(if wQ k++ez t a b=[]then[]else[dC (wQ k++ez t a b)]):=e;split at e;(.cases e);simp at e;subst e;refine MD λp d=>?_;rcases aZ.1 d with d|d;(.unfold wQ at d;cases i:k.ao with|nil=>rw[i]at d;cases d|cons t0 l=>rw[i]at d;exact sg (y t0 (by rw[i];simp)) p d);exact g p (C p d));(have e:q=bI a (ih t a)\/q=bI b ((ij t a b).map (qJ (bJ a) (bJ a+bJ b))):=by simpa[kr,VE,N.K]using e);rcases e with rfl|rfl;(.exact jn (s a (by rw[f];simp)) λp d=>g p (w p d).1);refine jn (s b (by rw[f];simp)) λR z=>?_;obtain⟨p,d,rfl⟩:=aV.1 z;exact((EL db _ _).1 p 0 (ax _) G).1 n (g p (x p d).1)
 obtain⟨y,_,s⟩:=gk.1 o;have g:=sh j;refine gk.2 ⟨λq e=>?_,λq e=>(by cases e),λq e=>?_⟩;.have e:q∈(if wQ k++ez t a b=[]then[]else[dC (wQ k++ez t a b)]):=e;split at e;(.cases e);simp at e;subst e;refine ME λp d=>?_;rcases aZ.1 d with d|d;(.unfold wQ at d;cases i:k.ao with|nil=>rw[i]at d;cases d|cons t0 l=>rw[i]at d;exact sh (y t0 (by rw[i];simp)) p d);exact g p (C p d)
 have e:q=bI a (ih t a)\/q=bI b ((ij t a b).map (qJ (bJ a) (bJ a+bJ b))):=by simpa[kr,VE,N.K]using e
 rcases e with rfl|rfl;.exact jo (s a (by rw[f];simp)) λp d=>g p (w p d).1
 refine jo (s b (by rw[f];simp)) λR z=>?_;obtain⟨p,d,rfl⟩:=aV.1 z;exact((EL db _ _).1 p 0 (ax _) G).2 (g p (x p d).1)
end
end
section
theorem EN(m:Nat)(c:List Nat):∀(n:Nat)(t:J),SizeOf.sizeOf t<n->eM t=true->dF m c t=dF (md m) c t|0,t,b,_=>absurd b (aB _)|n+1,t,b,h=>by obtain⟨f,g⟩:=nG h;rw[fC,fC (md m) c t,f,bF λq d=>EN m c n q (by have:=J.bK d;omega) (g q d)];(have e:im m t.op (t.K.map (dF (md m) c))=im (md m) t.op (t.K.map (dF (md m) c)):=by unfold md im;by_cases a:m=0;(.subst a;rfl);rw[I a,I a,I (show¬(2:Nat)=0 by decide)]);rw[e];simp[ja]
theorem acr(c:List Nat):ad6 c (c.map (max 1)):=λi=>by simp only[az,ck];cases c[i]?with|none=>exact af _|some v=>simp;omega
theorem YI{db:List Dt}{m:Nat}{c:List Nat}{l:List J}{t:J}{E:List Nat}(h:gU t l=true)(b:kc db E t):dF m c (zO l t)<=dF m ((l.map (dF (md m) c)).map (max 1)) t:=by (have a:eM t=true:=by unfold gU at h;simp only[aA]at h;exact h.1);rw[EN m c _ _ (ax _) (vd h),ad9 (md m) c l _ t E (ax _) a (nC h) b,<-EN m _ _ t (ax _) a];exact BG (acr _) t
theorem Vf{m:Nat}{k:N}{l:List N}(a:l.map (dT m)=k.K.map (dT m)):cin m (hD k l)=cin m k:=AQ (r:=k) (a:=hD k l) A a
theorem sj{m:Nat}{k:N}{l:List N}(a:l.map (dT m)=k.K.map (dT m)):dT m (hD k l)=dT m k:=Mz (r:=k) (a:=hD k l) A a (λ_=>A) A A
theorem wa{m:Nat}{k:N}{l:List N}{F a:Nat}(b:k.op≠3)(c:l.map (dT m)=k.K.map (dT m))(h:a<=F)(d:fX m l a<=fX m k.K F):je m (hD k l) a<=je m k F:=by rw[hR,hR m k,Vf c,I b,I (show¬(hD k l).op=3 from b)];show comb m (a+(if m=0/\¬(k.op=5\/k.op=6)then 0 else(k.ao.map (dF m (cin m k))).sum+(k.aJ.map (JN m (cin m k))).sum)) (fX m l a)<=_;exact mL G d
theorem zg{k:N}{l:List N}(h:l.map xM=k.K.map xM):xM (hD k l)=xM k:=by rw[vc,vc k];show(l.map xM).sum+(if k.op=3 then 0 else 1)=_;rw[h]
theorem wb{db:List Dt}{k:N}{l:List N}(h:l.map (ei db)=k.K.map (ei db)):ei db (hD k l)=ei db k:=AR (r:=k) (b:=hD k l) A A A h
theorem zi{k:N}{l:List N}{n:Nat}(h:tN k<=n)(a:∀q∈l,tN q<=n):tN (hD k l)<=n:=by obtain⟨b,c,d⟩:=gV.1 h;exact gV.2 ⟨b,c,a⟩
theorem zj{db:List Dt}{k:N}{l:List N}(h:wz db k)(a:∀q∈l,wz db q):wz db (hD k l):=by obtain⟨b,c,d⟩:=gk.1 h;exact gk.2 ⟨b,c,a⟩
section
variable{db:List Dt}{E:List Nat}{t:J}{k:N}(H:aco db E k)(ht:kc db (k.aP.length::E) t)
include H ht
theorem Py{a b:N}(h:k.op=6)(e:k.K=[a,b]):EM db t k (yO t k a b):=by
 have s:=H.K a (by rw[e];simp);have v:=lz s;have l:∀p∈gx t a,p∈bL t/\dk p 0 (.ofNat a.aP.length)=true:=λp d=>by rw[gx,v]at d;exact cd.1 d
 have u:∀p∈qI t a,p∈bL t:=λp d=>(cd.1 d).1;have o:∀c,[bI a (gx t a),b].map (dT c)=k.K.map (dT c):=λc=>by rw[e];simp[jl]
 unfold yO;refine⟨λc F=>?_,λc=>by rw[jl,sj (o c)],by rw[kt,zg];rw[e];simp[kt],by rw[jh,wb];rw[e];simp[jh],λn r f=>?_,λr f=>?_⟩;.have w:=(JS (m:=c) (.inr h)).trans (CC (m:=c) (.inr h) e);rw[iq,sj (o c),w];have z:=pS c (dT c a++dT c b) t;have x:=pT (dF c (dT c a++dT c b)) (λp=>dk p 0 (.ofNat (bJ a))) (bL t);(have y:((gx t a).map (dF c (dT c a))).sum=((gx t a).map (dF c (dT c a++dT c b))).sum:=by congr 1;exact bF λp d=>JR (jE s) (l p d).2);have A:((gx t a).map (dF c (dT c a++dT c b))).sum+((qI t a).map (dF c (dT c a++dT c b))).sum=_:=x;refine wa G (o c) G ?_;rw[e,zf,zf,iq,y];exact mL (nI a G) (nI b G)
 .obtain⟨_,_,g⟩:=gV.1 f;have i:=sg r;refine jn (zi f λq j=>?_) λp d=>i p (u p d);simp at j;rcases j with rfl|rfl;(.exact jn (g a (by rw[e];simp)) λp d=>i p (l p d).1);exact g _ (by rw[e];simp)
 obtain⟨_,_,g⟩:=gk.1 f;have i:=sh r;refine jo (zj f λq j=>?_) λp d=>i p (u p d);simp at j;rcases j with rfl|rfl;.exact jo (g a (by rw[e];simp)) λp d=>i p (l p d).1
 exact g _ (by rw[e];simp)
theorem Gj{a:N}(h:k.op=4)(d:k.K=[a])(f:gU t k.ao=true):EM db t k (mJ t k a):=by
 have u:eM t=true:=by unfold gU at f;simp only[aA]at f;exact f.1
 have v:=nC f;have o:∀b,[bI a [zO k.ao t]].map (dT b)=k.K.map (dT b):=λb=>by rw[d];simp[jl]
 unfold mJ;refine⟨λb F=>?_,λb=>sj (o b),by rw[zg];rw[d];simp[kt],by rw[wb];rw[d];simp[jh],λn r g=>?_,λr g=>?_⟩;.refine wa G (o b) G ?_;rw[d,pR,pR,iq];have e:=YI (m:=b) (c:=dT b a) f ht;(have s:dT b k=(k.ao.map (dF (md b) (dT b a))).map (max 1):=by rw[lM,U h,ze G d]);rw[s,aw];refine nI a ?_;simp only[bN,bj,kU];omega
 .obtain⟨_,_,l⟩:=gV.1 g;refine zi g λq i=>?_;simp at i;subst i;refine jn (l a (by rw[d];simp)) λp j=>?_;simp at j;subst j;rw[EJ _ _ (ax _) (vd f)];exact au _
 obtain⟨_,_,l⟩:=gk.1 g;refine zj g λq i=>?_;simp at i;subst i;refine jo (l a (by rw[d];simp)) λp j=>?_;simp at j;subst j;exact EK _ _ (ax _) (vd f)
theorem Gk(h:k.op=8\/k.op=12\/k.op=9):EM db t k (lx t k):=by
 have v:∀c,(k.K.map λx=>bI x [t]).map (dT c)=k.K.map (dT c):=λc=>by rw[cI];exact bF λx _=>jl c x _
 unfold lx;refine⟨λc F=>?_,λc=>sj (v c),by rw[zg];rw[cI];exact bF λx _=>kt x _,by rw[wb];rw[cI];exact bF λx _=>jh db x _,λn r g=>?_,λr g=>?_⟩;.refine wa G (v c) G ?_;(have A:∀x∈k.K,dF c (dT c x) t<=dF c (dT c k) t:=λx d=>by rcases h with h|h|h;(.obtain⟨a,e⟩:=H.o.one G;rw[e]at d;simp at d;subst d;rw[nJ G e];exact af _);(.obtain⟨a,e⟩:=H.o.one G;rw[e]at d;simp at d;subst d;rw[nJ G e];exact af _);obtain⟨a,b,e⟩:=H.o.two (.inr (.inr (.inl h)));have w:=H.o.s (.inl h);rw[e]at w;have D:=jE (m:=c) (H.K a (by rw[e];simp));have J:=jE (m:=c) (H.K b (by rw[e];simp));have K:b.aP.length=a.aP.length:=w;(have B:dT c k=List.zipWith max (dT c a) (dT c b):=by rw[lM,I G,I G,I G,I G,U h,e];rfl);refine BG (λi=>?_) t;rw[B];simp only[az,nk];(have d:x=a\/x=b:=by rw[e]at d;simpa using d);by_cases L:i<a.aP.length;(.rw[aa (l:=dT c a) G,aa (l:=dT c b) G];rcases d with rfl|rfl;(.rw[aa G];simp;omega);rw[aa G];simp;omega);rw[bO (l:=dT c a) G];rcases d with rfl|rfl<;>rw[bO G]<;>simp);(have:∀f:List N,(∀x∈f,dF c (dT c x) t<=dF c (dT c k) t)->fX c (f.map λx=>bI x [t]) F<=fX c f (F+dF c (dT c k) t):=λf=>by induction f with|nil=>intro _;simp[fX]|cons x f C=>intro z;rw[aw,fX,fX,iq];refine mL (nI x ?_) (C λy j=>z y (by simp[j]));have:=z x aS;simp;omega);exact this _ A
 .obtain⟨_,_,s⟩:=gV.1 g;refine zi g λq u=>?_;obtain⟨y,j,rfl⟩:=aV.1 u;exact jn (s y j) λp o=>by simp at o;subst o;exact r
 obtain⟨_,_,s⟩:=gk.1 g;refine zj g λq u=>?_;obtain⟨y,j,rfl⟩:=aV.1 u;exact jo (s y j) λp o=>by simp at o;subst o;exact r
theorem MH{a:N}(h:k.op=7)(f:k.K=[a])(y:kO t k=true):EM db t k (tc t k a):=by
 have u:=pP ht;have g:∀p∈fY t k,p∈bL t/\dk p 0 (.ofNat k.ao.length)=true/\gU p k.ao=true:=λp d=>by obtain⟨i,e⟩:=cd.1 d;unfold nB at e;simp only[aA]at e;exact⟨i,e⟩
 have z:∀p∈fY t k,eM p=true:=λp d=>by have:=(g p d).2.2;unfold gU at this;simp only[aA]at this;exact this.1
 have s:∀p∈pJ t k,p∈bL t:=λp d=>(cd.1 d).1;have l:∀b,[bI a ((fY t k).map (zO k.ao))].map (dT b)=k.K.map (dT b):=λb=>by rw[f];simp[jl]
 unfold tc;refine⟨λb F=>?_,λb=>by rw[jl,sj (l b)],by rw[kt,zg];rw[f];simp[kt],by rw[jh,wb];rw[f];simp[jh],λn i e=>?_,λi e=>?_⟩
 .have v:dT b k=(k.ao.map (dF (md b) (dT b a))).map (max 1)++List.replicate k.aJ.length 1:=by rw[lM,I G,U h,ze G f]
  rw[iq,sj (l b)];have A:=pS b (dT b k) t;have w:=pT (dF b (dT b k)) (nB k) (bL t);have B:(((fY t k).map (zO k.ao)).map (dF b (dT b a))).sum<=((fY t k).map (dF b (dT b k))).sum:=by rw[cI];refine rq λp d=>?_;show dF b (dT b a) (zO k.ao p)<=_;refine aL (YI (m:=b) (c:=dT b a) (g p d).2.2 (u p (g p d).1)) ?_;rw[v];exact mQ (JR aS (g p d).2.1)
  have C:((fY t k).map (dF b (dT b k))).sum+((pJ t k).map (dF b (dT b k))).sum=_:=w;refine wa G (l b) G ?_;rw[f,pR,pR,iq];exact nI a G
 .obtain⟨_,_,o⟩:=gV.1 e;refine jn (zi e λq j=>?_) λp d=>sg i p (s p d);simp at j;subst j;refine jn (o a (by rw[f];simp)) λx r=>?_;obtain⟨p,d,rfl⟩:=aV.1 r;rw[EJ _ _ (ax _) (vd (g p d).2.2)];exact au _
 obtain⟨_,_,o⟩:=gk.1 e;refine jo (zj e λq j=>?_) λp d=>sh i p (s p d);simp at j;subst j;refine jo (o a (by rw[f];simp)) λx r=>?_;obtain⟨p,d,rfl⟩:=aV.1 r;exact EK _ _ (ax _) (vd (g p d).2.2)
theorem YJ{o:N}(h:iZ t k=some o):EM db t k o:=by
 unfold iZ at h;by_cases d:k.op=3;.rw[U d]at h;split at h;(.rename_i k0 t0 c m;cases h;exact MG H ht d c m);cases h
 rw[I d]at h;by_cases e:k.op=5;.rw[U e]at h;split at h;(.rename_i a b c;cases h;exact Px H ht e c);cases h
 rw[I e]at h;by_cases f:k.op=6;.rw[U f]at h;split at h;(.rename_i a b c;split at h;(.cases h);cases h;exact Py H ht f c);cases h
 rw[I f]at h;by_cases g:k.op=4;.rw[U g]at h;split at h;(.rename_i a c;split at h;(.rename_i i;cases h;exact Gj H ht g c i);cases h);cases h
 rw[I g]at h;by_cases j:k.op=8\/k.op=12\/k.op=9;.rw[U j]at h;cases h;exact Gk H ht j
 rw[I j]at h;by_cases l:k.op=7;.rw[U l]at h;split at h;(.rename_i a c;split at h;(.rename_i i;cases h;exact MH H ht l c i);cases h);cases h
 rw[I l]at h;cases h
def ad'(r:N):Nat:=match r.ao with|[t]=>(bL t).length|_=>0
end
end
def MI(a b:J):bL (oY a b)=bL a++bL b:=fH A A
def ve:∀(n:Nat)(t:J),SizeOf.sizeOf t<n->∀p∈bL t,bL p=[p]|0,t,h=>absurd h (aB _)|n+1,t,h=>by intro p a;by_cases b:t.op=17/\t.K.length=2;(.obtain⟨x,y,c⟩:=iP b.2;rw[fH b.1 c]at a;rcases aZ.1 a with a|a;(.exact ve n x (by have:=J.bK (t:=t) (k:=x) (by rw[c];simp);omega) p a);exact ve n y (by have:=J.bK (t:=t) (k:=y) (by rw[c];simp);omega) p a);rw[gO b]at a;simp at a;subst a;exact gO b
def JT{l:List J}(d:l≠[])(h:∀p∈l,bL p=[p]):bL (dC l)=l:=by
 rcases l with _|⟨a,l⟩;.exact absurd A d
 have e:∀(l:List J)(a:J),(∀p∈l,bL p=[p])->bL (l.foldl oY a)=bL a++l:=by intro l;induction l with|nil=>intro a _;simp|cons b l f=>intro a c;rw[hW,f _ λp q=>c p (by simp[q]),MI,c b aS];simp
 show bL (l.foldl oY a)=_;rw[e l a λp q=>h p (by simp[q]),h a aS];rfl
def BH{d:Type}{q:d->Bool}:∀{b:List d},b.filter q≠[]->(b.filter λx=>!q x).length<b.length|[],h=>absurd A h|a::b,h=>by have e:(b.filter λx=>!q x).length<=b.length:=cv _ _;cases c:q a;(.rw[cw,c]at h;have:=BH (b:=b) (by simpa using h);simp only[cw,c,vu,fi,aE];omega);simp only[cw,c,ru,cy,dz,aE];omega
def EP{r:N}{l:List J}(h:vb r=0):vb (bI r l)=if l=[]then 0 else 1:=by unfold bI;split;(.exact h);rw[sf A A,h]
def Pz{r:N}{l:List J}(a:l≠[])(h:∀p∈l,bL p=[p]):ad' (bI r l)=l.length:=by unfold bI;rw[I a];show(bL (dC l)).length=_;rw[JT a h]
def Hy{t:J}{k W:N}{q:J->Bool}(a:vb W=0)(h:(bL t).filter q≠[]):vb (bI W ((bL t).filter λp=>!q p))<1+vb k\/(vb (bI W ((bL t).filter λp=>!q p))<=1+vb k/\ad' (bI W ((bL t).filter λp=>!q p))<(bL t).length):=by rw[EP a];split;(.left;omega);rename_i b;right;refine⟨by omega,?_⟩;rw[Pz b λp c=>ve _ t (ax _) p (cd.1 c).1];exact BH h
def Vg{t:J}{k o:N}(m:vb k<=1)(h:iZ t k=some o):vb o<1+vb k\/(vb o<=1+vb k/\ad' o<(bL t).length):=by
 unfold iZ at h;by_cases c:k.op=3;.rw[U c]at h;split at h;(.rename_i k0 t0 d p;cases h;rw[sf c d]at m|-;left;rw[EP G];split<;>omega);cases h
 rw[I c]at h;by_cases f:k.op=5;.rw[U f]at h;split at h;(.rename_i a b d;cases h;left;rw[xx (r:=kr t k a b) (show¬(5:Int)=3 by decide)];omega);cases h
 rw[I f]at h;by_cases g:k.op=6;.rw[U g]at h;split at h;(.rename_i a b d;split at h;(.cases h);rename_i n;cases h;exact Hy (xx (c)) n);cases h
 rw[I g]at h;by_cases i:k.op=4;.rw[U i]at h;split at h;(.rename_i a d;split at h;(.cases h;left;rw[xx (show¬(mJ t k a).op=3 from c)];omega);cases h);cases h
 rw[I i]at h;by_cases j:k.op=8\/k.op=12\/k.op=9;.rw[U j]at h;cases h;left;rw[xx (show¬(lx t k).op=3 from c)];omega
 rw[I j]at h;by_cases l:k.op=7;.rw[U l]at h;split at h;(.rename_i a d;split at h;(.rename_i e;cases h;refine Hy (xx (c)) λq=>?_;unfold kO fY at e;rw[q]at e;simp at e);cases h);cases h
 rw[I l]at h;cases h
def aj6{c:List Dt}{E:List Nat}{r:N}(H:aco c E r)(F:Nat):((r.ao.map (dF 1 (cin 1 r))).sum+(r.aJ.map (JN 1 (cin 1 r))).sum)+fX 1 r.K F<=je 1 r F:=by by_cases a:r.op=3;(.obtain⟨k,b⟩:=H.o.one (.inl a);obtain⟨t,ht⟩:=fI (H.o.t3 (.inl a));rw[iB a b ht,b,pR,H.o.an G,ht,ze G b];have:=Sa (i:=c) _ k E (dF 1 (dT 1 k) t) F (ax _) (H.K k (by rw[b];simp));rw[mN F];simpa using this);rw[hR,I a,I (show¬(1=0/\¬(r.op=5\/r.op=6))fromλq=>absurd q.1 aD)];unfold comb;simp only[lG,dz];omega
def Si(g:List Dt):∀n:Nat,(∀(t:J)(c:List Nat)(E:List Nat)(d:Int),SizeOf.sizeOf t<n->C1 c->kc g E t->(fq 0 d t).length<=dF 1 c t)/\(∀(r:N)(E:List Nat)(d:Int),SizeOf.sizeOf r<n->mZ g E r->(pC 0 d r).length<=je 1 r 0)
|0=>⟨λt _ _ _ h=>absurd h (aB _),λt _ _ h=>absurd h (aB _)⟩|n+1=>by
 obtain⟨v,w⟩:=Si g n;have k:∀(l:List J)(c E:List Nat)(d:Int),C1 c->(∀q∈l,SizeOf.sizeOf q<n/\kc g E q)->(fG 0 d l).length<=(l.map (dF 1 c)).sum:=λl c E d f h=>by induction l with|nil=>simp[fG]|cons q l i=>rw[fG,aj,aw,bj];have:=v q c E d (h q aS).1 f (h q aS).2;have:=i λx j=>h x (by simp[j]);omega
 have o:∀(l:List N)(E:List Nat)(d:Int),(∀q∈l,SizeOf.sizeOf q<n/\mZ g E q)->(gv 0 d l).length<=ja 1 l/\(gv 0 d l).length<=fX 1 l 0:=λl E d h=>by induction l with|nil=>simp[gv]|cons q l i=>rw[gv,aj,ja,fX];have p:=w q E d (h q aS).1 (h q aS).2;have e:=i λx j=>h x (by simp[j]);unfold comb;simp only[lG,dz];omega
 refine⟨λt c E d m f h=>?_,λr E d m h=>?_⟩;.have H:=ek.1 h;rw[mG];by_cases e:t.op=2;(.have m:t.sub=[]:=ay (by rw[H.Z,e];rfl);rw[(H.c2 e).1,m];(have:1<=dF 1 c t:=by rw[fC];split;(.exact f.get _);unfold im;rw[I aD,U e];omega);refine aL ?_ this;split<;>simp[fG,gv]);rw[fC,I (λq=>e q.1),I (λq=>e q.1)];have p:=k t.K c E d f λq b=>⟨by have:=J.bK b;omega,H.K q b⟩;have y:=(o t.sub E (d+1) λq b=>⟨by have:=J.sub_lt b;omega,H.sub q b⟩).1;rw[bM,aj];unfold im;rw[I aD,I e];omega
 have H:=dB.1 h;refine aL ?_ (aj6 H 0);rw[yy,aj,aj];have f:=zb 1 r;have p:=k r.ao _ _ d f λq b=>⟨by have:=N.eD b;omega,H.ao q b⟩;have y:=(o r.K E d λq b=>⟨by have:=N.bK b;omega,H.K q b⟩).2;have e:(lK 0 d r.aJ).length<=(r.aJ.map (JN 1 (cin 1 r))).sum:=by (have:∀l:List Ag,(∀a∈l,∀q∈a.t,SizeOf.sizeOf q<n/\kc g (mY r.op r.K::E) q)->(lK 0 d l).length<=(l.map (JN 1 (cin 1 r))).sum:=λl=>by induction l with|nil=>intro _;simp[lK]|cons a l i=>intro s;rw[lK,aj,yz,aw,bj,va];have:=k a.t _ _ d f (s a aS);have:=i λx j=>s x (by simp[j]);omega);exact this _ λa u q b=>⟨by have:=N.hQ u;have:=Ag.qi b;omega,H.aJ a u q b⟩
 omega
def acs{a:List Dt}{t:J}{c E:List Nat}(b:C1 c)(h:kc a E t)(d:Int):(fq 0 d t).length<=dF 1 c t:=(Si a _).1 t c E d (ax _) b h
def wc{d:Int}:∀{a:List J},oq d a↔∀t∈a,rj d t|[]=>by simp[oq]|t::a=>by simp[oq,wc (a:=a)]
def AS{d:Int}:∀{a:List N},qC d a↔∀t∈a,Gb d t|[]=>by simp[qC]|t::a=>by simp[qC,AS (a:=a)]
def Hz{d:Int}:∀{b:List Ag},wL d b↔∀a∈b,∀t∈a.t,rj d t|[]=>by simp[wL]|.mk c e t::b=>by simp[wL,Hz (b:=b),afu,wc,Ag.t]
def YK(g:List Dt):∀n:Nat,(∀(t:J)(E:List Nat)(d:Int),SizeOf.sizeOf t<n->kc g E t->0<=d->d+(ua t:Int)<=1000000000->rj d t)/\(∀(r:N)(E:List Nat)(d:Int),SizeOf.sizeOf r<n->mZ g E r->0<=d->d+(tN r:Int)<=1000000000->Gb d r)|0=>⟨λt _ _ h=>absurd h (aB _),λt _ _ h=>absurd h (aB _)⟩|n+1=>by obtain⟨i,o⟩:=YK g n;refine⟨λt E d p h c q=>?_,λr E d p h c q=>?_⟩;(.have H:=ek.1 h;obtain⟨j,l⟩:=jm.1 (af (ua t));(have e:rj d t↔(0<=d/\d<=1000000000/\(t.op=2->-1000000000<=t.depth/\t.depth<=1000000000)/\(t.op=2->t.K=[]/\t.sub=[])/\oq d t.K/\qC (d+1) t.sub):=by cases t;rw[rj];rfl);rw[e];refine⟨c,G,λf=>?_,λf=>⟨(H.c2 f).1,ay (by rw[H.Z,f];rfl)⟩,wc.2 λk b=>i k E d (by have:=J.bK b;omega) (H.K k b) c (by have:=j k b;omega),AS.2 λk b=>o k E (d+1) (by have:=J.sub_lt b;omega) (H.sub k b) G (by have:=l k b;omega)⟩;have:=H.c2 f;unfold BK at this;omega);have H:=dB.1 h;obtain⟨j,l,s⟩:=gV.1 (af (tN r));(have e:Gb d r↔(oq d r.ao/\wL d r.aJ/\qC d r.K):=by cases r;rw[Gb];rfl);rw[e];exact⟨wc.2 λk b=>i k _ d (by have:=N.eD b;omega) (H.ao k b) c (by have:=j k b;omega),Hz.2 λa m k b=>i k _ d (by have:=N.hQ m;have:=Ag.qi b;omega) (H.aJ a m k b) c (by have:=l a m k b;omega),AS.2 λk b=>o k E d (by have:=N.bK b;omega) (H.K k b) c (by have:=s k b;omega)⟩
def af0{a:List Dt}{E c:List Nat}{t:J}(h:kc a E t)(d:ua t<=1000000000)(b:C1 c)(e:dF 1 c t<=1000000000000):NJ t:=⟨(YK a _).1 t E 0 (ax _) h G G,by have:=acs b h 0;omega⟩
structure aea(r:N):Prop where
 p0:je 0 r 0<=1000000000000
 p1:je 1 r 0<=1000000000000
def acu{u:List Dt}{E:List Nat}{r:N}(h:mZ u E r)(v:tN r<=1000000000)(l:aea r):Yf r:=by
 intro k t w n ht;have H:=dB.1 h;have g:=H.K k (by rw[n];simp);have K:=dB.1 g;have y:=H.ao t (by rw[ht];simp);have i:=l.p0;have z:=l.p1;rw[iB w n ht,bR]at i z;have D:=JP (m:=1) g (dF 1 (dT 1 k) t);have F:=JP (m:=0) g (dF 0 (dT 0 k) t);have J:=Hv (AO 0 k) t;refine⟨af0 y ((gV.1 v).1 t (by rw[ht];simp)) (AO 1 k) G,λx A=>afV (K.K x A),λa b o=>?_,λL t0 c=>?_,G⟩;.have p:=K.K a (by rw[o];simp);have s:=K.K b (by rw[o];simp);rw[lz p,lz s];have:=(dB.1 p).o.c;have:=(dB.1 s).o.c;unfold BK at*;omega
 have B:=Hv (zb 0 k) t0;by_cases d:k.op=3;.obtain⟨k0,j⟩:=K.o.one (.inl d);(have c:k.ao=[t0]:=by obtain⟨M,e⟩:=fI (K.o.t3 (.inl d));rw[e]at c|-;simp at c;rw[c]);rw[iB d j c]at i;have:=JP (m:=0) (K.K k0 (by rw[j];simp)) (dF 0 (dT 0 k) t+dF 0 (dT 0 k0) t0);rw[ze G j]at B;omega
 have C:k.op=5\/k.op=6:=G;rw[hR,I d,I (show¬(0=0/\¬(k.op=5\/k.op=6))fromλq=>q.2 C)]at i;have:=Pt 0 (dF 0 (dT 0 k) t+((k.ao.map (dF 0 (cin 0 k))).sum+(k.aJ.map (JN 0 (cin 0 k))).sum)) (fX 0 k.K (dF 0 (dT 0 k) t));have:=CA (f:=dF 0 (cin 0 k)) c;omega
end Go.Ev
