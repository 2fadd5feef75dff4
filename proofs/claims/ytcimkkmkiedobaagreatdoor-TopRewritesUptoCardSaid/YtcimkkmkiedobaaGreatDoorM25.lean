/- TopRewrites: a part of the proof. -/
import Derived.Test.YtcimkkmkiedobaaGreatDoorM24
set_option maxRecDepth 100000
set_option maxHeartbeats 32000000
set_option linter.all false
namespace Go.Ev
section
inductive F2{c d:Type}(R:c->d->Prop):List c->List d->Prop where|nil:F2 R [] []|cons{a:c}{b:d}{l:List c}{m:List d}(h:R a b)(t:F2 R l m):F2 R (a::l) (b::m)
theorem F2.pick{d e:Type}{R:d->e->Prop}:∀{c:List d},(∀a∈c,∃b,R a b)->∃m,F2 R c m|[],_=>⟨[],.nil⟩|a::c,h=>by obtain⟨b,f⟩:=h a aS;obtain⟨m,g⟩:=F2.pick (c:=c) λx i=>h x (by simp[i]);exact⟨b::m,.cons f g⟩
theorem F2.mem{d e:Type}{R:d->e->Prop}{l:List d}{m:List e}(h:F2 R l m):∀b∈m,∃a∈l,R a b:=by induction h with|nil=>intro b c;cases c|cons h t f=>intro b c;rcases aR.1 c with rfl|c;(.exact⟨_,by simp,h⟩);obtain⟨a,ha,g⟩:=f b c;exact⟨a,by simp[ha],g⟩
theorem F2.map{c d e:Type}{R:c->d->Prop}{l:List c}{m:List d}(h:F2 R l m){f:c->e}{g:d->e}(i:∀a b,R a b->g b=f a):m.map g=l.map f:=by induction h with|nil=>rfl|cons h t j=>rw[aw,aw,j,i _ _ h]
theorem F2.sum{c d:Type}{R:c->d->Prop}{l:List c}{m:List d}(h:F2 R l m){f:c->Nat}{g:d->Nat}(e:∀a b,R a b->g b<=f a):(m.map g).sum<=(l.map f).sum:=by induction h with|nil=>exact af _|cons h t i=>have:=e _ _ h;simp only[aw,bj];omega
theorem F2.Le{c d:Type}{R:c->d->Prop}{l:List c}{m:List d}(h:F2 R l m){f:c->Nat}{g:d->Nat}(e:∀a b,R a b->g b<=f a):Go.Ev.Le (m.map g) (l.map f):=by induction h with|nil=>exact M|cons h t i=>exact⟨e _ _ h,i⟩
theorem F2.len{a b:Type}{R:a->b->Prop}{l:List a}{m:List b}(h:F2 R l m):m.length=l.length:=by induction h with|nil=>rfl|cons h t c=>simp[c]
theorem F2.emp{a b:Type}{R:a->b->Prop}{l:List a}{m:List b}(h:F2 R l m):m.isEmpty=l.isEmpty:=by cases h<;>rfl
theorem F2.one{c d:Type}{R:c->d->Prop}{a:c}{m:List d}(h:F2 R [a] m):∃b,m=[b]/\R a b:=by cases h with|cons h t=>cases t;exact⟨_,A,h⟩
theorem F2.two{c d:Type}{R:c->d->Prop}{a e:c}{m:List d}(h:F2 R [a,e] m):∃b f,m=[b,f]/\R a b/\R e f:=by cases h with|cons h t=>cases t with|cons g t=>cases t;exact⟨_,_,A,h,g⟩
def PL(c d:List Nat):Prop:=c.length=d.length/\ad6 c d
theorem PL.refl(c:List Nat):PL c c:=⟨A,ad6.refl c⟩
theorem PL.trans{a b c:List Nat}(h:PL a b)(g:PL b c):PL a c:=⟨h.1.trans g.1,λi=>aL (h.2 i) (g.2 i)⟩
theorem PL.app{a b c d:List Nat}(h:PL a c)(g:PL b d):PL (a++b) (c++d):=⟨by rw[aj,aj,h.1,g.1],λi=>by by_cases e:i<a.length;(.rw[vY e,vY (by have:=h.1;omega)];exact h.2 i);rw[vZ G,vZ (by have:=h.1;omega),h.1];exact g.2 _⟩
theorem PL.map{c d:Type}{R:c->d->Prop}{l:List c}{m:List d}(h:F2 R l m){f:c->Nat}{g:d->Nat}(e:∀a b,R a b->g b<=f a):PL (m.map g) (l.map f):=by refine⟨by rw[aF,aF,h.len],?_⟩;induction h with|nil=>exact ad6.refl _|cons h t j=>intro i;cases i with|zero=>exact e _ _ h|succ i=>exact j i
theorem PL.mx{c d:List Nat}(h:PL c d):PL (c.map (Nat.max 1)) (d.map (Nat.max 1)):=⟨by rw[aF,aF,h.1],λi=>by have a:=h.2 i;simp only[az,ck]at a|-;by_cases b:i<c.length;(.rw[aa b,aa (l:=d) (by have:=h.1;omega)]at a|-;simp only[eG,nN,Nat.max_def]at a|-;split<;>split<;>omega);rw[bO G,bO (l:=d) (by have:=h.1;omega)];simp⟩
theorem PL.zip{a b c d:List Nat}(h:PL a c)(g:PL b d)(e:c.length=d.length):PL (List.zipWith max a b) (List.zipWith max c d):=⟨by rw[lp,lp,h.1,g.1],λi=>by have k:=h.1;have m:=g.1;have f:=h.2 i;have j:=g.2 i;simp only[az,nk]at f j|-;by_cases n:i<c.length;(.rw[aa (l:=a) G,aa (l:=c) G]at f;rw[aa (l:=b) G,aa (l:=d) G]at j;rw[aa (l:=a) G,aa (l:=c) G,aa (l:=b) G,aa (l:=d) G];simp at f j|-;omega);rw[bO (l:=a) G,bO (l:=c) G];simp⟩
theorem PL.getD{c d:Type}{R:c->d->Prop}{l:List c}{m:List d}(h:F2 R l m){f:c->List Nat}{g:d->List Nat}(e:∀a b,R a b->PL (g b) (f a))(i:Nat):PL ((m.map g).getD i []) ((l.map f).getD i []):=by induction h generalizing i with|nil=>exact PL.refl _|cons h t j=>cases i with|zero=>exact e _ _ h|succ i=>exact j i
theorem F2.hd{c d:Type}{R:c->d->Prop}{l:List c}{m:List d}(h:F2 R l m){f:c->Nat}{g:d->Nat}(e:∀a b,R a b->g b<=f a):(m.map g).headD 0<=(l.map f).headD 0:=by cases h with|nil=>exact af _|cons h t=>exact e _ _ h
theorem aeb(r:N):vb r=if r.op=3 then 1+(r.K.map vb).headD 0 else 0:=by rw[Pw];cases r.K<;>rfl
structure Gm(db:List Dt)(E:List Nat)(t a:J):Prop where
 C:ajg t a
 rg:kc db E a
 zP:∀b,gC b->cN db a b=cN db t b
 lf:∀m c,dF m c a<=dF m c t
 sp:(bL a).length=(bL t).length
 qd:∀n,ua t<=n->ua a<=n
 hs:wy db a
structure AT(db:List Dt)(E:List Nat)(r a:N):Prop where
 C:ag5 r a
 rg:mZ db E a
 aP:a.aP.length=r.aP.length
 zP:∀b,gC b->er db a b=er db r b
 sk:xM a=xM r
 tf:vb a<=vb r
 t1:vb a<=1
 qd:∀n,tN r<=n->tN a<=n
 cx:∀m,PL (dT m a) (dT m r)
 je:∀m F,je m a F<=je m r F
 cap:ei db a=ei db r
 hs:wz db a
structure af1(db:List Dt)(E:List Nat)(a b:Ag):Prop where
 nm:b.name=a.name
 di:b.dt=a.dt
 t:F2 (Gm db E) a.t b.t
theorem yR.of{db:List Dt}{E:List Nat}{l m:List J}(h:F2 (Gm db E) l m):yR l m:=by induction h with|nil=>exact .nil|cons h t a=>exact .cons _ _ _ _ h.C a
theorem BZ.of{db:List Dt}{E:List Nat}{l m:List N}(h:F2 (AT db E) l m):BZ l m:=by induction h with|nil=>exact .nil|cons h t a=>exact .cons _ _ _ _ h.C a
theorem Gg.of{db:List Dt}{E:List Nat}{l m:List Ag}(h:F2 (af1 db E) l m):Gg l m:=by induction h with|nil=>exact .nil|cons h t f=>rename_i a b l m;obtain⟨g,i,q⟩:=b;obtain⟨c,d,e⟩:=h;simp only[Ag.name,Ag.dt,Ag.t]at c d e;subst c d;exact .cons _ _ _ _ (yR.of e) f
def aj7(db:List Dt)(n:Nat):Prop:=∀E r,tN r<=n->mZ db E r->wz db r->aea r->∃a,AT db E r a
theorem Sj{db:List Dt}{E:List Nat}{m F G:Nat}(a:F<=G){l k:List N}(h:F2 (AT db E) l k):fX m k F<=fX m l G:=by induction h with|nil=>simp[fX]|cons h t b=>rw[fX,fX];exact mL (aL (h.je m F) (nI _ a)) b
theorem acv{db:List Dt}{E:List Nat}{m:Nat}{l k:List N}(h:F2 (AT db E) l k):ja m k<=ja m l:=by induction h with|nil=>simp[ja]|cons h t a=>rw[ja,ja];have:=h.je m 0;omega
theorem JU{db:List Dt}{E:List Nat}{a:List W}(b:gC a){l k:List N}(h:F2 (AT db E) l k):cO db k a=cO db l a:=by cases h with|nil=>rfl|cons h t=>rw[eV,eV,h.zP a b]
theorem YL{db:List Dt}{E:List Nat}{a:List W}(b:gC a){l k:List N}(h:F2 (AT db E) l k):fc db k a=fc db l a:=by rw[hV,hV];cases h with|nil=>rfl|cons h t=>exact JU b t
theorem MJ{db:List Dt}{E:List Nat}{c:List W}(d:gC c){l k:List J}(h:F2 (Gm db E) l k):cF db k c=cF db l c:=by rw[dh,dh];exact h.map λa b e=>e.zP c d
theorem aiz{db:List Dt}{E:List Nat}{a:List W}(b:gC a){l k:List J}(h:F2 (Gm db E) l k):sA db k a=sA db l a:=by rw[mK,mK];induction h with|nil=>rfl|cons h t c=>rw[bD,bD,c,h.zP a b]
theorem YM{db:List Dt}{n:Nat}(v:∀k,k<n->aj7 db k):∀(z:Nat)(t:J)(E:List Nat),SizeOf.sizeOf t<z->ua t<=n->kc db E t->wy db t->∃C,Gm db E t C
|0,t,_,w,_,_,_=>absurd w (aB _)|z+1,t,E,w,d,j,D=>by
 have H:=ek.1 j;obtain⟨F,y⟩:=jm.1 d;obtain⟨I,u⟩:=hJ.1 D;obtain⟨ks,e⟩:=F2.pick (R:=Gm db E) (c:=t.K) λk hk=>YM v z k E (by have:=J.bK hk;omega) (F k hk) (H.K k hk) (I k hk);obtain⟨q,o⟩:=F2.pick (R:=AT db E) (c:=t.sub) λr j=>v (n-1) (by have:=y r j;omega) E r (by have:=y r j;omega) (H.sub r j) (u r j).2 ⟨(u r j).1.p0,(u r j).1.p1⟩;have O:ks.isEmpty=t.K.isEmpty:=e.emp;refine⟨.mk t.op t.v t.depth t.at_ t.name ks q t.ty,.mk t ks q (yR.of e) (BZ.of o),ek.2 ⟨(by show ks.length<=BK;rw[e.len];exact H.kl),(by show q.length=_;rw[o.len];exact H.Z),λh=>⟨(H.c1 h).1,?_⟩,λh=>⟨?_,(H.c2 h).2⟩,λk hk=>?_,λr j=>?_⟩,λP B=>?_,λi c=>?_,?_,λk hk=>?_,?_⟩;.have:=(H.c1 h).2;rw[this]at e;cases e;rfl
 .have:=(H.c2 h).1;rw[this]at e;cases e;rfl
 .obtain⟨a,ha,d⟩:=e.mem k hk;exact d.rg
 .obtain⟨a,ha,d⟩:=o.mem r j;exact d.rg
 .exact qL A A (λ_=>A) A (MJ B e) (JU B o)
 .rw[fC,fC i c t];show(if t.op=2/\t.depth=0 then c.getD t.at_.toNat 1 else im i t.op (ks.map (dF i c))+i%2*ja i q)<=_;have s:=JO (m:=i) (op:=t.op) (e.Le (f:=dF i c) (g:=dF i c) λa b d=>d.lf i c);have Q:=eu (i%2) (acv (m:=i) o);split;(.exact af _);omega
 .by_cases d:t.op=17/\t.K.length=2;(.obtain⟨a,b,hk⟩:=iP d.2;rw[fH d.1 hk];rw[hk]at e;obtain⟨K,L,rfl,ha,M⟩:=e.two;rw[fH (t:=.mk t.op t.v t.depth t.at_ t.name [K,L] q t.ty) d.1 A,aj,aj,ha.sp,M.sp]);rw[gO d,gO (t:=.mk t.op t.v t.depth t.at_ t.name ks q t.ty) (by show¬(t.op=17/\ks.length=2);rw[e.len];exact d)];rfl
 .obtain⟨k1,N⟩:=jm.1 hk;refine jm.2 ⟨λx p=>?_,λx p=>?_⟩;(.obtain⟨a,ha,d⟩:=e.mem x p;exact d.qd _ (k1 a ha));obtain⟨a,ha,d⟩:=o.mem x p;have s:=N a ha;have:=d.qd (k-1) G;omega
 refine hJ.2 ⟨λx p=>?_,λx p=>?_⟩;.obtain⟨a,ha,d⟩:=e.mem x p;exact d.hs
 obtain⟨a,ha,d⟩:=o.mem x p;have s:=(u a ha).1;exact⟨⟨aL (d.je 0 0) s.p0,aL (d.je 1 0) s.p1,by rw[d.cap];exact s.cap⟩,d.hs⟩
structure Mid(db:List Dt)(E:List Nat)(r a:N):Prop where
 rg:mZ db E a
 aP:a.aP.length=r.aP.length
 zP:∀b,gC b->er db a b=er db r b
 sk:xM a=xM r
 tf:vb a<=vb r
 qd:∀n,tN r<=n->tN a<=n
 cx:∀m,PL (dT m a) (dT m r)
 je:∀m F,je m a F<=je m r F
 cap:ei db a=ei db r
 hs:wz db a
section
variable{db:List Dt}{E:List Nat}{r:N}{ks:List N}{ts:List J}{um:List Ag}(H:aco db E r)(hk:F2 (AT db E) r.K ks)(ht:F2 (Gm db (mY r.op r.K::E)) r.ao ts)(ha:F2 (af1 db (mY r.op r.K::E)) r.aJ um)
include H hk ht ha
theorem PA(i:Nat):wd ks i=wd r.K i:=by have h:=hk.map (f:=λr:N=>r.aP.length) (g:=λr:N=>r.aP.length) λa b q=>q.aP;unfold wd;rw[h]
theorem af2:mY r.op ks=mY r.op r.K:=by unfold mY;rw[PA H hk ht ha,PA H hk ht ha]
theorem af3:mZ db E (.mk r.op r.de r.aP ks ts um r.cq r.bH r.skip r.all r.rows):=by
 have f:=PA H hk ht ha;have e:=af2 H hk ht ha;refine dB.2 ⟨⟨H.o.o,by show(ks.length:Int)=_;rw[hk.len];exact H.o.k,H.o.c,by show ts.length<=BK;rw[ht.len];exact H.o.t,λg i=>?_,λh=>?_,λh=>by show ts.length=1;rw[ht.len];exact H.o.t3 h,λh=>by show ts.length<=1;rw[ht.len];exact H.o.t5 h,λh=>?_,λh=>?_⟩,H.tb,H.rw,λk d=>?_,λt d=>?_,λa d t j=>?_⟩;.show r.aP.length=if r.op=4 then ts.length else if r.op=7 then ts.length+um.length else mY r.op ks;rw[e,ht.len,ha.len];exact H.o.w g i
 .show wd ks 1=wd ks 0;rw[f,f];exact H.o.s h
 .show ts=[];have:=H.o.tn h;rw[this]at ht;cases ht;rfl
 .show um=[];have:=H.o.an h;rw[this]at ha;cases ha;rfl
 .obtain⟨a,_,q⟩:=hk.mem k d;exact q.rg
 .show kc db (mY r.op ks::E) t;rw[e];obtain⟨a,_,q⟩:=ht.mem t d;exact q.rg
 show kc db (mY r.op ks::E) t;rw[e];obtain⟨b,_,q⟩:=ha.mem a d;obtain⟨c,_,q⟩:=q.t.mem t j;exact q.rg
theorem acw(d:List W)(e:gC d):er db (.mk r.op r.de r.aP ks ts um r.cq r.bH r.skip r.all r.rows) d=er db r d:=by
 have j:∀k∈r.K,∀x∈er db k d,∀v∈x,kz v:=λk hk x c=>(xv (H.K k hk) e x c).2;have n:∀x∈cO db r.K d,∀v∈x,kz v:=λx c=>by obtain⟨k,hk,c⟩:=sd c;exact j k (bb hk) x c
 have o:∀x∈fc db r.K d,∀v∈x,kz v:=λx c=>by obtain⟨k,hk,c⟩:=AK c;exact j k (bb hk) x c
 refine xt (λx=>∀v∈x,kz v) A A A A A A A (JU e hk) (YL e hk) ?_ (λ_=>n) (λ_ a ha b p v i=>?_) (λx c=>aiz (e.cons c) ht) (λx c=>MJ (e.cons c) ht) ?_ (λrows s=>?_);.have h:=hk.map (f:=λr:N=>r.aP.length) (g:=λr:N=>r.aP.length) λa b q=>q.aP;show(ks[1]?).map _=_;rw[<-ck,<-ck,h]
 .rcases aZ.1 i with i|i;(.exact n a ha v i);exact o b p v i
 .show ts.isEmpty=r.ao.isEmpty;exact ht.emp
 show iX db um rows d=_;rw[jD,jD];refine ha.map λa b q=>?_;rw[qK,qK,q.nm,q.di];obtain⟨u,w,l⟩:=a;obtain⟨y,z,m⟩:=b;have q:=q.t;simp only[Ag.t]at q;cases q with|nil=>rfl|cons h t=>show wv _ _ true (rows.map _)=wv _ _ true (rows.map _);rw[bF λx c=>h.zP (x::d) (e.cons (s x c))]
theorem Sk(m:Nat):PL (cin m (.mk r.op r.de r.aP ks ts um r.cq r.bH r.skip r.all r.rows)) (cin m r):=by have h:=λi=>PL.getD hk (f:=dT m) (g:=dT m) (λa b q=>q.cx m) i;unfold cin;show PL (if r.op=5\/r.op=6 then _ else _) _;split;(.exact(h 0).app (h 1));exact h 0
theorem af4(c:Nat):PL (dT c (.mk r.op r.de r.aP ks ts um r.cq r.bH r.skip r.all r.rows)) (dT c r):=by
 have n:=Sk H hk ht ha c;have h:=λi=>PL.getD hk (f:=dT c) (g:=dT c) (λa b q=>q.cx c) i;have p:PL ((ts.map (dF (md c) (cin c (.mk r.op r.de r.aP ks ts um r.cq r.bH r.skip r.all r.rows)))).map (max 1)) ((r.ao.map (dF (md c) (cin c r))).map (max 1)):=PL.mx (PL.map ht λa b q=>aL (q.lf (md c) _) (BG n.2 a));rw[lM,lM c r,show(N.mk r.op r.de r.aP ks ts um r.cq r.bH r.skip r.all r.rows).op=r.op from A];by_cases e:r.op=4;.rw[U e,U e];exact p
 rw[I e,I e];by_cases j:r.op=7;.rw[U j,U j];refine p.app ?_;show PL (List.replicate um.length 1) _;rw[ha.len];exact PL.refl _
 rw[I j,I j];by_cases k:r.op=5\/r.op=6;.rw[U k,U k];exact n
 rw[I k,I k];by_cases l:r.op=3\/r.op=8\/r.op=12;.rw[U l,U l];exact n
 rw[I l,I l];by_cases d:r.op=9;.rw[U d,U d];refine(h 0).zip (h 1) ?_;obtain⟨a,b,o⟩:=H.o.two (.inr (.inr (.inl d)));have s:=H.o.s (.inl d);rw[o]at s|-;have t:=jE (m:=c) (H.K a (by rw[o];simp));have u:=jE (m:=c) (H.K b (by rw[o];simp));show(dT c a).length=(dT c b).length;rw[t,u];exact s.symm
 rw[I d,I d];exact PL.refl _
theorem acx(m F:Nat):je m (.mk r.op r.de r.aP ks ts um r.cq r.bH r.skip r.all r.rows) F<=je m r F:=by
 have c:=Sk H hk ht ha m;have d:(ts.map (dF m (cin m (.mk r.op r.de r.aP ks ts um r.cq r.bH r.skip r.all r.rows)))).sum<=(r.ao.map (dF m (cin m r))).sum:=ht.sum λa b q=>aL (q.lf m _) (BG c.2 a);have e:(um.map (JN m (cin m (.mk r.op r.de r.aP ks ts um r.cq r.bH r.skip r.all r.rows)))).sum<=(r.aJ.map (JN m (cin m r))).sum:=ha.sum λa b q=>by rw[va,va];exact q.t.sum λx y q=>aL (q.lf m _) (BG c.2 x)
 rw[hR,hR m r];show(if r.op=3 then fX m ks (F+(ts.map _).sum)else comb m (F+(if m=0/\¬(r.op=5\/r.op=6)then 0 else(ts.map _).sum+(um.map _).sum)) (fX m ks F))<=_;split;.exact Sj G hk
 exact mL (by split<;>omega) (Sj (af _) hk)
theorem acy(d:wz db r):Mid db E r (.mk r.op r.de r.aP ks ts um r.cq r.bH r.skip r.all r.rows):=by
 refine⟨af3 H hk ht ha,A,acw H hk ht ha,?_,?_,λn j=>?_,af4 H hk ht ha,acx H hk ht ha,?_,?_⟩;.rw[vc,vc r];show(ks.map xM).sum+_=_;rw[hk.map (f:=xM) (g:=xM) λa b q=>q.sk];rfl
 .rw[aeb,aeb r];show(if r.op=3 then 1+(ks.map vb).headD 0 else 0)<=_;have:=hk.hd (f:=vb) (g:=vb) λa b q=>q.tf;split<;>omega
 .obtain⟨l,m,o⟩:=gV.1 j;refine gV.2 ⟨λt d=>?_,λa d t h=>?_,λk d=>?_⟩;(.obtain⟨a,e,q⟩:=ht.mem t d;exact q.qd n (l a e));(.obtain⟨b,e,q⟩:=ha.mem a d;obtain⟨c,i,q⟩:=q.t.mem t h;exact q.qd n (m b e c i));obtain⟨a,e,q⟩:=hk.mem k d;exact q.qd n (o a e)
 .exact AR A A A (hk.map λa b q=>q.cap)
 refine gk.2 ⟨λt d=>?_,λa d t h=>?_,λk d=>?_⟩;.obtain⟨a,e,q⟩:=ht.mem t d;exact q.hs
 .obtain⟨b,e,q⟩:=ha.mem a d;obtain⟨c,i,q⟩:=q.t.mem t h;exact q.hs
 obtain⟨a,e,q⟩:=hk.mem k d;exact q.hs
end
end
def aj8{P:Nat->Nat->Nat->Prop}(h:∀a b c,(∀f d e,(f<a\/(f=a/\(d<b\/(d=b/\e<c))))->P f d e)->P a b c):∀a b c,P a b c:=by intro a;induction a using Nat.strongRecOn with|ind a i=>intro b;induction b using Nat.strongRecOn with|ind b j=>intro c;induction c using Nat.strongRecOn with|ind c k=>refine h a b c ?_;rintro f d e(g|⟨rfl,g|⟨rfl,g⟩⟩);(.exact i f g d e);(.exact j d g e);exact k e g
def MK{m F:Nat}{l:List N}{k:N}(h:k∈l):je m k F<=fX m l F:=by induction l with|nil=>cases h|cons a l b=>rw[fX];rcases aR.1 h with rfl|h;(.exact Pt _ _ _);exact aL (b h) (Yz _ _ _)
def Sl{m:Nat}{r k:N}(h:k∈r.K):je m k 0<=je m r 0:=by rw[hR m r];split;(.exact aL (nI k (au _)) (MK h));exact aL (MK h) (Yz _ _ _)
def aea.alp{r k:N}(h:aea r)(a:k∈r.K):aea k:=⟨aL (Sl a) h.p0,aL (Sl a) h.p1⟩
def YN{a o:N}(h:pL a=some o):∃k t,a.op=3/\a.K=[k]/\a.ao=[t]/\iZ t k=some o:=by unfold pL at h;split at h;(.rename_i b;split at h;(.rename_i k t c ht;exact⟨k,t,b,c,ht,h⟩);cases h);cases h
def aiA{g:List Dt}{n:Nat}(hn:n<=1000000000)(a4:∀k,k<n->aj7 g k):∀a b c:Nat,∀(E:List Nat)(r:N),xM r=a->vb r=b->ad' r=c->tN r<=n->mZ g E r->wz g r->aea r->∃P,AT g E r P:=by
 refine aj8 ?_;intro a b c J E r a' c0 c1 z hr a5 B;have H:=dB.1 hr;obtain⟨q1,q2,q3⟩:=gV.1 z;obtain⟨s1,s2,s3⟩:=gk.1 a5;obtain⟨C,Q⟩:=F2.pick (R:=AT g E) (c:=r.K) λk s=>by refine J (xM k) (vb k) (ad' k) ?_ E k A A A (q3 k s) (H.K k s) (s3 k s) (B.alp s);by_cases d:r.op=3;(.obtain⟨k0,D⟩:=H.o.one (.inl d);have e1:=vW d D;have e2:=sf d D;rw[D]at s;simp at s;subst s;right;exact⟨by omega,.inl G⟩);left;rw[vc,I d]at a';have:=CA (f:=xM) s;omega
 obtain⟨L,T⟩:=F2.pick (R:=Gm g (mY r.op r.K::E)) (c:=r.ao) λt ht=>YM a4 _ t _ (ax _) (q1 t ht) (H.ao t ht) (s1 t ht);obtain⟨V,a0⟩:=F2.pick (R:=af1 g (mY r.op r.K::E)) (c:=r.aJ) λa ha=>by obtain⟨q,z⟩:=F2.pick (R:=Gm g (mY r.op r.K::E)) (c:=a.t) λt ht=>YM a4 _ t _ (ax _) (q2 a ha t ht) (H.aJ a ha t ht) (s2 a ha t ht);exact⟨.mk a.name a.dt q,A,A,z⟩
 have M:=acy H Q T a0 a5;have c2:∀m F,je m (N.mk r.op r.de r.aP C L V r.cq r.bH r.skip r.all r.rows) F<=je m r F:=M.je;obtain⟨j,x⟩:∃j,j=N.mk r.op r.de r.aP C L V r.cq r.bH r.skip r.all r.rows:=⟨_,A⟩;rw[<-x]at M;have a6:Yf j:=acu M.rg (aL (M.qd n z) hn) ⟨aL (M.je 0 0) B.p0,aL (M.je 1 0) B.p1⟩;have y:=dB.1 M.rg;cases w:pL j with|none=>refine⟨j,.stop r C L V j (BZ.of Q) (yR.of T) (Gg.of a0) x a6 w,M.rg,M.aP,M.zP,M.sk,M.tf,?_,M.qd,M.cx,M.je,M.cap,M.hs⟩;by_cases d:j.op=3;(.obtain⟨p,e⟩:=y.o.one (.inl d);obtain⟨v,u⟩:=fI (y.o.t3 (.inl d));rw[sf d e];by_cases X:p.op=3;(.exfalso;have K:=dB.1 (y.K p (by rw[e];simp));obtain⟨k0,D⟩:=K.o.one (.inl X);obtain⟨t0,b0⟩:=fI (K.o.t3 (.inl X));unfold pL iZ at w;rw[U d,e,u]at w;simp only[U X,D,b0]at w;cases w);rw[xx X];exact af _);rw[xx d];exact au _|some o=>obtain⟨p,v,d,e,u,a1⟩:=YN w;have b1:=y.K p (by rw[e];simp);have K:=dB.1 b1;(have a7:kc g (p.aP.length::E) v:=by have:=y.ao v (by rw[u];simp);rwa[e,qM G]at this);have S:=acp K a7 a1;have W:=YJ K a7 a1;(have a8:r.op=3:=by rw[x]at d;exact d);obtain⟨k,s⟩:=H.o.one (.inl a8);obtain⟨t,ht⟩:=fI (H.o.t3 (.inl a8));(have b2:C=[p]:=by rw[x]at e;exact e);(have b3:L=[v]:=by rw[x]at u;exact u);(have b4:AT g E k p:=by have:=Q;rw[s,b2]at this;obtain⟨b,O,Y⟩:=this.one;simp at O;subst O;exact Y);(have b5:Gm g (mY r.op r.K::E) t v:=by have:=T;rw[ht,b3]at this;obtain⟨b,O,Y⟩:=this.one;simp at O;subst O;exact Y);(have c3:ad' r=(bL v).length:=by unfold ad';rw[ht,b5.sp]);have c4:vb j=1+vb p:=sf d e;(have a2:∀m F,je m o F<=je m j F:=λm F=>by rw[iB d e u];exact W.je m F);have b6:=Vg b4.t1 a1;(have b7:j.aP.length=p.aP.length:=by rw[y.o.w G G,I G,I G,e,qM G]);have a9:∀i,tN j<=i->tN o<=i:=λi Z=>W.qd i ((gV.1 Z).1 v (by rw[u];simp)) ((gV.1 Z).2.2 p (by rw[e];simp));have b8:wz g o:=W.hs ((gk.1 M.hs).1 v (by rw[u];simp)) ((gk.1 M.hs).2.2 p (by rw[e];simp));(have b9:xM o=xM r:=by rw[W.sk,<-vW d e,M.sk]);have c5:=M.tf;obtain⟨P,R⟩:=J (xM o) (vb o) (ad' o) (by right;refine⟨by omega,?_⟩;rcases b6 with h|⟨h,h'⟩;(.left;omega);by_cases b':vb o<b;(.exact .inl b');exact .inr ⟨by omega,G⟩) E o A A A (a9 n (M.qd n z)) S.rg b8 ⟨aL (a2 0 0) (aL (M.je 0 0) B.p0),aL (a2 1 0) (aL (M.je 1 0) B.p1)⟩;have Y:=R.tf;refine⟨P,.step r C L V j o P (BZ.of Q) (yR.of T) (Gg.of a0) x a6 w R.C,R.rg,?_,λa3 he=>?_,by rw[R.sk,b9],G,R.t1,λi Z=>R.qd i (a9 i (M.qd i Z)),λm=>?_,λm F=>aL (R.je m F) (aL (a2 m F) (M.je m F)),?_,R.hs⟩;(.rw[R.aP,S.aP,<-b7,M.aP]);(.rw[R.zP a3 he,S.zP a3 he,<-run_filter3 d e u,M.zP a3 he]);(.refine(R.cx m).trans ?_;rw[W.cx m,<-nJ (.inl d) e];exact M.cx m);rw[R.cap,W.cap,<-tj d e,M.cap]
def aiB(a:List Dt):∀n:Nat,n<=1000000000->aj7 a n:=by intro n;induction n using Nat.strongRecOn with|ind n b=>intro c E r d e f g;exact aiA c (λk h=>b k h G) _ _ _ E r A A A d e f g
def Vh{a:List Dt}{E:List Nat}{r:N}(b:mZ a E r)(c:tN r<=1000000000)(d:wz a r)(e:aea r):∃f,AT a E r f:=aiB a 1000000000 (af _) E r c b d e
def Sn{b:List Dt}{E:List Nat}{r:N}(c:mZ b E r)(d:tN r<=1000000000)(e:wz b r)(f:aea r):∃a,Ct 10 [dd r] (dd a)/\AT b E r a:=by obtain⟨a,R⟩:=Vh c d e f;exact⟨a,Yg R.C,R⟩
def HA{c:W->Bool}{left:Bool}{d:W}{right:List W}:∀{e:List W},(gr c left d right e).length<=e.length*max 1 right.length|[]=>by simp[gr]|a::e=>by have f:=HA (c:=c) (left:=left) (d:=d) (right:=right) (e:=e);rw[gr,aj,aE,Nat.succ_mul];have g:(right.filter λb=>c (a++b)).length<=right.length:=cv _ _;(have h:(if((right.filter λb=>c (a++b)).map (a++·)).isEmpty&&left then[a++d]else(right.filter λb=>c (a++b)).map (a++·)).length<=max 1 right.length:=by split;(.simp;omega);simp;omega);show(if((right.filter λb=>c (a++b)).map (a++·)).isEmpty&&left then[a++d]else(right.filter λb=>c (a++b)).map (a++·)).length+_<=_;omega
def ER:∀{b a:List W},(ma a b).length<=a.length+b.length|[],a=>by simp[ma]|r::b,a=>by rw[ma];have:=ER (b:=b) (a:=if a.any (mE r)then a else a++[r]);(have h:(if a.any (mE r)then a else a++[r]).length<=a.length+1:=by split<;>simp);simp only[aE];omega
def AU(a:List W):(kp a).length<=a.length:=by have:=ER (b:=a) (a:=[]);simpa[kp]using this
def BI{b:Bool}:∀{a left:List W},(hy b a left).length<=a.length|[],left=>by simp[hy]|x::a,left=>by rw[hy];have:=BI (b:=b) (a:=a) (left:=rf x left);split<;>simp only[aE]<;>omega
def YO(op:Int)(all:Bool)(a b:List W):(qk op all a b).length<=if op=9 then a.length+b.length else a.length:=by
 unfold qk;by_cases h:op=9;.simp only[U h];split;(.simp);have:=AU (a++b);simpa using this
 simp only[I h];refine aL BI ?_;split;.exact af _
 exact AU a
def ML{b c:W}:∀{a:List (W×List W)},(nv b c a).length<=a.length+1|[]=>by simp[nv]|(k,a)::g=>by have:=ML (b:=b) (c:=c) (a:=g);rw[nv];split<;>simp only[aE]<;>omega
def ET{b:W->W}:∀{rows:List W}{a:List (W×List W)},(dM b a rows).length<=a.length+rows.length|[],a=>by simp[dM]|c::rows,a=>by rw[dM];have:=ET (b:=b) (rows:=rows) (a:=nv (b c) c a);have:=ML (b:=b c) (c:=c) (a:=a);simp only[aE];omega
def EU{a:W->W}:∀{rows:List W}(l:List W),(∀x∈rows,a x=[])->(dM a [([],l)] rows).length=1|[],l,_=>by simp[dM]|x::rows,l,h=>by rw[dM,h x aS];(have:nv [] x [([],l)]=[([],l++[x])]:=by rw[nv,U (by rfl)]);rw[this];exact EU _ λy b=>h y (by simp[b])
def YP{a:List Dt}{l:List N}{i:Nat}{k:N}(h:l[i]?=some k):(l.map (ei a)).getD i 1=ei a k:=by simp[az,h]
def Sp(a:List Dt):∀(n:Nat)(r:N),SizeOf.sizeOf r<n->1<=ei a r
|0,r,h=>absurd h (aB _)|n+1,r,h=>by
 have b:∀i,1<=(r.K.map (ei a)).getD i 1:=λi=>by simp only[az,ck];cases c:r.K[i]?with|none=>exact af _|some k=>exact Sp a n k (by have:=N.bK (bb c);omega)
 have d:=b 0;have e:=b 1;rw[kQ];split;.omega
 split;.omega
 split;.exact qP d e
 split<;>omega
def CD(a:List Dt)(r:N):1<=ei a r:=Sp a _ r (ax _)
def Sq{c:List Dt}{E:List Nat}{r k:N}(H:aco c E r)(d:k∈r.K):ei c k<=ei c r:=by
 have n:=H.o.o;have f:=λa:N=>CD c a;by_cases o:r.op=1\/r.op=2;.have:=H.o.k;rw[nF,U G]at this;have:r.K=[]:=ay G;rw[this]at d;cases d
 by_cases j:r.op=5\/r.op=6\/r.op=9\/r.op=10\/r.op=11;.obtain⟨a,b,g⟩:=H.o.two j;rw[g]at d;(have e:ei c r=if r.op=5\/r.op=6 then ei c a*ei c b else if r.op=9\/r.op=10\/r.op=11 then ei c a+ei c b else ei c a:=by rw[kQ,I G,I G,g];rfl);(have d:k=a\/k=b:=by simpa using d);have l:=f a;have m:=f b;have p:ei c a<=ei c a*ei c b:=jd _ m;have q:ei c b<=ei c a*ei c b:=gZ _ l;rw[e];by_cases h:r.op=5\/r.op=6;(.rw[U h];rcases d with rfl|rfl<;>omega);rw[I h,U G];rcases d with rfl|rfl<;>omega
 obtain⟨a,i⟩:=H.o.one G;rw[i]at d;simp at d;subst d;rw[kQ c r,I G,I G,I G,I G,i];exact af _
def CE{a:List Dt}{l:List N}{b:List W}{c:Nat}(i:Nat)(h:∀k,l[i]?=some k->(er a k b).length<=c):(cO a (l.drop i) b).length<=c:=by cases d:l.drop i with|nil=>rw[UO];exact au _|cons k m=>rw[eV];refine h k ?_;have:=aY (λl=>l[0]?) d;simpa using this
def run_cap(a:List Dt):∀(n:Nat)(r:N)(E:List Nat)(c:List W),SizeOf.sizeOf r<n->mZ a E r->(er a r c).length<=ei a r
|0,r,E,c,j,_=>absurd j (aB _)|n+1,r,E,c,j,h=>by
 have H:=dB.1 h;have m:∀k∈r.K,(er a k c).length<=ei a k:=λk d=>run_cap a n k E c (by have:=N.bK d;omega) (H.K k d);have k0:(cO a r.K c).length<=(r.K.map (ei a)).getD 0 1:=by (have:=CE (a:=a) (l:=r.K) (b:=c) (c:=(r.K.map (ei a)).getD 0 1) 0 λk d=>by rw[YP d];exact m k (bb d));simpa using this
 have k1:(fc a r.K c).length<=(r.K.map (ei a)).getD 1 1:=by rw[hV];exact CE 1 λk d=>by rw[YP d];exact m k (bb d)
 have c1:1<=(r.K.map (ei a)).getD 1 1:=by simp only[az,ck];cases t:r.K[1]?with|none=>exact af _|some k=>exact CD a k
 have u:1<=(r.K.map (ei a)).getD 0 1:=by simp only[az,ck];cases t:r.K[0]?with|none=>exact af _|some k=>exact CD a k
 rw[ig,kQ];by_cases e:r.op=1;.rw[U e,U e];omega
 rw[I e,I e];by_cases f:r.op=2;.rw[U f,U f];omega
 rw[I f,I f];by_cases o:r.op=3;.rw[U o,I G,I G];exact aL (cv _ _) k0
 rw[I o];by_cases p:r.op=4;.rw[U p,I G,I G,aF];exact k0
 rw[I p];by_cases g:r.op=5\/r.op=6;.rw[U g,U g];unfold oL;cases y:r.K[1]?with|none=>exact au _|some b=>simp only[jA,uL];exact aL HA (ea k0 G)
 rw[I g,I g];by_cases q:r.op=7;.rw[U q,I (show¬(r.op=9\/r.op=10\/r.op=11)by omega),aF];split;(.rename_i v;rw[EU [] λx _=>by rw[gg.1 v,dh];rfl];exact u);have:=ET (b:=λx=>cF a r.ao (x::c)) (rows:=cO a r.K c) (a:=[]);simp only[bC,bR]at this;omega
 rw[I q];by_cases s:r.op=8;.rw[U s,I G];exact aL (AU _) k0
 rw[I s];by_cases i:r.op=9\/r.op=10\/r.op=11;.rw[U i,U i];refine aL (YO _ _ _ _) ?_;split<;>omega
 rw[I i,I i];by_cases w:r.op=12;.rw[U w];unfold kq;rw[(ln _ _).length_eq];exact k0
 have:=H.o.o;omega
def run_len{a:List Dt}{r:N}{E:List Nat}(h:mZ a E r)(b:List W):(er a r b).length<=ei a r:=run_cap a _ r E b (ax _) h
def zk{b:List Dt}{c:List W}:∀{a:List J},tZ b a c↔∀t∈a,Uo b t c|[]=>by simp[tZ]|t::a=>by simp[tZ,zk (a:=a)]
def EV{b:List Dt}{c:List W}:∀{a:List N},DP b a c↔∀t∈a,Ku b t c|[]=>by simp[DP]|t::a=>by simp[DP,EV (a:=a)]
def MM{c:List Dt}{d:List W}:∀{b:List Ag},Jp c b d↔∀a∈b,∀t∈a.t,Uo c t d|[]=>by simp[Jp]|.mk e f t::b=>by simp[Jp,MM (b:=b),zk,Ag.t]
def acz{a:List Dt}{t:J}{b:List W}:Uo a t b↔t.K.length<=1000000000/\tZ a t.K b/\DP a t.sub b/\∀v∈cF a t.K b,v.s.length<=1000000:=by cases t;rw[Uo];rfl
def acA{d:List Dt}{r:N}{c:List W}:Ku d r c↔DP d r.K c/\r.ao.length<=1000000000/\(∀k∈r.K,k.aP.length<=1000000000)/\((r.op=3\/r.op=4\/r.op=7)->∀x∈cO d r.K c,tZ d r.ao (x::c))/\(r.op=7->∀x∈cO d r.K c,Jp d r.aJ (x::c))/\((r.op=5\/r.op=6)->∀a∈cO d r.K c,(∀b∈fc d r.K c,(a.length+b.length)<=1000000000000/\tZ d r.ao ((a++b)::c))/\∀k∈r.K,(a.length+k.aP.length)<=1000000000000)/\(r.op=9->((cO d r.K c).length+(fc d r.K c).length)<=1000000000000)/\((r.op=7\/r.op=12)->(cO d r.K c).length<=1000000000)/\c.length<=1000000000/\(r.op=7->r.aJ.length<=1000000000)/\((r.op=5\/r.op=6)->(oL d r c).length<=1000000000):=by cases r;rw[Ku];rfl
def aec(e:List Dt):∀n:Nat,(∀(t:J)(E:List Nat)(d:List W),SizeOf.sizeOf t<n->kc e E t->wy e t->gC d->d.length+ua t<=1000000001->Uo e t d)/\(∀(r:N)(E:List Nat)(d:List W),SizeOf.sizeOf r<n->mZ e E r->wz e r->ei e r<=1000000000->gC d->d.length+tN r<=1000000000->Ku e r d)
|0=>⟨λt _ _ h=>absurd h (aB _),λt _ _ h=>absurd h (aB _)⟩|n+1=>by
 obtain⟨u,F⟩:=aec e n;refine⟨λt E d R h w g y=>?_,λr E d R h w K g y=>?_⟩;.have H:=ek.1 h;obtain⟨z,A⟩:=jm.1 (af (ua t));obtain⟨B,p⟩:=hJ.1 w;have c:=H.kl;refine acz.2 ⟨by unfold BK at c;omega,zk.2 λk c=>u k E d (by have:=J.bK c;omega) (H.K k c) (B k c) g (by have:=z k c;omega),EV.2 λk c=>F k E d (by have:=J.sub_lt c;omega) (H.sub k c) (p k c).2 (p k c).1.cap g (by have:=A k c;omega),λv i=>?_⟩;rw[dh]at i;obtain⟨q,y,rfl⟩:=aV.1 i;have:=(EC (H.K q y) g).s;omega
 have H:=dB.1 h;obtain⟨B,p,S⟩:=gk.1 w;obtain⟨z,A,T⟩:=gV.1 (af (tN r));have L:∀k∈r.K,∀x∈er e k d,x.length<=BK/\∀v∈x,kz v:=λk c x f=>by have m:=xv (H.K k c) g x f;have V:=(dB.1 (H.K k c)).o.c;exact⟨by rw[m.1];exact V,m.2⟩
 have o:∀x∈cO e r.K d,x.length<=BK/\∀v∈x,kz v:=λx f=>by obtain⟨k,c,f⟩:=sd f;exact L k (bb c) x f
 have m:∀x∈fc e r.K d,x.length<=BK/\∀v∈x,kz v:=λx f=>by obtain⟨k,c,f⟩:=AK f;exact L k (bb c) x f
 have M:∀k∈r.K,(er e k d).length<=1000000000:=λk c=>aL (run_len (H.K k c) d) (aL (Sq H c) K);have X:(cO e r.K d).length<=1000000000:=by have:=CE (a:=e) (l:=r.K) (b:=d) (c:=1000000000) 0 λk c=>M k (bb c);simpa using this
 have Z:(fc e r.K d).length<=1000000000:=by rw[hV];exact CE 1 λk c=>M k (bb c)
 have O:∀x:W,(∀v∈x,kz v)->tZ e r.ao (x::d):=λx f=>zk.2 λt ht=>u t _ _ (by have:=N.eD ht;omega) (H.ao t ht) (B t ht) (g.cons f) (by have:=z t ht;simp only[aE];omega);have P:∀k∈r.K,k.aP.length<=BK:=λk c=>(dB.1 (H.K k c)).o.c;have ht:=H.o.t;refine acA.2 ⟨EV.2 λk c=>F k E d (by have:=N.bK c;omega) (H.K k c) (S k c) (aL (Sq H c) K) g (by have:=T k c;omega),by unfold BK at ht;omega,λk c=>by have:=P k c;unfold BK at this;omega,λ_ x f=>O x (o x f).2,λ_ x f=>MM.2 λa j t ht=>u t _ _ (by have:=N.hQ j;have:=Ag.qi ht;omega) (H.aJ a j t ht) (p a j t ht) (g.cons (o x f).2) (by have:=A a j t ht;simp only[aE];omega),λ_ a j=>⟨λb Q=>⟨?_,O _ λv i=>?_⟩,λk c=>?_⟩,λ_=>G,λ_=>X,G,λY=>(by have q:=H.o.w G G;rw[I G,U Y]at q;have:=H.o.c;unfold BK at this;omega),λs=>?_⟩;.have C:=(o a j).1;have D:=(m b Q).1;unfold BK at C D;omega
 .rcases aZ.1 i with i|i;(.exact(o a j).2 v i);exact(m b Q).2 v i
 .have C:=(o a j).1;have D:=P k c;unfold BK at C D;omega
 have:=run_len h d;rw[ig]at this;rcases s with s|s<;>simp[s]at this<;>omega
def JV{a:List Dt}{r:N}(h:mZ a [] r)(b:wz a r)(c:ei a r<=1000000000)(d:tN r<=1000000000):Ku a r []:=(aec a _).2 r [] [] (ax _) h b c (λx e=>by cases e) (by simpa using d)
def zl(k:Int):Bool:=decide (k=0\/k=1\/k=2\/k=3)
def sn(a b:Int):Bool:=zl a&&(zl b&&(decide (a=b)||(decide (a=0)||decide (b=0))))
def ni(a b:Int):Int×Bool:=if sn a b then(if a=0 then(b,true)else(a,true))else(0,false)
def zm(l:List Int)(k:Int):Bool:=l.all λa=>sn a k
def hK:Int->List Int->Int×Bool|k,[]=>(k,true)|k,a::l=>if(ni k a).2 then hK (ni k a).1 l else(0,false)
def jb(k:Int)(a:Bool):Int×Int:=if a then(k,0)else(0,9)
def wT(op:Int):Int×Int:=if op=3\/op=4\/op=19 then(1,1)else if op=21\/op=23 then(2,1152921504606846976)else if op=22 then(3,3)else if(5<=op/\op<=18)\/op=20 then(2,2)else(0,0)
def nX:List Int->Option (List Int)|a::b::l=>if sn a 1 then(nX l).map λr=>b::r else none|[a]=>some [a]|[]=>some []
def zn(l:List Int):Int×Int:=match nX l with|none=>(0,9)|some r=>jb (hK 0 r).1 (hK 0 r).2
def aed(op:Int)(l:List Int):Int×Int:=if(wT op).2=0 then(0,1)else if Int.ofNat l.length<(wT op).1\/(wT op).2<Int.ofNat l.length then(0,11)else if op=3\/op=5\/op=6\/op=7\/op=8\/op=9 then jb 2 (zm l 2)else if op=4\/op=17\/op=18 then jb 1 (zm l 1)else if op=10 then jb 3 (zm l 3)else if op=20 then jb 1 (zm l 3)else if op=19 then jb 1 (zl (l.getD 0 0))else if op=23 then zn l else jb 1 (hK 0 l).2
def BJ(a:List Nat)(l:List Int):Int×Int:=if¬(a=iV\/a=kH\/a=kI\/a=uD\/a=gL\/a=fl)then(0,6)else if Int.ofNat l.length<(if a=fl then 2 else 1)\/((if a=fl then 2 else 1)<Int.ofNat l.length/\a≠gL)then(0,11)else if a=iV then jb 2 (zm l 3)else if a=kH\/a=kI then jb 3 (zm l 3)else if a=uD then jb 2 (zm l 2)else jb (hK 0 l).1 (hK 0 l).2
def uc(a:List Nat)(k:Int):Int×Int:=if a=eb then jb 2 (zl k)else if a=iW then jb 2 (sn k 2)else if a=ng\/a=nh then jb k (zl k)else(0,6)
def JW(s:List Nat):Bool:=(s.all λc=>decide (32<=c)&&decide (c<=126))&&decide (s.length<=100)
def lk(v:Vl):Bool:=if v.k=0 then decide (v.n=0)&&decide (v.s=[])else if v.k=1 then(decide (v.n=0)||decide (v.n=1))&&decide (v.s=[])else if v.k=2 then qx v.n&&decide (v.s=[])else if v.k=3 then decide (v.n=0)&&JW v.s else false
def AV{v:Vl}(h:lk v=true):kz v:=by
 unfold lk at h;refine⟨λq=>?_,λq=>?_,?_⟩;.rw[U q]at h;simpa using h
 .rw[I G,U q]at h;simpa using h
 by_cases a:v.k=0;.rw[U a]at h;simp only[aA,bG]at h;rw[h.2];exact au _
 rw[I a]at h;by_cases b:v.k=1;.rw[U b]at h;simp only[aA,bG]at h;rw[h.2];exact au _
 rw[I b]at h;by_cases c:v.k=2;.rw[U c]at h;simp only[aA,bG]at h;rw[h.2];exact au _
 rw[I c]at h;by_cases d:v.k=3;.rw[U d]at h;unfold JW at h;simp only[aA,bG]at h;exact h.2.2
 rw[I d]at h;cases h
def dp(l:List Cl):List Int:=l.map Cl.ty
def Cd(x:W)(aP:List Cl):Bool:=decide (x.length=aP.length)&&(x.all lk&&(x.zip aP).all λp=>decide (p.1.k=0)||decide (p.1.k=p.2.ty))
def iH(K:List (List Int))(op:Int)(v:Vl)(d a:Int)(b:List Nat)(l:List Int)(e:List (List Cl))(ty:Int):Bool:=if op=1 then decide (v.k=0\/v.k=ty)else if op=2 then decide (d<Int.ofNat K.length/\a<Int.ofNat (K.getD d.toNat []).length/\(K.getD d.toNat []).getD a.toNat 0=ty)else if op=24 then decide ((BJ b l).2=0/\(BJ b l).1=ty)else if op=27 then decide (ty=1)else if op=26 then(match e with|[[c]]=>decide (c.ty=ty)|_=>false)else if op=28 then(match e,l with|[[c]],[k]=>(ni k c.ty).2&&decide (ty=1)|_,_=>false)else decide ((aed op l).2=0/\(aed op l).1=ty)
def eN(K:List N):List Int:=K.flatMap λk=>dp k.aP
def eJ:List (List Nat×List Int)->Option (List Int)|[]=>some []|(a,l)::r=>if(uc a (l.headD 2)).2=0 then(eJ r).map λq=>(uc a (l.headD 2)).1::q else none
def hL:List Int->List Int->Option (List Int)|a::l,b::m=>if(ni a b).2 then(hL l m).map λq=>(ni a b).1::q else none|_,_=>some []
def EW(op:Int)(aP:List Cl)(K:List N)(c:List Int)(d:List (List Nat×List Int)):Option (List Int):=if op=1\/op=2 then some (dp aP)else if op=4 then some c else if op=7 then(eJ d).map λq=>c++q else if op=9\/op=10\/op=11 then(match K with|a::b::_=>if a.aP.length=b.aP.length then hL (dp a.aP) (dp b.aP)else none|_=>none)else some (eN K)
mutual
def mn(b:List (List Int)):J->Bool|.mk op v d a c K sub ty=>JX b K&&(MN b sub&&iH b op v d a c (K.map J.ty) (sub.map N.aP) ty)
def JX(K:List (List Int)):List J->Bool|[]=>true|t::l=>mn K t&&JX K l
def aj9(K:List (List Int)):Ag->Bool|.mk a d t=>JX K t
def PB(K:List (List Int)):List Ag->Bool|[]=>true|a::l=>aj9 K a&&PB K l
def rD(b:List (List Int)):N->Bool|.mk op c aP K ao aJ cq bH skip all rows=>MN b K&&((rows.all λx=>Cd x aP)&&(JX (eN K::b) ao&&(PB (eN K::b) aJ&&decide (EW op aP K (ao.map J.ty) (aJ.map λa=>(a.name,a.t.map J.ty))=some (dp aP)))))
def MN(K:List (List Int)):List N->Bool|[]=>true|r::l=>rD K r&&MN K l
end
mutual
def rE(b:List Dt):J->Bool|.mk op v d a c K sub ty=>Gn b K&&JY b sub
def Gn(a:List Dt):List J->Bool|[]=>true|t::l=>rE a t&&Gn a l
def aj'(a:List Dt):Ag->Bool|.mk b d t=>Gn a t
def MO(b:List Dt):List Ag->Bool|[]=>true|a::l=>aj' b a&&MO b l
def tP(a:List Dt):N->Bool|.mk op b aP K ao aJ cq bH skip all rows=>if op=1 then(a.all λd=>decide (d.t≠b)||d.rows.all λx=>Cd x aP)else JY a K&&(Gn a ao&&MO a aJ)
def JY(a:List Dt):List N->Bool|[]=>true|r::l=>tP a r&&JY a l
end
def zo{K:List (List Int)}:∀{a:List J},JX K a=true↔∀t∈a,mn K t=true|[]=>by simp[JX]|t::a=>by simp[JX,zo (a:=a)]
def EX{K:List (List Int)}:∀{a:List N},MN K a=true↔∀t∈a,rD K t=true|[]=>by simp[MN]|t::a=>by simp[MN,EX (a:=a)]
def MP{K:List (List Int)}:∀{b:List Ag},PB K b=true↔∀a∈b,∀t∈a.t,mn K t=true|[]=>by simp[PB]|.mk c d t::b=>by simp[PB,MP (b:=b),aj9,zo,Ag.t]
def zp{b:List Dt}:∀{a:List J},Gn b a=true↔∀t∈a,rE b t=true|[]=>by simp[Gn]|t::a=>by simp[Gn,zp (a:=a)]
def EY{b:List Dt}:∀{a:List N},JY b a=true↔∀t∈a,tP b t=true|[]=>by simp[JY]|t::a=>by simp[JY,EY (a:=a)]
def MQ{c:List Dt}:∀{b:List Ag},MO c b=true↔∀a∈b,∀t∈a.t,rE c t=true|[]=>by simp[MO]|.mk e d t::b=>by simp[MO,MQ (b:=b),aj',zp,Ag.t]
structure alq(a:List (List Int))(t:J):Prop where
 K:∀k∈t.K,mn a k=true
 sub:∀r∈t.sub,rD a r=true
 here:iH a t.op t.v t.depth t.at_ t.name (t.K.map J.ty) (t.sub.map N.aP) t.ty=true
def Sr{e:List (List Int)}{t:J}:mn e t=true↔alq e t:=by cases t with|mk op v d a f K sub ty=>rw[mn,aA,aA,zo,EX];exact⟨λ⟨a,b,c⟩=>⟨a,b,c⟩,λ⟨a,b,c⟩=>⟨a,b,c⟩⟩
structure alr(b:List (List Int))(r:N):Prop where
 K:∀k∈r.K,rD b k=true
 rows:∀x∈r.rows,Cd x r.aP=true
 ao:∀t∈r.ao,mn (eN r.K::b) t=true
 aJ:∀a∈r.aJ,∀t∈a.t,mn (eN r.K::b) t=true
 made:EW r.op r.aP r.K (r.ao.map J.ty) (r.aJ.map λa=>(a.name,a.t.map J.ty))=some (dp r.aP)
def Ss{f:List (List Int)}{r:N}:rD f r=true↔alr f r:=by cases r with|mk op g aP K ao aJ cq bH skip all rows=>rw[rD,aA,aA,aA,aA,EX,zo,MP,aU,bG];exact⟨λ⟨a,b,c,d,e⟩=>⟨a,b,c,d,e⟩,λ⟨a,b,c,d,e⟩=>⟨a,b,c,d,e⟩⟩
structure als(a:List Dt)(t:J):Prop where
 K:∀k∈t.K,rE a k=true
 sub:∀r∈t.sub,tP a r=true
def JZ{c:List Dt}{t:J}:rE c t=true↔als c t:=by cases t with|mk op v d a e K sub ty=>rw[rE,aA,zp,EY];exact⟨λ⟨a,b⟩=>⟨a,b⟩,λ⟨a,b⟩=>⟨a,b⟩⟩
def HB:∀{b:List Dt}{a:List Nat}{x:W},x∈jM b a->∃d∈b,d.t=a/\x∈d.rows|[],_,_,h=>by cases h|d::l,a,x,h=>by rw[jM]at h;split at h;(.exact⟨d,by simp,by assumption,h⟩);obtain⟨e,c,f⟩:=HB h;exact⟨e,by simp[c],f⟩
structure alu(b:List Dt)(r:N):Prop where
 tb:r.op=1->∀x∈jM b r.de,Cd x r.aP=true
 K:r.op≠1->∀k∈r.K,tP b k=true
 ao:r.op≠1->∀t∈r.ao,rE b t=true
 aJ:r.op≠1->∀a∈r.aJ,∀t∈a.t,rE b t=true
def PC{c:List Dt}{r:N}(h:tP c r=true):alu c r:=by cases r with|mk op g aP K ao aJ cq bH skip all rows=>rw[tP]at h;by_cases a:op=1;(.rw[U a,aU]at h;refine⟨λ_ x b=>?_,λq=>absurd a q,λq=>absurd a q,λq=>absurd a q⟩;obtain⟨d,f,e,b⟩:=HB b;have:=h d f;rw[dH,bG,aU]at this;rcases this with q|q;(.exact absurd e q);exact q x b);rw[I a,aA,aA,EY,zp,MQ]at h;exact⟨λq=>absurd q a,λ_=>h.1,λ_=>h.2.1,λ_=>h.2.2⟩
def vk(v:Vl)(k:Int):Prop:=v.k=0\/v.k=k
def dU(k:Int):vk null k:=.inl A
def zq(b:Bool):vk (oj b) 1:=.inr A
def Ka(n:Int):vk (Dv n) 2:=.inr A
def PD(s:List Nat):vk (FY s) 3:=.inr A
def we(a:Int):vk (sP a) 1:=by
 unfold sP;split;.exact .inr A
 split;.exact .inr A
 exact .inl A
def CF(x:NB):vk (yr x) 2:=by unfold yr;split;exact Ka _;exact dU _
def iD{p:Prop} [Decidable p]{a b:Vl}{k:Int}(c:vk a k)(d:vk b k):vk (if p then a else b) k:=by split<;>assumption
def MS{v:Vl}{a k:Int}(h:vk v a)(b:a=0\/a=k):vk v k:=by unfold vk at*;omega
def MT(op:Int)(a b:Vl):vk (fS op a b) 1:=by unfold fS;exact iD (zq _) (dU _)
def EZ{a b:Int}(h:(ni a b).2=true):(a=0\/a=(ni a b).1)/\(b=0\/b=(ni a b).1):=by unfold ni sn at*;split at h;(.rename_i q;rw[U q];simp only[aA,dH,bG]at q;by_cases c:a=0;(.rw[U c];exact⟨.inl c,.inr A⟩);rw[I c];exact⟨.inr A,by show b=0\/b=a;omega⟩);cases h
def tk:∀{l:List Int}{a:Int},(hK a l).2=true->(a=0\/a=(hK a l).1)/\∀x∈l,x=0\/x=(hK a l).1|[],a,h=>⟨.inr A,λx c=>by cases c⟩|b::l,a,h=>by rw[hK]at h|-;split at h;(.rename_i q;rw[U q];obtain⟨e,d⟩:=tk h;obtain⟨f,g⟩:=EZ q;refine⟨by omega,λx c=>?_⟩;rcases aR.1 c with rfl|c;(.omega);exact d x c);cases h
def gD{k:Int}{b:Bool}(h:(jb k b).2=0):b=true/\(jb k b).1=k:=by unfold jb at*;split at h;(.rename_i q;exact⟨q,by rw[U q]⟩);cases h
def KR(x:W)(a:List Int):Prop:=x.length=a.length/\∀i,vk (x.getD i null) (a.getD i 0)
def KR.nil:KR [] []:=⟨A,λi=>by simp;exact dU _⟩
def KR.cons{v:Vl}{k:Int}{x:W}{a:List Int}(h:vk v k)(t:KR x a):KR (v::x) (k::a):=⟨by simp[t.1],λi=>by cases i with|zero=>exact h|succ i=>exact t.2 i⟩
def KR.hd{v:Vl}{k:Int}{x:W}{a:List Int}(h:KR (v::x) (k::a)):vk v k:=h.2 0
def KR.tl{v:Vl}{k:Int}{x:W}{a:List Int}(h:KR (v::x) (k::a)):KR x a:=⟨by simpa using h.1,λi=>h.2 (i+1)⟩
def KR.map{c:Type}{f:c->Vl}{g:c->Int}:∀{l:List c},(∀a∈l,vk (f a) (g a))->KR (l.map f) (l.map g)|[],_=>KR.nil|a::l,h=>KR.cons (h a aS) (KR.map λb d=>h b (by simp[d]))
def KR.app:∀{a b:W}{c d:List Int},KR a c->KR b d->KR (a++b) (c++d)
|[],b,[],d,_,h=>h|v::a,b,k::c,d,h,g=>KR.cons h.hd (KR.app h.tl g)|[],_,_::_,_,h,_=>by have:=h.1;simp at this
|_::_,_,[],_,h,_=>by have:=h.1;simp at this
def KR.aiC(a:List Int):KR (List.replicate a.length null) a:=by induction a with|nil=>exact KR.nil|cons k a b=>exact KR.cons (dU k) b
def KR.mem:∀{x:W}{b:List Int},KR x b->∀v∈x,∃k∈b,vk v k
|[],[],_,v,a=>by cases a|w::l,k::b,h,v,a=>by rcases aR.1 a with rfl|a;(.exact⟨k,by simp,h.hd⟩);obtain⟨c,d,e⟩:=KR.mem h.tl v a;exact⟨c,by simp[d],e⟩|[],_::_,h,_,_=>by have:=h.1;simp at this
|_::_,[],h,_,_=>by have:=h.1;simp at this
def MU:∀{l:W}{d r:List Int}{k:Int},KR l d->nX d=some r->(∀x∈r,x=0\/x=k)->vk (jL l) k
|[],[],r,k,_,_,_=>dU k|[a],[g],r,k,h,c,e=>by cases c;exact MS h.hd (e g aS)|a::b::l,g::i::d,r,k,h,c,e=>by simp only[nX]at c;split at c;(.cases f:nX d with|none=>rw[f]at c;cases c|some m=>rw[f]at c;cases c;simp only[jL];split;(.exact MS h.tl.hd (e i aS));exact MU h.tl.tl f λx j=>e x (by simp[j]));cases c|[],_::_,_,_,h,_,_=>by have:=h.1;simp at this
|_::_,[],_,_,h,_,_=>by have:=h.1;simp at this
|[a],_::_::_,_,_,h,_,_=>by have:=h.1;simp at this
|a::b::l,[_],_,_,h,_,_=>by have:=h.1;simp at this
def acB{l:W}{k:Int}(h:∀v∈l,vk v k):vk (Bo l) k:=by unfold Bo;split;(.rename_i i v a;exact h v (xu a));exact dU _
def aiD{op:Int}{u:List Nat}{l:W}{f:List Int}{k:Int}(h:KR l f)(v:op≠24)(a:(aed op f).2=0)(b:(aed op f).1=k):vk (GL op u l) k:=by
 unfold aed at a b;by_cases o:(wT op).2=0;.rw[U o]at a;cases a
 rw[I o]at a b;by_cases p:Int.ofNat f.length<(wT op).1\/(wT op).2<Int.ofNat f.length;.rw[U p]at a;cases a
 rw[I p]at a b;unfold GL;by_cases s:op=3\/op=5\/op=6\/op=7\/op=8\/op=9;.rw[U s]at a b;have:=(gD a).2;have c:k=2:=G;subst c;by_cases d:op=3;(.rw[U d];exact iD (CF _) (dU _));rw[I d,I G,I G,U G];exact iD (CF _) (dU _)
 rw[I s]at a b;by_cases t:op=4\/op=17\/op=18;.rw[U t]at a b;have:=(gD a).2;have c:k=1:=G;subst c;rw[I G];by_cases d:op=4;(.rw[U d];exact we _);rw[I d,I G,I G,I G,I G];by_cases d:op=17;(.rw[U d];exact we _);rw[I d,U G];exact we _
 rw[I t]at a b;by_cases i:op=10;.rw[U i]at a b;have:=(gD a).2;have c:k=3:=G;subst c;rw[I G,I G,I G,I G,U i];exact iD (PD _) (dU _)
 rw[I i]at a b;by_cases j:op=20;.rw[U j]at a b;have:=(gD a).2;have c:k=1:=G;subst c;rw[I G,I G,I G,I G,I G,I G,I G,I G,U j];exact iD (zq _) (dU _)
 rw[I j]at a b;by_cases m:op=19;.rw[U m]at a b;have:=(gD a).2;have c:k=1:=G;subst c;rw[I G,I G,U m];exact zq _
 rw[I m]at a b;by_cases g:op=23;.rw[U g]at a b;rw[I G,I G,I G,I G,I G,I G,I G,I G,I G,I G,I G,U g];unfold zn at a b;cases n:nX f with|none=>rw[n]at a;cases a|some r=>rw[n]at a b;have q:=gD a;have e:(hK 0 r).1=k:=q.2.symm.trans b;exact MU h n λx w=>by rw[<-e];exact(tk q.1).2 x w
 rw[I g]at a b;have:=(gD a).2;have c:k=1:=G;subst c;rw[I G,I G,I G,I G,I G];refine iD (MT _ _ _) ?_;rw[I G,I G,I G];refine iD (we _) (iD (we _) ?_);rw[I g,I v];exact dU _
def acC{b:List Nat}{l:W}{g:List Int}{k:Int}(h:KR l g)(c:(BJ b g).2=0)(d:(BJ b g).1=k):vk (jX b l) k:=by
 unfold BJ at c d;by_cases n:¬(b=iV\/b=kH\/b=kI\/b=uD\/b=gL\/b=fl);.rw[U n]at c;cases c
 rw[I n]at c d;by_cases o:Int.ofNat g.length<(if b=fl then 2 else 1)\/((if b=fl then 2 else 1)<Int.ofNat g.length/\b≠gL);.rw[U o]at c;cases c
 rw[I o]at c d;unfold jX;by_cases i:b=iV;.rw[U i]at c d;have:=(gD c).2;have j:k=2:=G;subst j i;rw[I aD,I (by intro q;exact absurd q.1 aD)];unfold ys;split;(.rw[I (by intro q;exact absurd q.1 aD)];exact iD (dU _) (by rw[U A];exact Ka _));exact dU _
 rw[I i]at c d;by_cases f:b=kH\/b=kI;.rw[U f]at c d;have:=(gD c).2;have j:k=3:=G;subst j;rw[I (by rcases f with rfl|rfl<;>decide),I (by intro q;rcases f with rfl|rfl<;>exact absurd q.1 aD)];unfold ys;split;(.rw[I (by intro q;rcases f with rfl|rfl<;>exact absurd q.1 aD)];exact iD (dU _) (by rw[I i];exact iD (PD _) (iD (PD _) (dU _))));exact dU _
 rw[I f]at c d;by_cases m:b=uD;.rw[U m]at c d;have:=(gD c).2;have j:k=2:=G;subst j;subst m;rw[I aD,I (by intro q;exact absurd q.1 aD)];unfold ys;split;(.refine iD (iD (CF _) (CF _)) (iD (dU _) ?_);rw[I aD,I aD,I aD];exact dU _);exact dU _
 rw[I m]at c d;have q:=gD c;have e:(hK 0 g).1=k:=q.2.symm.trans d;have p:∀v∈l,vk v k:=λv s=>by obtain⟨a,t,u⟩:=h.mem v s;exact MS u (by rw[<-e];exact(tk q.1).2 a t)
 refine iD (acB p) ?_;by_cases r:b=fl/\l.length=2;.rw[U r];unfold Je;split;(.exact iD (p _ aS) (dU _));exact dU _
 rw[I r];unfold ys;split;.rw[I (λq=>m q.1)];refine iD (dU _) ?_;rw[I i,I (λq=>f (.inl q)),I (λq=>f (.inr q))];exact dU _
 exact dU _
structure wA(P:Vl->Prop)(a:List Nat)(x:Acc):Prop where
 n:x.name=a
 v:P x.v
 l:∀w∈x.l,P w
def wA.taken{P:Vl->Prop}{a:List Nat}{x:Acc}(h:wA P a x){v:Vl}(d:P v):wA P a (eT x v):=by obtain⟨b,c,_⟩:=th x v;refine⟨b.trans h.n,?_,by rw[c];exact h.l⟩;have:=h.v;unfold eT;(repeat' split);all_goals assumption
def wA.step{P:Vl->Prop}{b:List Nat}{x:Acc}(h:wA P b x){v:Vl}(c:P v):wA P b (jZ x v):=by unfold jZ;split;(.split;(.refine⟨h.n,h.v,λw a=>?_⟩;rcases pN a with rfl|a;(.exact c);exact h.l w a);exact h.taken c);exact h
def wA.steps{P:Vl->Prop}{a:List Nat}{l:List Vl}:∀{x:Acc},wA P a x->(∀v∈l,P v)->wA P a (l.foldl jZ x):=by induction l with|nil=>intro x h _;exact h|cons v l c=>intro x h b;exact c (h.step (b v aS)) λw d=>b w (by simp[d])
def wA.af5{P:Vl->Prop}{a:List Nat}{l:List Vl}:∀{x:Acc},wA P a x->(∀v∈l,P v)->wA P a (l.foldl eT x):=by induction l with|nil=>intro x h _;exact h|cons v l c=>intro x h b;exact c (h.taken (b v aS)) λw d=>b w (by simp[d])
def Vi{P:Vl->Prop}(b:P null)(a:List Nat)(d t:Bool):wA P (gd a d t).name (gd a d t):=by
 refine⟨A,?_,?_⟩;.unfold gd;(repeat' split);all_goals exact b
 unfold gd;repeat' split
 all_goals exactλw c=>by cases c
def acD{P:Vl->Prop}(c:P null)(a:List Nat)(d t:Bool){l:List Vl}(e:∀v∈l,P v):∃x:Acc,wv a d t l=DE x/\wA P (gd a d t).name x:=by have b:=wA.steps (Vi c a d t) e;exact⟨_,A,wA.af5 b b.l⟩
def YQ{a:List Nat}{d t:Bool}{l:List Vl}{k:Int}(c:(uc a k).2=0)(j:∀v∈l,vk v k):vk (wv a d t l) (uc a k).1:=by
 obtain⟨x,e,h⟩:=acD (P:=λv=>vk v k) (dU k) a d t j;rw[e];have b:=h.n;unfold uc at*;unfold gd at b;unfold DE;by_cases i:a=eb;.rw[U i]at c b|-;rw[(gD c).2];(have:x.name=eb\/x.name=nt:=by rw[b];split;(.exact .inl i);exact .inr A);rw[U this];exact Ka _
 rw[I i]at c b|-;by_cases f:a=iW;.rw[U f]at c|-;rw[U (.inl f)]at b;rw[(gD c).2,I (by rw[b];show¬(a=eb\/a=nt);rw[f];decide),U (by rw[b];exact f)];unfold sS;exact iD (dU _) (iD (Ka _) (dU _))
 rw[I f]at c|-;by_cases g:a=ng\/a=nh;.rw[U g]at c|-;rw[U (.inr g)]at b;rw[(gD c).2,I (by rw[b];show¬(a=eb\/a=nt);rcases g with rfl|rfl<;>decide),I (by rw[b];exact f),U (by rw[b];exact g)];exact h.v
 rw[I g]at c;cases c
def YR:∀{x:W}{aP:List Cl},Cd x aP=true->KR x (dp aP)
|[],[],_=>KR.nil|v::x,c::aP,h=>by unfold Cd at h;simp only[aE,bD,List.zip_cons_cons,aA,dH,bG]at h;obtain⟨e,⟨_,a⟩,b,d⟩:=h;refine KR.cons b (YR ?_);unfold Cd;simp only[aA,bG];exact⟨by omega,a,d⟩|[],_::_,h=>by simp[Cd]at h
|_::_,[],h=>by simp[Cd]at h
structure pb(a:List W)(K:List (List Int)):Prop where
 n:a.length=K.length
 k:∀i,KR (a.getD i []) (K.getD i [])
def pb.nil:pb [] []:=⟨A,λi=>KR.nil⟩
def pb.cons{a:List W}{K:List (List Int)}{x:W}{b:List Int}(h:pb a K)(c:KR x b):pb (x::a) (b::K):=⟨by simp[h.n],λi=>by cases i with|zero=>exact c|succ i=>exact h.k i⟩
def MV:∀{a b q:List Int},a.length=b.length->hL a b=some q->(∀x,KR x a->KR x q)/\∀x,KR x b->KR x q
|[],[],q,_,h=>by cases h;exact⟨λx h=>h,λx h=>h⟩|a::l,b::m,q,e,h=>by
 rw[hL]at h;split at h
 .rename_i f;cases d:hL l m with
  |none=>rw[d]at h;cases h|some r=>
   rw[d]at h;cases h;obtain⟨g,i⟩:=MV (by simpa using e) d;obtain⟨j,k⟩:=EZ f;refine⟨λx c=>?_,λx c=>?_⟩
   .cases x with
    |nil=>have:=c.1;simp at this
    |cons v x=>exact KR.cons (MS c.hd j) (g x c.tl)
   cases x with
   |nil=>have:=c.1;simp at this
   |cons v x=>exact KR.cons (MS c.hd k) (i x c.tl)
 cases h|[],_::_,_,h,_=>by simp at h
|_::_,[],_,h,_=>by simp at h
def Su{f:Ag->Vl}:∀{l:List Ag}{q:List Int},eJ (l.map λa=>(a.name,a.t.map J.ty))=some q->(∀a∈l,(uc a.name ((a.t.map J.ty).headD 2)).2=0->vk (f a) (uc a.name ((a.t.map J.ty).headD 2)).1)->KR (l.map f) q|[],q,h,_=>by cases h;exact KR.nil|a::l,q,h,d=>by rw[aw,eJ]at h;split at h;(.rename_i e;cases c:eJ (l.map λa=>(a.name,a.t.map J.ty))with|none=>rw[c]at h;cases h|some r=>rw[c]at h;cases h;exact KR.cons (d a aS e) (Su c λb g=>d b (by simp[g])));cases h
def po(a:N):eN [a]=dp a.aP:=by simp[eN]
def HC(a b:N):eN [a,b]=dp a.aP++dp b.aP:=by simp[eN]
def vf(p:List Dt):∀M:Nat,(∀(t:J)(K:List (List Int))(E:List Nat)(j:List W),SizeOf.sizeOf t<M->mn K t=true->rE p t=true->kc p E t->pb j K->vk (cN p t j) t.ty)/\(∀(r:N)(K:List (List Int))(E:List Nat)(j:List W),SizeOf.sizeOf r<M->rD K r=true->tP p r=true->mZ p E r->pb j K->∀x∈er p r j,KR x (dp r.aP))
|0=>⟨λt _ _ _ h=>absurd h (aB _),λt _ _ _ h=>absurd h (aB _)⟩|M+1=>by
 obtain⟨Z,a2⟩:=vf p M;refine⟨λt K E j hs g a0 hr B=>?_,λr K E j hs g a0 hr B=>?_⟩;.have Y:=Sr.1 g;have F:=JZ.1 a0;have H:=ek.1 hr;(have C:KR (cF p t.K j) (t.K.map J.ty):=by rw[dh];exact KR.map λq s=>Z q K E j (by have:=J.bK s;omega) (Y.K q s) (F.K q s) (H.K q s) B);have i:=Y.here;unfold iH at i;rw[fZ];by_cases v:t.op=1;(.rw[U v]at i|-;simpa[vk]using i);rw[I v]at i|-;by_cases D:t.op=2;(.rw[U D]at i|-;obtain⟨O,P,e3⟩:=eZ i;unfold oD;split;(.have:=(B.k t.depth.toNat).2 t.at_.toNat;rw[e3]at this;exact this);exact dU _);rw[I D]at i|-;by_cases aee:t.op=26;(.rw[U aee];rw[I G,I G,U aee]at i;split;(.rename_i x l e;obtain⟨r,Q,g2⟩:=sd (show(x::l)∈cO p t.sub j by rw[e];simp);have R:r∈t.sub:=bb Q;have d:=a2 r K E j (by have:=J.sub_lt R;omega) (Y.sub r R) (F.sub r R) (H.sub r R) B _ g2;split at i;(.rename_i c A;(have a7:t.sub=[r]:=by cases a3:t.sub with|nil=>rw[a3]at A;cases A|cons a m=>rw[a3]at A Q;cases m with|nil=>simp at Q;rw[Q]|cons b m=>simp at A);rw[a7]at A;(have a8:r.aP=[c]:=by simpa using A);rw[a8]at d;rw[<-eZ i];cases l with|nil=>exact d.hd|cons _ _=>have:=d.1;simp[dp]at this);cases i);exact dU _);rw[I aee];by_cases L:t.op=27;(.rw[U L];rw[I G,U L]at i;rw[eZ i];exact zq _);rw[I L];by_cases af6:t.op=28;(.rw[U af6];rw[I G,I L,I aee,U af6]at i;(have a9:t.ty=1:=by split at i;(.simp only[aA,bG]at i;exact i.2);cases i);rw[a9];split;(.exact dU _);exact we _);rw[I af6];unfold ko;refine iD (dU _) ?_;by_cases T:t.op=24;(.rw[U T]at i;obtain⟨O,P⟩:=eZ i;(have:GL t.op t.name (cF p t.K j)=jX t.name (cF p t.K j):=by rw[T];unfold GL;simp);rw[this];exact acC C O P);rw[I T,I L,I aee,I af6]at i;obtain⟨O,P⟩:=eZ i;exact aiD C T O P
 have Y:=Ss.1 g;have F:=PC a0;have H:=dB.1 hr;intro x d;have f:=Y.made;unfold EW at f;rw[ig]at d;by_cases v:r.op=1;.rw[U v]at d;exact YR (F.tb v x d)
 rw[I v]at d;by_cases D:r.op=2;.rw[U D]at d;exact YR (Y.rows x d)
 rw[I D]at d;rw[I G]at f;have a4:∀k∈r.K,∀y∈er p k j,KR y (dp k.aP):=λk C=>a2 k K E j (by have:=N.bK C;omega) (Y.K k C) (F.K v k C) (H.K k C) B;have k0:∀a l,r.K=a::l->∀y∈cO p r.K j,KR y (dp a.aP):=λa l e y g=>by rw[e,eV]at g;exact a4 a (by rw[e];simp) y g
 have k1:∀a b l,r.K=a::b::l->∀y∈fc p r.K j,KR y (dp b.aP):=λa b l e y g=>by rw[e,hV]at g;exact a4 b (by rw[e];simp) y (by simpa[eV]using g)
 have a5:∀y,KR y (eN r.K)->KR (cF p r.ao (y::j)) (r.ao.map J.ty):=λy g=>by rw[dh];exact KR.map λq s=>Z q _ _ _ (by have:=N.eD s;omega) (Y.ao q s) (F.ao v q s) (H.ao q s) (B.cons g)
 by_cases h3:r.op=3;.rw[U h3]at d;obtain⟨a,o⟩:=H.o.one (.inl h3);rw[I G,I G,I G,o,po]at f;rw[<-eH f];exact k0 a [] o x (cd.1 d).1
 rw[I h3]at d;by_cases h4:r.op=4;.rw[U h4]at d f;obtain⟨a,o⟩:=H.o.one (.inr (.inl h4));rw[<-eH f];obtain⟨y,g,rfl⟩:=aV.1 d;refine a5 y ?_;rw[o,po];exact k0 a [] o y g
 rw[I h4]at d f;by_cases h5:r.op=5\/r.op=6;.rw[U h5]at d;obtain⟨a,b,z⟩:=H.o.two G;rw[I G,I G,z,HC]at f;rw[<-eH f];unfold oL at d;rw[z]at d;simp only[gH,me,jA,uL]at d;obtain⟨y,g,d⟩:=EB d;rcases d with⟨c,A,rfl⟩|rfl;(.exact(k0 a [b] z y g).app (k1 a b [] z c A));refine(k0 a [b] z y g).app ?_;have:=KR.aiC (dp b.aP);simpa[dp]using this
 rw[I h5]at d;by_cases h7:r.op=7;.rw[U h7]at d f;obtain⟨a,o⟩:=H.o.one (.inr (.inr (.inl h7)));cases s:eJ (r.aJ.map λa=>(a.name,a.t.map J.ty))with|none=>rw[s]at f;cases f|some q=>rw[s]at f;rw[<-eH f];obtain⟨b,u,rfl⟩:=aV.1 d;(have a6:∀y∈cO p r.K j,KR y (eN r.K):=λy g=>by rw[o,po];exact k0 a [] o y g);have a':=ti (S:=λy=>KR y (r.ao.map J.ty)) (c:=λx=>cF p r.ao (x::j)) (rows:=cO p r.K j) (λy g=>a5 y (a6 y g)) (λb u=>by split at u;(.rename_i b0;simp at u;subst u;rw[gg.1 b0];exact KR.nil);cases u) b u;have b1:=rZ (S:=λy=>KR y (eN r.K)) (n:=0) a6 (λb u=>by split at u;(.simp at u;subst u;exact⟨λy g=>(by cases g),af _⟩);cases u) b u;refine a'.app ?_;rw[jD];refine Su s λa o V=>?_;rw[qK];cases a1:a.t with|nil=>rw[a1]at V;refine YQ V λw hw=>?_;obtain⟨_,_,rfl⟩:=aV.1 hw;exact dU _|cons c l=>rw[a1]at V;refine YQ V λw hw=>?_;obtain⟨y,g,rfl⟩:=aV.1 hw;(have X:c∈a.t:=by rw[a1];simp);exact Z c _ _ _ (by have:=N.hQ o;have:=Ag.qi X;omega) (Y.aJ a o c X) (F.aJ v a o c X) (H.aJ a o c X) (B.cons (b1.1 y g))
 rw[I h7]at d f;by_cases h8:r.op=8;.rw[U h8]at d;obtain⟨a,o⟩:=H.o.one G;rw[I G,o,po]at f;rw[<-eH f];rcases uY d with h|h;(.cases h);exact k0 a [] o x h
 rw[I h8]at d;by_cases h9:r.op=9\/r.op=10\/r.op=11;.rw[U h9]at d f;obtain⟨a,b,z⟩:=H.o.two G;rw[z]at f;simp only at f;split at f;(.rename_i hl;obtain⟨u1,u2⟩:=MV (by simpa[dp]using hl) f;rcases RW d with h|⟨_,h⟩;(.exact u1 x (k0 a [b] z x h));exact u2 x (k1 a b [] z x h));cases f
 rw[I h9]at d;by_cases b2:r.op=12;.rw[U b2]at d;obtain⟨a,o⟩:=H.o.one G;rw[I G,o,po]at f;rw[<-eH f];exact k0 a [] o x ((ln _ _).mem_iff.1 d)
 have:=H.o.o;omega
def Vj{a:List Dt}{t:J}{K:List (List Int)}{E:List Nat}{b:List W}(c:mn K t=true)(d:rE a t=true)(e:kc a E t)(f:pb b K):vk (cN a t b) t.ty:=(vf a _).1 t K E b (ax _) c d e f
def YS{a:List Dt}{r:N}{K:List (List Int)}{E:List Nat}{b:List W}(c:rD K r=true)(d:tP a r=true)(e:mZ a E r)(f:pb b K):∀x∈er a r b,KR x (dp r.aP):=(vf a _).2 r K E b (ax _) c d e f
inductive MW:J->J->Prop where|refl(t:J):MW t t|step{q k t:J}(a:k∈t.K)(h:MW q k):MW q t
structure FN(d:List Dt)(E:List Nat)(K:List (List Int))(t b:J):Prop where
 rg:kc d E b
 zP:∀a,gC a->pb a K->cN d b a=cN d t a
 lf:∀m c,C1 c->dF m c b<=dF m c t
 qd:∀n,ua t<=n->ua b<=n
 hs:wy d b
 sk:∀q,MW q b->∀a,gC a->pb a K->vk (cN d q a) q.ty
def HD{e:List Dt}:∀(n:Nat)(t:J)(E:List Nat)(b:List W),SizeOf.sizeOf t<n->kc e E t->gu t=true->cN e t b=jY [] t
|0,t,E,b,f,_,_=>absurd f (aB _)|n+1,t,E,b,f,i,a=>by
 have H:=ek.1 i;rw[Ap]at a;by_cases g:t.op=2\/0<t.sub.length;.rw[U g]at a;cases a
 rw[I g,aU]at a;have h:=H.Z;have j:¬(t.op=26\/t.op=27\/t.op=28):=λq=>by unfold acn at h;rw[U q]at h;omega
 rw[fZ,Lr];by_cases c:t.op=1;.rw[U c,U c]
 rw[I c,I c,I G,I G,I G,I G,I G,I j];congr 1;rw[dh];exact bF λk d=>HD n k E b (by have:=J.bK d;omega) (H.K k d) (a k d)
def HE{a:List Dt}{t:J}{E:List Nat}(b:List W)(c:kc a E t)(d:gu t=true):cN a t b=jY [] t:=HD _ t E b (ax _) c d
def HF{b:List Dt}{t:J}{E:List Nat}(a:kc b E t)(c:gu t=true):kz (jY [] t):=by rw[<-HE [] a c];exact EC a λx d=>by cases d
def MY{e:List Dt}:∀(n:Nat)(t:J)(E:List Nat),SizeOf.sizeOf t<n->kc e E t->gu t=true->lj [] t|0,t,E,c,_,_=>absurd c (aB _)|n+1,t,E,c,f,a=>by have H:=ek.1 f;have g:=a;rw[Ap]at a;by_cases d:t.op=2\/0<t.sub.length;(.rw[U d]at a;cases a);rw[I d,aU]at a;refine .mk t (by have:=H.kl;unfold BK at this;omega) (λk b=>MY n k E (by have:=J.bK b;omega) (H.K k b) (a k b)) λk b=>?_;have:=(HF (H.K k b) (a k b)).s;omega
def MZ{b:List Dt}{E:List Nat}{v:Vl}{ty:Int}(h:kz v):kc b E (hC v ty):=ek.2 ⟨au _,A,λ_=>⟨h,A⟩,λq=>(by simp[hC,J.op]at q),λk a=>(by cases a),λk a=>(by cases a)⟩
def wg(a:List Dt)(b:List W)(v:Vl)(ty:Int):cN a (hC v ty) b=v:=by rw[fZ];rfl
def HG{q:J}{v:Vl}{ty:Int}(h:MW q (hC v ty)):q=hC v ty:=by cases h with|refl=>rfl|step a _=>cases a
def Na{m:Nat}{c:List Nat}(h:C1 c)(v:Vl)(ty:Int)(t:J):dF m c (hC v ty)<=dF m c t:=by by_cases a:m=0;(.subst a;have:=YC h t;rw[fC];simp[hC,J.op,J.K,J.sub,ja,im];omega);rw[fC];simp[hC,J.op,J.K,J.sub,ja,im,a]
def Nb{b:List Dt}{E:List Nat}{K:List (List Int)}{t:J}{v:Vl}{ty:Int}(f:kz v)(g:(∀a,gC a->pb a K->cN b t a=v))(h:vk v ty):FN b E K t (hC v ty):=⟨MZ f,λa d e=>by rw[wg,g a d e],λm c i=>Na i _ _ t,λn _=>by simp[hC,ua,EH,ad7],by simp[hC,wy,EI,ad8],λq j a d e=>by rw[HG j,wg];exact h⟩
def PE{g:List Dt}{E:List Nat}{K:List (List Int)}{t b k:J}(h:FN g E K t b)(d:k∈b.K)(e:¬(b.op=2))(l:∀a,gC a->pb a K->cN g k a=cN g b a):FN g E K t k:=by have H:=ek.1 h.rg;refine⟨H.K k d,λa j e=>by rw[l a j e,h.zP a j e],λi c o=>aL ?_ (h.lf i c o),λn p=>(jm.1 (h.qd n p)).1 k d,(hJ.1 h.hs).1 k d,λq r=>h.sk q (.step d r)⟩;rw[fC i c b,I (λq=>e q.1)];have:=EG (m:=i) (op:=b.op) (lq (f:=dF i c) d) e;omega
def Fa{v:Vl}(h:kz v)(a:vk v 1):sP (fj v)=v:=by obtain⟨k,n,s⟩:=v;rcases a with a|a;(.have a:k=0:=a;obtain⟨b,c⟩:=h.z a;simp only at b c;subst a b c;rfl);have a:k=1:=a;obtain⟨b,c⟩:=h.b a;simp only at b c;subst a c;rcases b with rfl|rfl<;>rfl
def pU(v:Vl):fj v=0\/fj v=1\/fj v=2:=by unfold fj adQ;split;(.split<;>simp);simp
def wh{b:List Dt}{t:J}{a:Int}{c:List W}(h:wK t a=true):fj (cN b t c)=a:=by unfold wK at h;simp only[aA,bG]at h;rw[fZ,U h.1];exact h.2
def acE{c:List Dt}{t a b:J}{d:List W}(e:t.op=17\/t.op=18)(f:t.K=[a,b]):cN c t d=sP ((if t.op=17 then xe else Ri) (fj (cN c a d)) (fj (cN c b d))):=by (have g:cF c t.K d=[cN c a d,cN c b d]:=by rw[f,dh];rfl);rw[fZ,I G,I G,I G,I G,I G,g];rcases e with e|e<;>rw[e]<;>rfl
def Sv{b:List Dt}{t a:J}{c:List W}(d:t.op=4)(e:t.K=[a]):cN b t c=sP (Xh (fj (cN b a c))):=by (have f:cF b t.K c=[cN b a c]:=by rw[e,dh];rfl);rw[fZ,I G,I G,I G,I G,I G,f,d];rfl
def Fb{a:List Dt}{t:J}{b:List W}(c:t.op=23)(d:2<=t.K.length):cN a t b=jL (t.K.map λk=>cN a k b):=by
 rw[fZ,I G,I G,I G,I G,I G,dh,c];unfold ko;rw[I];.rfl
 rintro(q|⟨q,_⟩);.have:(iU 23).1=2:=A;rw[this,aF]at q;simp at q;omega
 cases q
def xy(e:List Dt)(f:List W):∀l:List J,jL (l.map λk=>cN e k f)=jL (((cZ l).1++(cZ l).2).map λk=>cN e k f)|[]=>A|[a]=>A|c::v::l=>by have g:=xy e f l;simp only[cZ];by_cases b:wK c 2=true;(.rw[U b];simp only[aw,bN,bM,jL];rw[U (wh b)]);rw[I b];by_cases d:c.op=1;(.rw[U d,<-g];simp only[aw,jL];rw[I];intro q;refine b ?_;unfold wK;rw[fZ,U d]at q;simp[d,q]);rw[I d];simp only[aw,bE,jL];rw[g]
def ku:∀{l:List J}{x:J},x∈(cZ l).1++(cZ l).2->x∈l
|[],x,h=>h|[a],x,h=>h|c::v::l,x,h=>by
 simp only[cZ]at h;split at h;.simp at h;subst h;simp
 split at h;.have:=ku h;simp[this]
 simp only[bE,aR]at h;rcases h with rfl|rfl|h;.simp
 .simp
 have:=ku h;simp[this]
def xz(f:J->Nat):∀l:List J,(((cZ l).1++(cZ l).2).map f).sum<=(l.map f).sum/\((cZ l).1++(cZ l).2).length<=l.length|[]=>⟨af _,af _⟩|[a]=>⟨af _,af _⟩|c::v::l=>by have b:=xz f l;simp only[cZ];split;(.simp;omega);split;(.simp only[aw,bj,aE];omega);simp only[aw,bj,aE,bE];omega
def Nc(m:Nat)(f:J->Nat)(l:List J):im m 23 (((cZ l).1++(cZ l).2).map f)<=im m 23 (l.map f):=by unfold im;split;(.rw[I (λq=>absurd q.1 aD),I (λq=>absurd q.1 aD)];refine Mu (AM _) λa b=>?_;obtain⟨x,c,rfl⟩:=aV.1 b;exact AN (lq (ku c)));rw[I aD,I aD];exact(xz f l).1
def Fc:∀{l:List J},(cZ l).1≠[]->2<=(cZ l).1.length|[],h=>absurd A h|[a],h=>absurd A h|c::v::l,h=>by simp only[cZ]at h|-;split at h;(.exact absurd A h);rename_i d;split at h;(.rename_i b;rw[I d,U b];exact Fc h);rename_i b;rw[I d,I b];simp
def BL:∀{b:List J},(cZ b).2.length<=1|[]=>au _|[a]=>af _|c::v::b=>by have:=BL (b:=b);simp only[cZ];split;(.exact af _);split<;>exact this
def YT{g:List Dt}{E:List Nat}{K:List (List Int)}{t a:J}(h:FN g E K t a)(p:a.op=23)(s:2<=a.K.length):FN g E K t (pB a):=by
 have H:=ek.1 h.rg;unfold pB;split;.rename_i o;have d:=Fc o;have z:=xz (dF 0 []) a.K;(have e:∀b,cN g (oo a ((cZ a.K).1++(cZ a.K).2)) b=cN g a b:=λb=>by rw[Fb p s,xy,Fb (t:=oo a ((cZ a.K).1++(cZ a.K).2)) p (by show 2<=((cZ a.K).1++(cZ a.K).2).length;rw[aj];omega)];rfl);refine⟨ek.2 ⟨aL z.2 H.kl,H.Z,λq=>?_,λq=>?_,λk f=>H.K k (ku f),H.sub⟩,λb i d=>by rw[e,h.zP b i d],λm c A=>aL ?_ (h.lf m c A),λn u=>jm.2 ⟨λk f=>(jm.1 (h.qd n u)).1 k (ku f),(jm.1 (h.qd n u)).2⟩,hJ.2 ⟨λk f=>(hJ.1 h.hs).1 k (ku f),(hJ.1 h.hs).2⟩,λq r b i d=>?_⟩;(.have q:a.op=1:=q;omega);(.have q:a.op=2:=q;omega);(.rw[fC,fC m c a];have v:¬(a.op=2/\a.depth=0):=λq=>G;show(if a.op=2/\a.depth=0 then _ else im m a.op (((cZ a.K).1++(cZ a.K).2).map (dF m c))+m%2*ja m a.sub)<=_;rw[I v,I v,p];have:=Nc m (dF m c) a.K;omega);cases r with|refl=>rw[e];exact h.sk a (.refl _) b i d|step f r=>exact h.sk q (.step (ku f) r) b i d
 rename_i o;have o:(cZ a.K).1=[]:=kh.1 o;have e:∀b,cN g a b=jL ((cZ a.K).2.map λk=>cN g k b):=λb=>by rw[Fb p s,xy,o];rfl
 have w:=BL (b:=a.K);have B:∀x∈(cZ a.K).2,x∈a.K:=λx j=>ku (aZ.2 (.inr j));split;.rename_i x y j;rw[j]at w e;(have C:y=[]:=by cases y with|nil=>rfl|cons=>simp at w);subst C;exact PE h (B x (by rw[j];simp)) G λb _ _=>by rw[e];rfl
 rename_i j;rw[j]at e;exact Nb dZ (λb i d=>by rw[<-h.zP b i d,e];rfl) (dU _)
def YU{c:List Dt}{E:List Nat}{K:List (List Int)}{t d:J}{b:Bool}(h:FN c E K t d)(g:∀a,gC a->pb a K->cN c d a=oj b):FN c E K t (xj b):=Nb (oz b) (λa e f=>by rw[<-h.zP a e f,g a e f]) (zq b)
def ajk(a:Bool):Int->Int->Int:=if a then xe else Ri
def acF(a:Bool){x y:Int}(b:x=0\/x=1\/x=2)(c:y=0\/y=1\/y=2)(h:x=(if a then 0 else 2)\/y=(if a then 0 else 2)):ajk a x y=if a then 0 else 2:=by cases a;all_goals rcases b with rfl|rfl|rfl<;>rcases c with rfl|rfl|rfl<;>first|rfl|(exfalso;simp at h)
def YV(a:Bool){y:Int}(b:y=0\/y=1\/y=2):ajk a (if a then 2 else 0) y=y/\ajk a y (if a then 2 else 0)=y:=by cases a<;>rcases b with rfl|rfl|rfl<;>exact⟨A,A⟩
def YW{f:List Dt}{E:List Nat}{K:List (List Int)}{t d a b:J}(c:Bool)(h:FN f E K t d)(g:d.op=if c then 17 else 18)(m:d.K=[a,b]):FN f E K t (tY d (if c then 0 else 2) (if c then 2 else 0) a b):=by
 have H:=ek.1 h.rg;have r:d.op=17\/d.op=18:=by cases c<;>simp at g<;>omega
 have n:∀e,cN f d e=sP (ajk c (fj (cN f a e)) (fj (cN f b e))):=λe=>by rw[acE r m];cases c;(.simp only[cy,dz]at g;rw[g];rfl);simp only[fi]at g;rw[g];rfl
 have o:a∈d.K:=by rw[m];simp
 have p:b∈d.K:=by rw[m];simp
 unfold tY;by_cases l:(wK a (if c then 0 else 2)||wK b (if c then 0 else 2))=true;.rw[U l];refine YU h λe _ _=>?_;rw[n,acF c (pU _) (pU _) ?_];(.cases c<;>rfl);rw[dH]at l;exact l.imp wh wh
 rw[I l];by_cases i:(wK a (if c then 2 else 0)&&decide (b.ty=1))=true;.rw[U i];simp only[aA,bG]at i;refine PE h p G λe j q=>?_;rw[n,wh i.1,(YV c (pU _)).1];refine(Fa (EC (H.K b p) j) ?_).symm;rw[<-i.2];exact h.sk b (.step p (.refl _)) e j q
 rw[I i];by_cases k:(wK b (if c then 2 else 0)&&decide (a.ty=1))=true;.rw[U k];simp only[aA,bG]at k;refine PE h o G λe j q=>?_;rw[n,wh k.1,(YV c (pU _)).2];refine(Fa (EC (H.K a o) j) ?_).symm;rw[<-k.2];exact h.sk a (.step o (.refl _)) e j q
 rw[I k];exact h
def not_not{x:Int}(a:x=0\/x=1\/x=2):Xh (fj (sP (Xh x)))=x:=by rcases a with rfl|rfl|rfl<;>rfl
def acG{r:List Dt}{E:List Nat}{K:List (List Int)}{t d:J}(h:FN r E K t d):FN r E K t (pH d):=by
 have H:=ek.1 h.rg;unfold pH;by_cases s:gu d=true;.rw[U s];have B:∀e,cN r d e=jY [] d:=λe=>HE e h.rg s;refine⟨MZ (HF h.rg s),λe g i=>by rw[wg,<-B e,h.zP e g i],λj c y=>Na y _ _ t,λn _=>by simp[hC,ua,EH,ad7],by simp[hC,wy,EI,ad8],λq z e g i=>?_⟩;rw[HG z,wg,<-B e];exact h.sk d (.refl _) e g i
 rw[I s];by_cases u:d.op=17/\d.K.length=2;.rw[U u];obtain⟨a,b,k⟩:=iP u.2;(have g:k0 d=a:=by unfold k0;rw[k];rfl);(have i:k1 d=b:=by unfold k1;rw[k];rfl);rw[g,i];exact YW true h u.1 k
 rw[I u];by_cases v:d.op=18/\d.K.length=2;.rw[U v];obtain⟨a,b,k⟩:=iP v.2;(have g:k0 d=a:=by unfold k0;rw[k];rfl);(have i:k1 d=b:=by unfold k1;rw[k];rfl);rw[g,i];exact YW false h v.1 k
 rw[I v];by_cases w:d.op=4/\d.K.length=1;.rw[U w];obtain⟨a,k⟩:=fI w.2;(have g:k0 d=a:=by unfold k0;rw[k];rfl);rw[g];by_cases o:a.op=4/\a.K.length=1/\(k0 a).ty=1;(.rw[U o];obtain⟨b,A⟩:=fI o.2.1;(have i:k0 a=b:=by unfold k0;rw[A];rfl);rw[i]at o|-;(have p:a∈d.K:=by rw[k];simp);(have l:b∈a.K:=by rw[A];simp);have C:=ek.1 (H.K a p);(have D:∀e,gC e->pb e K->cN r b e=cN r d e:=λe g i=>by rw[Sv w.1 k,Sv o.1 A,not_not (pU _)];refine(Fa (EC (C.K b l) g) ?_).symm;rw[<-o.2.2];exact h.sk b (.step p (.step l (.refl _))) e g i);refine⟨C.K b l,λe g i=>by rw[D e g i,h.zP e g i],λj c y=>aL ?_ (h.lf j c y),λn F=>(jm.1 ((jm.1 (h.qd n F)).1 a p)).1 b l,(hJ.1 ((hJ.1 h.hs).1 a p)).1 b l,λq z=>h.sk q (.step p (.step l z))⟩;(have L:dF j c a<=dF j c d:=by have:=EG (m:=j) (op:=d.op) (lq (f:=dF j c) p) G;rw[fC j c d,I (λq=>G)];omega);(have M:dF j c b<=dF j c a:=by have:=EG (m:=j) (op:=a.op) (lq (f:=dF j c) l) G;rw[fC j c a,I (λq=>G)];omega);omega);rw[I o];exact h
 rw[I w];by_cases x:d.op=23/\2<=d.K.length;.rw[U x];exact YT h x.1 x.2
 rw[I x];exact h
section
structure Nd(db:List Dt)(E:List Nat)(K:List (List Int))(r a:N):Prop where
 rg:mZ db E a
 aP:a.aP.length=r.aP.length
 zP:∀b,gC b->pb b K->er db a b=er db r b
 cx:∀m,PL (dT m a) (dT m r)
 je:∀m F,je m a F<=je m r F
 cap:ei db a<=ei db r
 qd:∀n,tN r<=n->tN a<=n
 hs:wz db a
structure alv(db:List Dt)(E:List Nat)(K:List (List Int))(a b:Ag):Prop where
 nm:b.name=a.name
 di:b.dt=a.dt
 t:F2 (FN db E K) a.t b.t
theorem F2.of_map{c d:Type}{R:c->d->Prop}{f:c->d}:∀{l:List c},(∀a∈l,R a (f a))->F2 R l (l.map f)|[],_=>.nil|a::l,h=>.cons (h a aS) (F2.of_map λb e=>h b (by simp[e]))
section
variable{db:List Dt}{E:List Nat}{K:List (List Int)}
theorem YX{m F G:Nat}(a:F<=G){l k:List N}(h:F2 (Nd db E K) l k):fX m k F<=fX m l G:=by induction h with|nil=>simp[fX]|cons h t b=>rw[fX,fX];exact mL (aL (h.je m F) (nI _ a)) b
theorem af8{m:Nat}{l k:List N}(h:F2 (Nd db E K) l k):ja m k<=ja m l:=by induction h with|nil=>simp[ja]|cons h t a=>rw[ja,ja];have:=h.je m 0;omega
theorem PF{a:List W}(b:gC a)(hk:pb a K){l k:List N}(h:F2 (Nd db E K) l k):cO db k a=cO db l a:=by cases h with|nil=>rfl|cons h t=>rw[eV,eV,h.zP a b hk]
theorem acH{a:List W}(b:gC a)(hk:pb a K){l k:List N}(h:F2 (Nd db E K) l k):fc db k a=fc db l a:=by rw[hV,hV];cases h with|nil=>rfl|cons h t=>exact PF b hk t
theorem Sw{c:List W}(d:gC c)(hk:pb c K){l k:List J}(h:F2 (FN db E K) l k):cF db k c=cF db l c:=by rw[dh,dh];exact h.map λa b e=>e.zP c d hk
theorem aka{a:List W}(b:gC a)(hk:pb a K){l k:List J}(h:F2 (FN db E K) l k):sA db k a=sA db l a:=by rw[mK,mK];induction h with|nil=>rfl|cons h t c=>rw[bD,bD,c,h.zP a b hk]
end
theorem af9{db:List Dt}{E:List Nat}{K:List (List Int)}{t:J}{ks:List J}{o:List N}(y:mn K t=true)(v:rE db t=true)(u:kc db E t)(z:wy db t)(e:F2 (FN db E K) t.K ks)(n:F2 (Nd db E K) t.sub o):FN db E K t (.mk t.op t.v t.depth t.at_ t.name ks o t.ty):=by
 have H:=ek.1 u;obtain⟨I,B⟩:=hJ.1 z;have L:=e.emp;have w:∀j,gC j->pb j K->cN db (.mk t.op t.v t.depth t.at_ t.name ks o t.ty) j=cN db t j:=λj p hk=>qL A A (λ_=>A) A (Sw p hk e) (PF p hk n);refine⟨ek.2 ⟨(by show ks.length<=BK;rw[e.len];exact H.kl),(by show o.length=_;rw[n.len];exact H.Z),λh=>⟨(H.c1 h).1,?_⟩,λh=>⟨?_,(H.c2 h).2⟩,λk hk=>?_,λr u=>?_⟩,w,λi c C=>?_,λk hk=>?_,?_,λq d j p hk=>?_⟩;.have:=(H.c1 h).2;rw[this]at e;cases e;rfl
 .have:=(H.c2 h).1;rw[this]at e;cases e;rfl
 .obtain⟨a,ha,d⟩:=e.mem k hk;exact d.rg
 .obtain⟨a,ha,d⟩:=n.mem r u;exact d.rg
 .rw[fC,fC i c t];show(if t.op=2/\t.depth=0 then c.getD t.at_.toNat 1 else im i t.op (ks.map (dF i c))+i%2*ja i o)<=_;have s:=JO (m:=i) (op:=t.op) (e.Le (f:=dF i c) (g:=dF i c) λa b d=>d.lf i c C);have M:=eu (i%2) (af8 (m:=i) n);split;(.exact af _);omega
 .obtain⟨k1,D⟩:=jm.1 hk;refine jm.2 ⟨λx l=>?_,λx l=>?_⟩;(.obtain⟨a,ha,d⟩:=e.mem x l;exact d.qd _ (k1 a ha));obtain⟨a,ha,d⟩:=n.mem x l;have s:=D a ha;have:=d.qd (k-1) G;omega
 .refine hJ.2 ⟨λx l=>?_,λx l=>?_⟩;(.obtain⟨a,ha,d⟩:=e.mem x l;exact d.hs);obtain⟨a,ha,d⟩:=n.mem x l;have s:=(B a ha).1;exact⟨⟨aL (d.je 0 0) s.p0,aL (d.je 1 0) s.p1,aL d.cap s.cap⟩,d.hs⟩
 cases d with|refl=>rw[w j p hk];exact Vj y v u hk|step F d=>obtain⟨a,ha,v⟩:=e.mem _ F;exact v.sk q d j p hk
section
variable{db:List Dt}{E:List Nat}{K:List (List Int)}{r:N}{ks:List N}{ts:List J}{um:List Ag}(H:aco db E r)(hk:F2 (Nd db E K) r.K ks)(ht:F2 (FN db (mY r.op r.K::E) (eN r.K::K)) r.ao ts)(ha:F2 (alv db (mY r.op r.K::E) (eN r.K::K)) r.aJ um)
include H hk ht ha
theorem Kb(i:Nat):wd ks i=wd r.K i:=by have h:=hk.map (f:=λr:N=>r.aP.length) (g:=λr:N=>r.aP.length) λa b q=>q.aP;unfold wd;rw[h]
theorem acI:mY r.op ks=mY r.op r.K:=by unfold mY;rw[Kb H hk ht ha,Kb H hk ht ha]
theorem acJ:mZ db E (.mk r.op r.de r.aP ks ts um r.cq r.bH r.skip r.all r.rows):=by
 have f:=Kb H hk ht ha;have e:=acI H hk ht ha;refine dB.2 ⟨⟨H.o.o,by show(ks.length:Int)=_;rw[hk.len];exact H.o.k,H.o.c,by show ts.length<=BK;rw[ht.len];exact H.o.t,λg i=>?_,λh=>?_,λh=>by show ts.length=1;rw[ht.len];exact H.o.t3 h,λh=>by show ts.length<=1;rw[ht.len];exact H.o.t5 h,λh=>?_,λh=>?_⟩,H.tb,H.rw,λk d=>?_,λt d=>?_,λa d t j=>?_⟩;.show r.aP.length=if r.op=4 then ts.length else if r.op=7 then ts.length+um.length else mY r.op ks;rw[e,ht.len,ha.len];exact H.o.w g i
 .show wd ks 1=wd ks 0;rw[f,f];exact H.o.s h
 .show ts=[];have:=H.o.tn h;rw[this]at ht;cases ht;rfl
 .show um=[];have:=H.o.an h;rw[this]at ha;cases ha;rfl
 .obtain⟨a,_,q⟩:=hk.mem k d;exact q.rg
 .show kc db (mY r.op ks::E) t;rw[e];obtain⟨a,_,q⟩:=ht.mem t d;exact q.rg
 show kc db (mY r.op ks::E) t;rw[e];obtain⟨b,_,q⟩:=ha.mem a d;obtain⟨c,_,q⟩:=q.t.mem t j;exact q.rg
theorem YY(B:∀k∈r.K,rD K k=true)(C:∀k∈r.K,tP db k=true)(j:List W)(n:gC j)(o:pb j K):er db (.mk r.op r.de r.aP ks ts um r.cq r.bH r.skip r.all r.rows) j=er db r j:=by
 have s:∀k∈r.K,∀x∈er db k j,(∀v∈x,kz v)/\KR x (dp k.aP):=λk hk x e=>⟨(xv (H.K k hk) n x e).2,YS (B k hk) (C k hk) (H.K k hk) o x e⟩;refine xt (λx=>(∀v∈x,kz v)/\KR x (eN r.K)) A A A A A A A (PF n o hk) (acH n o hk) ?_ (λD x e=>?_) (λD a ha b u=>?_) (λx e=>aka (n.cons e.1) (o.cons e.2) ht) (λx e=>Sw (n.cons e.1) (o.cons e.2) ht) ?_ (λrows w=>?_);.have h:=hk.map (f:=λr:N=>r.aP.length) (g:=λr:N=>r.aP.length) λa b q=>q.aP;show(ks[1]?).map _=_;rw[<-ck,<-ck,h]
 .obtain⟨a,i⟩:=H.o.one G;rw[i,eV]at e;rw[i,po];exact s a (by rw[i];simp) x e
 .obtain⟨c,d,i⟩:=H.o.two G;rw[i,eV]at ha;rw[i,hV]at u;have y:=s c (by rw[i];simp) a ha;have z:=s d (by rw[i];simp) b (by simpa[eV]using u);rw[i,HC];refine⟨λv p=>?_,y.2.app z.2⟩;rcases aZ.1 p with p|p;(.exact y.1 v p);exact z.1 v p
 .show ts.isEmpty=r.ao.isEmpty;exact ht.emp
 show iX db um rows j=_;rw[jD,jD];refine ha.map λa b q=>?_;rw[qK,qK,q.nm,q.di];obtain⟨F,I,l⟩:=a;obtain⟨J,L,m⟩:=b;have q:=q.t;simp only[Ag.t]at q;cases q with|nil=>rfl|cons h t=>show wv _ _ true (rows.map _)=wv _ _ true (rows.map _);rw[bF λx e=>h.zP (x::j) (n.cons (w x e).1) (o.cons (w x e).2)]
theorem Nf(m:Nat):PL (cin m (.mk r.op r.de r.aP ks ts um r.cq r.bH r.skip r.all r.rows)) (cin m r):=by have h:=λi=>PL.getD hk (f:=dT m) (g:=dT m) (λa b q=>q.cx m) i;unfold cin;show PL (if r.op=5\/r.op=6 then _ else _) _;split;(.exact(h 0).app (h 1));exact h 0
theorem acK(c:Nat):PL (dT c (.mk r.op r.de r.aP ks ts um r.cq r.bH r.skip r.all r.rows)) (dT c r):=by
 have n:=Nf H hk ht ha c;have h:=λi=>PL.getD hk (f:=dT c) (g:=dT c) (λa b q=>q.cx c) i;have p:PL ((ts.map (dF (md c) (cin c (.mk r.op r.de r.aP ks ts um r.cq r.bH r.skip r.all r.rows)))).map (max 1)) ((r.ao.map (dF (md c) (cin c r))).map (max 1)):=PL.mx (PL.map ht λa b q=>aL (q.lf (md c) _ (zb c _)) (BG n.2 a));rw[lM,lM c r,show(N.mk r.op r.de r.aP ks ts um r.cq r.bH r.skip r.all r.rows).op=r.op from A];by_cases e:r.op=4;.rw[U e,U e];exact p
 rw[I e,I e];by_cases j:r.op=7;.rw[U j,U j];refine p.app ?_;show PL (List.replicate um.length 1) _;rw[ha.len];exact PL.refl _
 rw[I j,I j];by_cases k:r.op=5\/r.op=6;.rw[U k,U k];exact n
 rw[I k,I k];by_cases l:r.op=3\/r.op=8\/r.op=12;.rw[U l,U l];exact n
 rw[I l,I l];by_cases d:r.op=9;.rw[U d,U d];refine(h 0).zip (h 1) ?_;obtain⟨a,b,o⟩:=H.o.two (.inr (.inr (.inl d)));have s:=H.o.s (.inl d);rw[o]at s|-;have t:=jE (m:=c) (H.K a (by rw[o];simp));have u:=jE (m:=c) (H.K b (by rw[o];simp));show(dT c a).length=(dT c b).length;rw[t,u];exact s.symm
 rw[I d,I d];exact PL.refl _
theorem YZ(m F:Nat):je m (.mk r.op r.de r.aP ks ts um r.cq r.bH r.skip r.all r.rows) F<=je m r F:=by
 have c:=Nf H hk ht ha m;have d:(ts.map (dF m (cin m (.mk r.op r.de r.aP ks ts um r.cq r.bH r.skip r.all r.rows)))).sum<=(r.ao.map (dF m (cin m r))).sum:=ht.sum λa b q=>aL (q.lf m _ (zb m _)) (BG c.2 a);have e:(um.map (JN m (cin m (.mk r.op r.de r.aP ks ts um r.cq r.bH r.skip r.all r.rows)))).sum<=(r.aJ.map (JN m (cin m r))).sum:=ha.sum λa b q=>by rw[va,va];exact q.t.sum λx y q=>aL (q.lf m _ (zb m _)) (BG c.2 x)
 rw[hR,hR m r];show(if r.op=3 then fX m ks (F+(ts.map _).sum)else comb m (F+(if m=0/\¬(r.op=5\/r.op=6)then 0 else(ts.map _).sum+(um.map _).sum)) (fX m ks F))<=_;split;.exact YX G hk
 exact mL (by split<;>omega) (YX (af _) hk)
theorem Za:ei db (.mk r.op r.de r.aP ks ts um r.cq r.bH r.skip r.all r.rows)<=ei db r:=by
 have a:∀{l k:List N},F2 (Nd db E K) l k->∀i,(k.map (ei db)).getD i 1<=(l.map (ei db)).getD i 1:=λh=>by induction h with|nil=>intro i;exact af _|cons h t b=>intro i;cases i with|zero=>exact h.cap|succ i=>exact b i
 have c:=a hk 0;have d:=a hk 1;rw[kQ,kQ db r];show(if r.op=1 then max 1 (jM db r.de).length else if r.op=2 then max 1 r.rows.length else if r.op=5\/r.op=6 then(ks.map (ei db)).getD 0 1*(ks.map (ei db)).getD 1 1 else if r.op=9\/r.op=10\/r.op=11 then(ks.map (ei db)).getD 0 1+(ks.map (ei db)).getD 1 1 else(ks.map (ei db)).getD 0 1)<=_;split;.exact af _
 split;.exact af _
 split;.exact ea c d
 split<;>omega
theorem acL(h:∀k∈r.K,rD K k=true)(i:∀k∈r.K,tP db k=true)(d:wz db r):Nd db E K r (.mk r.op r.de r.aP ks ts um r.cq r.bH r.skip r.all r.rows):=by
 refine⟨acJ H hk ht ha,A,YY H hk ht ha h i,acK H hk ht ha,YZ H hk ht ha,Za H hk ht ha,λn j=>?_,?_⟩;.obtain⟨l,m,o⟩:=gV.1 j;refine gV.2 ⟨λt d=>?_,λa d t f=>?_,λk d=>?_⟩;(.obtain⟨a,e,q⟩:=ht.mem t d;exact q.qd n (l a e));(.obtain⟨b,e,q⟩:=ha.mem a d;obtain⟨c,g,q⟩:=q.t.mem t f;exact q.qd n (m b e c g));obtain⟨a,e,q⟩:=hk.mem k d;exact q.qd n (o a e)
 refine gk.2 ⟨λt d=>?_,λa d t f=>?_,λk d=>?_⟩;.obtain⟨a,e,q⟩:=ht.mem t d;exact q.hs
 .obtain⟨b,e,q⟩:=ha.mem a d;obtain⟨c,g,q⟩:=q.t.mem t f;exact q.hs
 obtain⟨a,e,q⟩:=hk.mem k d;exact q.hs
end
theorem acM{db:List Dt}{E:List Nat}{K:List (List Int)}{r b:N}(h:Nd db E K r b)(g:∀c,gC c->pb c K->er db b c=[]):Nd db E K r (uO b):=by
 have H:=dB.1 h.rg;refine⟨dB.2 ⟨⟨(by show(1:Int)<=2/\(2:Int)<=12;decide),A,H.o.c,au _,λ_ q=>absurd A q,λq=>(by simp[uO,N.op]at q),λq=>(by simp[uO,N.op]at q),λq=>(by simp[uO,N.op]at q),λ_=>A,λ_=>A⟩,λq=>(by simp[uO,N.op]at q),λ_ x j=>(by cases j),λk hk=>(by cases hk),λt ht=>(by cases ht),λa ha=>(by cases ha)⟩,h.aP,λc d f=>?_,λm=>?_,λm F=>?_,?_,λn _=>by simp[uO,tN,EH,Va,Vb],by simp[uO,wz,EI,Vc,Vd]⟩;.rw[<-h.zP c d f,g c d f,ig];rfl
 .have e:dT m (uO b)=List.replicate b.aP.length 1:=by show dT m (.mk 2 [] b.aP [] [] [] [] 0 0 false [])=_;rw[lM];simp[N.op,N.aP]
  refine PL.trans ⟨by rw[jE h.rg,e,ui],λi=>aL ?_ ((AO m b).get i)⟩ (h.cx m);rw[e,az,List.getElem?_replicate];split<;>exact af _
 .refine aL (aL (mQ ?_) (JP h.rg F)) (h.je m F);show je m (.mk 2 [] b.aP [] [] [] [] 0 0 false []) F=F;rw[hR];simp[N.op,N.K,N.ao,N.aJ,fX,Hu]
 refine aL (aL (mQ ?_) (CD db b)) h.cap;show ei db (.mk 2 [] b.aP [] [] [] [] 0 0 false [])=1;rw[kQ];rfl
theorem Zb{db:List Dt}{E:List Nat}{K:List (List Int)}{r a:N}(h:Nd db E K r a):Nd db E K r (Bz a):=by have H:=dB.1 h.rg;unfold Bz;by_cases b:a.op=3/\a.K.length=1/\a.ao.length=1/\(t0 a).op=1;(.rw[U b];obtain⟨k,hk⟩:=fI b.2.1;obtain⟨t,ht⟩:=fI b.2.2.1;(have f:r0 a=k:=by unfold r0;rw[hk];rfl);(have d:t0 a=t:=by unfold t0;rw[ht];rfl);have g:=b.2.2.2;rw[d]at g;rw[f,d];(have j:∀c,cN db t c=t.v:=λc=>by rw[fZ,U g]);(have i:k∈a.K:=by rw[hk];simp);(have l:a.aP.length=k.aP.length:=by rw[H.o.w G G,I G,I G,hk,qM G]);by_cases e:wK t 2=true;(.rw[U e];refine⟨H.K k i,by rw[<-l,h.aP],λc f d=>?_,λm=>?_,λm F=>?_,?_,λn o=>(gV.1 (h.qd n o)).2.2 k i,(gk.1 h.hs).2.2 k i⟩;(.rw[<-h.zP c f d,run_filter3 b.1 hk ht];symm;refine oQ.2 λx _=>?_;unfold nE;have:=wh (b:=db) (c:=x::c) e;simpa using this);(.rw[<-nJ (.inl b.1) hk];exact h.cx m);(.refine aL ?_ (h.je m F);rw[iB b.1 hk ht];exact nI k G);rw[<-tj b.1 hk];exact h.cap);rw[I e];refine acM h λc f d=>?_;rw[run_filter3 b.1 hk ht];refine jr.2 λx _=>?_;unfold nE;rw[j];unfold wK at e;simpa[g]using e);rw[I b];exact h
theorem wi:∀{a:List J},rX a↔∀t∈a,BY t|[]=>by simp[rX]|t::a=>by simp[rX,wi (a:=a)]
theorem AW:∀{a:List N},tM a↔∀t∈a,Ej t|[]=>by simp[tM]|t::a=>by simp[tM,AW (a:=a)]
theorem HH:∀{b:List Ag},yL b↔∀a∈b,∀t∈a.t,BY t|[]=>by simp[yL]|.mk c d t::b=>by simp[yL,HH (b:=b),abZ,wi,Ag.t]
theorem Fe(db:List Dt):∀n:Nat,(∀(t:J)(K:List (List Int))(E:List Nat),SizeOf.sizeOf t<n->mn K t=true->rE db t=true->kc db E t->wy db t->FN db E K t (ow t)/\BY t)/\(∀(r:N)(K:List (List Int))(E:List Nat),SizeOf.sizeOf r<n->rD K r=true->tP db r=true->mZ db E r->wz db r->Nd db E K r (oN r)/\Ej r)
|0=>⟨λt _ _ h=>absurd h (aB _),λt _ _ h=>absurd h (aB _)⟩|n+1=>by
 obtain⟨l,s⟩:=Fe db n;refine⟨λt K E x d f g b=>?_,λr K E x d f g b=>?_⟩;.have Y:=Sr.1 d;have F:=JZ.1 f;have H:=ek.1 g;obtain⟨m,o⟩:=hJ.1 b;have c:∀k∈t.K,FN db E K k (ow k)/\BY k:=λk hk=>l k K E (by have:=J.bK hk;omega) (Y.K k hk) (F.K k hk) (H.K k hk) (m k hk);have u:∀k∈t.sub,Nd db E K k (oN k)/\Ej k:=λk hk=>s k K E (by have:=J.sub_lt hk;omega) (Y.sub k hk) (F.sub k hk) (H.sub k hk) (o k hk).2;have i:FN db E K t (jO t):=af9 d f g b (F2.of_map λk hk=>(c k hk).1) (F2.of_map λk hk=>(u k hk).1);refine⟨by rw[LQ];exact acG i,?_⟩;(have e:BY t↔(rX t.K/\tM t.sub/\(gu (jO t)=true->lj [] (jO t))):=by cases t;rw[BY,nA,pI];rfl);rw[e];exact⟨wi.2 λk hk=>(c k hk).2,AW.2 λk hk=>(u k hk).2,λq=>MY _ _ E (ax _) i.rg q⟩
 have Y:=Ss.1 d;have H:=dB.1 g;obtain⟨m,o,y⟩:=gk.1 b;have j:(∀k∈r.K,tP db k=true)/\(∀t∈r.ao,rE db t=true)/\∀a∈r.aJ,∀t∈a.t,rE db t=true:=by have F:=PC f;by_cases p:r.op=1;(.have:=H.o.k;rw[nF,U G]at this;have z:r.K=[]:=ay G;rw[z,H.o.tn G,H.o.an G];exact⟨λk hk=>(by cases hk),λk hk=>(by cases hk),λk hk=>(by cases hk)⟩);exact⟨F.K p,F.ao p,F.aJ p⟩
 have c:∀k∈r.K,Nd db E K k (oN k)/\Ej k:=λk hk=>s k K E (by have:=N.bK hk;omega) (Y.K k hk) (j.1 k hk) (H.K k hk) (y k hk);have v:∀t∈r.ao,FN db (mY r.op r.K::E) (eN r.K::K) t (ow t)/\BY t:=λt ht=>l t _ _ (by have:=N.eD ht;omega) (Y.ao t ht) (j.2.1 t ht) (H.ao t ht) (m t ht);have w:∀a∈r.aJ,∀t∈a.t,FN db (mY r.op r.K::E) (eN r.K::K) t (ow t)/\BY t:=λa ha t ht=>l t _ _ (by have:=N.hQ ha;have:=Ag.qi ht;omega) (Y.aJ a ha t ht) (j.2.2 a ha t ht) (H.aJ a ha t ht) (o a ha t ht);have i:Nd db E K r (rp r):=acL H (F2.of_map λk hk=>(c k hk).1) (F2.of_map λt ht=>(v t ht).1) (F2.of_map λa ha=>by rw[LR];exact⟨A,A,F2.of_map λt ht=>(w a ha t ht).1⟩) Y.K j.1 b;refine⟨by rw[LS];exact Zb i,?_⟩;have e:Ej r↔(tM r.K/\rX r.ao/\yL r.aJ):=by cases r;rw[Ej];rfl
 rw[e];exact⟨AW.2 λk hk=>(c k hk).2,wi.2 λt ht=>(v t ht).2,HH.2 λa ha t ht=>(w a ha t ht).2⟩
theorem acN{db:List Dt}{r:N}(a:rD [] r=true)(b:tP db r=true)(c:mZ db [] r)(d:wz db r):Ct 9 [dd r] (dd (oN r))/\Nd db [] [] r (oN r):=by obtain⟨e,f⟩:=(Fe db _).2 r [] [] (ax _) a b c d;exact⟨ab0 f,e⟩
end
def MX:Nat:=1048576
mutual
def sB:J->Nat|.mk op v d a b K sub ty=>min ((if op=2 then 1 else 0)+(PG K+PH sub)) MX
def PG:List J->Nat|[]=>0|t::l=>sB t+PG l
def akJ:Ag->Nat|.mk a d t=>PG t
def Zc:List Ag->Nat|[]=>0|a::l=>akJ a+Zc l
def Cf:N->Nat|.mk op a aP K ao aJ cq bH skip all rows=>min (PH K+(PG ao+Zc aJ)) MX
def PH:List N->Nat|[]=>0|r::l=>Cf r+PH l
end
def jB:List J->Nat|[]=>1|t::l=>max (sB t) (jB l)
def Ng:List Ag->Nat|[]=>1|a::l=>max (jB a.t) (Ng l)
mutual
def xN:J->Nat|.mk op v d a b K sub ty=>max (ll K) (oF sub)
def ll:List J->Nat|[]=>1|t::l=>max (xN t) (ll l)
def akb:Ag->Nat|.mk a d t=>ll t
def Kc:List Ag->Nat|[]=>1|a::l=>max (akb a) (Kc l)
def oC:N->Nat|.mk op a aP K ao aJ cq bH skip all rows=>if op=4\/op=7 then min (max (oF K) (max (ll ao) (Kc aJ))*min (max (jB ao) (Ng aJ)) MX) MX else max (oF K) (max (ll ao) (Kc aJ))
def oF:List N->Nat|[]=>1|r::l=>max (oC r) (oF l)
end
mutual
def na:J->Nat|.mk op v d a b K sub ty=>PI K+aiE sub
def PI:List J->Nat|[]=>0|t::l=>na t+PI l
def akK:Ag->Nat|.mk a d t=>PI t
def Zd:List Ag->Nat|[]=>0|a::l=>akK a+Zd l
def mj:N->Nat|.mk op a aP K ao aJ cq bH skip all rows=>(if 1<K.length then 2 else 1+rows.length)+(Ze K+(PI ao+Zd aJ))
def Ze:List N->Nat|[]=>0|r::l=>mj r+Ze l
def aiE:List N->Nat|[]=>0|r::l=>4+mj r+aiE l
end
mutual
def xT:J->Nat|.mk op v d a b K sub ty=>1+af' K+ag7 sub
def af':List J->Nat|[]=>0|t::l=>xT t+af' l
def xA:Ag->Nat|.mk a d t=>af' t
def aiF:List Ag->Nat|[]=>0|a::l=>xA a+aiF l
def xR:N->Nat|.mk op a aP K ao aJ cq bH skip all rows=>ag7 K+(af' ao+aiF aJ)
def ag7:List N->Nat|[]=>0|r::l=>xR r+ag7 l
end
mutual
def PJ:J->Nat|.mk op v d a b K sub ty=>(if op=2 then 1 else 0)+Zf K
def Zf:List J->Nat|[]=>0|t::l=>PJ t+Zf l
end
mutual
def HI:J->Nat|.mk op v d a b K sub ty=>(if op=17/\K.length=2 then 1 else 0)+Nh K
def Nh:List J->Nat|[]=>0|t::l=>HI t+Nh l
end
def eQ(l:List Ag):List J:=l.flatMap Ag.t
mutual
def Kv:N->Nat|.mk op a aP K ao aJ cq bH skip all rows=>Zg K+(if op=4\/op=7 then 0 else(ao.length+Nh ao)+((eQ aJ).length+Nh (eQ aJ)))
def Zg:List N->Nat|[]=>0|r::l=>Kv r+Zg l
end
mutual
def HJ:N->Nat|.mk op a aP K ao aJ cq bH skip all rows=>Zh K+(if op=4\/op=7 then Nh ao else 0)
def Zh:List N->Nat|[]=>0|r::l=>HJ r+Zh l
end
def zr:∀l:List J,PG l=(l.map sB).sum|[]=>by simp[PG]|t::l=>by simp[PG,zr l]
def Ni:∀l:List J,Zf l=(l.map PJ).sum|[]=>by simp[Zf]|t::l=>by simp[Zf,Ni l]
def vg:∀l:List J,Nh l=(l.map HI).sum|[]=>by simp[Nh]|t::l=>by simp[Nh,vg l]
def CG:∀l:List J,af' l=(l.map xT).sum|[]=>by simp[af']|t::l=>by simp[af',CG l]
def zs:∀l:List J,PI l=(l.map na).sum|[]=>by simp[PI]|t::l=>by simp[PI,zs l]
def Nj:∀l:List N,Zg l=(l.map Kv).sum|[]=>by simp[Zg]|t::l=>by simp[Zg,Nj l]
def Nk:∀l:List N,Zh l=(l.map HJ).sum|[]=>by simp[Zh]|t::l=>by simp[Zh,Nk l]
def Ke:∀l:List N,ag7 l=(l.map xR).sum|[]=>by simp[ag7]|t::l=>by simp[ag7,Ke l]
def Nl:∀l:List N,Ze l=(l.map mj).sum|[]=>by simp[Ze]|t::l=>by simp[Ze,Nl l]
def Sx:∀l:List N,aiE l=(l.map λr=>4+mj r).sum|[]=>by simp[aiE]|t::l=>by simp[aiE,Sx l]
def Nn:∀l:List Ag,aiF l=((eQ l).map xT).sum|[]=>by simp[aiF,eQ]|.mk a d t::l=>by simp[aiF,xA,eQ,CG,Ag.t,Nn l]
def HK:∀l:List Ag,Zd l=((eQ l).map na).sum|[]=>by simp[Zd,eQ]|.mk a d t::l=>by simp[Zd,akK,eQ,zs,Ag.t,HK l]
def AX(m:Nat)(c:List Nat):∀l:List Ag,(l.map (JN m c)).sum=((eQ l).map (dF m c)).sum|[]=>by simp[eQ]|.mk a d t::l=>by simp[eQ,Ag.t,va,AX m c l]
def PK(t:J):sB t=min ((if t.op=2 then 1 else 0)+((t.K.map sB).sum+PH t.sub)) MX:=by cases t;rw[sB,zr];rfl
def PM(t:J):PJ t=(if t.op=2 then 1 else 0)+(t.K.map PJ).sum:=by cases t;rw[PJ,Ni];rfl
def Zi(t:J):HI t=(if t.op=17/\t.K.length=2 then 1 else 0)+(t.K.map HI).sum:=by cases t;rw[HI,vg];rfl
def HL(t:J):xT t=1+(t.K.map xT).sum+(t.sub.map xR).sum:=by cases t;rw[xT,CG,Ke];rfl
def xB(t:J):na t=(t.K.map na).sum+(t.sub.map λr=>4+mj r).sum:=by cases t;rw[na,zs,Sx];rfl
def Zj(r:N):Kv r=(r.K.map Kv).sum+(if r.op=4\/r.op=7 then 0 else(r.ao.length+(r.ao.map HI).sum)+((eQ r.aJ).length+((eQ r.aJ).map HI).sum)):=by cases r;rw[Kv,Nj,vg,vg];rfl
def PN(r:N):HJ r=(r.K.map HJ).sum+(if r.op=4\/r.op=7 then(r.ao.map HI).sum else 0):=by cases r;rw[HJ,Nk,vg];rfl
def Sy(r:N):xR r=(r.K.map xR).sum+((r.ao.map xT).sum+((eQ r.aJ).map xT).sum):=by cases r;rw[xR,Ke,CG,Nn];rfl
def tq(r:N):mj r=(if 1<r.K.length then 2 else 1+r.rows.length)+((r.K.map mj).sum+((r.ao.map na).sum+((eQ r.aJ).map na).sum)):=by cases r;rw[mj,Nl,zs,HK];rfl
def wj{N:Nat}:∀{d:List J},ll d<=N↔1<=N/\∀t∈d,xN t<=N|[]=>by simp[ll]|t::d=>by rw[ll,fR,wj (d:=d)];simp only[fx];exact⟨λ⟨a,b,c⟩=>⟨b,a,c⟩,λ⟨a,b,c⟩=>⟨b,a,c⟩⟩
def zt{e:Nat}:∀{d:List N},oF d<=e↔1<=e/\∀t∈d,oC t<=e|[]=>by simp[oF]|t::d=>by rw[oF,fR,zt (d:=d)];simp only[fx];exact⟨λ⟨a,b,c⟩=>⟨b,a,c⟩,λ⟨a,b,c⟩=>⟨b,a,c⟩⟩
def Sz{N:Nat}:∀{e:List Ag},Kc e<=N↔1<=N/\∀t∈eQ e,xN t<=N|[]=>by simp[Kc,eQ]|.mk f d t::e=>by rw[Kc,fR,Sz (e:=e),akb,wj];simp only[eQ,zJ,aZ,Ag.t];exact⟨λ⟨⟨a,b⟩,_,c⟩=>⟨a,λt h=>h.elim (b t) (c t)⟩,λ⟨a,b⟩=>⟨⟨a,λt h=>b t (.inl h)⟩,a,λt h=>b t (.inr h)⟩⟩
def vh{N:Nat}:∀{d:List J},jB d<=N↔1<=N/\∀t∈d,sB t<=N|[]=>by simp[jB]|t::d=>by rw[jB,fR,vh (d:=d)];simp only[fx];exact⟨λ⟨a,b,c⟩=>⟨b,a,c⟩,λ⟨a,b,c⟩=>⟨b,a,c⟩⟩
def Ff{N:Nat}{t:J}:xN t<=N↔1<=N/\(∀k∈t.K,xN k<=N)/\∀r∈t.sub,oC r<=N:=by cases t;rw[xN,fR,wj,zt];exact⟨λ⟨⟨a,b⟩,_,c⟩=>⟨a,b,c⟩,λ⟨a,b,c⟩=>⟨⟨a,b⟩,a,c⟩⟩
def gf(r:N):Nat:=max (oF r.K) (max (ll r.ao) (Kc r.aJ))
def nj(r:N):Nat:=max (jB r.ao) (Ng r.aJ)
def PO(r:N):oC r=if r.op=4\/r.op=7 then min (gf r*min (nj r) MX) MX else gf r:=by cases r;rw[oC];rfl
def pV{e:Nat}{r:N}:gf r<=e↔1<=e/\(∀k∈r.K,oC k<=e)/\(∀t∈r.ao,xN t<=e)/\∀t∈eQ r.aJ,xN t<=e:=by unfold gf;rw[fR,fR,zt,wj,Sz];exact⟨λ⟨⟨a,b⟩,⟨_,c⟩,_,d⟩=>⟨a,b,c,d⟩,λ⟨a,b,c,d⟩=>⟨⟨a,b⟩,⟨a,c⟩,a,d⟩⟩
def AY(r:N):1<=gf r:=(pV.1 (af (gf r))).1
def Zk(r:N):1<=nj r:=by unfold nj;have:=(vh.1 (af (jB r.ao))).1;omega
def Vk{r:N}{t:J}(h:t∈r.ao):sB t<=nj r:=by unfold nj;have:=(vh.1 (af (jB r.ao))).2 t h;omega
def vi{r:N}(h:oC r<MX):gf r<=oC r/\((r.op=4\/r.op=7)->oC r=gf r*nj r/\nj r<MX):=by have b:=AY r;have c:=Zk r;rw[PO]at h|-;by_cases a:r.op=4\/r.op=7;(.rw[U a]at h|-;have d:gf r*min (nj r) MX<MX:=G;have g:min (nj r) MX<=gf r*min (nj r) MX:=gZ _ b;have f:nj r<MX:=G;have e:min (nj r) MX=nj r:=G;rw[e]at d|-;have i:gf r<=gf r*nj r:=jd _ c;exact⟨by omega,λ_=>⟨by omega,f⟩⟩);rw[I a];exact⟨af _,λq=>absurd q a⟩
def HM{c:Type}{f g h:c->Nat}{M:Nat}:∀{b:List c},(∀x∈b,f x<=g x+h x*M)->(b.map f).sum<=(b.map g).sum+(b.map h).sum*M|[],_=>by simp|a::b,q=>by have e:=q a aS;have i:=HM (b:=b) λx d=>q x (by simp[d]);simp only[aw,bj,cc];omega
def Cb(c:List Nat)(M:Nat):Prop:=∀i,c.getD i 1<=M
def Cb.one{c:List Nat}{M:Nat}(h:Cb c M):1<=M:=by have:=h c.length;rwa[az,bO (af _)]at this
def HN{c:List Nat}{M:Nat}(r:Cb c M):∀(n:Nat)(t:J),SizeOf.sizeOf t<n->∃p q,dF 0 c t<=q+p*M/\p+q<=1+HI t/\p<=PJ t
|0,t,h=>absurd h (aB _)|n+1,t,h=>by
 rw[fC,Zi,PM];by_cases f:t.op=2/\t.depth=0;.rw[U f];have:=r t.at_.toNat;exact⟨1,0,G,G,by rw[U f.1];omega⟩
 rw[I f];have e:=λk(e:k∈t.K)=>HN r n k (by have:=J.bK e;omega);unfold im;rw[U A];by_cases d:t.op=17/\t.K.length=2;.obtain⟨a,b,g⟩:=iP d.2;obtain⟨i,j,u,v,w⟩:=e a (by rw[g];simp);obtain⟨m,o,B,C,D⟩:=e b (by rw[g];simp);rw[U ⟨d.1,by rw[aF];exact d.2⟩,U d,g];refine⟨i+m,j+o,?_,?_,?_⟩;(.simp only[aw,bN,bj,kU,cc];omega);(.simp only[aw,bN,bj,kU];omega);simp only[aw,bN,bj,kU];omega
 rw[I (by rw[aF];exact d),I d];have E:∀l:List J,(∀k∈l,k∈t.K)->∃p q,(l.map (dF 0 c)).foldr max 1<=q+p*M/\p+q<=1+(l.map HI).sum/\p<=(l.map PJ).sum:=λl=>by induction l with|nil=>intro _;exact⟨0,1,by simp,by simp,au _⟩|cons k l F=>intro s;obtain⟨i,j,u,v,w⟩:=e k (s k aS);obtain⟨m,o,B,C,D⟩:=F λx H=>s x (by simp[H]);simp only[aw,lF,bj];by_cases K:dF 0 c k<=(l.map (dF 0 c)).foldr max 1;(.exact⟨m,o,G,G,G⟩);exact⟨i,j,G,G,G⟩
 obtain⟨p,q,x,y,z⟩:=E t.K λ_ h=>h;exact⟨p,q,G,G,G⟩
def Zl{c:List Nat}{M:Nat}(a:Cb c M)(t:J):∃p q,dF 0 c t<=q+p*M/\p+q<=1+HI t/\p<=PJ t:=HN a _ t (ax _)
def acO{c:List Nat}{M:Nat}(a:Cb c M)(t:J):dF 0 c t<=(1+HI t)*M:=by obtain⟨p,q,x,y,_⟩:=Zl a t;have b:=bZ M y;have d:q<=q*M:=jd _ a.one;rw[cc]at b;omega
def HO{c:List Nat}{b:Nat}(j:Cb c b):∀(n:Nat)(t:J),SizeOf.sizeOf t<n->dF 2 c t<=PJ t*b
|0,t,o=>absurd o (aB _)|n+1,t,o=>by
 have r:=j.one;rw[fC,PM,cc];by_cases m:t.op=2/\t.depth=0;.rw[U m,U m.1];have:=j t.at_.toNat;omega
 rw[I m];have s:(t.K.map (dF 2 c)).sum<=(t.K.map PJ).sum*b:=by (have:=HM (f:=dF 2 c) (g:=λ_=>0) (h:=PJ) (M:=b) (b:=t.K) λk p=>by have:=HO j n k (by have:=J.bK p;omega);omega);(have e:∀d:List J,(d.map λ_=>(0:Nat)).sum=0:=λd=>by induction d with|nil=>rfl|cons a d q=>simp[q]);rw[e]at this;omega
 unfold im;rw[I aD];by_cases i:t.op=2;.rw[U i,U i];omega
 rw[I i,I i];omega
def aga{c:List Nat}{M:Nat}(a:Cb c M)(t:J):dF 2 c t<=PJ t*M:=HO a _ t (ax _)
def Zm{c:Type}{f g:c->Nat}{N:Nat}:∀{b:List c},(∀x∈b,f x<=g x\/N<=g x)->(b.map f).sum<=(b.map g).sum\/N<=(b.map g).sum|[],_=>.inl (af _)|a::b,q=>by have e:=q a aS;have h:=Zm (b:=b) λx d=>q x (by simp[d]);simp only[aw,bj];omega
def aef:∀(n:Nat)(t:J),SizeOf.sizeOf t<n->PJ t<=sB t\/MX<=sB t|0,t,h=>absurd h (aB _)|n+1,t,h=>by rw[PK,PM];have:=Zm (f:=PJ) (g:=sB) (N:=MX) (b:=t.K) λk a=>aef n k (by have:=J.bK a;omega);omega
def vj{b:Type}{f:b->List Nat}{l:List b}{M:Nat}(c:1<=M)(h:∀a∈l,Cb (f a) M)(i:Nat):Cb ((l.map f).getD i []) M:=by rw[az,ck];cases d:l[i]?with|none=>intro x;simpa using c|some v=>exact h v (bb d)
def Cb.app{a b:List Nat}{M:Nat}(c:Cb a M)(d:Cb b M):Cb (a++b) M:=λi=>by by_cases e:i<a.length;(.rw[vY e];exact c i);rw[vZ G];exact d _
def Kf{c:List Nat}{M:Nat}(a:1<=M)(h:∀x∈c,x<=M):Cb c M:=λi=>by rw[az];cases b:c[i]?with|none=>exact a|some v=>exact h v (bb b)
def HP{c:List Nat}{M N:Nat}(h:Cb c M)(a:M<=N):Cb c N:=λi=>aL (h i) a
def dx{b:Type}{f:b->Nat}{l:List b}{a:b}(h:a∈l):f a<=(l.map f).sum:=CA h
def tm(m:Nat)(r:N):Nat:=if m=0 then HJ r else 0
def SA(m:Nat)(r:N):(r.K.map (tm m)).sum+(if m=0/\(r.op=4\/r.op=7)then(r.ao.map HI).sum else 0)=tm m r:=by
 by_cases h:m=0;.subst h;(have e:∀l:List N,(l.map (tm 0)).sum=(l.map HJ).sum:=λl=>by induction l with|nil=>rfl|cons a l b=>simp only[aw,bj,b];rfl);rw[e];show _=HJ r;rw[PN];simp only[true_and]
 have e:∀l:List N,(l.map (tm m)).sum=0:=λl=>by induction l with|nil=>rfl|cons a l b=>simp only[aw,bj,b];unfold tm;rw[I h]
 rw[e,I (λq=>h q.1)];unfold tm;rw[I h]
def HQ(m:Nat):∀(n:Nat)(c:N),SizeOf.sizeOf c<n->oC c<=1000->Cb (dT m c) (oC c*(1+tm m c))
|0,c,h,_=>absurd h (aB _)|n+1,c,h,T=>by
 obtain⟨F,H⟩:=vi (r:=c) (by unfold MX;omega);have J:=pV.1 (af (gf c));have K:=AY c;have L:=SA m c;have j:∀k∈c.K,Cb (dT m k) (gf c*(1+(c.K.map (tm m)).sum)):=λk v=>by have M:=J.2.1 k v;have V:=dx (f:=tm m) v;exact HP (HQ m n k (by have:=N.bK v;omega) G) (ea M G)
 have l:1<=gf c*(1+(c.K.map (tm m)).sum):=qP K G;have o:Cb (cin m c) (gf c*(1+(c.K.map (tm m)).sum)):=by unfold cin;split;(.exact(vj l j 0).app (vj l j 1));exact vj l j 0
 have s:gf c*(1+(c.K.map (tm m)).sum)<=oC c*(1+tm m c):=ea F G;have d:1<=oC c*(1+tm m c):=G;have w:(c.op=4\/c.op=7)->∀t∈c.ao,max 1 (dF (md m) (cin m c) t)<=oC c*(1+tm m c):=λB t ht=>by obtain⟨e,W⟩:=H B;refine fR.2 ⟨d,?_⟩;(have C:PJ t<=nj c:=by have X:=Vk ht;rcases aef _ t (ax _)with q|q<;>omega);(have Y:nj c*(gf c*(1+(c.K.map (tm m)).sum))=oC c*(1+(c.K.map (tm m)).sum):=by rw[e,<-rB,pc (nj c)]);by_cases u:m=0;(.subst u;rw[U ⟨A,B⟩]at L;obtain⟨p,q,x,y,z⟩:=Zl o t;have x:dF (md 0) (cin 0 c) t<=q+p*(gf c*(1+(c.K.map (tm 0)).sum)):=x;have O:=bZ (gf c*(1+(c.K.map (tm 0)).sum)) (aL z C);have Z:=dx (f:=HI) ht;have D:∀a,a<=oC c*a:=λa=>gZ _ G;rcases cn p with rfl|hp;(.have E:=D (1+tm 0 c);omega);(have E:oC c*HI t+oC c*(1+(c.K.map (tm 0)).sum)<=oC c*(1+tm 0 c):=by rw[<-ix];exact eu _ G);have q8:=D (HI t);omega);(have P:md m=2:=by unfold md;rw[I u]);rw[P];have q1:=aga o t;have O:=bZ (gf c*(1+(c.K.map (tm m)).sum)) C;have E:oC c*(1+(c.K.map (tm m)).sum)<=oC c*(1+tm m c):=eu _ G;omega
 rw[lM];split;.rename_i Q;exact Kf d λx g=>by rw[cI]at g;obtain⟨t,ht,rfl⟩:=aV.1 g;exact w (.inl Q) t ht
 split;.rename_i R;refine Cb.app (Kf d λx g=>?_) (Kf d λx g=>?_);(.rw[cI]at g;obtain⟨t,ht,rfl⟩:=aV.1 g;exact w (.inr R) t ht);rw[iF g];exact d
 split;.exact HP o s
 split;.exact HP o s
 split;.intro i;have k0:=HP (vj l j 0) s i;have k1:=HP (vj l j 1) s i;simp only[az,nk]at k0 k1|-;cases u:((c.K.map (dT m))[0]?.getD [])[i]?with|none=>simpa using d|some a=>cases S:((c.K.map (dT m))[1]?.getD [])[i]?with|none=>simpa using d|some b=>rw[u]at k0;rw[S]at k1;simp at k0 k1|-;omega
 exact Kf d λx g=>by rw[iF g];exact d
def HS(m:Nat){a:N}{M:Nat}(j:oC a<=1000)(d:oC a*(1+tm m a)<=M):Cb (cin m a) M:=by
 obtain⟨g,l⟩:=vi (r:=a) (by unfold MX;omega);have h:=pV.1 (af (gf a));have n:=AY a;have o:=SA m a;have b:∀k∈a.K,Cb (dT m k) M:=λk e=>by have i:=h.2.1 k e;have p:=dx (f:=tm m) e;exact HP (HQ m _ k (ax _) G) (aL (ea (aL i g) G) d)
 have c:1<=M:=aL (qP (by omega:0<oC a) (by omega:0<1+tm m a)) d;unfold cin;split;.exact(vj c b 0).app (vj c b 1)
 exact vj c b 0
def Fg{M:Nat}:∀(n:Nat)(a:N)(F:Nat),SizeOf.sizeOf a<n->oC a<=1000->oC a*(1+HJ a)<=M->je 0 a F<=F+Kv a*M
|0,a,F,h,_,_=>absurd h (aB _)|n+1,a,F,h,o,g=>by
 obtain⟨p,y⟩:=vi (r:=a) (by unfold MX;omega);have q:=pV.1 (af (gf a));have s:=HS 0 o (g);have z:=PN a;have u:=Zj a;have i:∀l:List J,(l.map (dF 0 (cin 0 a))).sum<=(l.length+(l.map HI).sum)*M:=λl=>by induction l with|nil=>simp|cons t l d=>have:=acO s t;simp only[aw,bj,aE,cc]at d this|-;omega
 have B:=i a.ao;have C:=i (eQ a.aJ);have e:∀b,fX 0 a.K b<=b+(a.K.map Kv).sum*M:=λb=>by (have:∀l:List N,(∀k∈l,k∈a.K)->fX 0 l b<=b+(l.map Kv).sum*M:=λl=>by induction l with|nil=>intro _;simp[fX]|cons k l d=>intro j;have c:=j k aS;have v:=q.2.1 k c;have D:=dx (f:=HJ) c;have E:=Fg n k b (by have:=N.bK c;omega) G (aL (ea (aL v p) G) g);have H:=d λx w=>j x (by simp[w]);rw[fX];simp only[comb,fi,aw,bj,cc];omega);exact this _ λk c=>c
 rw[hR,u,cc,AX];by_cases m:a.op=4\/a.op=7;.rw[I G,U ⟨A,G⟩,U m];have:=e F;unfold comb;simp only[fi];omega
 rw[I m,cc];split;.have:=e (F+(a.ao.map (dF 0 (cin 0 a))).sum);omega
 have:=e F;unfold comb;simp only[fi];split<;>omega
def zR(b:N):Nat:=match b with|.mk op c aP K ao aJ cq bH skip all rows=>1+(K.attach.map λa=>zR a.1).sum termination_by SizeOf.sizeOf b decreasing_by have:=N.bK (r:=.mk op c aP K ao aJ cq bH skip all rows) (k:=a.1) a.2;exact this
def Zn(r:N):zR r=1+(r.K.map zR).sum:=by cases r with|mk op a aP K ao aJ cq bH skip all rows=>rw[zR];show 1+(K.attach.map λk=>zR k.1).sum=1+(K.map zR).sum;rw[wD]
def zu(b:N):Nat:=match b with|.mk op c aP K ao aJ cq bH skip all rows=>(K.attach.map λa=>zu a.1).sum+((ao.map na).sum+((eQ aJ).map na).sum)termination_by SizeOf.sizeOf b decreasing_by have:=N.bK (r:=.mk op c aP K ao aJ cq bH skip all rows) (k:=a.1) a.2;exact this
def Zo(r:N):zu r=(r.K.map zu).sum+((r.ao.map na).sum+((eQ r.aJ).map na).sum):=by cases r with|mk op a aP K ao aJ cq bH skip all rows=>rw[zu];show(K.attach.map λk=>zu k.1).sum+_=(K.map zu).sum+_;rw[wD];rfl
def sum_add{b:Type}(f g:b->Nat):∀l:List b,(l.map λa=>f a+g a).sum=(l.map f).sum+(l.map g).sum|[]=>A|a::l=>by have:=sum_add f g l;simp only[aw,bj];omega
def agb:∀(n:Nat)(r:N),SizeOf.sizeOf r<n->zR r+zu r<=mj r|0,r,h=>absurd h (aB _)|n+1,r,h=>by rw[Zn,Zo,tq];have a:(r.K.map λk=>zR k+zu k).sum<=(r.K.map mj).sum:=rq λk b=>agb n k (by have:=N.bK b;omega);rw[sum_add]at a;split<;>omega
def No(z:Nat):z<=2^((z+4)/3):=by (have a:∀k:Nat,3*k<=2^k+2:=λk=>by match k with|0=>decide|1=>decide|k+2=>induction k with|zero=>decide|succ k b=>have:4<=2^(k+2):=aL (by decide:4<=2^2) (dO aD G);rw[show k+1+2=k+2+1 from A,Nat.pow_succ];omega);have:=a ((z+4)/3);omega
def pow_two(a b y:Nat):2^a*(2^b*y)=2^(a+b)*y:=by rw[<-rB,<-Nat.pow_add]
def sq{d:Type}{f X:d->Nat}{P M:Nat}:∀{c:List d},(∀a∈c,f a<=P*(X a*M))->(c.map f).sum<=P*((c.map X).sum*M)|[],_=>by simp|a::c,h=>by have g:=h a aS;have i:=sq (c:=c) λb e=>h b (by simp[e]);simp only[aw,bj,cc,ix];omega
def PR{a b:Nat}(h:a<=b):2^(a/3)<=2^(b/3):=dO aD G
def aiG(t:J):1<=xT t:=by rw[HL];omega
def aiH:∀(n:Nat)(t:J),SizeOf.sizeOf t<n->2*HI t+1<=xT t|0,t,h=>absurd h (aB _)|n+1,t,h=>by rw[Zi,HL];(have b:∀l:List J,(∀k∈l,k∈t.K)->2*(l.map HI).sum+l.length<=(l.map xT).sum:=λl=>by induction l with|nil=>intro _;exact af _|cons k l c=>intro a;have e:=aiH n k (by have:=J.bK (a k aS);omega);have f:=c λx d=>a x (by simp[d]);simp only[aw,bj,aE];omega);have:=b t.K λ_ h=>h;split<;>omega
def Zp:∀l:List J,2*(l.map HI).sum+l.length<=(l.map xT).sum|[]=>af _|k::l=>by have a:=aiH _ k (ax _);have b:=Zp l;simp only[aw,bj,aE];omega
def aeg{d:List Dt}:∀(n:Nat)(r:N)(E:List Nat),SizeOf.sizeOf r<n->mZ d E r->2*(Kv r+HJ r)<=xR r+zR r
|0,r,E,h,_=>absurd h (aB _)|n+1,r,E,h,f=>by
 have H:=dB.1 f;rw[PN,Zj,Sy,Zn];have g:∀l:List N,(∀k∈l,k∈r.K)->2*((l.map Kv).sum+(l.map HJ).sum)<=(l.map xR).sum+(l.map zR).sum:=λl=>by induction l with|nil=>intro _;exact af _|cons k l i=>intro b;have c:=b k aS;have j:=aeg n k E (by have:=N.bK c;omega) (H.K k c);have m:=i λx o=>b x (by simp[o]);simp only[aw,bj];omega
 have t:=g r.K λ_ h=>h;have j:=Zp r.ao;have m:=Zp (eQ r.aJ);by_cases a:r.op=4\/r.op=7;.rw[U a,U a];omega
 rw[I a,I a];have p:r.aJ=[]:=H.o.an G;have e:(eQ r.aJ).length=0:=by rw[p];rfl
 have b:r.ao.length<=1:=by by_cases q:r.op=3\/r.op=6;(.exact mQ (H.o.t3 q));by_cases s:r.op=5;(.exact H.o.t5 s);rw[H.o.tn G];exact au _
 omega
def wm{r:N}{t:J}(h:t∈eQ r.aJ):SizeOf.sizeOf t<SizeOf.sizeOf r:=by obtain⟨a,b,ht⟩:=hj.1 h;have:=N.hQ b;have:=Ag.qi ht;omega
def Fh{d:Nat}:∀n:Nat,(∀(t:J)(c:List Nat),SizeOf.sizeOf t<n->Cb c d->xN t<=1000->1000<=d->dF 1 c t<=2^(na t/3)*(xT t*d))/\(∀(b:N)(F:Nat),SizeOf.sizeOf b<n->oC b<=1000->1000<=d->je 1 b F<=zR b*(F+2^(zu b/3)*(xR b*d)))
|0=>⟨λt _ h=>absurd h (aB _),λt _ h=>absurd h (aB _)⟩|n+1=>by
 obtain⟨H,K⟩:=Fh (d:=d) n;refine⟨λt c W j X m=>?_,λb F W Y m=>?_⟩;.have L:1<=2^(na t/3):=Nat.two_pow_pos _;have v:=aiG t;have Z:=j.one;obtain⟨_,d1,d2⟩:=Ff.1 X;have w:=HL t;have a0:=xB t;rw[fC];by_cases o:t.op=2/\t.depth=0;(.rw[U o];have q:=j t.at_.toNat;have p:d<=xT t*d:=gZ _ v;have y:xT t*d<=2^(na t/3)*(xT t*d):=gZ _ L;omega);rw[I o,show 1%2*ja 1 t.sub=ja 1 t.sub from mg _];(have g:(t.K.map (dF 1 c)).sum<=2^(na t/3)*((t.K.map xT).sum*d):=sq λk g=>by have s:=H k c (by have:=J.bK g;omega) j (d1 k g) m;have z:=dx (f:=na) g;exact aL s (bZ _ (PR G)));(have a2:ja 1 t.sub<=2^(na t/3)*((t.sub.map xR).sum*d):=by (have e:ja 1 t.sub=(t.sub.map λb=>je 1 b 0).sum:=by generalize t.sub=l;induction l with|nil=>simp[ja]|cons a l C=>rw[ja,C];rfl);rw[e];refine sq λb u=>?_;have a3:=dx (f:=xR) u;have s:=K b 0 (by have:=J.sub_lt u;omega) (d2 b u) m;have z:=dx (f:=λb=>4+mj b) u;have z:4+mj b<=(t.sub.map λb=>4+mj b).sum:=z;have O:=agb _ b (ax _);(have P:zR b*(0+2^(zu b/3)*(xR b*d))<=2^((zR b+4)/3)*(2^(zu b/3)*(xR b*d)):=by rw[bR];exact bZ _ (No _));rw[pow_two]at P;have h6:2^((zR b+4)/3+zu b/3)<=2^(na t/3):=dO aD G;exact aL s (aL P (bZ _ h6)));rw[w,cc,cc,ix,ix];(have p:1<=2^(na t/3)*(1*d):=by rw[mg];exact qP L Z);unfold im;rw[I aD];split<;>omega
 have w:=Sy b;have a0:=Zo b;have a1:=Zn b;obtain⟨g1,g2⟩:=vi (r:=b) (by unfold MX;omega);have D:=pV.1 (af (gf b));have j:=HS 1 (a:=b) (M:=d) Y (by show oC b*1<=d;omega);have Q:∀t,SizeOf.sizeOf t<SizeOf.sizeOf b->na t<=zu b->xN t<=1000->dF 1 (cin 1 b) t<=2^(zu b/3)*(xT t*d):=λt s o O=>aL (H t _ G j O m) (bZ _ (PR o));have a4:(b.ao.map (dF 1 (cin 1 b))).sum<=2^(zu b/3)*((b.ao.map xT).sum*d):=sq λt ht=>by have E:=dx (f:=na) ht;have p:=dx (f:=xT) ht;have y:=D.2.2.1 t ht;exact Q t (N.eD ht) G G
 have a5:(b.aJ.map (JN 1 (cin 1 b))).sum<=2^(zu b/3)*(((eQ b.aJ).map xT).sum*d):=by rw[AX];refine sq λt ht=>?_;have E:=dx (f:=na) ht;have p:=dx (f:=xT) ht;have y:=D.2.2.2 t ht;exact Q t (wm ht) G G
 have R:∀i B,(2^(zu b/3)*((b.K.map xR).sum*d)<=B)->fX 1 b.K i<=(b.K.map zR).sum*(i+B):=λi B hB=>by (have:∀l:List N,(∀k∈l,k∈b.K)->fX 1 l i<=(l.map zR).sum*(i+B):=λl=>by induction l with|nil=>intro _;simp[fX]|cons k l C=>intro S;have g:=S k aS;have E:=dx (f:=xR) g;have p:=dx (f:=zu) g;have y:=D.2.1 k g;have q4:=K k i (by have:=N.bK g;omega) G G;have q5:2^(zu k/3)*(xR k*d)<=2^(zu b/3)*((b.K.map xR).sum*d):=ea (PR G) (bZ _ E);have q6:zR k*(i+2^(zu k/3)*(xR k*d))<=zR k*(i+B):=eu _ G;have q7:=C λx v=>S x (by simp[v]);rw[fX];simp only[comb,lG,dz,aw,bj,cc];omega);exact this _ λk g=>g
 obtain⟨T,V⟩:∃T,T=2^(zu b/3)*(xR b*d):=⟨_,A⟩;rw[<-V];have a6:2^(zu b/3)*((b.K.map xR).sum*d)+(2^(zu b/3)*((b.ao.map xT).sum*d)+2^(zu b/3)*(((eQ b.aJ).map xT).sum*d))=T:=by rw[V,w,cc,cc,ix,ix]
 rw[hR,I (show¬(1=0/\¬(b.op=5\/b.op=6))fromλq=>absurd q.1 aD),a1,cc,mg];split;.have q:=R (F+(b.ao.map (dF 1 (cin 1 b))).sum) (T-(b.ao.map (dF 1 (cin 1 b))).sum) G;have e:F+(b.ao.map (dF 1 (cin 1 b))).sum+(T-(b.ao.map (dF 1 (cin 1 b))).sum)=F+T:=G;rw[e]at q;omega
 have q:=R F T G;unfold comb;simp only[lG,dz];omega
def aeh:∀n:Nat,(∀t:J,SizeOf.sizeOf t<n->ua t<=na t)/\(∀r:N,SizeOf.sizeOf r<n->tN r<=mj r)
|0=>⟨λt h=>absurd h (aB _),λt h=>absurd h (aB _)⟩|n+1=>by
 obtain⟨c,d⟩:=aeh n;refine⟨λt i=>jm.2 ⟨λk b=>?_,λr e=>?_⟩,λr i=>gV.2 ⟨λt ht=>?_,λa j t ht=>?_,λk b=>?_⟩⟩;.rw[xB];have:=c k (by have:=J.bK b;omega);have:=dx (f:=na) b;omega
 .rw[xB];have:=d r (by have:=J.sub_lt e;omega);have l:4+mj r<=(t.sub.map λr=>4+mj r).sum:=dx (f:=λr=>4+mj r) e;omega
 .rw[tq];have:=c t (by have:=N.eD ht;omega);have:=dx (f:=na) ht;omega
 .rw[tq];have g:t∈eQ r.aJ:=hj.2 ⟨a,j,ht⟩;have:=c t (by have:=wm g;omega);have:=dx (f:=na) g;omega
 rw[tq];have:=d k (by have:=N.bK b;omega);have:=dx (f:=mj) b;omega
def aiI{a b c:Nat}(h:a+b<=c):12^a*12^b<=12^c:=by rw[<-Nat.pow_add];exact dO aD h
def PS{u v:Nat}(a:2<=u)(b:2<=v):u+v<=u*v:=by have c:2*v<=u*v:=bZ _ a;have d:u*2<=u*v:=eu _ b;omega
def PT(r:N):1<=mj r:=by rw[tq];split<;>omega
def Kg{i:List Dt}(p:∀d∈i,d.rows.length<=12){E:List Nat}:∀(q:Nat)(f:N),SizeOf.sizeOf f<q->mZ i E f->ei i f<=12^((mj f+2)/3)
|0,f,h,_=>absurd h (aB _)|q+1,f,h,x=>by
 have H:=dB.1 x;have m:=tq f;have B:=H.o.k;have P:=PT f;have Q:12<=12^((mj f+2)/3):=aL (by decide:12<=12^1) (dO aD G);rw[kQ];by_cases y:f.op=1;.rw[U y];(have:(jM i f.de).length<=12:=by clear x H;induction i with|nil=>exact au _|cons d l z=>rw[jM];split;(.exact p d aS);exact z λe C=>p e (by simp[C]));omega
 rw[I y];by_cases t:f.op=2;.rw[U t];rw[nF,U (.inr t)]at B;rw[I G]at m;(have:f.rows.length<=12^((mj f+2)/3):=by have D:f.rows.length<=3*((mj f+2)/3):=G;(have F:∀o:Nat,3*o<=12^o:=λo=>by induction o with|zero=>exact au _|succ o z=>rw[Nat.pow_succ];have:=Nat.pow_pos (n:=o) (show 0<12 by decide);omega);exact aL D (F _));omega
 rw[I t];by_cases J:f.op=5\/f.op=6\/f.op=9\/f.op=10\/f.op=11;.obtain⟨g,j,s⟩:=H.o.two J;have u:=Kg p q g (by have:=N.bK (r:=f) (k:=g) (by rw[s];simp);omega) (H.K g (by rw[s];simp));have K:=Kg p q j (by have:=N.bK (r:=f) (k:=j) (by rw[s];simp);omega) (H.K j (by rw[s];simp));have R:=PT g;have S:=PT j;rw[s]at m|-;simp only[aE,bC,aw,bN,bj,kU]at m;(have T:mj g+mj j+2<=mj f:=by rw[U aD]at m;omega);have L:=aiI (a:=(mj g+2)/3) (b:=(mj j+2)/3) (c:=(mj f+2)/3) G;have v:([g,j].map (ei i)).getD 0 1=ei i g:=A;have M:([g,j].map (ei i)).getD 1 1=ei i j:=A;rw[v,M];have O:2<=12^((mj g+2)/3):=aL (by decide:2<=12^1) (dO aD G);have ub:2<=12^((mj j+2)/3):=aL (by decide:2<=12^1) (dO aD G);have V:=PS O ub;split;(.exact aL (ea u K) L);rw[U G];omega
 rw[I G,I G];obtain⟨g,w⟩:=H.o.one (by have:=H.o.o;omega);have u:=Kg p q g (by have:=N.bK (r:=f) (k:=g) (by rw[w];simp);omega) (H.K g (by rw[w];simp));rw[w]at m|-;simp only[aw,bN,bj,kU]at m;have v:([g].map (ei i)).getD 0 1=ei i g:=A;rw[v];exact aL u (dO aD G)
def Zq(a b:Nat):4*(a*b)<=(a+b)*(a+b):=by
 rcases Nat.le_total a b with h|h;.obtain⟨d,rfl⟩:=Nat.le.dest h;have c:a*(a+d)=a*a+a*d:=ix _ _ _;(have e:(a+(a+d))*(a+(a+d))=4*(a*a)+4*(a*d)+d*d:=by simp only[cc,ix,pc d a];omega);omega
 obtain⟨d,rfl⟩:=Nat.le.dest h;have c:(b+d)*b=b*b+b*d:=by rw[cc,pc d b]
 have e:(b+d+b)*(b+d+b)=4*(b*b)+4*(b*d)+d*d:=by simp only[cc,ix,pc d b];omega
 omega
structure aiJ(r:N):Prop where
 g:oC r<=1000
 s:mj r<=24
 x:xR r<=87381
def aiJ.qd{a:List Dt}(g:∀d∈a,d.rows.length<=12){E:List Nat}{r:N}(h:aiJ r)(c:mZ a E r):Qd a r:=by
 obtain⟨b,o,i⟩:=h;have p:=aeg _ r E (ax _) c;have q:=agb _ r (ax _);refine⟨?_,?_,?_⟩;.have f:=Fg (M:=oC r*(1+HJ r)) _ r 0 (ax _) b (af _);have j:Kv r*(oC r*(1+HJ r))<=Kv r*(1000*(1+HJ r)):=eu _ (bZ _ b);have k:=Zq (Kv r) (1+HJ r);have s:(Kv r+(1+HJ r))*(Kv r+(1+HJ r))<=43710*43710:=ea G G;(have e:Kv r*(1000*(1+HJ r))=1000*(Kv r*(1+HJ r)):=by rw[<-rB,pc (Kv r) 1000,rB]);omega
 .have f:=(Fh (d:=1000) _).2 r 0 (ax _) b (af _);have l:=No (zR r);(have m:zR r*(0+2^(zu r/3)*(xR r*1000))<=2^((zR r+4)/3)*(2^(zu r/3)*(xR r*1000)):=by rw[bR];exact bZ _ l);rw[pow_two]at m;have n:2^((zR r+4)/3+zu r/3)<=2^9:=dO aD G;have t:2^((zR r+4)/3+zu r/3)*(xR r*1000)<=2^9*(87381*1000):=ea n (bZ _ i);(have u:2^9*(87381*1000)<=1000000000000:=by decide);omega
 have f:=Kg g _ r (ax _) c;have j:12^((mj r+2)/3)<=12^8:=dO aD G;have k:12^8<=1000000000:=by decide
 omega
structure akc(t:J):Prop where
 g:xN t<=1000
 s:na t<=24
 x:xT t<=87381
def aei{i:List Dt}(u:∀d∈i,d.rows.length<=12):∀n:Nat,(∀(t:J)(E:List Nat),SizeOf.sizeOf t<n->akc t->kc i E t->wy i t)/\(∀(b:N)(E:List Nat),SizeOf.sizeOf b<n->aiJ b->mZ i E b->wz i b)
|0=>⟨λt _ h=>absurd h (aB _),λt _ h=>absurd h (aB _)⟩|n+1=>by
 obtain⟨s,v⟩:=aei u n;refine⟨λt E A e m=>hJ.2 ⟨λk c=>?_,λb g=>?_⟩,λb E A e m=>gk.2 ⟨λt ht=>?_,λa w t ht=>?_,λk c=>?_⟩⟩;.obtain⟨_,x,y⟩:=Ff.1 e.g;have H:=ek.1 m;have j:=e.x;have l:=e.s;rw[HL]at j;rw[xB]at l;have o:=dx (f:=xT) c;have p:=dx (f:=na) c;exact s k E (by have:=J.bK c;omega) ⟨x k c,G,G⟩ (H.K k c)
 .obtain⟨_,x,y⟩:=Ff.1 e.g;have H:=ek.1 m;have j:=e.x;have l:=e.s;rw[HL]at j;rw[xB]at l;have o:=dx (f:=xR) g;have p:4+mj b<=(t.sub.map λb=>4+mj b).sum:=dx (f:=λb=>4+mj b) g;have L:aiJ b:=⟨y b g,G,G⟩;exact⟨L.qd u (H.sub b g),v b E (by have:=J.sub_lt g;omega) L (H.sub b g)⟩
 all_goals have F:=e.g;obtain⟨I,_⟩:=vi (r:=b) (by unfold MX;omega);obtain⟨_,B,C,D⟩:=pV.1 (af (gf b));have H:=dB.1 m;have j:=e.x;have l:=e.s;rw[Sy]at j;rw[tq]at l
 .have o:=dx (f:=xT) ht;have p:=dx (f:=na) ht;have z:=C t ht;exact s t _ (by have:=N.eD ht;omega) ⟨by omega,G,G⟩ (H.ao t ht)
 .have q:t∈eQ b.aJ:=hj.2 ⟨a,w,ht⟩;have o:=dx (f:=xT) q;have p:=dx (f:=na) q;have z:=D t q;exact s t _ (by have:=wm q;omega) ⟨by omega,G,G⟩ (H.aJ a w t ht)
 have o:=dx (f:=xR) c;have p:=dx (f:=mj) c;have z:=B k c;exact v k E (by have:=N.bK c;omega) ⟨by omega,G,G⟩ (H.K k c)
def PU{a:List Dt}(m:∀d∈a,d.rows.length<=12){r:N}(i:aiJ r)(h:mZ a [] r)(n:rD [] r=true)(o:tP a r=true):Ct 7 [dd r,jJ a] (bW (er a r []))/\(∃f,Ct 9 [dd r] (dd f)/\Ct 7 [dd f,jJ a] (bW (er a r []))/\∃p,Ct 10 [dd f] (dd p)/\Ct 7 [dd p,jJ a] (bW (er a r [])))/\∃p,Ct 10 [dd r] (dd p)/\Ct 7 [dd p,jJ a] (bW (er a r [])):=by
 have j:gC []:=λx q=>by cases q
 have b:=i.qd m h;have k:=(aei m _).2 r [] (ax _) i h;have g:tN r<=1000000000:=by have:=(aeh _).2 r (ax _);have:=i.s;omega
 refine⟨vU (JV h k b.cap g),?_,?_⟩;.obtain⟨c,F⟩:=acN n o h k;have e:=F.zP [] j pb.nil;obtain⟨p,l,R⟩:=Sn F.rg (F.qd _ g) F.hs ⟨aL (F.je 0 0) b.p0,aL (F.je 1 0) b.p1⟩;refine⟨_,c,?_,p,l,?_⟩;(.rw[<-e];exact vU (JV F.rg F.hs (aL F.cap b.cap) (F.qd _ g)));rw[<-e,<-R.zP [] j];exact vU (JV R.rg R.hs (by rw[R.cap];exact aL F.cap b.cap) (R.qd _ (F.qd _ g)))
 obtain⟨p,l,R⟩:=Sn h g k ⟨b.p0,b.p1⟩;refine⟨p,l,?_⟩;rw[<-R.zP [] j];exact vU (JV R.rg R.hs (by rw[R.cap];exact b.cap) (R.qd _ g))
end Go.Ev
