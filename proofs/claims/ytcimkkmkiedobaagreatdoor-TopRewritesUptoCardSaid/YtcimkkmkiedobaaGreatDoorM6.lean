/- TopRewrites: a part of the proof. -/
import Derived.Test.YtcimkkmkiedobaaGreatDoorM5
set_option maxRecDepth 100000
set_option maxHeartbeats 32000000
set_option linter.all false
namespace Go.Ev
section
variable{P:Program}{ops:Array Oper}{w0 w:World}{Gz β:Nat->Option (Nat×Nat)}{F0 F:Nat->Prop}{s0 s s1 fin:St}{h1:Hp}{a:Act}{p:Nat->Bool}
def yc(p:Nat->Bool)(i:Nat):Nat->Bool:=λx=>if x=i then true else p x
def vD(p:Nat->Bool)(i:Nat):yc p i i=true:=by simp[yc]
def Ck{p:Nat->Bool}{i x:Nat}(h:x≠i):yc p i x=p x:=by simp[yc,h]
def GA{p:Nat->Bool}{i x:Nat}(h:p x=true):yc p i x=true:=by simp only[yc];split<;>simp[h]
def Bj.akU{l:List (Nat×Nat)}{s fin:St}{e:List Hp}{B:List Rec}(h:Bj P ops l s e B fin):∀r∈B,∀d,r.o.dst=some d->d<s.z:=by
 induction h with
 |nil s e=>intro r h;simp at h
 |@cons i k l s s1 fin e o v m n q t u c b ht g=>intro r f d c;rcases aR.1 f with rfl|f;(.simp only at c;unfold St.put at b;rw[c]at b;simp only at b;split at b;(.rename_i j;simpa[eW]using j);cases b);have:=g r f d c;rw[(nq b).2.2.2]at this;exact this
def KZ{a:Act}{d:Nat}{u:Value}{x:Nat}:(a.put (some d) u).tmps.getD x undef=if x=d/\d<a.tmps.size then u else a.tmps.getD x undef:=by simp only[Act.put,fA];by_cases h:x=d;(.subst h;by_cases b:x<a.tmps.size;(.simp[b]);simp[b]);rw[iK (nY h),I (by simp[h])]
def WA{B:List Rec}{t:T V}{r:Rec}{u:Value}(j:∀d,R w β F (gA (tX p B t) d) (a.tmps.getD d undef))(f:r∈B)(k:∀c∈B,c.i=r.i->c=r)(l:∀c∈B,∀d,r.o.dst=some d->c.o.dst=some d->c=r)(m:∀d,r.o.dst=some d->d<a.tmps.size)(n:R w β F r.v u):∀d,R w β F (gA (tX (yc p r.i) B t) d) ((a.put r.o.dst u).tmps.getD d undef):=by
 intro d;by_cases b:r.o.dst=some d;.rw[IF b (vD p r.i) B t f (λx g i=>by rw[l x g d b i]),b,KZ,U ⟨A,m d b⟩];exact n
 have e:gA (tX (yc p r.i) B t) d=gA (tX p B t) d:=IE B t t A λx g i=>Ck λe=>b (by rw[<-k x g e];exact i);rw[e];have o:(a.put r.o.dst u).tmps.getD d undef=a.tmps.getD d undef:=by cases f:r.o.dst with|none=>rfl|some x=>rw[KZ,I (λh=>b (by rw[f,h.1]))]
 rw[o];exact j d
def put_defers(a:Act)(d:Option Nat)(u:Value):(a.put d u).defers=a.defers:=by cases d<;>rfl
def La(a:Act)(d:Option Nat)(u:Value):(a.put d u).tmps.size=a.tmps.size:=by cases d<;>simp[Act.put]
def Inv.ahh{B:List Rec}{r:Rec}{u:Value}(I:HR w β F s.h)(J:HR w β F h1)(K:∀d,R w β F (gA (tX p B s.t) d) (a.tmps.getD d undef))(L:a.tmps.size=s.z)(M:DR w β F s.ds a.defers)(N:∀r∈B,p r.i=true->∀b f,r.al=some (b,f)->∃Bk,agT w0 w β F s.h b f Bk/\∀g∈B,p g.i=true->∀h i,g.al=some (h,i)->h≠b->∀j,β h=some (Bk,j)->False)(O:∀b,s.nx<=b->b<fin.nx->(∀r∈B,p r.i=true->∀f,r.al≠some (b,f))->(∀f,r.al≠some (b,f))->β b=none)(z:r∈B)(C:∀c∈B,c.i=r.i->c=r)(Q:∀c∈B,∀d,r.o.dst=some d->c.o.dst=some d->c=r)(S:∀d,r.o.dst=some d->d<a.tmps.size)(T:R w β F r.v u)(D:∀b f,r.al=some (b,f)->∃Bk,agT w0 w β F s.h b f Bk/\∀g∈B,p g.i=true->∀h i,g.al=some (h,i)->∀j,β h=some (Bk,j)->False):Inv w0 (yc p r.i) B s fin h1 w β F (a.put r.o.dst u):=by
 have x:∀c∈B,yc p r.i c.i=true->c=r\/p c.i=true:=λc k m=>by by_cases e:c.i=r.i;(.exact .inl (C c k e));rw[Ck e]at m;exact .inr m
 refine⟨I,J,WA K z C Q S T,by rw[La];exact L,by rw[put_defers];exact M,λc k m b f v=>?_,λb U V G=>?_⟩;.rcases x c k m with rfl|H;(.obtain⟨Bk,E,q⟩:=D b f v;refine⟨Bk,E,λg o l h i n y j t=>?_⟩;rcases x g o l with rfl|l;(.rw[v]at n;cases n;exact y A);exact q g o l h i n j t);obtain⟨Bk,E,q⟩:=N c k H b f v;refine⟨Bk,E,λg o l h i n y j t=>?_⟩;rcases x g o l with rfl|l;(.obtain⟨Y,W,X⟩:=D h i n;rw[W.at_]at t;cases t;exact X c k H b f v 0 E.at_);exact q g o l h i n y j t
 refine O b U V (λc k m=>G c k (GA m)) (G r z (vD p r.i))
def OR.names{t:T V}{o:Oper}(h:∀d,d∈mr o->R w β F (gA t d) (a.tmps.getD d undef)):OR w β F t a.eval o.op.operands.toList:=by
 intro x e v b;cases x with
 |tmp k=>simp only[mV,bB]at b;subst b;refine h k ?_;simp only[mr,aZ,List.mem_filterMap];exact .inr ⟨_,e,A⟩|const c=>exact(aer nZ).1 _ _ b|global g=>simp[mV]at b
 |func f=>simp only[mV,bB]at b;subst b;exact .f f [] [] #[] #[] A (λi v u h=>by simp at h) A (λi v u h=>by simp at h)
def GB{t:T V}{c:Array Value}{o:Oper}(h:∀d,d∈guardOf ops o->R w β F (gA t d) (c.getD d undef)):Region.wanted o (yielded ops c)=kV ops t o.guard:=by unfold Region.wanted kV;cases e:o.guard with|none=>rfl|some i=>obtain⟨j,b⟩:=i;simp only[yielded,Da];cases k:ops[j]?with|none=>rfl|some l=>cases f:l.dst with|none=>simp[f]|some d=>have m:=h d (by simp[guardOf,e,Da,k,f]);have g:=m.adh b;have e:c.getD d undef=(c[d]?).getD undef:=aS;rw[e]at g;simp only[Option.bind_some,f,g];cases n:c[d]?with|none=>simp[undef,Tu]|some u=>cases u<;>simp[Bool.beq_comm,Tu]
def Inv.ahi{B:List Rec}{r:Rec}{g:St}{hi:List Hp}{h':Hp}{b8:Nat}{K:Act->World->Prop}{Q:Exit->Act->World->Prop}(c:Inv w0 p B s fin h1 w β F a)(m:ZY w0 Gz F0 s0 w β F s.h fin.nx)(hB:r∈B)(b0:p r.i=false)(a0:FQ (kd P r.o.op)=false)(b9:ops[r.i]?=some r.o)(b1:∀N∈B,N.i=r.i->N=r)(hd:∀N∈B,∀d,r.o.dst=some d->N.o.dst=some d->N=r)(hz:∀d,r.o.dst=some d->d<s.z)(b':DS P ops r.o r.k g hi r.v h' b8 r.al)(c0:∀d,d∈mr r.o++guardOf ops r.o->gA (tX p B s.t) d=gA g.t d)(c1:h1∈hi.take (hi.length-r.k))(c2:∀b O,r.al=some (b,O)->s.nx<=b/\b<fin.nx/\s0.nx<=b/\∀i∈B,∀L,i.al=some (b,L)->i=r)(b2:∀x b3 F' u,Inv w0 (yc p r.i) B s fin h1 x b3 F' (a.put r.o.dst u)->ZY w0 Gz F0 s0 x b3 F' s.h fin.nx->K (a.put r.o.dst u) x):wpOp P ops Q r.i K a w:=by
 have hn:∀d,d∈mr r.o++guardOf ops r.o->R w β F (gA g.t d) (a.tmps.getD d undef):=λd S=>by rw[<-c0 d S];exact c.tr d
 have a1:OR w β F g.t a.eval r.o.op.operands.toList:=OR.names λd S=>hn d (eF _ S);have hw:=GB (c:=a.tmps) λd S=>hn d (jU _ S);have b4:∀d,r.o.dst=some d->d<a.tmps.size:=λd h=>by rw[c.sz];exact hz d h
 unfold wpOp;rw[b9];simp only[];rw[hw];have a2:∀u,r.al=none->R w β F r.v u->K (a.put r.o.dst u) w:=λu a4 hu=>b2 w β F u (Inv.ahh c.hr c.ahg c.tr c.sz c.ds c.al (λb l1 l2 l _=>c.fr b l1 l2 l) hB b1 hd b4 hu (λb O h=>by rw[a4]at h;cases h)) m;generalize c3:r.v=v at*;generalize b5:r.al=al at*;cases b' with|skip n=>rw[n];exact a2 undef A .sx|p n hk h=>rw[n];obtain⟨u,T,U⟩:=adp (P:=P) a1 h;refine .inl ?_;unfold Oper.wp;rw[T];exact a2 u A U|r n hk h=>rw[n];obtain⟨u,T,U⟩:=adq (P:=P) c.ahg a1 (h h1 c1);refine .inl ?_;unfold Oper.wp;rw[T];exact a2 u A U|e n hk h=>rw[hk]at a0;cases a0|c n c4 d0 hc M hr=>rw[c4]at a0;cases a0|@a O mk n hk h=>rw[n];obtain⟨q1,q2,q0,q3⟩:=c2 g.nx O A;(have V:β g.nx=none:=c.fr g.nx q1 q2 λi y z L t=>by have:=q3 i y L t;rw[this,b0]at z;cases z);obtain⟨u,x,c5,T,a5,c6,U⟩:=adr (P:=P) V a1 h;refine .inl ?_;unfold Oper.wp;rw[T];have M:=a5.ext (F:=F) V;(have c7:x.heap.size=w.heap.size+1:=by rw[a5.heap];simp);(have C:∀b,b≠g.nx->ub β g.nx (w.heap.size,0) b=β b:=λb V=>by simp only[ub];rw[I V]);(have a6:∀Bk,Bk<w.heap.size->x.heap[Bk]?=w.heap[Bk]?:=λBk a7=>by rw[a5.heap,mu w c5 a7]);(have b6:∀{h:Hp},HR w β F h->HR x (ub β g.nx (w.heap.size,0)) (uF F w.heap.size) h:=λH=>H.ext M (adn H.bd c7) λD o B2 d j c8=>by obtain⟨B',d',h1,y,l⟩:=H.kB j;rw[c8]at h1;cases h1;exact⟨a6 _ l,.inl y⟩);(have a8:∀D L,s.h.get D=some L->D≠g.nx:=λD L j e=>by obtain⟨B',d',h1,_⟩:=c.hr.kB j;rw[e,V]at h1;cases h1);(have a9:∀i∈B,p i.i=true->∀D J,i.al=some (D,J)->D≠g.nx:=λi y z D J t e=>by subst e;have:=q3 i y J t;rw[this,b0]at z;cases z);refine b2 x _ _ u (Inv.ahh (b6 c.hr) (b6 c.ahg) (λd=>(c.tr d).ext M) c.sz (c.ds.ext M) (λi y z b J t=>?_) (λb l1 l2 l h4=>?_) hB b1 hd b4 (by rw[c3];exact U) (λb J t=>?_)) ?_;(.obtain⟨Bk,E,q⟩:=c.al i y z b J t;have a':=a9 i y z b J t;refine⟨Bk,⟨by rw[C b a'];exact E.at_,.inl E.f,E.oc.ext M (a6 _ E.lt),E.new,λf o3 W j k=>?_⟩,λX l Y f Z a3 c9 W k=>?_⟩;(.rw[C f (a8 f o3 j)]at k;exact E.no f o3 W j k);rw[C f (a9 X l Y f Z a3)]at k;exact q X l Y f Z a3 c9 W k);(.have a':b≠g.nx:=λe=>h4 O (by rw[b5,e]);rw[C b a'];exact c.fr b l1 l2 l);(.rw[b5]at t;cases t;refine⟨w.heap.size,⟨gR _ _ _,.inr A,c6,m.ext.size,λf o3 W j k=>?_⟩,λX l Y f Z a3 W k=>?_⟩;(.rw[C f (a8 f o3 j)]at k;obtain⟨B',d',g1,_,g3⟩:=c.hr.kB j;rw[k]at g1;cases g1;omega);rw[C f (a9 X l Y f Z a3)]at k;obtain⟨Bk,E,_⟩:=c.al X l Y f Z a3;have:=E.lt;rw[E.at_]at k;cases k;omega);refine⟨m.ext.trans M,λb c'=>?_,λBk a7 a4=>?_,λBk h=>.inl (m.mono Bk h),λBk h=>?_,λb o Bk d j b7=>?_⟩;(.rw[C b G];exact m.old b c');(.rw[a6 Bk (by have:=m.ext.size;omega)];exact m.keep Bk a7 a4);(.have:=m.ext.size;rcases h with h|h;(.rcases m.tW Bk h with h|h;(.exact .inl h);exact .inr G);exact .inr G);rw[C b (a8 b o j)]at b7;exact m.kB b o Bk d j b7
def Inv.ahe{B:List Rec}{r:Rec}{u:Value}{C:World}{D:Nat->Option (Nat×Nat)}{H:Nat->Prop}{N:Hp}{J:Nat}(I:Inv w0 p (r::B) s fin h1 w β F a)(i:ZY w0 Gz F0 s0 w β F s.h fin.nx)(c:wI w β F s.h s.nx C D H N J)(hu:R C D H r.v u)(b1:p r.i=false)(a2:r.al=none)(a4:∀m∈r::B,m.i=r.i->m=r)(hd:∀m∈r::B,∀d,r.o.dst=some d->m.o.dst=some d->m=r)(hz:∀d,r.o.dst=some d->d<s.z)(W:s.put r.o.dst r.v N J=some s1)(b2:s0.nx<=s.nx)(b3:J<=fin.nx)(X:∀e∈B,∀b f,e.al=some (b,f)->J<=b)(a5:∀e∈B,e.i≠r.i):Inv w0 (yc p r.i) B s1 fin N C D H (a.put r.o.dst u)/\ZY w0 Gz F0 s0 C D H s1.h fin.nx:=by
 obtain⟨e1,O,e3,e4⟩:=nq W;have a6:=WA (a:=a) (λd=>(I.tr d).ext c.ext) aS a4 hd (λd h=>by rw[I.sz];exact hz d h) hu;have Y:∀e∈B,yc p r.i e.i=p e.i:=λe g=>Ck (a5 e g);have a7:∀e∈B,p e.i=true->∀b f,e.al=some (b,f)->∃Bk,agT w0 w β F s.h b f Bk/\∀j∈r::B,p j.i=true->∀Q a8,j.al=some (Q,a8)->Q≠b->∀d2,β Q=some (Bk,d2)->False:=λe g k b f K=>I.al e (bA _ g) k b f K;refine⟨⟨by rw[O];exact c.hr,c.hr,λd=>?_,by rw[La,e4];exact I.sz,by rw[put_defers,e3];exact I.ds.ext c.ext,λe g k b f K=>?_,λb Z l2 L=>?_⟩,?_⟩;.have:=a6 d;simp only[tX]at this;rw[U (vD p r.i),<-Wz W]at this;exact this
 .rw[Y e g]at k;obtain⟨Bk,E,q⟩:=a7 e g k b f K;have n:=c.old b (.inr (X e g b f K));refine⟨Bk,⟨by rw[n];exact E.at_,c.mono _ E.f,E.oc.ext c.ext (c.keep Bk E.lt E.no),E.new,λt o3 S l M=>?_⟩,λj T a0 t a1 a3 a9 S M=>?_⟩;(.rw[O]at l;rcases c.kB t o3 Bk S l M with h|⟨v,x,y,z,A⟩;(.have:=E.lt;omega);exact E.no v x y z A);rw[Y j T]at a0;rw[c.old t (.inr (X j T t a1 a3))]at M;exact q j (bA _ T) a0 t a1 a3 a9 S M
 .rw[e1]at Z;rw[c.old b (.inr Z)];refine I.fr b (by have:=c.le;omega) l2 λe g k f V=>?_;rcases aR.1 g with rfl|g;(.rw[a2]at V;cases V);exact L e g (GA k) f V
 rw[O];have b4:=i.ext.size;have b5:=c.le;refine⟨i.ext.trans c.ext,λb n=>?_,λBk a' L=>?_,λBk h=>c.mono _ (i.mono Bk h),λBk h=>?_,λb o Bk d l b0=>?_⟩;.rw[c.old b G];exact i.old b n
 .rw[c.keep Bk G λb o d l n=>?_];(.exact i.keep Bk a' L);rcases i.kB b o Bk d l n with h|⟨v,x,y,z,A⟩;(.omega);exact L v x y z A
 .have:=c.ext.size;rcases c.tW Bk h with h|h;(.rcases i.tW Bk h with h|h;(.exact .inl h);exact .inr G);exact .inr G
 rcases c.kB b o Bk d l b0 with h|⟨v,x,y,z,A⟩;.exact .inl G
 exact i.kB v x Bk y z A
end
section
variable{P:Program}{ops:Array Oper}{w0 w:World}{Gz β:Nat->Option (Nat×Nat)}{F0 F:Nat->Prop}{s0 s s1 fin:St}{h1:Hp}{a:Act}{p:Nat->Bool}
structure ajr(P:Program)(ops:Array Oper)(n:Nat)(es:List Bool)(b:List (List Nat)):Prop where
 hn:ops.size=n
 aeA:∀(i:Nat)o,ops[i]?=some o->es.getD i false=FQ (kd P o.op)
 ako:∀i x,x∈b.getD i []->KY ops i x
 full:∀(i:Nat)o e,ops[i]?=some o->e∈o.after->Region.binds .any e=true->e.on∈b.getD i []
 apart:∀(i j:Nat)f c d,ops[i]?=some f->ops[j]?=some c->i≠j->f.dst=some d->c.dst≠some d/\(d∈mr c++guardOf ops c->i∈b.getD j []\/j∈b.getD i [])
def WB{n:Nat}{es:List Bool}{c:List (List Nat)}{done E b:List Nat}{j:Nat}{l:List (Nat×Nat)}(h:wt n es c done E j b l=true):∀i,i<n->i∈done\/i∈l.map (·.1):=by intro i d;obtain⟨f,g,k,e,_⟩:=vC l done E b j [] (by simpa using h);have:=Wy e i d;simp only[aZ,sr]at this;exact this.symm
def aeB{n i:Nat}{L:Array Bool}(g:i<n)(h:L.getD i false=false)(j:i<L.size):((List.range n).filter λx=>!(L.setIfInBounds i true).getD x false).length<((List.range n).filter λx=>!L.getD x false).length:=by
 have k:∀(l:List Nat),l.Nodup->i∈l->(l.filter λx=>!(L.setIfInBounds i true).getD x false).length<(l.filter λx=>!L.getD x false).length:=by
  intro l;induction l with
  |nil=>intro _ h;simp at h
  |cons x l o=>intro d b;(have q:∀(m:List Nat),i∉m->(m.filter λx=>!(L.setIfInBounds i true).getD x false)=m.filter λx=>!L.getD x false:=λm b=>by refine eA λy r=>?_;rw[getD_set_ne false (λe=>b (by rw[e];exact r))]);rcases aR.1 b with rfl|b;(.have t:=(tT.1 d).1;(have u:(L.setIfInBounds i true).getD i false=true:=by simp[j]);rw[gF (by rw[u];simp),gG (by rw[h];rfl),q l t];simp);have f:x≠i:=λe=>(tT.1 d).1 (e▸b);have:=o (tT.1 d).2 b;by_cases c:L.getD x false=true;(.rw[gF (by rw[getD_set_ne false (nY f),c];simp),gF (by rw[c];simp)];exact this);rw[gG (by rw[getD_set_ne false (nY f)];simpa using c),gG (by simpa using c)];simpa using this
 exact k _ List.nodup_range (qc.2 g)
def Inv.ahj{n:Nat}{es:List Bool}{g:List (List Nat)}(m:ajr P ops n es g):∀{b c:List Rec}{l:List (Nat×Nat)}{d:List Hp}{s:St}{done E e:List Nat}{j:Nat},Inv w0 p (b++c) s fin h1 w β F a->ZY w0 Gz F0 s0 w β F s.h fin.nx->(∀r∈b,p r.i=true/\FQ (kd P r.o.op)=false)->Bj P ops l s d (b++c) fin->wt n es g done E j e l=true->s0.nx<=s.nx->∃o s1 h,Bj P ops o s1 d c fin/\Inv w0 p c s1 fin h1 w β F a/\ZY w0 Gz F0 s0 w β F s1.h fin.nx/\wt n es g ((b.map (·.i)).reverse++done) E j h o=true/\s0.nx<=s1.nx/\s1.z=s.z|[],c,l,d,s,done,E,e,j,I,i,_,ht,k,q=>⟨l,s,e,ht,I,i,k,q,A⟩|r::b,c,l,d,s,done,E,e,j,I,i,f,ht,k,q=>by have u:=ht.facts.2.2.2.2.1 r aS;have O:=ht.facts.2.1;obtain⟨Q,s1,t,rfl,v,x,R⟩:=Inv.akn (B:=b++c) I i (f r aS).1 (f r aS).2 ht;have S:=t.facts.2.1;have y:=(pf k).2.2.2.2 (by rw[m.aeA _ _ u];exact(f r aS).2);obtain⟨z,D,h,H,J,K,L,M,T⟩:=Inv.ahj m (b:=b) v x (λr N=>f r (bA _ N)) t y.2 G;exact⟨z,D,h,H,J,K,by simpa using L,M,G⟩
def Bj.head{l:List (Nat×Nat)}{b:List Hp}{r:Rec}{B:List Rec}(h:Bj P ops l s b (r::B) fin):∃d c e s1,l=(r.i,r.k)::d/\DS P ops r.o r.k s b r.v c e r.al/\s.put r.o.dst r.v c e=some s1/\Bj P ops d s1 (if FQ (kd P r.o.op)=true then c::b else b) B fin:=by cases h with|cons i f g ht=>exact⟨_,_,_,_,A,f,g,ht⟩
def aaD{n:Nat}{es:List Bool}{an:List (List Nat)}(H:ajr P ops n es an):∀(a3:Nat){L:Array Bool}{B:List Rec}{l:List (Nat×Nat)}{hs:List Hp}{s:St}{h1:Hp}{w:World}{β:Nat->Option (Nat×Nat)}{F:Nat->Prop}{a:Act}{done E c7:List Nat}{j:Nat},L.size=n->((List.range n).filter λx=>!L.getD x false).length<=a3->ai6 ops (λi=>L.getD i false)->(∀i∈done,L.getD i false=true)->(∀r∈B,L.getD r.i false=true->FQ (kd P r.o.op)=false)->wt n es an done E j c7 l=true->Bj P ops l s (h1::hs) B fin->hs.length=j->s0.nx<=s.nx->Inv w0 (λi=>L.getD i false) B s fin h1 w β F a->ZY w0 Gz F0 s0 w β F s.h fin.nx->wpAny P .any ops (oT w0 Gz F0 s0 .norm fin) a3 L a w:=by
 intro a3;induction a3 with
 |zero=>intro L B l hs s h1 w β F a done E c7 j c8 f3 b8 a' hB Z ht c9 b0 I b1;(have b2:∀i,i<n->L.getD i false=true:=λi b3=>by have h0:((List.range n).filter λx=>!L.getD x false)=[]:=mf.1 G;have:=jr.1 h0 i (qc.2 b3);simpa using this);refine⟨?_,Inv.finish I b1 (λr K=>?_) b0 ht⟩;(.refine List.eq_nil_iff_forall_not_mem.2 λi b3=>?_;obtain⟨h0,o,M,_⟩:=mem_ready.1 b3;(have V:i<n:=by rw[<-H.hn];exact(dn.1 M).1);have m:=b2 i V;simp[show i<L.size by omega]at h0 m;rw[h0]at m;cases m);have M:=ht.facts.2.2.2.2.1 r K;(have V:r.i<n:=by rw[<-H.hn];exact(dn.1 M).1);exact⟨b2 _ V,hB r K (b2 _ V)⟩|succ a3 d6=>
  intro L B l hs s h1 w β F a done E c7 j c8 f3 b8 a' hB Z ht c9 b0 I b1;have f6:=ht.facts;obtain⟨j7,j8,j9,f4,f5,f7,k0,f8⟩:=f6;have f9:=WB Z;have f':l.map (·.1)=B.map (·.i):=by rw[f4];simp
  have b9:∀(C:List Rec)(r:Rec)(t:List Rec),B=C++r::t->(∀x∈an.getD r.i [],x∈done\/x∈C.map (·.i))/\r.i∉done/\r.i∉C.map (·.i)/\r.i∉t.map (·.i):=λC r t D=>by (have hl:l=C.map (λr=>(r.i,r.k))++(r.i,r.k)::t.map (λr=>(r.i,r.k)):=by rw[f4,D];simp);rw[hl]at Z;obtain⟨E',g0,j',W,_⟩:=vC _ _ _ _ _ _ Z;obtain⟨k1,k2,k3,k4,k5⟩:=pf W;simp only[aZ,sr,cI,df,rz]at k2 k3;refine⟨λx c=>(k3 x c).symm,k2.2,k2.1,λg2=>?_⟩;obtain⟨q,b4,g3⟩:=aV.1 g2;obtain⟨C2,B2,b5⟩:=lQ b4;(have a4:C.map (λr=>(r.i,r.k))++(r.i,r.k)::t.map (λr=>(r.i,r.k))=(C++r::C2).map (λr=>(r.i,r.k))++(q.i,q.k)::B2.map (λr=>(r.i,r.k)):=by rw[b5];simp);rw[a4]at Z;obtain⟨E2,g4,k6,g5,_⟩:=vC _ _ _ _ _ _ Z;have:=(pf g5).2.1;rw[g3]at this;simp at this
  refine⟨λg6=>?_,λi b3=>?_⟩
  .refine Inv.finish I b1 ?_ b0 ht;have g7:∀(C t:List Rec),B=C++t->(∀r∈C,L.getD r.i false=true)->∀r∈t,L.getD r.i false=true:=by
    intro C t;induction t generalizing C with
    |nil=>intro _ _ r K;simp at K
    |cons r t g8=>intro D a5 q b4;(have K:L.getD r.i false=true:=by cases g9:L.getD r.i false with|true=>rfl|false=>have S:=f5 r (by rw[D];simp);(have V:r.i<n:=by rw[<-H.hn];exact(dn.1 S).1);have:r.i∈Region.ready .any ops L:=mem_ready.2 ⟨by simpa[show r.i<L.size by omega]using g9,r.o,S,λe k hb=>by have:=H.full r.i r.o e S k hb;rcases(b9 C r t D).1 _ this with h|h;(.exact a' _ h);obtain⟨r3,b6,b'⟩:=aV.1 h;rw[<-b'];exact a5 r3 b6⟩;rw[g6]at this;simp at this);rcases aR.1 b4 with rfl|b4;(.exact K);exact g8 (C++[r]) (by rw[D];simp) (λr3 b6=>by rcases aZ.1 b6 with h|h;(.exact a5 r3 h);simp only[qb]at h;subst h;exact K) q b4
   have T:=g7 [] B A (λr K=>by simp at K);exactλr K=>⟨T r K,hB r K (T r K)⟩
  obtain⟨h0,o,M,d7⟩:=mem_ready.1 b3;have V:i<n:=by rw[<-H.hn];exact(dn.1 M).1
  have a1:L.getD i false=false:=by simpa[show i<L.size by omega]using h0
  have g':i∉done:=λh=>by rw[a' i h]at a1;cases a1
  have h2:i∈B.map (·.i):=by rcases f9 i V with h|h;(.exact absurd h g');rw[<-f'];exact h
  obtain⟨r,a6,rfl⟩:=aV.1 h2;have S:=f5 r a6;rw[M]at S;cases S;have c0:∀x,x∈an.getD r.i []->L.getD x false=true:=λx c=>KY.ready b8 (H.ako _ _ c) M d7;have d8:ai6 ops (λi=>(L.setIfInBounds r.i true).getD i false):=λx o2 e c m k hb=>by by_cases d9:x=r.i;(.subst d9;rw[M]at m;cases m;exact getD_set_true (d7 e k hb));simp only at c;rw[getD_set_ne false (nY d9)]at c;exact getD_set_true (b8 x o2 e c m k hb)
  have d':(λx=>(L.setIfInBounds r.i true).getD x false)=yc (λx=>L.getD x false) r.i:=by funext x;by_cases c:x=r.i;(.subst c;rw[vD];simp[show r.i<L.size by omega]);rw[Ck c,getD_set_ne false (nY c)]
  have e0:((List.range n).filter λx=>!(L.setIfInBounds r.i true).getD x false).length<=a3:=by have:=aeB V a1 G;omega
  obtain⟨C,t,D⟩:=lQ a6;obtain⟨n1,n2,n3,n4⟩:=b9 C r t D;have c1:∀N∈B,N.i=r.i->N=r:=λN J k=>by rw[D]at J;rcases aZ.1 J with J|J;(.exact absurd (aV.2 ⟨N,J,k⟩) n3);rcases aR.1 J with J|J;(.exact J);exact absurd (aV.2 ⟨N,J,k⟩) n4
  have e1:∀N∈B,∀d,r.o.dst=some d->N.o.dst=some d->N=r:=λN J d O h3=>by by_cases k:N.i=r.i;(.exact c1 N J k);exact absurd h3 (H.apart r.i N.i r.o N.o d M (f5 N J) (nY k) O).1
  have e2:=ht.akU;have e3:∀d,d∈mr r.o++guardOf ops r.o->∀x∈r::t,x.o.dst=some d->L.getD x.i false=false:=λd O x c c'=>by rcases aR.1 c with rfl|c;(.exact a1);(have a7:x∈B:=by rw[D];exact jU _ (bA _ c));have d0:x.i≠r.i:=λe=>n4 (aV.2 ⟨x,c,e⟩);rcases(H.apart x.i r.i x.o r.o d (f5 x a7) M d0 c').2 O with h|h;(.obtain⟨C1,C2,a5⟩:=lQ c;obtain⟨_,m2,m3,_⟩:=b9 (C++r::C1) x C2 (by rw[D,a5];simp);rcases n1 _ h with h|h;(.exact absurd h m2);exact absurd (by simp only[dy,aZ];exact .inl h) m3);cases h4:L.getD x.i false with|false=>rfl|true=>have:=KY.akm b8 (H.ako _ _ h) h4;rw[show L.getD r.i false=true from this]at a1;cases a1
  have h6:∀d,d∈mr r.o++guardOf ops r.o->gA (tX (λx=>L.getD x false) B s.t) d=gA (tX (λ_=>true) C s.t) d:=λd O=>by rw[D,Gy];rw[yb (r::t) _ (e3 d O)];refine IE C _ _ A λx c c'=>?_;(have a7:x∈B:=by rw[D];exact eF _ c);have d0:x.i≠r.i:=λe=>n3 (aV.2 ⟨x,c,e⟩);rcases(H.apart x.i r.i x.o r.o d (f5 x a7) M d0 c').2 O with h|h;(.exact c0 _ h);obtain⟨C1,C2,a5⟩:=lQ c;obtain⟨m1,_⟩:=b9 C1 x (C2++r::t) (by rw[D,a5];simp);rcases m1 _ h with h|h;(.exact absurd h n2);exact absurd (by rw[a5];simp only[dy,aZ];exact .inl h) n3
  have hl:l=C.map (λr=>(r.i,r.k))++(r.i,r.k)::t.map (λr=>(r.i,r.k)):=by rw[f4,D];simp
  have e4:=Z;rw[hl]at e4;obtain⟨E',g0,j',W,⟨E0,g1,h7,k7,k8,h8⟩,h9,_⟩:=vC _ _ _ _ _ _ e4;obtain⟨k1,k2,k3,k4,k5⟩:=pf W;cases Q:FQ (kd P r.o.op)with
  |false=>(have c2:es.getD r.i false=false:=by rw[H.aeA _ _ M];exact Q);obtain⟨h',i0,X,J,b7,a8,q1,q2,q3,q4⟩:=Bj.split H.aeA (by rw[D]at ht;exact ht);refine Inv.ahi (g:=h') (hi:=i0) I b1 a6 a1 Q M c1 e1 (e2 r a6) a8 (λd O=>by rw[h6 d O,q1]) ?_ (λb ob T=>?_) λY a0 F' u I' G'=>?_;(. (have i1:r.k<=j:=by rcases Tv (k5 c2).1 with h|⟨i1,x,c,i2⟩;(.omega);by_cases i3:r.k<=j;(.exact i3);rw[g1,cb G]at c;have a9:=h7 x (bb c);obtain⟨r3,b6,b'⟩:=aV.1 (by simpa[df]using a9.1);(have e5:r3∈B:=by rw[D];exact eF _ b6);have i4:=hB r3 e5 (by rw[b'];exact c0 x i2);have h5:=H.aeA _ _ (f5 r3 e5);rw[b',a9.2,i4]at h5;cases h5);rw[q2];refine uh.2 ⟨X.length,?_⟩;rw[cT,U aN,bU (af _)];simp);(.obtain⟨d1,e6⟩:=f7 r a6 b ob T;exact⟨d1,e6,G,λq m o2 i5=>f8 q m r a6 b o2 ob i5 T⟩);rw[<-d']at I';refine d6 (by simpa using c8) e0 d8 (λx c=>getD_set_true (a' x c)) (λq m a4=>?_) Z ht c9 b0 I' G';by_cases k:q.i=r.i;(.rw[c1 q m k];exact Q);rw[getD_set_ne false (nY k)]at a4;exact hB q m a4|true=>
   (have c2:es.getD r.i false=true:=by rw[H.aeA _ _ M];exact Q);obtain⟨p1,p2,p3⟩:=k4 c2;(have e7:∀x∈C,FQ (kd P x.o.op)=false:=λx c=>by (have a7:x∈B:=by rw[D];exact eF _ c);cases a9:FQ (kd P x.o.op)with|false=>rfl|true=>(have h1:x.i∈E':=by rw[g1];refine eF _ (h8 x.i ?_ (by rw[H.aeA _ _ (f5 x a7)];exact a9));simp only[cI,df];exact aV.2 ⟨x,c,A⟩);have m:=c0 _ (p2 _ h1);rw[hB x a7 m]at a9;cases a9);(have e8:∀x∈C,L.getD x.i false=true/\FQ (kd P x.o.op)=false:=λx c=>by refine⟨c0 _ (p1 _ (h9 (λy c3=>?_) x.i ?_)),e7 x c⟩;(.simp only[cI,df]at c3;obtain⟨z,hz,rfl⟩:=aV.1 c3;rw[H.aeA _ _ (f5 z (by rw[D];exact eF _ hz))];exact e7 z hz);simp only[cI,df];exact aV.2 ⟨x,c,A⟩);rw[D]at I ht;obtain⟨l2,s2,g4,i6,I2,G2,i7,i8,i9⟩:=Inv.ahj H I b1 e8 ht Z b0;(have e9:∀d,d∈mr r.o++guardOf ops r.o->R w β F (gA s2.t d) (a.tmps.getD d undef):=λd O=>by have:=I2.tr d;rw[yb (r::t) _ (e3 d O)]at this;exact this);have S:OR w β F s2.t a.eval r.o.op.operands.toList:=OR.names λd d2=>e9 d (eF _ d2);have hw:=GB (c:=a.tmps) λd d2=>e9 d (jU _ d2);obtain⟨l3,J,b7,s3,i',a8,d3,c4⟩:=i6.head;rw[Q]at c4;simp only[fi]at c4;subst i';have e':=a8.nx.2.2.2 Q;have j0:=((pf i7).2.2.2.1 c2).2.2;have k9:=nq d3;have c5:=c4.facts;(have b5:∀x∈r::t,x∈B:=λx c=>by rw[D];exact jU _ c);(have go:∀Y a0 F' u,wI w β F s2.h s2.nx Y a0 F' J b7->R Y a0 F' r.v u->wpAny P .any ops (oT w0 Gz F0 s0 .norm fin) a3 (L.setIfInBounds r.i true) (a.put r.o.dst u) Y:=λY a0 F' u st hu=>by obtain⟨I3,G3⟩:=Inv.ahe I2 G2 st hu a1 e' (λx c=>c1 x (b5 x c)) (λx c=>e1 x (b5 x c)) (λd O=>by have j1:=e2 r a6 d O;rw[i9];exact j1) d3 i8 (by have:=c5.1;omega) (λq m b ob T=>by have:=c5.2.2.2.2.2.1 q m b ob T;omega) (λq m k=>n4 (aV.2 ⟨q,m,k⟩));rw[<-d']at I3;refine d6 (by simpa using c8) e0 d8 (λx c=>?_) (λq m a4=>?_) j0 c4 (by simp[c9]) (by have:=st.le;omega) I3 G3;(.rcases aR.1 c with rfl|c;(.simp[show r.i<L.size by omega]);rcases aZ.1 c with c|c;(.obtain⟨z,hz,rfl⟩:=aV.1 (sr.1 c);exact getD_set_true (e8 z hz).1);exact getD_set_true (a' x c));have k:q.i≠r.i:=λk=>n4 (aV.2 ⟨q,m,k⟩);rw[getD_set_ne false (nY k)]at a4;exact hB q (b5 q (bA _ m)) a4);(have k':b7<=fin.nx:=by have:=c5.1;omega);(have f0:QF β s2.nx b7:=λb d1 e6=>I2.fr b d1 G λq m l0 ob T=>by rcases aR.1 m with rfl|m;(.rw[e']at T;cases T);have:=c5.2.2.2.2.2.1 q m b ob T;omega);unfold wpOp;rw[M];simp only[];rw[hw];generalize l1:r.v=v at a8 d3 go;generalize l4:r.al=al at a8;cases a8 with
   |skip a2=>rw[a2];exact go w β F undef (.refl I2.hr _) .sx|p a2 W h=>rw[W]at Q;cases Q|r a2 W h=>rw[W]at Q;cases Q|a a2 W h=>rw[W]at Q;cases Q|e a2 W h=>rw[a2];obtain⟨l5,u,Y,a0,F',d4,j2,hu,st⟩:=adt (P:=P) I2.hr S h (λV=>f0 s2.nx (af _) V);refine .inl ?_;unfold Oper.wp;rw[d4];rcases j2 with rfl|⟨rfl,rfl⟩;(.exact go Y a0 F' u st hu);exact go Y a0 F' undef st hu|@c f c6 l6 j3 g vs v J b7 a2 f1 j4 hc k K=>
    rw[a2];refine .inl ?_;cases d5:oa s2.t c6.toList with
    |none=>rw[d5]at hc;cases j3<;>simp[pw]at hc
    |some l7=>rw[d5]at hc;rw[f1]at S;have j5:=px (S.sub λy c3=>by simp[Op.operands,Call.operands];exact .inr (by simpa using c3)) d5;obtain⟨first,f2,hu,b2⟩:=KX (m:=c6.map a.eval) hc (S _ (by simp[Op.operands,Call.operands]) _ j4) (by simpa using j5);(have d4:(execOp a.eval r.o).run P w=.ok (.enter g ((first++c6.map a.eval)++f2)) w:=by have k:=k ((first++c6.map a.eval)++f2) w;unfold execOp;rw[f1];simp only[resolve,hu,Deferred.ofValue];simpa[invoke]using k);unfold Oper.wp;rw[d4];simp only[Oper.upon];refine Calls.mono (K.2 w β F _ I2.hr b2 f0) λe Y k=>?_;cases e with|returned u=>obtain⟨a0,F',j6,st⟩:=k;exact go Y a0 F' u st j6|panicked l8=>exact k.elim|outgrown=>exact k.elim
end
section
variable{P:Program}{ops:Array Oper}
def mem_zipIdx{a:Type}{l:List a}{x:a}{i:Nat}(h:l[i]?=some x):(x,i)∈l.zipIdx:=by refine uh.2 ⟨i,?_⟩;rw[List.getElem?_zipIdx,h];simp
def aaE{l:List (Nat×Nat)}(h:NU P ops=some l):∃es g,ajr P ops ops.size es g/\wt ops.size es g [] [] 0 [] l=true:=by unfold NU at h;simp only at h;split at h;(.rename_i k;simp only[aA]at k;obtain⟨⟨m,n⟩,s⟩:=k;cases h;refine⟨_,_,⟨A,λi o f=>?_,λi x t=>KY.aaC t,λi o e f u v=>?_,λi j b c d w y z B=>?_⟩,s⟩;(.simp[az,f]);(.simp only[adi,aU]at n;have:=n (o,i) (mem_zipIdx (by simpa using f));simp only[aU]at this;have:=this e (by simpa using u);rw[v]at this;simpa using this);simp only[VP,aU]at m;have p:=m (b,i,mr b++guardOf ops b) (aV.2 ⟨(b,i),mem_zipIdx (by simpa using w),A⟩);simp only[B,aU]at p;have q:=p (c,j,mr c++guardOf ops c) (aV.2 ⟨(c,j),mem_zipIdx (by simpa using y),A⟩);simp only[dH,aA,gE,FB,z,false_or]at q;obtain⟨C,a⟩:=q;refine⟨by simpa using C,λr=>?_⟩;rcases a with(a|a)|a;(.rw[<-jS]at r;rw[r]at a;cases a);(.exact .inl (by simpa using a));exact .inr (by simpa using a));cases h
def Ab:∀(a b:List Nat),sC a b=true->a=b
|[],[],_=>A|a::x,b::y,h=>by simp only[sC]at h;split at h;(.rename_i e;rw[cm e,Ab x y h]);cases h|[],_::_,h=>by simp[sC]at h
|_::_,[],h=>by simp[sC]at h
def WC{a b:Int}(h:Qp a b=true):a=b:=by rw[sI]at h;simpa using h
def Tw:∀(a b:Option Nat),aaj a b=true->a=b
|none,none,_=>A|some a,some b,h=>by rw[cm h]|none,some _,h=>by simp[aaj]at h
|some _,none,h=>by simp[aaj]at h
mutual
def Ac:∀(a b:V),qW a b=true->a=b|.b x,b,h=>by cases b<;>simp[qW]at h;rw[h]|.i k n,b,h=>by cases b<;>simp[qW]at h;rw[h.1,WC h.2]|.s x,b,h=>by cases b<;>simp[qW]at h;rw[Ab _ _ h]|.p x o,b,h=>by cases b<;>simp[qW]at h;rw[h.1,h.2]|.np,b,h=>by cases b<;>simp[qW]at h;rfl|.Z x o n c e,b,h=>by cases b<;>simp[qW]at h;rw[h.1,h.2.1,h.2.2.1,h.2.2.2.1,Tw _ _ h.2.2.2.2]|.E,b,h=>by cases b<;>simp[qW]at h;rfl|.es,b,h=>by cases b<;>simp[qW]at h;rfl|.m r,b,h=>by cases b<;>simp[qW]at h;rw[h]|.nm,b,h=>by cases b<;>simp[qW]at h;rfl|.f g x y,b,h=>by cases b<;>simp[qW]at h;rw[h.1,kn _ _ h.2.1,kn _ _ h.2.2]|.nf,b,h=>by cases b<;>simp[qW]at h;rfl|.zK,b,h=>by cases b<;>simp[qW]at h;rfl|.agg l,b,h=>by cases b<;>simp[qW]at h;rw[kn _ _ h]|.ey l,b,h=>by cases b<;>simp[qW]at h;rw[kn _ _ h]|.ip l,b,h=>by cases b<;>simp[qW]at h;rw[kn _ _ h]|.Q n l,b,h=>by cases b<;>simp[qW]at h;rw[h.1,kn _ _ h.2]
def kn:∀(a b:List V),tH a b=true->a=b
|[],[],_=>A|a::x,b::y,h=>by simp only[tH,aA]at h;rw[Ac a b h.1,kn x y h.2]|[],_::_,h=>by simp[tH]at h
|_::_,[],h=>by simp[tH]at h
end
def Dh{t:T V}{op:Op}{v:V}:∀(c:List Hp),steady P t op v c=true->∀h∈c,NR P t h op=some v
|[],_,h,b=>by simp at b
|x::c,a,h,b=>by simp only[steady]at a;split at a;(.rename_i u d;simp only[aA]at a;rcases aR.1 b with rfl|b;(.rw[d,Ac v u a.1]);exact Dh c a.2 h b);cases a
structure qs(P:Program)(pr:tG):Prop where
 KJ:∀f a h b v c d,pr.KJ f a h b=some (some (v,c,d))->FI P f/\RC P f a h b v c d
 idle:∀f,pr.idle f=true->Idle P f
def qX(P:Program):aai->Out->Prop|.code c s,.code x a=>SC P c s x a/\∀b,c=.loop b->SI P [.code b,.inLoop b] s x a|.pv b c s,.code x a=>SI P [.code c,.inScope b] s x a|.call f d h e,.call v g i=>FI P f/\RC P f d h e v g i|.ops o l s,.code x a=>x=.norm/\SO P o l s a|.wX o l s j,.code x a=>x=.norm/\∃k,Bj P o l s j k a|_,_=>True
def qX.bad(j:aai):qX P j .bad:=by cases j<;>exact True.intro
section
variable{pr:tG}{rec:aai->Out}
def qX.QJ(g:∀j,qX P j (rec j)){f:Nat}{a:List V}{h:Hp}{b:Nat}{v:V}{c:Hp}{d:Nat}(e:rec (.call f a h b)=.call v c d):FI P f/\RC P f a h b v c d:=by have:=g (.call f a h b);rw[e]at this;exact this
def SC.Bl{id:Nat}{s g:St}{l:List (Nat×Nat)}{k:List Rec}(y:P.follows .mixedOrders=true)(z:NU P ops=some l)(ht:Bj P ops l s [s.h] k g):SC P (.region id ops true) s .norm g:=by
 have C:=ht.facts;obtain⟨es,Q,D,G⟩:=aaE z;refine⟨C.1,λw c F a m H=>wp_region_any y ?_⟩;have f:Ext w c F {w with drawn:=w.drawn+1} c F:=⟨λ_ _ h=>h,λ_ h _=>h,λ_ _ _=>A,af _,A,A,A,λ_ I e J h=>⟨I,e,J,h,A⟩⟩;have t:HR {w with drawn:=w.drawn+1} c F s.h:=m.hr.ext f m.hr.bd λR o B d n p=>⟨A,by obtain⟨S,T,u,K,_⟩:=m.hr.kB n;rw[p]at u;cases u;exact K⟩;have v:∀i,(Array.replicate ops.size false).getD i false=false:=λi=>by simp only[fA,ry];split<;>rfl
 have q:∀i,(Array.replicate ops.size false).getD i false=true->False:=λi h=>by rw[v]at h;cases h
 have M:Inv w (λi=>(Array.replicate ops.size false).getD i false) k s g s.h {w with drawn:=w.drawn+1} c F a:=⟨t,t,λd=>by rw[yb k s.t λr x U=>v _];exact(m.tr d).ext f,m.sz,m.ds.ext f,λr x h=>(q _ h).elim,λb N O _=>H b N O⟩;exact aaD D ops.size (L:=Array.replicate ops.size false) (hs:=[]) (done:=[]) (E:=[]) (c7:=[]) (j:=0) aS (aL (cv _ _) aS) (λi o e h=>(q _ h).elim) (λi h=>by simp at h) (λr x h=>(q _ h).elim) G ht A (af _) M ⟨f,λ_ _=>A,λ_ _ _=>A,λ_ h=>h,λ_ h=>.inl h,λb o B d n p=>.inr ⟨b,o,d,n,p⟩⟩
end
end
section
variable{P:Program}{ops:Array Oper}{pr:tG}{rec:aai->Out}
def aaF{c:Code}{s:St}{o:Out}(h:∀x a,o=.code x a->SC P c s x a/\∀b,c=.loop b->SI P [.code b,.inLoop b] s x a):qX P (.code c s) o:=by cases o with|code x a=>exact h x a A|_=>exact True.intro
def qY{c:Code}{s:St}{x:X}{a:St}(h:SC P c s x a)(d:∀b,c≠.loop b):SC P c s x a/\∀b,c=.loop b->SI P [.code b,.inLoop b] s x a:=⟨h,λb e=>absurd e (d b)⟩
def Tx(u:P.follows .mixedOrders=true)(g:∀j,qX P j (rec j))(c:Code)(s:St):qX P (.code c s) (Bf P rec c s):=by
 refine aaF λx m d=>?_;cases c with
 |skip=>cases d;exact qY (SC.skip s) aS|label k=>cases d;exact qY (SC.label s k) aS|ret=>cases d;exact qY (SC.ret s) aS|exit k=>cases d;exact qY (SC.exit s k) aS|goto k=>cases d;exact qY (SC.goto s k) aS|seq a b=>refine qY ?_ aS;simp only[Bf]at d;have e:=g (.code a s);generalize rec (.code a s)=r at e d;unfold ahb at d;split at d;(.rename_i n;have f:=g (.code b n);rw[d]at f;exact SC.seq e.1 f.1);rename_i i;subst d;refine SC.aaB e.1 λo=>?_;subst o;exact i m A|cond c a b=>refine qY ?_ aS;simp only[Bf]at d;unfold adl at d;split at d;(.rename_i p;have f:=g (.code a s);rw[d]at f;exact SC.cond p (by simpa using f.1));(.rename_i p;have f:=g (.code b s);rw[d]at f;exact SC.cond p (by simpa using f.1));cases d|block k b=>refine qY ?_ aS;simp only[Bf]at d;have e:=g (.code b s);generalize rec (.code b s)=r at e d;unfold VT at d;split at d;(.rename_i j n;have h:=SC.block (id:=k) e.1;simp only at h;split at d;(.rename_i q;cases d;rw[U (cm q)]at h;exact h);rename_i q;cases d;rw[I (cz q)]at h;exact h);rename_i i;subst d;have h:=SC.block (id:=k) e.1;cases x with|exit j=>exact absurd A (i j m)|_=>exact h
 |loop b=>simp only[Bf]at d;have e:=g (.code b s);generalize rec (.code b s)=r at e d;(have t:SI P [.code b,.inLoop b] s x m:=by unfold adm at d;split at d;(.rename_i n;have f:=g (.code (.loop b) n);rw[d]at f;exact SI.round e.1 (f.2 b A));rename_i i;subst d;exact SI.last e.1 λo=>by subst o;exact i m A);exact⟨SI.loop t,λy v=>by cases v;exact t⟩|scope b=>refine qY ?_ aS;simp only[Bf]at d;have e:=g (.pv b b s);rw[d]at e;exact SI.pv e|region id ops z=>refine qY ?_ aS;simp only[Bf]at d;unfold Qu at d;split at d;(.have e:=g (.ops ops (List.range ops.size) s);rw[d]at e;obtain⟨rfl,e⟩:=e;exact SO.region e);split at d;(.rename_i l w;have e:=g (.wX ops l s [s.h]);rw[d]at e;obtain⟨rfl,B,e⟩:=e;exact SC.Bl u w e);cases d|_=>cases d
def Lb(f:∀j,qX P j (rec j))(b c:Code)(s:St):qX P (.pv b c s) (NV rec b (rec (.code c s))):=by have a:=f (.code c s);generalize rec (.code c s)=n at a;unfold NV;split;(.rename_i k g;split;(.rename_i h d;have i:=f (.pv b h g);generalize rec (.pv b h g)=o at i;cases o with|code x m=>exact SI.jump a.1 d i|_=>exact True.intro);rename_i d;exact SI.scope a.1 λl e=>by cases e;exact d);rename_i p;cases n with|code x m=>exact SI.scope a.1 λl e=>absurd (by rw[e]) (p l m)|_=>exact True.intro
def Ty(k:Bi P)(i:qs P pr)(m:∀j,qX P j (rec j))(f:Nat)(a:List V)(h:Hp)(b:Nat):qX P (.call f a h b) (VQ P pr rec f a h b):=by
 unfold VQ;split;.rename_i r n;cases r with|none=>exact True.intro|some x=>obtain⟨v,o,p⟩:=x;exact i.KJ f a h b v o p n
 split;.rename_i e q;unfold adj;split;(.rename_i c s;have d:=m (.code c ⟨tmpsOf a 0 .e,max a.length e.ntmps,h,b,[]⟩);generalize rec (.code c ⟨tmpsOf a 0 .e,max a.length e.ntmps,h,b,[]⟩)=y at d;(have fin:∀x g,SC P c ⟨tmpsOf a 0 .e,max a.length e.ntmps,h,b,[]⟩ x g->(x=.norm\/x=.ret)->qX P (.call f a h b) (aan P pr e g):=λx g d t=>by unfold aan;split;(.rename_i l u w;exact RC.body (L:=h) k i.idle q s d t u w);exact True.intro);split;(.exact fin .norm _ d.1 (.inl A));(.exact fin .ret _ d.1 (.inr A));exact True.intro);exact True.intro
 exact True.intro
def lW{s:Option St}{k:St->Out}{x:X}{b:St}(h:wY s k=.code x b):∃a,s=some a/\k a=.code x b:=by cases s with|none=>cases h|some a=>exact⟨a,A,h⟩
def yd{s:St}{d:Option Nat}{c:Call}{k:St->Out}{x:X}{l:St}(h:Iu rec s d c k=.code x l):∃f a g b v e i j,c.callee=.value f/\mV s.t f=some a/\pw a (oa s.t c.args.toList)=some (g,b)/\rec (.call g b s.h s.nx)=.call v e i/\s.put d v e i=some j/\k j=.code x l:=by unfold Iu at h;split at h;(.rename_i f m;split at h;(.rename_i a n;split at h;(.rename_i g b o;unfold Gs at h;split at h;(.rename_i v e i p;obtain⟨j,q,r⟩:=lW h;exact⟨f,a,g,b,v,e,i,j,m,n,o,p,q,r⟩);cases h);cases h);cases h);cases h
def uz{s:St}{d:Option Nat}{op:Op}{k:St->Out}{x:X}{e:St}(h:wZ P s d op k=.code x e):∃v a b c,ps P s.t s.h s.nx op=some (v,a,b)/\s.put d v a b=some c/\k c=.code x e:=by unfold wZ at h;split at h;(.rename_i v a b f;obtain⟨c,g,i⟩:=lW h;exact⟨v,a,b,c,f,g,i⟩);cases h
def WD(R:qs P pr)(z:∀j,qX P j (rec j))(l:List Nat)(s:St):qX P (.ops ops l s) (VS P rec ops l s):=by (have C:∀x b,VS P rec ops l s=.code x b->x=.norm/\SO P ops l s b:=by intro x b h;cases l with|nil=>cases h;exact⟨A,SO.nil s⟩|cons i l=>(have p:∀a,rec (.ops ops l a)=.code x b->x=.norm/\SO P ops l a b:=λa e=>by have:=z (.ops ops l a);rw[e]at this;exact this);simp only[VS]at h;split at h;(.cases h);rename_i o m;split at h;(.rename_i n;unfold ai5 at h;split at h;(.rename_i f D E;obtain⟨S,T,g,F,v,G,H,a,q,r,t,I,J,K⟩:=yd h;cases q;obtain⟨d,k⟩:=p a K;obtain⟨L,M⟩:=qX.QJ z I;exact⟨d,SO.call m n (by assumption) r t L M J k⟩);(.rename_i c N;unfold VR at h;split at h;(.rename_i f B;split at h;(.rename_i g x y F O Q;obtain⟨a,u,w⟩:=lW h;obtain⟨d,k⟩:=p a w;obtain⟨U,D,E⟩:=c;simp only at B;subst B;exact⟨d,SO.defer m n N O A Q u k⟩);cases h);cases h);obtain⟨v,G,H,a,q,r,t⟩:=uz h;obtain⟨d,k⟩:=p a t;exact⟨d,SO.plain m n q r k⟩);rename_i n;obtain⟨a,u,w⟩:=lW h;obtain⟨d,k⟩:=p a w;exact⟨d,SO.QH m n u k⟩);cases m:VS P rec ops l s with|code x b=>exact C x b m|_=>exact True.intro
def Tz(a0:qs P pr)(N:∀j,qX P j (rec j))(l:List (Nat×Nat))(s:St)(n:List Hp):qX P (.wX ops l s n) (KK P rec ops l s n):=by (have R:∀x r,KK P rec ops l s n=.code x r->x=.norm/\∃q,Bj P ops l s n q r:=by intro x r h;cases l with|nil=>cases h;exact⟨A,[],.nil s n⟩|cons S l=>obtain⟨i,k⟩:=S;(have F:∀d t,rec (.wX ops l d t)=.code x r->x=.norm/\∃q,Bj P ops l d t q r:=λd t e=>by have:=N (.wX ops l d t);rw[e]at this;exact this);simp only[KK]at h;split at h;(.cases h);rename_i o D;split at h;(.rename_i w;unfold aha at h;(have J:∀(c:Kd)(t:Hp->List Hp),kd P o.op=c->(∀m,t m=if FQ (kd P o.op)=true then m::n else n)->(∀{v m u},ps P s.t s.h s.nx o.op=some (v,m,u)->∃O,DS P ops o k s n v m u O)->wZ P s o.dst o.op (λd=>rec (.wX ops l d (t d.h)))=.code x r->x=.norm/\∃q,Bj P ops ((i,k)::l) s n q r:=λc t a T U h=>by obtain⟨v,m,u,d,z,E,G⟩:=uz h;obtain⟨O,K⟩:=U z;obtain⟨B,q,p⟩:=F d _ G;rw[(nq E).2.1,T]at p;exact⟨B,_,.cons D K E p⟩);split at h;(.rename_i a;unfold adk at h;split at h;(.rename_i h0 V W;split at h;(.rename_i v X;split at h;(.rename_i Y;obtain⟨d,H,L⟩:=lW h;obtain⟨B,q,p⟩:=F d _ L;(have K:DS P ops o k s n v s.h s.nx none:=.r w a λy I=>by rw[W]at I;rcases aR.1 I with rfl|I;(.exact X);exact Dh V Y y I);exact⟨B,_,.cons D K H (by rw[a];exact p)⟩);cases h);cases h);cases h);(.rename_i a;refine J .p (λ_=>n) a (λm=>by rw[a];rfl) (λ{v m u}b=>?_) h;unfold ps at b;rw[a]at b;cases C:BT P s.t o.op with|none=>rw[C]at b;cases b|some y=>rw[C]at b;cases b;exact⟨_,.p w a C⟩);(.rename_i a;refine J .a (λ_=>n) a (λm=>by rw[a];rfl) (λ{v m u}b=>?_) h;unfold ps at b;rw[a]at b;cases C:Qt P s.t o.op with|none=>rw[C]at b;cases b|some y=>obtain⟨ob,mk⟩:=y;rw[C]at b;cases b;exact⟨_,.a w a C⟩);(.rename_i a;refine J .e (λm=>m::n) a (λm=>by rw[a];rfl) (λ{v m u}b=>?_) h;unfold ps at b;rw[a]at b;exact⟨_,.e w a b⟩);(.rename_i a;unfold ai5 at h;split at h;(.rename_i f a1 a2 M;obtain⟨f',a3,g,vs,v,m,u,d,z,E,G,Z,Q,q6⟩:=yd h;cases z;obtain⟨r1,r2⟩:=qX.QJ N Z;obtain⟨B,q,p⟩:=F d _ q6;rw[(nq Q).2.1]at p;exact⟨B,_,.cons D (.c w M E G r1 r2) Q (by rw[a];exact p)⟩);(.rename_i c M;rw[M]at a;cases a);obtain⟨v,m,u,d,z,E,G⟩:=uz h;unfold ps at z;rw[a]at z;cases z);cases h);rename_i w;obtain⟨d,H,L⟩:=lW h;obtain⟨B,q,p⟩:=F d _ L;rw[(nq H).2.1]at p;refine⟨B,_,.cons (tr:=q) D (.skip w) H ?_⟩;cases b:FQ (kd P o.op)with|true=>rw[b]at p;simpa using p|false=>rw[b]at p;simpa using p);cases D:KK P rec ops l s n with|code x r=>exact R x r D|_=>exact True.intro
def run_says(e:Bi P)(g:P.follows .mixedOrders=true)(d:qs P pr):∀(n:Nat)(j:aai),qX P j (run P pr n j)|0,j=>qX.bad j|n+1,j=>by have a:=run_says e g d n;cases j with|code c s=>exact Tx g a c s|pv b c s=>exact Lb a b c s|call f i h k=>exact Ty e d a f i h k|ops o l s=>exact WD d a l s|wX o l s m=>exact Tz d a l s m
end
section
inductive EO where|c(l:List V)|y(l:List V)(mk:Bool)|m(es:List (V×V))
def EO.ob:EO->Ob|.c l=>.c l false|.y l mk=>.c l mk|.m es=>.m es
inductive TK where|bool|int(k:IntKind)|str|st(a:List (Nat×Nat×Nat×Bool))|ar(n e z:Nat)|Z(e z:Nat)|pt|mp(kd:Bool)(e:Nat)|fn|akW
structure TI where
 k:TK
 z:Nat
 w:Nat
 g:Bool
 v:V
def fieldsOf(P:Program):List Field->Option (List (Nat×Nat×Nat×Bool))|[]=>some []|f::l=>match od P f.type,lb P f.type,fieldsOf P l with|some z,some g,some r=>some ((f.type,f.offset,z,g)::r)|_,_,_=>none
def ye(P:Program):TypeDesc->Option TK
|.bool=>some .bool|.int k=>some (.int k)|.string=>some .str|.struct a=>match fieldsOf P a.toList with|some l=>some (.st l)|none=>none
|.array n e=>match od P e with|some z=>some (.ar n e z)|none=>none
|.slice e=>match od P e with|some z=>some (.Z e z)|none=>none
|.pointer _=>some .pt|.map k e=>match tF P k with|some kd=>some (.mp kd e)|none=>none
|.func _ _ _=>some .fn|.interface _=>some .akW|_=>none
def Of(P:Program)(ty:TypeId):Option TI:=match od P ty,sF P ty,lb P ty,zeroOf P ty,P.underlying ty with
|some z,some w,some g,some v,some d=>match ye P d,Nat.beq v.cells.length z with|some k,true=>some ⟨k,z,w,g,v⟩|_,_=>none
|_,_,_,_,_=>none
def hZ(P:Program)(a:T TI):Prop:=∀ty i,a.get ty=some i->Of P ty=some i
structure ES where
 e:T V
 h:T EO
 nx:Nat
def ES.un(s:ES)(K:T V->T EO->Nat->Prop):Prop:=match s with|⟨e,h,a⟩=>K e h a
def ES.WE(s:ES)(K:T V->T EO->Nat->Prop):s.un K=K s.e s.h s.nx:=rfl
structure D(p:Prop)(A B:Prop):Prop where
 t:p->A
 f:¬p->B
def D.yes{p A B:Prop}(h:p)(a:A):D p A B:=⟨λ_=>a,λn=>absurd h n⟩
def D.no{p A B:Prop}(h:¬p)(b:B):D p A B:=⟨λn=>absurd n h,λ_=>b⟩
structure Ar(k:IntKind)(n:Int)(K:Int->Prop):Prop where
 h:K (iR k n)
structure Y{a:Type}(o:Option a)(K:a->Prop):Prop where
 h:∃v,o=some v/\K v
def Y.Q{a:Type}{o:Option a}{K:a->Prop}(v:a)(h:o=some v)(k:K v):Y o K:=⟨v,h,k⟩
structure An(p:Prop)(A:Prop):Prop where
 l:p
 r:A
def aaG:List V->Nat->(V->Prop)->Prop|[],_,_=>False|v::l,o,K=>match o with|0=>K v|o+1=>aaG l o K
def WG:Nat->List V->(List V->Prop)->Prop|0,_,K=>K []|n+1,l,K=>match l with|[]=>False|v::l=>WG n l λr=>K (v::r)
def WH:Nat->List V->(List V->Prop)->Prop|0,l,K=>K l|n+1,l,K=>match l with|[]=>False|_::l=>WH n l K
def aeC:List V->List V->(List V->Prop)->Prop|[],l,K=>K l|x::a,l,K=>match l with|[]=>False|_::l=>aeC a l λr=>K (x::r)
def WJ:Nat->List V->List V->(List V->Prop)->Prop|0,l,a,K=>aeC a l K|o+1,l,a,K=>match l with|[]=>False|v::l=>WJ o l a λr=>K (v::r)
def WK:List V->List V->(List V->Prop)->Prop|[],b,K=>K b|v::l,b,K=>WK l b λr=>K (v::r)
def aaH:Nat->List V->(List V->Prop)->Prop|0,_,K=>K []|n+1,z,K=>aaH n z λr=>WK z r K
def Lc(v:V)(K:List V->Prop):Prop:=match v with|.agg l=>K l|.ey _=>False|.x=>False|v=>K [v]
def Oh(v:V)(K:Nat->Prop):Prop:=match v with|.i _ (.ofNat n)=>K n|_=>False
def IG:∀(l:List V)(o:Nat)(K:V->Prop),aaG l o K->∃v,l[o]?=some v/\K v|[],_,_,h=>h.elim|v::l,0,_,h=>⟨v,A,h⟩|v::l,o+1,K,h=>by simpa using IG l o K h
def Cn:∀(n:Nat)(l:List V)(K:List V->Prop),WG n l K->n<=l.length/\K (l.take n)|0,_,_,h=>⟨au _,h⟩|n+1,[],_,h=>h.elim|n+1,v::l,K,h=>by have:=Cn n l _ h;exact⟨by simp;omega,this.2⟩
def Co:∀(n:Nat)(l:List V)(K:List V->Prop),WH n l K->n<=l.length/\K (l.drop n)|0,_,_,h=>⟨au _,h⟩|n+1,[],_,h=>h.elim|n+1,v::l,K,h=>by have:=Co n l _ h;exact⟨by simp;omega,this.2⟩
def QK:∀(a l:List V)(K:List V->Prop),aeC a l K->a.length<=l.length/\K (a++l.drop a.length)|[],l,_,h=>⟨au _,h⟩|x::a,[],_,h=>h.elim|x::a,v::l,K,h=>by have:=QK a l _ h;exact⟨by simp;omega,this.2⟩
def Cq:∀(o:Nat)(l a:List V)(K:List V->Prop),WJ o l a K->∃c,setAt l o a=some c/\K c|0,l,a,K,h=>by obtain⟨b,f⟩:=QK a l K h;refine⟨_,?_,f⟩;(have d:Nat.ble a.length l.length=true:=by rw[cf];exact b);simp[setAt,d]|o+1,[],_,_,h=>h.elim|o+1,v::l,a,K,h=>by obtain⟨c,b,f⟩:=Cq o l a _ h;refine⟨v::c,?_,f⟩;unfold setAt at b|-;split at b;(.rename_i d;cases b;have d:=jV d;(have:Nat.ble (o+1+a.length) (v::l).length=true:=by rw[cf];simp;omega);rw[this];simp[show o+1+a.length=(o+a.length)+1 by omega]);cases b
def Cr:∀(a b:List V)(K:List V->Prop),WK a b K=K (a++b)|[],b,K=>A|v::l,b,K=>Cr l b _
def QL(z:List V):∀(n:Nat)(K:List V->Prop),aaH n z K=K (rep n z)|0,K=>A|n+1,K=>by simp only[aaH];rw[QL z n];exact Cr _ _ _
def vE{v:V}{K:List V->Prop}(h:Lc v K):v.Vx=true/\K v.cells:=by
 unfold Lc at h;split at h;.exact⟨A,h⟩
 .exact h.elim
 .exact h.elim
 rename_i a b c;cases v<;>simp_all[V.Vx,V.cells]
def yf{v:V}{K:Nat->Prop}(h:Oh v K):∃n,nat v=some n/\K n:=by unfold Oh at h;split at h;(.exact⟨_,A,h⟩);exact h.elim
def WL{a:Type}:Nat->Nat->a->(T a->Prop)->Prop|0,_,_,K=>K .e|f+1,k,x,K=>match k with|0=>K (.n .e (some x) .e)|k+1=>match Nat.beq (k%2) 0 with|true=>WL f (k/2) x λl=>K (.n l none .e)|false=>WL f (k/2) x λr=>K (.n .e none r)
def qZ{a:Type}:T a->Nat->a->(T a->Prop)->Prop|.e,k,x,K=>WL (k+1) k x K|.n l o r,k,x,K=>match k with|0=>K (.n l (some x) r)|k+1=>match Nat.beq (k%2) 0 with|true=>qZ l (k/2) x λl=>K (.n l o r)|false=>qZ r (k/2) x λr=>K (.n l o r)
def QM{a:Type}:∀(f k:Nat)(x:a)(K:T a->Prop),WL f k x K=K (T.one f k (some x))|0,_,_,_=>A|f+1,0,_,_=>A|f+1,k+1,x,K=>by simp only[WL,T.one];cases Nat.beq (k%2) 0<;>exact QM f _ _ _
def gT{a:Type}:∀(t:T a)(k:Nat)(x:a)(K:T a->Prop),qZ t k x K=K (t.set k x)|.e,k,x,K=>QM _ _ _ _|.n l o r,0,x,K=>A|.n l o r,k+1,x,K=>by simp only[qZ,T.set,T.put];cases Nat.beq (k%2) 0;(.exact gT r _ _ _);exact gT l _ _ _
def iS(e:T V)(x:Operand)(K:V->Prop):Prop:=match x with
|.tmp k=>match e.get k with|some v=>K v|none=>False
|.const c=>match aep nZ c with|some v=>K v|none=>False
|.global _=>False|.func f=>K (.f f [] [])
def IH(e:T V):List Operand->(List V->Prop)->Prop|[],K=>K []|x::l,K=>iS e x λv=>IH e l λr=>K (v::r)
def WM(e:T V):List (Nat×Operand)->(List (Nat×V)->Prop)->Prop|[],K=>K []|(i,x)::l,K=>iS e x λv=>WM e l λr=>K ((i,v)::r)
def WN(e:T V)(x:Option Operand)(K:Option (Option V)->Prop):Prop:=match x with|none=>K none|some x=>iS e x λv=>K (some (some v))
def mW(e:T V)(t:T V):Prop:=∀k v,e.get k=some v->gA t k=v
variable{e t:T V}
def dv(b:mW e t){x:Operand}{K:V->Prop}(h:iS e x K):∃v,mV t x=some v/\K v:=by
 unfold iS at h;split at h;.split at h;(.rename_i v a;exact⟨v,by simp[mV,b _ _ a],h⟩);exact h.elim
 .split at h;(.rename_i v a;exact⟨v,a,h⟩);exact h.elim
 .exact h.elim
 exact⟨_,A,h⟩
def qt(a:mW e t):∀{l:List Operand}{K:List V->Prop},IH e l K->∃r,oa t l=some r/\K r|[],K,h=>⟨[],A,h⟩|x::l,K,h=>by obtain⟨v,b,c⟩:=dv a h;obtain⟨r,d,f⟩:=qt a c;exact⟨v::r,by simp[oa,b,d],f⟩
def Cs(a:mW e t):∀{l:List (Nat×Operand)}{K:List (Nat×V)->Prop},WM e l K->∃r,wH t l=some r/\K r|[],K,h=>⟨[],A,h⟩|(i,x)::l,K,h=>by obtain⟨v,b,c⟩:=dv a h;obtain⟨r,d,f⟩:=Cs a c;exact⟨(i,v)::r,by simp[wH,b,d],f⟩
def II(a:mW e t){x:Option Operand}{K:Option (Option V)->Prop}(h:WN e x K):K (omap t x):=by unfold WN at h;split at h;(.exact h);obtain⟨v,b,c⟩:=dv a h;simpa[omap,b]using c
def ai7(a b:IntKind):Bool:=match decide (a=b)with|true=>true|false=>false
def aeD(op:BinOp)(k:IntKind)(a b:Int)(K:V->Prop):Prop:=match op with|.add=>Ar k (a+b) λn=>K (.i k n)|.sub=>Ar k (a-b) λn=>K (.i k n)|.mul=>Ar k (a*b) λn=>K (.i k n)|.quo=>An (b≠0) (Ar k (a.tdiv b) λn=>K (.i k n))|.rem=>An (b≠0) (K (.i k (a.tmod b)))|.eql=>D (a=b) (K (.b true)) (K (.b false))|.neq=>D (a=b) (K (.b false)) (K (.b true))|.lss=>D (a<b) (K (.b true)) (K (.b false))|.leq=>D (a<=b) (K (.b true)) (K (.b false))|.gtr=>D (b<a) (K (.b true)) (K (.b false))|.geq=>D (b<=a) (K (.b true)) (K (.b false))|op=>Y (match nd op k a b with|some v=>some v|none=>CQ op k a b) K
def aeE(op:BinOp)(a b:List Nat)(K:V->Prop):Prop:=match op with|.add=>An (a.length+b.length<=9223372036854775807) (K (.s (a++b)))|.eql=>D (a=b) (K (.b true)) (K (.b false))|.neq=>D (a=b) (K (.b false)) (K (.b true))|.lss=>D (xO a b=true) (K (.b true)) (K (.b false))|op=>Y (xP op a b) K
def WO(op:BinOp)(a b:Bool)(K:V->Prop):Prop:=match op,a,b with|.eql,true,true=>K (.b true)|.eql,true,false=>K (.b false)|.eql,false,true=>K (.b false)|.eql,false,false=>K (.b true)|.neq,true,true=>K (.b false)|.neq,true,false=>K (.b true)|.neq,false,true=>K (.b true)|.neq,false,false=>K (.b false)|_,_,_=>False
def TA(op:BinOp)(r:Option Bool)(K:V->Prop):Prop:=match op,r with|.eql,some true=>K (.b true)|.eql,some false=>K (.b false)|.neq,some true=>K (.b false)|.neq,some false=>K (.b true)|_,_=>False
def aeF(P:Program)(c:T TI)(op:BinOp)(ty:TypeId)(x y:Operand)(a b:V)(K:V->Prop):Prop:=match a,b with
|.i k a,.i d b=>match op with|.shl=>Y (nd .shl k a b) K|.shr=>Y (nd .shr k a b) K|op=>match ai7 k d with|true=>aeD op k a b K|false=>False
|.s a,.s b=>aeE op a b K|a,b=>match c.get ty with
|some i=>match i.k with
 |.bool=>match a,b with|.b a,.b b=>WO op a b K|_,_=>False
 |.pt=>TA op (zQ a b) K|.Z _ _=>TA op (zS a b) K|.mp _ _=>TA op (zT a b) K|.fn=>TA op (zU a b) K|_=>Y (KD P op ty x y a b) K
|none=>False
def ajs(op:UnOp)(v:V)(K:V->Prop):Prop:=match op,v with|.not,.b true=>K (.b false)|.not,.b false=>K (.b true)|.neg,.i k n=>Ar k (0-n) λn=>K (.i k n)|op,v=>Y (ag9 op v) K
def aaI(a:List (Nat×Nat×Nat×Bool)):List V->List (Nat×V)->(List V->Prop)->Prop
|l,[],K=>K l|l,(i,v)::r,K=>match a[i]?with
|some (_,c,z,_)=>Lc v λb=>match Nat.beq b.length z with|true=>WJ c l b λl=>aaI a l r K|false=>False
|none=>False
def WQ(z:Nat):List V->List (Nat×V)->(List V->Prop)->Prop|l,[],K=>K l|l,(i,v)::r,K=>Lc v λa=>match Nat.beq a.length z with|true=>WJ (i*z) l a λl=>WQ z l r K|false=>False
def ahk(g:Bool)(z:Nat)(l:List V)(o:Nat)(K:V->Prop):Prop:=match g with|true=>WH o l λr=>WG z r λr=>K (.agg r)|false=>aaG l o K
def rG(d:Nat)(x:Option (Option V))(K:Nat->Prop):Prop:=match x with|none=>K d|some (some v)=>Oh v K|some none=>False
def aeG(g:T TI)(ty:TypeId)(v:V)(d f a:Option (Option V))(K:V->Prop):Prop:=match g.get ty with
|some i=>match i.k,v with
 |.str,.s s=>match a with|none=>rG 0 d λl=>rG s.length f λh=>An (l<=h/\h<=s.length) (K (.s ((s.drop l).take (h-l))))|some _=>False
 |.Z _ z,.Q n c=>match a with|none=>rG 0 d λl=>rG n f λh=>An (l<=h/\h<=n) (Y (cM c (l*z) ((h-l)*z)) λc=>K (.Q (h-l) c))|some _=>rG 0 d λl=>rG n f λh=>rG n a λm=>match l with|0=>An (h=n/\m=n) (K (.Q n c))|_=>False
 |.Z _ z,.Z b o n c x=>match zW x z with|true=>rG 0 d λl=>rG n f λh=>rG c a λm=>Y (hH z b o c (aah a x) (some l) (some h) (some m)) K|false=>False
 |.Z _ z,.E=>rG 0 d λl=>rG 0 f λh=>rG 0 a λm=>match l,h,m with|0,0,0=>K .E|_,_,_=>False
 |.Z _ z,.es=>rG 0 d λl=>rG 0 f λh=>rG 0 a λm=>match l,h,m with|0,0,0=>K .es|_,_,_=>False
 |.ar n _ z,.p b o=>match a with|none=>An (n<=1000000000000)<|rG 0 d λl=>rG n f λh=>Y (hH z b o n none (some l) (some h) (some n)) K|some _=>False
 |_,_=>False
|none=>False
def aeH(c:List (Nat×Nat×Nat×Bool))(v:V)(f:Nat)(K:V->Prop):Prop:=match c[f]?with
|some (_,a,z,_)=>match z,v with|_+1,.p b o=>K (.p b (o+a))|_+1,.ip l=>WH a l λr=>WG z r λ_=>K (.ip r)|_,_=>False
|none=>False
def aeI(a:List (Nat×Nat×Nat×Bool))(v:V)(f:Nat)(K:V->Prop):Prop:=match a[f]?,v with|some (_,b,z,g),.agg l=>ahk g z l b K|_,_=>False
def aeJ(k:TK)(v:V)(i:Nat)(K:V->Prop):Prop:=match k,v with
|.Z _ z,.Z b o n _ _=>An (i<n) (K (.p b (o+i*z)))|.Z _ z,.Q n l=>match Nat.beq z 0 with|false=>An (i<n) (Y (cM l (i*z) z) λl=>K (.ip l))|true=>False
|.ar n _ z,.p b o=>An (i<n) (K (.p b (o+i*z)))|_,_=>False
def aeK(k:TK)(v:V)(i:Nat)(K:V->Prop):Prop:=match k,v with|.str,.s s=>Y (s[i]?) λc=>K (.i .u8 (.ofNat c))|_,_=>False
def aeL(k:TK)(v:V)(K:V->Prop):Prop:=match k,v with|.str,.s s=>K (.i .i64 (.ofNat s.length))|.ar n _ _,_=>K (.i .i64 (.ofNat n))|.Z _ _,.E=>K (.i .i64 (.ofNat 0))|.Z _ _,.es=>K (.i .i64 (.ofNat 0))|.Z _ _,.Z _ _ n _ _=>K (.i .i64 (.ofNat n))|.Z _ _,.Q n _=>K (.i .i64 (.ofNat n))|.mp _ _,.nm=>K (.i .i64 (.ofNat 0))|_,_=>False
def aeM(k:TK)(v:V)(K:V->Prop):Prop:=match k,v with|.Z _ _,.E=>K (.i .i64 (.ofNat 0))|.Z _ _,.Z _ _ _ c none=>K (.i .i64 (.ofNat c))|_,_=>False
def Ld:V->List V->(V->Prop)->Prop|v,[],K=>K v|v,x::l,K=>match v,x with|.i k a,.i _ b=>D (a<=b) (Ld (.i k a) l K) (Ld (.i k b) l K)|_,_=>False
def Lf:V->List V->(V->Prop)->Prop|v,[],K=>K v|v,x::l,K=>match v,x with|.i k a,.i _ b=>D (b<=a) (Lf (.i k a) l K) (Lf (.i k b) l K)|_,_=>False
def aeN(a:T TI)(b:Builtin)(c:List TypeId)(l:List V)(K:V->Prop):Prop:=match b with
|.len=>match c,l with
 |ty::_,[x]=>match a.get ty with|some i=>aeL i.k x K|none=>False
 |_,_=>False
|.cap=>match c,l with
 |ty::_,[x]=>match a.get ty with|some i=>aeM i.k x K|none=>False
 |_,_=>False
|.min=>match l with|x::l=>Ld x l K|[]=>False
|.max=>match l with|x::l=>Lf x l K|[]=>False
|_=>False
def aeO(v:V)(i:Nat)(K:V->Prop):Prop:=match v with|.ey l=>aaG l i K|_=>False
def aeP(v:V)(K:V->Prop):Prop:=match v with|.np=>False|.nf=>False|.zK=>False|.x=>False|.j=>False|v=>K v
def aeQ(k:TK)(v:V)(K:V->Prop):Prop:=match k,v with|.int k,.i _ n=>Ar k n λn=>K (.i k n)|.str,.s s=>K (.s s)|_,_=>False
def pK(P:Program)(d:T TI)(e:T V)(op:Op)(K:V->Prop):Prop:=match op with
|.move x=>iS e x K|.assign x=>iS e x K|.pick c a b=>iS e c λc=>match c with|.b true=>iS e a K|.b false=>iS e b K|_=>False
|.build ty h=>match d.get ty with
 |some i=>match i.k with|.st j=>WM e h.toList λh=>aaI j i.v.cells h λl=>K (.agg l)|.ar _ _ z=>WM e h.toList λh=>WQ z i.v.cells h λl=>K (.agg l)|_=>False
 |none=>False
|.nilCheck x=>iS e x λv=>aeP v K|.binOp op ty x y _=>iS e x λa=>iS e y λb=>aeF P d op ty x y a b K|.unOp op _ x=>iS e x λv=>ajs op v K|.convert p q x=>match d.get p,d.get q with|some _,some i=>iS e x λv=>aeQ i.k v K|_,_=>False
|.makeFunc (.func f) a c=>IH e a.toList λa=>IH e c.toList λc=>K (.f f a c)|.slice ty x o k m=>match Option.isNone m||Option.isSome k with|true=>iS e x λv=>WN e o λo=>WN e k λk=>WN e m λm=>aeG d ty v o k m K|false=>False
|.fieldAddr ty x f=>match d.get ty with
 |some i=>match i.k with|.st j=>iS e x λv=>aeH j v f K|_=>False
 |none=>False
|.field ty x f=>match d.get ty with
 |some i=>match i.k with|.st j=>iS e x λv=>aeI j v f K|_=>False
 |none=>False
|.indexAddr ty x g=>match d.get ty with|some i=>iS e x λv=>iS e g λg=>Oh g λn=>aeJ i.k v n K|none=>False
|.index ty x g=>match d.get ty with|some i=>iS e x λv=>iS e g λg=>Oh g λn=>aeK i.k v n K|none=>False
|.extract x i=>iS e x λv=>aeO v i K|.call {callee:=.builtin b,args,argTypes}=>IH e args.toList λl=>aeN d b argTypes.toList l K|_=>False
end
section
variable{P:Program}{tt:T TI}{e t:T V}
structure TF(P:Program)(ty:TypeId)(i:TI):Prop where
 sz:od P ty=some i.z
 eo:sF P ty=some i.w
 g:lb P ty=some i.g
 zero:zeroOf P ty=some i.v
 len:i.v.cells.length=i.z
 k:∃d,P.underlying ty=some d/\ye P d=some i.k
def TC{ty:TypeId}{i:TI}(h:Of P ty=some i):TF P ty i:=by unfold Of at h;split at h;(.rename_i z w g v d a b c f j;split at h;(.rename_i k l m;cases h;exact⟨a,b,c,f,cm m,d,j,l⟩);cases h);cases h
def hZ.f(ht:hZ P tt){ty:TypeId}{i:TI}(h:tt.get ty=some i):TF P ty i:=TC (ht ty i h)
def TF.bool{ty:TypeId}{i:TI}(h:TF P ty i)(b:i.k=.bool):P.underlying ty=some .bool:=by obtain⟨d,c,a⟩:=h.k;rw[b]at a;cases d<;>simp[ye]at a<;>first|exact c|(split at a<;>cases a)
def TF.int{ty:TypeId}{i:TI}{k:IntKind}(h:TF P ty i)(b:i.k=.int k):P.underlying ty=some (.int k):=by obtain⟨d,c,a⟩:=h.k;rw[b]at a;cases d<;>simp[ye]at a<;>first|(subst a;exact c)|(split at a<;>cases a)
def TF.str{ty:TypeId}{i:TI}(h:TF P ty i)(b:i.k=.str):P.underlying ty=some .string:=by obtain⟨d,c,a⟩:=h.k;rw[b]at a;cases d<;>simp[ye]at a<;>first|exact c|(split at a<;>cases a)
def TF.pt{ty:TypeId}{i:TI}(h:TF P ty i)(b:i.k=.pt):∃x,P.underlying ty=some (.pointer x):=by obtain⟨d,c,a⟩:=h.k;rw[b]at a;cases d<;>simp[ye]at a<;>first|exact⟨_,c⟩|(split at a<;>cases a)
def TF.fn{ty:TypeId}{i:TI}(h:TF P ty i)(b:i.k=.fn):∃x y z,P.underlying ty=some (.func x y z):=by obtain⟨d,c,a⟩:=h.k;rw[b]at a;cases d<;>simp[ye]at a<;>first|exact⟨_,_,_,c⟩|(split at a<;>cases a)
def TF.mp{ty:TypeId}{i:TI}{kd:Bool}{x:Nat}(h:TF P ty i)(b:i.k=.mp kd x):∃y,P.underlying ty=some (.map y x)/\tF P y=some kd:=by obtain⟨d,c,a⟩:=h.k;rw[b]at a;cases d<;>simp only[ye]at a<;>(try(cases a;done))<;>split at a<;>cases a;exact⟨_,c,by assumption⟩
def TF.Z{ty:TypeId}{i:TI}{x z:Nat}(h:TF P ty i)(c:i.k=.Z x z):P.underlying ty=some (.slice x)/\iy P ty=some (x,z):=by obtain⟨d,b,a⟩:=h.k;rw[c]at a;cases d<;>simp only[ye]at a<;>(try(cases a;done))<;>split at a<;>cases a;rename_i f;exact⟨b,by simp[iy,b,f]⟩
def TF.ar{ty:TypeId}{i:TI}{n x z:Nat}(h:TF P ty i)(f:i.k=.ar n x z):P.underlying ty=some (.array n x)/\od P x=some z/\CP P ty=some (n,x,z):=by obtain⟨d,b,a⟩:=h.k;rw[f]at a;cases d<;>simp only[ye]at a<;>(try(cases a;done))<;>split at a<;>cases a;rename_i c;exact⟨b,c,by simp[CP,b,c]⟩
def yg:∀{l:List Field}{r:List (Nat×Nat×Nat×Bool)},fieldsOf P l=some r->sD P l=true/\∀(f:Nat)x,r[f]?=some x->∃b,l[f]?=some b/\b.type=x.1/\b.offset=x.2.1/\od P b.type=some x.2.2.1/\lb P b.type=some x.2.2.2
|[],r,h=>by cases h;exact⟨A,λf x h=>by simp at h⟩
|a::l,r,h=>by simp only[fieldsOf]at h;split at h;(.rename_i z g n d i j;cases h;obtain⟨k,m⟩:=yg j;refine⟨by simp[sD,d,k],λf x c=>?_⟩;cases f with|zero=>simp at c;subst c;exact⟨a,A,A,A,d,i⟩|succ f=>simpa using m f x (by simpa using c));cases h
structure SF(P:Program)(ty:TypeId)(a:Array Field)(c:List (Nat×Nat×Nat×Bool)):Prop where
 u:P.underlying ty=some (.struct a)
 s:sD P a.toList=true
 p:∀i t b z g,c[i]?=some (t,b,z,g)->CT P a i=some (b,z)
 f:∀i t b z g,c[i]?=some (t,b,z,g)->vv P ty i=some (t,b,z)/\lb P t=some g
def TF.st{ty:TypeId}{i:TI}{p:List (Nat×Nat×Nat×Bool)}(h:TF P ty i)(s:i.k=.st p):∃a,SF P ty a p:=by
 obtain⟨d,q,b⟩:=h.k;rw[s]at b;cases d<;>simp only[ye]at b<;>(try(cases b;done))<;>split at b<;>cases b;rename_i a _ u;obtain⟨v,r⟩:=yg u;refine⟨a,q,v,λi t w z g k=>?_,λi t w z g k=>?_⟩;.obtain⟨l,m,j,c,f,n⟩:=r i _ k;simp only at j c f;(have o:a[i]?=some l:=by simpa using m);simp[CT,o,f,c]
 obtain⟨l,m,j,c,f,n⟩:=r i _ k;simp only at j c f n;have o:a[i]?=some l:=by simpa using m
 subst j;exact⟨by simp[vv,q,o,f,c],n⟩
def D.out{p:Prop}{A B:Prop}(h:D p A B):(p/\A)\/(¬p/\B):=(Classical.em p).elim (λx=>.inl ⟨x,h.t x⟩) λx=>.inr ⟨x,h.f x⟩
def sL(a b:Int):Qp a b=decide (a=b):=sI a b
def qu(a b:Int):Vy a b=decide (a<=b):=xa a b
def yh(a b:List Nat):sC a b=decide (a=b):=by by_cases h:a=b;(.subst h;simp only[BN];induction a with|nil=>rfl|cons x l c=>simp[sC,iv,c]);simp only[h,zE];cases d:sC a b with|false=>rfl|true=>exact absurd (Ab _ _ d) h
def aaJ{op:BinOp}{k:IntKind}{a b:Int}{K:V->Prop}(h:aeD op k a b K)(c:op≠.shl)(f:op≠.shr):∃v,(match nd op k a b with|some v=>some v|none=>CQ op k a b)=some v/\K v:=by
 unfold aeD at h;split at h;.exact⟨_,A,h.h⟩
 .exact⟨_,A,h.h⟩
 .exact⟨_,A,h.h⟩
 .obtain⟨d,h⟩:=h;(have:Qp b 0=false:=by rw[sL];simp[d]);exact⟨_,by simp[nd,this],h.h⟩
 .obtain⟨d,h⟩:=h;(have:Qp b 0=false:=by rw[sL];simp[d]);exact⟨_,by simp[nd,this],h⟩
 .rcases h.out with⟨c,h⟩|⟨c,h⟩<;>exact⟨_,by simp[nd,sL,c],h⟩
 .rcases h.out with⟨c,h⟩|⟨c,h⟩<;>exact⟨_,by simp[nd,sL,c],h⟩
 .rcases h.out with⟨c,h⟩|⟨c,h⟩<;>exact⟨_,by simp[nd,qu];omega,h⟩
 .rcases h.out with⟨c,h⟩|⟨c,h⟩<;>exact⟨_,by simp[nd,qu];omega,h⟩
 .rcases h.out with⟨c,h⟩|⟨c,h⟩<;>exact⟨_,by simp[nd,qu];omega,h⟩
 .rcases h.out with⟨c,h⟩|⟨c,h⟩<;>exact⟨_,by simp[nd,qu];omega,h⟩
 exact h.h
def aaK{op:BinOp}{a b:List Nat}{K:V->Prop}(h:aeE op a b K):∃v,xP op a b=some v/\K v:=by
 unfold aeE at h;split at h
 .have:Nat.ble (a.length+b.length) 9223372036854775807=true:=by rw[cf];exact h.l
  exact⟨_,by simp[xP,this],h.r⟩
 .rcases h.out with⟨c,h⟩|⟨c,h⟩<;>exact⟨_,by simp[xP,yh,c],h⟩
 .rcases h.out with⟨c,h⟩|⟨c,h⟩<;>exact⟨_,by simp[xP,yh,c],h⟩
 .rcases h.out with⟨c,h⟩|⟨c,h⟩<;>exact⟨_,by simp[xP];first|exact c|(cases d:xO a b<;>simp_all),h⟩
 exact h.h
def WR{op:BinOp}{a b:Bool}{K:V->Prop}(h:WO op a b K):(op=.eql/\K (.b (a==b)))\/(op=.neq/\K (.b !(a==b))):=by unfold WO at h;split at h<;>first|exact h.elim|exact .inl ⟨A,h⟩|exact .inr ⟨A,h⟩
def Cu{op:BinOp}{r:Option Bool}{K:V->Prop}(h:TA op r K):∃b,r=some b/\((op=.eql/\K (.b b))\/(op=.neq/\K (.b !b))):=by unfold TA at h;split at h<;>first|exact h.elim|exact⟨_,A,.inl ⟨A,h⟩⟩|exact⟨_,A,.inr ⟨A,h⟩⟩
def WS{a b:IntKind}(h:ai7 a b=true):a=b:=by unfold ai7 at h;split at h;(.rename_i c;simpa using c);cases h
def aeR{ty:TypeId}{x y:Operand}{a b:V}{r:Bool}(h:BQ P nZ ty a b=some r)(c:∀l,a≠.agg l)(d:a≠.zK):CS P ty x y a b=some r:=by
 unfold CS;split;.exact absurd A d
 .exact absurd A (c _)
 exact h
def TD{a b:V}{r:Bool}(h:zQ a b=some r):(∀l,a≠.agg l)/\a≠.zK/\(∀k n,a≠.i k n)/\(∀s,a≠.s s):=by cases a<;>simp[zQ]at h|-
def TE{a b:V}{r:Bool}(h:zS a b=some r):(∀l,a≠.agg l)/\a≠.zK/\(∀k n,a≠.i k n)/\(∀s,a≠.s s):=by cases a<;>cases b<;>simp[zS,CR]at h|-
def TG{a b:V}{r:Bool}(h:zT a b=some r):(∀l,a≠.agg l)/\a≠.zK/\(∀k n,a≠.i k n)/\(∀s,a≠.s s):=by cases a<;>simp[zT]at h|-
def TH{a b:V}{r:Bool}(h:zU a b=some r):(∀l,a≠.agg l)/\a≠.zK/\(∀k n,a≠.i k n)/\(∀s,a≠.s s):=by cases a<;>simp[zU]at h|-
def yi{op:BinOp}{ty:TypeId}{c d:Operand}{a b:V}{r:Bool}{K:V->Prop}(f:BQ P nZ ty a b=some r)(g:(∀l,a≠.agg l)/\a≠.zK/\(∀k n,a≠.i k n)/\(∀s,a≠.s s))(h:(op=.eql/\K (.b r))\/(op=.neq/\K (.b !r))):∃v,KD P op ty c d a b=some v/\K v:=by obtain⟨i,j,m,o⟩:=g;have p:=aeR (x:=c) (y:=d) f i j;unfold KD;rcases h with⟨rfl,h⟩|⟨rfl,h⟩;all_goals split;(.exact absurd A (m _ _));(.exact absurd A (o _));.exact⟨_,by simp[p],h⟩
def aaL(ht:hZ P tt){op:BinOp}{ty:TypeId}{x y:Operand}{a b:V}{K:V->Prop}(h:aeF P tt op ty x y a b K):∃v,KD P op ty x y a b=some v/\K v:=by
 unfold aeF at h;split at h;.rename_i k a q b;split at h;(.exact h.h);(.exact h.h);rename_i op m n;split at h;(.rename_i c;have:=WS c;subst this;obtain⟨v,g,j⟩:=aaJ h (λe=>m e) (λe=>n e);refine⟨v,?_,j⟩;unfold KD;have o:decide (k=k)=true:=aS;cases op<;>first|exact absurd A m|exact absurd A n|(simp only[o];exact g));exact h.elim
 .obtain⟨v,g,j⟩:=aaK h;exact⟨v,g,j⟩
 split at h;.rename_i i p;have F:=ht.f p;split at h;(.rename_i c;have f:=F.bool c;split at h;(.rename_i a b _ _;exact yi (r:=a==b) (by simp[BQ,nZ,f]) ⟨by simp,by simp,by simp,by simp⟩ (WR h));exact h.elim);(.rename_i c;obtain⟨z,f⟩:=F.pt c;obtain⟨l,d,h⟩:=Cu h;exact yi (by simpa[BQ,nZ,f]using d) (TD d) h);(.rename_i c;obtain⟨f,_⟩:=F.Z c;obtain⟨l,d,h⟩:=Cu h;exact yi (by simpa[BQ,nZ,f]using d) (TE d) h);(.rename_i c;obtain⟨y,f,_⟩:=F.mp c;obtain⟨l,d,h⟩:=Cu h;exact yi (by simpa[BQ,nZ,f]using d) (TG d) h);(.rename_i c;obtain⟨_,_,_,f⟩:=F.fn c;obtain⟨l,d,h⟩:=Cu h;exact yi (by simpa[BQ,nZ,f]using d) (TH d) h);exact h.h
 exact h.elim
def aeS{op:UnOp}{v:V}{K:V->Prop}(h:ajs op v K):∃r,ag9 op v=some r/\K r:=by
 unfold ajs at h;split at h;.exact⟨_,A,h⟩
 .exact⟨_,A,h⟩
 .exact⟨_,A,h.h⟩
 exact h.h
def QN{ty:TypeId}{a:Array Field}{d:List (Nat×Nat×Nat×Bool)}(F:SF P ty a d):∀{b:List (Nat×V)}{l:List V}{K:List V->Prop},aaI d l b K->∃r,uo (CT P a) l b=some r/\K r|[],l,K,h=>⟨l,A,h⟩|(i,v)::b,l,K,h=>by simp only[aaI]at h;split at h;(.rename_i t q z g f;obtain⟨j,c⟩:=vE h;split at c;(.rename_i k;obtain⟨s,m,n⟩:=Cq _ _ _ _ c;obtain⟨r,o,p⟩:=QN F n;exact⟨r,by simp[uo,F.p _ _ _ _ _ f,j,k,m,o],p⟩);exact c.elim);exact h.elim
def IJ{z:Nat}:∀{a:List (Nat×V)}{l:List V}{K:List V->Prop},WQ z l a K->∃r,uo (Io z) l a=some r/\K r|[],l,K,h=>⟨l,A,h⟩|(i,v)::a,l,K,h=>by simp only[WQ]at h;obtain⟨c,b⟩:=vE h;split at b;(.rename_i d;obtain⟨m,f,g⟩:=Cq _ _ _ _ b;obtain⟨r,j,k⟩:=IJ g;exact⟨r,by simp[uo,Io,c,d,f,j],k⟩);exact b.elim
def Oi{g:Bool}{z:Nat}{l:List V}{o:Nat}{K:V->Prop}(h:ahk g z l o K):∃v,iG (some g) z l o=some v/\K v:=by unfold ahk at h;split at h;(.obtain⟨d,a⟩:=Co _ _ _ h;obtain⟨b,c⟩:=Cn _ _ _ a;(have:Nat.ble (o+z) l.length=true:=by rw[cf];simp at b;omega);exact⟨_,by simp[iG,cM,this],c⟩);exact IG _ _ _ h
def hI{d:Nat}{x:Option (Option V)}{K:Nat->Prop}(h:rG d x K):∃n,qo d x=some n/\K n:=by
 unfold rG at h;split at h;.exact⟨_,A,h⟩
 .exact yf h
 exact h.elim
def aaM(ht:hZ P tt){ty:TypeId}{v:V}{A B C:Option (Option V)}{K:V->Prop}(h:aeG tt ty v A B C K):∃r,pq P ty v A B C=some r/\K r:=by unfold aeG at h;split at h;(.rename_i i D;have F:=ht.f D;split at h;(.rename_i s f;split at h;(.obtain⟨l,a,h⟩:=hI h;obtain⟨g,d,h⟩:=hI h;(have c1:Nat.ble l g=true:=by rw[cf];exact h.l.1);(have c2:Nat.ble g s.length=true:=by rw[cf];exact h.l.2);exact⟨_,by simp[pq,F.str f,Ip,a,d,c1,c2],h.r⟩);exact h.elim);(.rename_i x z n c f;split at h;(.obtain⟨l,a,h⟩:=hI h;obtain⟨g,d,h⟩:=hI h;obtain⟨⟨p,q⟩,G,j,k⟩:=h;(have c1:Nat.ble l g=true:=by rw[cf];exact p);(have c2:Nat.ble g n=true:=by rw[cf];exact q);exact⟨_,by simp[pq,(F.Z f).2,Ci,a,d,c1,c2,j],k⟩);obtain⟨l,a,h⟩:=hI h;obtain⟨g,d,h⟩:=hI h;obtain⟨m,j,h⟩:=hI h;split at h;(.obtain⟨⟨p,q⟩,k⟩:=h;subst p q;exact⟨_,by simp[pq,(F.Z f).2,Qr,a,d,j,iv],k⟩);exact h.elim);(.rename_i y z b o n c x f;split at h;(.rename_i E;obtain⟨l,a,h⟩:=hI h;obtain⟨g,d,h⟩:=hI h;obtain⟨m,j,h⟩:=hI h;obtain⟨r,k,u⟩:=h.h;exact⟨r,by simp[pq,(F.Z f).2,E,a,d,j,k],u⟩);exact h.elim);(.rename_i x z f;obtain⟨l,a,h⟩:=hI h;obtain⟨g,d,h⟩:=hI h;obtain⟨m,j,h⟩:=hI h;split at h;(.exact⟨_,by simp[pq,(F.Z f).2,a,d,j],h⟩);exact h.elim);(.rename_i x z f;obtain⟨l,a,h⟩:=hI h;obtain⟨g,d,h⟩:=hI h;obtain⟨m,j,h⟩:=hI h;split at h;(.exact⟨_,by simp[pq,(F.Z f).2,a,d,j],h⟩);exact h.elim);(.rename_i n x z b o f;split at h;(.obtain⟨w,h⟩:=h;(have w:Nat.ble n 1000000000000=true:=by rw[cf];exact w);obtain⟨l,a,h⟩:=hI h;obtain⟨g,d,h⟩:=hI h;obtain⟨r,k,u⟩:=h.h;exact⟨r,by simp only[pq,(F.ar f).2.2,w,a,d,k],u⟩);exact h.elim);exact h.elim);exact h.elim
def aaN{ty:TypeId}{a:Array Field}{b:List (Nat×Nat×Nat×Bool)}(F:SF P ty a b){v:V}{f:Nat}{K:V->Prop}(h:aeH b v f K):∃r,nn P ty v f=some r/\K r:=by unfold aeH at h;split at h;(.rename_i t d z g i;have c:=(F.f _ _ _ _ _ i).1;split at h;(.exact⟨_,by simp only[nn,c];rfl,h⟩);(.rename_i z l;obtain⟨o,j⟩:=Co _ _ _ h;obtain⟨k,m⟩:=Cn _ _ _ j;(have:Nat.ble (d+(z+1)) l.length=true:=by rw[cf];simp at k;omega);have n:Nat.beq (z+1) 0=false:=A;exact⟨_,by simp only[nn,c,Nat.succ_eq_add_one,this,n],m⟩);exact h.elim);exact h.elim
def aaO{ty:TypeId}{a:Array Field}{b:List (Nat×Nat×Nat×Bool)}(F:SF P ty a b){v:V}{f:Nat}{K:V->Prop}(h:aeI b v f K):∃r,CU P ty v f=some r/\K r:=by unfold aeI at h;split at h;(.rename_i t m z g l c;obtain⟨d,i⟩:=F.f _ _ _ _ _ c;obtain⟨v,j,k⟩:=Oi h;exact⟨v,by simp[CU,d,i,j],k⟩);exact h.elim
def aaP{ty:TypeId}{i:TI}(F:TF P ty i){v f:V}{n:Nat}{K:V->Prop}(d:nat f=some n)(h:aeJ i.k v n K):∃r,km P ty v f=some r/\K r:=by
 unfold aeJ at h;split at h;.rename_i x z b o m c y a;(have:Nat.blt n m=true:=by rw[eW];exact h.l);exact⟨_,by simp[km,d,(F.Z a).2,this],h.r⟩
 .rename_i x z m l a;split at h;(.rename_i g;(have:Nat.blt n m=true:=by rw[eW];exact h.l);obtain⟨r,j,k⟩:=h.r.h;exact⟨_,by simp[km,d,(F.Z a).2,this,j,g],k⟩);exact h.elim
 .rename_i m x z b o a;(have:Nat.blt n m=true:=by rw[eW];exact h.l);exact⟨_,by simp[km,d,(F.ar a).2.2,this],h.r⟩
 exact h.elim
def aaQ{ty:TypeId}{i:TI}(F:TF P ty i){v a:V}{n:Nat}{K:V->Prop}(b:nat a=some n)(h:aeK i.k v n K):∃r,CV P ty v a=some r/\K r:=by unfold aeK at h;split at h;(.rename_i s d;obtain⟨c,f,g⟩:=h.h;exact⟨_,by simp[CV,b,F.str d,f],g⟩);exact h.elim
def aaR{ty:TypeId}{i:TI}(F:TF P ty i){v:V}{K:V->Prop}(h:aeL i.k v K):∃r,CW P ty v=some r/\K r:=by
 unfold aeL at h;split at h;.rename_i s a;exact⟨_,by simp[CW,F.str a],h⟩
 .rename_i n x z v a;exact⟨_,by simp[CW,(F.ar a).1],h⟩
 .rename_i a;exact⟨_,by simp[CW,(F.Z a).1],h⟩
 .rename_i a;exact⟨_,by simp[CW,(F.Z a).1],h⟩
 .rename_i a;exact⟨_,by simp[CW,(F.Z a).1],h⟩
 .rename_i a;exact⟨_,by simp[CW,(F.Z a).1],h⟩
 .rename_i a;obtain⟨y,b,_⟩:=F.mp a;exact⟨_,by simp[CW,b],h⟩
 exact h.elim
def aaS{ty:TypeId}{i:TI}(F:TF P ty i){v:V}{K:V->Prop}(h:aeM i.k v K):∃r,Tn P ty v=some r/\K r:=by
 unfold aeM at h;split at h;.rename_i a;exact⟨_,by simp[Tn,(F.Z a).1],h⟩
 .rename_i a;exact⟨_,by simp[Tn,(F.Z a).1],h⟩
 exact h.elim
def IK:∀{l:List V}{v:V}{K:V->Prop},Ld v l K->∃r,uq min2 v l=some r/\K r|[],v,K,h=>⟨v,A,h⟩|x::l,v,K,h=>by simp only[Ld]at h;split at h;(.rename_i k a g b;rcases h.out with⟨c,h⟩|⟨c,h⟩;(.obtain⟨r,d,f⟩:=IK h;exact⟨r,by simp[uq,min2,qu,c,d],f⟩);obtain⟨r,d,f⟩:=IK h;exact⟨r,by simp[uq,min2,qu,c,d],f⟩);exact h.elim
def IL:∀{l:List V}{v:V}{K:V->Prop},Lf v l K->∃r,uq max2 v l=some r/\K r|[],v,K,h=>⟨v,A,h⟩|x::l,v,K,h=>by simp only[Lf]at h;split at h;(.rename_i k a g b;rcases h.out with⟨c,h⟩|⟨c,h⟩;(.obtain⟨r,d,f⟩:=IL h;exact⟨r,by simp[uq,max2,qu,c,d],f⟩);obtain⟨r,d,f⟩:=IL h;exact⟨r,by simp[uq,max2,qu,c,d],f⟩);exact h.elim
def aaT(ht:hZ P tt){b:Builtin}{f:List TypeId}{l:List V}{K:V->Prop}(h:aeN tt b f l K):∃r,kA P b f (some l)=some r/\K r:=by
 unfold aeN at h;split at h;.split at h;(.split at h;(.rename_i i d;obtain⟨r,a,c⟩:=aaR (ht.f d) h;exact⟨r,by simp[kA,sE,a],c⟩);exact h.elim);exact h.elim
 .split at h;(.split at h;(.rename_i i d;obtain⟨r,a,c⟩:=aaS (ht.f d) h;exact⟨r,by simp[kA,sE,a],c⟩);exact h.elim);exact h.elim
 .split at h;(.obtain⟨r,a,c⟩:=IK h;exact⟨r,by simp[kA,vx,a],c⟩);exact h.elim
 .split at h;(.obtain⟨r,a,c⟩:=IL h;exact⟨r,by simp[kA,vx,a],c⟩);exact h.elim
 exact h.elim
def aaU{v:V}{i:Nat}{K:V->Prop}(h:aeO v i K):∃r,xQ v i=some r/\K r:=by unfold aeO at h;split at h;(.exact IG _ _ _ h);exact h.elim
def aaV{v:V}{K:V->Prop}(h:aeP v K):∃r,VM v=some r/\K r:=by
 unfold aeP at h;split at h;.exact h.elim
 .exact h.elim
 .exact h.elim
 .exact h.elim
 .exact h.elim
 rename_i a b c d;cases v<;>simp_all[VM]
def aaW{c b:TypeId}{i j:TI}(F0:TF P c j)(F:TF P b i){v:V}{K:V->Prop}(h:aeQ i.k v K):∃r,Gr P b v=some r/\K r:=by
 unfold aeQ at h;split at h;.rename_i a;exact⟨_,by simp[Gr,F.int a],h.h⟩
 .rename_i a;exact⟨_,by simp[Gr,F.str a],h⟩
 exact h.elim
def TF.some{ty:TypeId}{i:TI}(h:TF P ty i):Option.isSome (P.underlying ty)=true:=by obtain⟨d,a,_⟩:=h.k;rw[a];rfl
def ahl(ht:hZ P tt)(g:mW e t){op:Op}{K:V->Prop}(h:pK P tt e op K):∃v,BT P t op=some v/\K v:=by
 unfold pK at h;split at h;.exact dv g h
 .exact dv g h
 .obtain⟨c,f,h⟩:=dv g h;split at h;(.obtain⟨v,d,h⟩:=dv g h;exact⟨v,by simp[BT,Qq,f,d],h⟩);(.obtain⟨v,d,h⟩:=dv g h;exact⟨v,by simp[BT,Qq,f,d],h⟩);exact h.elim
 .split at h;(.rename_i i k;have F:=ht.f k;split at h;(.rename_i q m;obtain⟨a,SF⟩:=F.st m;obtain⟨u,f,h⟩:=Cs g h;obtain⟨l,d,h⟩:=QN SF h;exact⟨_,by simp[BT,zV,F.zero,f,SF.u,SF.s,d],h⟩);(.rename_i n x z m;obtain⟨w,y,C⟩:=F.ar m;obtain⟨u,f,h⟩:=Cs g h;obtain⟨l,d,h⟩:=IJ h;exact⟨_,by simp[BT,zV,F.zero,f,w,y,d],h⟩);exact h.elim);exact h.elim
 .obtain⟨v,f,h⟩:=dv g h;obtain⟨r,d,h⟩:=aaV h;exact⟨r,by simp[BT,lS,f,d],h⟩
 .obtain⟨a,f,h⟩:=dv g h;obtain⟨b,d,h⟩:=dv g h;obtain⟨r,o,h⟩:=aaL ht h;exact⟨r,by simp[BT,ur,f,d,o],h⟩
 .obtain⟨v,f,h⟩:=dv g h;obtain⟨r,d,h⟩:=aeS h;exact⟨r,by simp[BT,lS,f,d],h⟩
 .split at h;(.rename_i j i s k;obtain⟨v,f,h⟩:=dv g h;obtain⟨r,d,h⟩:=aaW (ht.f s) (ht.f k) h;exact⟨r,by simp[BT,lS,(ht.f s).some,f,d],h⟩);exact h.elim
 .obtain⟨a,f,h⟩:=qt g h;obtain⟨c,d,h⟩:=qt g h;exact⟨_,by simp[BT,VN,f,d],h⟩
 .split at h;(.rename_i A;obtain⟨v,f,h⟩:=dv g h;have h:=II g h;have h:=II g h;have h:=II g h;obtain⟨r,d,h⟩:=aaM ht h;exact⟨r,by simp only[BT,lS,f,d,A],h⟩);exact h.elim
 .split at h;(.rename_i i k;split at h;(.rename_i q m;obtain⟨a,SF⟩:=(ht.f k).st m;obtain⟨v,f,h⟩:=dv g h;obtain⟨r,d,h⟩:=aaN SF h;exact⟨r,by simp[BT,lS,f,d],h⟩);exact h.elim);exact h.elim
 .split at h;(.rename_i i k;split at h;(.rename_i q m;obtain⟨a,SF⟩:=(ht.f k).st m;obtain⟨v,f,h⟩:=dv g h;obtain⟨r,d,h⟩:=aaO SF h;exact⟨r,by simp[BT,lS,f,d],h⟩);exact h.elim);exact h.elim
 .split at h;(.rename_i i k;obtain⟨v,f,h⟩:=dv g h;obtain⟨B,d,h⟩:=dv g h;obtain⟨n,o,h⟩:=yf h;obtain⟨r,p,h⟩:=aaP (ht.f k) o h;exact⟨r,by simp[BT,ur,f,d,p],h⟩);exact h.elim
 .split at h;(.rename_i i k;obtain⟨v,f,h⟩:=dv g h;obtain⟨B,d,h⟩:=dv g h;obtain⟨n,o,h⟩:=yf h;obtain⟨r,p,h⟩:=aaQ (ht.f k) o h;exact⟨r,by simp[BT,ur,f,d,p],h⟩);exact h.elim
 .obtain⟨v,f,h⟩:=dv g h;obtain⟨r,d,h⟩:=aaU h;exact⟨r,by simp[BT,lS,f,d],h⟩
 .obtain⟨l,f,h⟩:=qt g h;obtain⟨r,d,h⟩:=aaT ht h;exact⟨r,by simp[BT,f,d],h⟩
 exact h.elim
end
section
variable{P:Program}{tt:T TI}{e t:T V}{eh:T EO}{h:Hp}
def fV(eh:T EO)(h:Hp):Prop:=∀b o,eh.get b=some o->h.get b=some o.ob
def fV.set(c:fV eh h)(b:Nat)(o:EO):fV (eh.set b o) (h.set b o.ob):=λk d a=>by rw[T.dI]at a|-;split;(.rename_i e;rw[U e]at a;cases a;rfl);rename_i e;rw[I e]at a;exact c _ _ a
def fV.fresh(a:fV eh h)(b:Nat)(o:EO):fV (eh.set b o) (h.set b o.ob):=a.set b o
def fV.del(c:fV eh h)(b:Nat):fV (eh.del b) (h.del b):=λk d a=>by rw[T.vz]at a|-;split;(.rename_i e;rw[U e]at a;cases a);rename_i e;rw[I e]at a;exact c _ _ a
def aaX(i:TI)(eh:T EO)(v:V)(K:V->Prop):Prop:=match v with
|.p b o=>match eh.get b with|some (.c l)=>ahk i.g i.z l o K|some (.y l _)=>Y (iG (some i.g) i.z l o) K|_=>False
|.ip l=>ahk i.g i.z l 0 K|_=>False
def aeT(kd:Bool)(x k:V)(A B:Prop):Prop:=match kd,x,k with
|true,.i k a,.i c b=>match ai7 k c with|true=>D (a=b) A B|false=>False
|false,.s a,.s b=>D (a=b) A B|_,_,_=>False
def aeU(kd:Bool)(x:V):List (V×V)->(Option V->Prop)->Prop|[],K=>K none|(k,v)::l,K=>aeT kd x k (K (some v)) (aeU kd x l K)
def aeV(eh:T EO)(v:V)(K:List (V×V)->Prop):Prop:=match v with
|.nm=>K []|.m r=>match eh.get r with|some (.m es)=>K es|_=>False
|_=>False
def aeW(tt:T TI)(eh:T EO)(ty:TypeId)(a:Bool)(x k:V)(K:V->Prop):Prop:=match tt.get ty with
|some i=>match i.k with
 |.mp kd e=>match tt.get e with
  |some j=>aeV eh x λes=>aeU kd k es λr=>match a,r with|true,some v=>K (.ey [v,.b true])|true,none=>K (.ey [j.v,.b false])|false,some v=>K v|false,none=>K j.v
  |none=>False
 |_=>False
|none=>False
def aeX(eh:T EO)(v:V)(K:List V->Prop):Prop:=match v with
|.E=>K []|.Z b o n _ _=>match eh.get b with|some (.c l)=>Y (cM l o n) K|some (.y l _)=>Y (cM l o n) K|_=>False
|.Q n l=>An (l.length=n) (K l)|_=>False
def aaY(tt:T TI)(e:TypeId):Bool:=match tt.get e with
|some i=>match i.k with|.int .u8=>true|_=>false
|none=>false
def rK(tt:T TI)(e:T V)(eh:T EO)(op:Op)(K:V->Prop):Prop:=match op with
|.load ty a=>match tt.get ty with|some i=>iS e a λv=>aaX i eh v K|none=>False
|.lookup ty x c d=>iS e x λx=>iS e c λk=>aeW tt eh ty d x k K|.convert f g x=>match tt.get f,tt.get g with
 |some j,some i=>match j.k,i.k with
  |.Z b _,.str=>match aaY tt b with|true=>iS e x λv=>aeX eh v λl=>Y (bytesOf l) λs=>K (.s s)|false=>False
  |_,_=>False
 |_,_=>False
|_=>False
def QO{ty:TypeId}{i:TI}(F:TF P ty i)(j:fV eh h){v:V}{K:V->Prop}(a:aaX i eh v K):∃r,xS P h ty v=some r/\K r:=by
 unfold aaX at a;split at a;.rename_i b o;split at a;(.rename_i l g;obtain⟨r,c,d⟩:=Oi a;have f:=j _ _ g;simp only[EO.ob]at f;exact⟨r,by simp only[xS,F.sz,f,F.g];exact c,d⟩);(.rename_i l mk g;obtain⟨r,c,d⟩:=a.h;have f:=j _ _ g;simp only[EO.ob]at f;exact⟨r,by simp only[xS,F.sz,f,F.g];exact c,d⟩);exact a.elim
 .obtain⟨r,c,d⟩:=Oi a;exact⟨r,by simp only[xS,F.sz,F.g];exact c,d⟩
 exact a.elim
def aaZ{kd:Bool}{x k:V}{A B:Prop}(d:aeT kd x k A B):(Vz kd x k=some true/\A)\/(Vz kd x k=some false/\B):=by
 unfold aeT at d;split at d;.split at d;(.rename_i a b c;have:=WS c;subst this;rcases d.out with⟨f,g⟩|⟨f,g⟩;(.exact .inl ⟨by simp[Vz,sL,f],g⟩);exact .inr ⟨by simp[Vz,sL,f],g⟩);exact d.elim
 .rcases d.out with⟨f,g⟩|⟨f,g⟩;(.exact .inl ⟨by simp[Vz,yh,f],g⟩);exact .inr ⟨by simp[Vz,yh,f],g⟩
 exact d.elim
def QP{kd:Bool}{x:V}:∀{l:List (V×V)}{K:Option V->Prop},aeU kd x l K->∃r,xU kd l x=some r/\K r|[],K,a=>⟨none,A,a⟩|(k,v)::l,K,a=>by rcases aaZ a with⟨b,c⟩|⟨b,c⟩;(.exact⟨some v,by simp[xU,b],c⟩);obtain⟨r,d,f⟩:=QP c;exact⟨r,by simp[xU,b,d],f⟩
def aa0(c:fV eh h){v:V}{K:List (V×V)->Prop}(a:aeV eh v K):∃es,Iq h v=some es/\K es:=by
 unfold aeV at a;split at a;.exact⟨[],A,a⟩
 .split at a;(.rename_i r es d;have b:=c _ _ d;simp only[EO.ob]at b;exact⟨es,by simp[Iq,b],a⟩);exact a.elim
 exact a.elim
def aa1(ht:hZ P tt)(c:fV eh h){ty:TypeId}{b:Bool}{x k:V}{K:V->Prop}(a:aeW tt eh ty b x k K):∃r,xV P h ty b x k=some r/\K r:=by unfold aeW at a;split at a;(.rename_i i d;split at a;(.rename_i kd p f;split at a;(.rename_i j g;obtain⟨y,l,m⟩:=(ht.f d).mp f;obtain⟨es,n,a⟩:=aa0 c a;obtain⟨r,o,a⟩:=QP a;split at a<;>exact⟨_,by simp[xV,l,m,(ht.f g).zero,n,o,NQ,Qs],a⟩);exact a.elim);exact a.elim);exact a.elim
def aa2(g:fV eh h){v:V}{K:List V->Prop}(a:aeX eh v K):∃l,byteCells h v=some l/\K l:=by
 unfold aeX at a;split at a;.exact⟨[],A,a⟩
 .split at a;(.rename_i l c;obtain⟨r,d,f⟩:=a.h;have b:=g _ _ c;simp only[EO.ob]at b;exact⟨r,by simp[byteCells,qp,b,d],f⟩);(.rename_i l mk c;obtain⟨r,d,f⟩:=a.h;have b:=g _ _ c;simp only[EO.ob]at b;exact⟨r,by simp[byteCells,qp,b,d],f⟩);exact a.elim
 .rename_i n l;exact⟨l,by simp only[byteCells];rw[a.l,iv],a.r⟩
 exact a.elim
def QQ(ht:hZ P tt){b:TypeId}(h:aaY tt b=true):P.underlying b=some (.int .u8):=by unfold aaY at h;split at h;(.rename_i i a;split at h;(.rename_i c;exact(ht.f a).int c);cases h);cases h
def WT(ht:hZ P tt)(f:mW e t)(g:fV eh h){op:Op}{K:V->Prop}(a:rK tt e eh op K):∃v,NR P t h op=some v/\K v:=by
 unfold rK at a;split at a;.split at a;(.rename_i i m;obtain⟨v,c,a⟩:=dv f a;obtain⟨r,d,a⟩:=QO (ht.f m) g a;exact⟨r,by simp[NR,lS,c,d],a⟩);exact a.elim
 .obtain⟨x,c,a⟩:=dv f a;obtain⟨k,d,a⟩:=dv f a;obtain⟨r,n,a⟩:=aa1 ht g a;exact⟨r,by simp[NR,ur,c,d,n],a⟩
 .split at a;(.rename_i j i o m;split at a;(.rename_i b z p q;split at a;(.rename_i u;obtain⟨v,c,a⟩:=dv f a;obtain⟨l,d,a⟩:=aa2 g a;obtain⟨s,n,a⟩:=a.h;exact⟨_,by simp[NR,lS,c,Ir,(ht.f m).str q,((ht.f o).Z p).1,QQ ht u,d,aeq,n],a⟩);exact a.elim);exact a.elim);exact a.elim
 exact a.elim
def aK(tt:T TI)(e:T V)(op:Op)(K:EO->Mk->Prop):Prop:=match op with
|.alloc ty=>match tt.get ty with|some i=>Lc i.v λl=>K (.c l) .p|none=>False
|.box _ x=>iS e x λv=>Lc v λl=>K (.c l) .p|.buildSlice ty n b=>match tt.get ty with
 |some i=>match i.k with
  |.Z a z=>match tt.get a,Nat.ble (n*z) 16777216&&Nat.ble n 1000000000000 with|some j,true=>WM e b.toList λb=>aaH n j.v.cells λl=>WQ z l b λl=>K (.c l) (.Z n n none)|_,_=>False
  |_=>False
 |none=>False
|.makeMap _ none=>K (.m []) .m|.makeSlice ty l c=>match tt.get ty with
 |some i=>match i.k with
  |.Z a _=>match tt.get a with|some j=>iS e l λl=>iS e c λc=>Oh l λl=>Oh c λc=>An (l<=c/\j.w*c<=281474976710656/\c<=1000000000000) (K (.y (rep c j.v.cells) false) (.Z l c none))|none=>False
  |_=>False
 |none=>False
|.convert d f x=>match tt.get d,tt.get f with
 |some _,some i=>match i.k with
  |.Z a _=>match aaY tt a with
   |true=>iS e x λv=>match v with|.s s=>An (s.length<=1000000000000)<|K (.y (s.map λc=>.i .u8 (.ofNat c)) true) (.Z s.length s.length (some 1))|_=>False
   |false=>False
  |_=>False
 |_,_=>False
|_=>False
def ahm(ht:hZ P tt)(p:mW e t){op:Op}{K:EO->Mk->Prop}(d:aK tt e op K):∃o m,Qt P t op=some (o.ob,m)/\K o m:=by
 unfold aK at d;split at d;.split at d;(.rename_i i k;obtain⟨f,n⟩:=vE d;exact⟨_,_,by simp[Qt,Is,NS,(ht.f k).zero,f,EO.ob],n⟩);exact d.elim
 .obtain⟨v,f,d⟩:=dv p d;obtain⟨n,u⟩:=vE d;exact⟨_,_,by simp[Qt,NS,f,n,EO.ob],u⟩
 .split at d;(.rename_i i k;split at d;(.rename_i B z q;split at d;(.rename_i j r C;obtain⟨M,f,d⟩:=Cs p d;rw[QL]at d;obtain⟨l,n,d⟩:=IJ d;have g:=ht.f r;have s:=((ht.f k).Z q).2;have w:=(dJ s).2;(have x:j.z=z:=by have:=g.sz;rw[w]at this;cases this;rfl);(have y:Nat.beq j.v.cells.length z=true:=by rw[g.len,x,iv]);exact⟨_,_,by simp only[Qt,oe,s,f,g.zero,C,y,n,EO.ob],d⟩);exact d.elim);exact d.elim);exact d.elim
 .exact⟨_,_,A,d⟩
 .split at d;(.rename_i i k;split at d;(.rename_i B z q;split at d;(.rename_i j r;obtain⟨a,f,d⟩:=dv p d;obtain⟨b,n,d⟩:=dv p d;obtain⟨l,u,d⟩:=yf d;obtain⟨c,D,d⟩:=yf d;obtain⟨⟨E,F,G⟩,d⟩:=d;have g:=ht.f r;have s:=((ht.f k).Z q).2;have w:=(dJ s).2;(have x:j.z=z:=by have:=g.sz;rw[w]at this;cases this;rfl);(have y:Nat.beq j.v.cells.length z=true:=by rw[g.len,x,iv]);(have H:Nat.ble l c=true:=by rw[cf];exact E);(have I:(Nat.ble (j.w*c) 281474976710656&&Nat.ble c 1000000000000)=true:=by rw[aA,cf,cf];exact⟨F,G⟩);exact⟨_,_,by simp only[Qt,f,n,sG,s,u,D,g.zero,g.eo,H,y,I,EO.ob],d⟩);exact d.elim);exact d.elim);exact d.elim
 .split at d;(.rename_i j i r k;split at d;(.rename_i B z q;split at d;(.rename_i J;obtain⟨v,f,d⟩:=dv p d;split at d;(.have L:Nat.ble (List.length _) 1000000000000=true:=(cf▸d.l:_);exact⟨_,_,by simp only[Qt,f,(ht.f r).some,vy,((ht.f k).Z q).1,QQ ht J,L,EO.ob],d.r⟩);exact d.elim);exact d.elim);exact d.elim);exact d.elim
 exact d.elim
abbrev KE:=V->T EO->Nat->Prop
def WU{a:Type}:T a->Nat->(T a->Prop)->Prop|.e,_,K=>K .e|.n l o r,k,K=>match k with|0=>K (.n l none r)|k+1=>match Nat.beq (k%2) 0 with|true=>WU l (k/2) λl=>K (.n l o r)|false=>WU r (k/2) λr=>K (.n l o r)
def IM{f:Type}:∀(t:T f)(k:Nat)(K:T f->Prop),WU t k K->∃a,K a/\∀j,a.get j=(t.del k).get j
|.e,k,K,h=>⟨.e,h,λj=>by rw[T.vz];simp⟩|.n l o r,0,K,h=>⟨_,h,λj=>by cases j<;>rfl⟩|.n l o r,k+1,K,h=>by
 simp only[WU]at h;cases b:Nat.beq (k%2) 0 with
 |true=>rw[b]at h;obtain⟨a,c,d⟩:=IM l _ _ h;refine⟨_,c,λj=>?_⟩;simp only[T.del,T.put,b];cases j with|zero=>rfl|succ j=>simp only[T.get];cases Nat.beq (j%2) 0;(.rfl);exact d _
 |false=>rw[b]at h;obtain⟨a,c,d⟩:=IM r _ _ h;refine⟨_,c,λj=>?_⟩;simp only[T.del,T.put,b];cases j with|zero=>rfl|succ j=>simp only[T.get];cases Nat.beq (j%2) 0;(.exact d _);rfl
def aeY(eh:T EO)(f z:Nat)(a v:V)(K:KE):Prop:=match a with
|.p b o=>match eh.get b with
 |some (.c l)=>Lc v λc=>match Nat.beq c.length z with|true=>WJ o l c λd=>qZ eh b (.c d) λeh=>K sx eh f|false=>False
 |some (.y l mk)=>Lc v λc=>match Nat.beq c.length z with|true=>Y (setAt l o c) λd=>qZ eh b (.y d mk) λeh=>K sx eh f|false=>False
 |_=>False
|_=>False
def aa3(kd:Bool)(x y:V):List (V×V)->(List (V×V)->Prop)->Prop|[],K=>K [(x,y)]|(k,v)::l,K=>match Vz kd x k with|some true=>K ((k,y)::l)|some false=>aa3 kd x y l λr=>K ((k,v)::r)|none=>False
def aa4(tt:T TI)(eh:T EO)(a:Nat)(ty:TypeId)(m k v:V)(K:KE):Prop:=match m,tt.get ty with
|.m r,some i=>match i.k,eh.get r with|.mp kd _,some (.m es)=>aa3 kd k v es λes=>qZ eh r (.m es) λeh=>K sx eh a|_,_=>False
|_,_=>False
def aa5(eh:T EO)(z:Nat)(x:V)(K:List V->Nat->Prop):Prop:=match x with
|.E=>K [] 0|.es=>K [] 0|.Z b o n _ _=>match eh.get b with|some (.c l)=>WH o l λr=>WG (n*z) r λr=>K r n|some (.y l _)=>Y (cM l o (n*z)) λr=>K r n|_=>False
|.Q n l=>An (l.length=n*z) (K l n)|.s x=>match z with|1=>K (x.map λc=>.i .u8 (.ofNat c)) x.length|_=>False
|_=>False
def aa6(eh:T EO)(a z:Nat)(x:V)(b o n c:Nat)(d:Option Nat)(l f:List V)(k:Nat)(K:KE):Prop:=D (n+k<=c) (Y (setAt l (o+n*z) f) λi=>qZ eh b (.y i false) λeh=>K (.Z b o (n+k) c d) eh a) (An (inBlock x b=false/\zW d z=true/\n+k<=1000000000000) (Y (cM l o (n*z)) λg=>match d with|none=>qZ eh a (.y (g++f) false) λeh=>K (.Z a 0 (n+k) (n+k) (some z)) eh (a+1)|some _=>WU eh b λeh=>qZ eh a (.y (g++f) false) λeh=>K (.Z a 0 (n+k) (n+k) (some z)) eh (a+1)))
def aeZ(eh:T EO)(a z:Nat)(x s:V)(d:List V)(k:Nat)(K:KE):Prop:=match s with
|.E=>D (k=0) (K .E eh a) (An (k<=1000000000000) (qZ eh a (.y d false) λeh=>K (.Z a 0 k k (some z)) eh (a+1)))|.Z b o n c f=>match eh.get b with|some (.c l)=>aa6 eh a z x b o n c f l d k K|some (.y l false)=>aa6 eh a z x b o n c f l d k K|_=>False
|_=>False
def ae0(k:TK)(x:V):Bool:=match k,x with|.str,.s _=>true|.Z _ _,.s _=>false|.Z _ _,.i _ _=>false|.Z _ _,_=>true|_,_=>false
def ahn(eh:T EO)(a:Nat)(j:TI)(s x:V)(K:KE):Prop:=match s,x with|.E,.i _ (.ofNat k)=>An (k*j.w<=281474976710656/\k<=1000000000000/\k≠0) (qZ eh a (.y (rep k j.v.cells) false) λeh=>K (.Z a 0 k k (some j.z)) eh (a+1))|_,_=>False
def WV(tt:T TI)(eh:T EO)(a:Nat)(ty b:TypeId)(s x:V)(K:KE):Prop:=match tt.get ty,tt.get b with
|some i,some c=>match i.k with
 |.Z d z=>match tt.get d,z with
  |some j,z+1=>match c.k with
   |.int _=>ahn eh a j s x K|k=>match ae0 k x,j.w with
   |true,w+1=>match Nat.ble w 199 with|true=>aa5 eh (z+1) x λf n=>aeZ eh a (z+1) x s f n K|false=>False
   |_,_=>False
  |_,_=>False
 |_=>False
|_,_=>False
def ae1(tt:T TI)(eh:T EO)(a:Nat)(ty:TypeId)(d x:V)(K:KE):Prop:=match tt.get ty with
|some i=>match i.k with
 |.Z _ z=>match z with
  |z+1=>aa5 eh (z+1) x λf k=>match d with
   |.Z b o n _ _=>match eh.get b with|some (.c l)=>Y (setAt l o (f.take (min k n*(z+1)))) λc=>qZ eh b (.y c false) λeh=>K (.i .i64 (.ofNat (min k n))) eh a|some (.y l mk)=>Y (setAt l o (f.take (min k n*(z+1)))) λc=>qZ eh b (.y c mk) λeh=>K (.i .i64 (.ofNat (min k n))) eh a|_=>False
   |.E=>K (.i .i64 (.ofNat 0)) eh a|_=>False
  |_=>False
 |_=>False
|none=>False
def ae2(tt:T TI)(eh:T EO)(a:Nat)(ty:TypeId)(x:V)(K:KE):Prop:=match tt.get ty with
|some i=>match i.k with
 |.Z c _=>match tt.get c,x with
  |some j,.Z b o n _ _=>match eh.get b with|some (.y l mk)=>D (n=0) (K sx eh a) (Y (setAt l o (rep n j.v.cells)) λd=>qZ eh b (.y d mk) λeh=>K sx eh a)|_=>False
  |some j,.E=>K sx eh a|_,_=>False
 |_=>False
|none=>False
def eK(tt:T TI)(e:T V)(eh:T EO)(c:Nat)(op:Op)(K:KE):Prop:=match op with
|.store ty a x=>match tt.get ty with|some i=>iS e a λa=>iS e x λv=>aeY eh c i.z a v K|none=>False
|.mapUpdate ty m k v=>iS e v λv=>iS e m λm=>iS e k λk=>aa4 tt eh c ty m k v K|.insert ty m k v=>iS e v λv=>iS e m λm=>iS e k λk=>aa4 tt eh c ty m k v K|.call {callee:=.builtin b,args,argTypes}=>match b with
 |.append=>match argTypes.toList with
  |[ty,f]=>IH e args.toList λl=>match l with|[s,x]=>WV tt eh c ty f s x K|_=>False
  |_=>False
 |.copy=>match argTypes.toList with
  |ty::_=>IH e args.toList λl=>match l with|[d,x]=>ae1 tt eh c ty d x K|_=>False
  |_=>False
 |.clear=>match argTypes.toList with
  |ty::_=>IH e args.toList λl=>match l with|[x]=>ae2 tt eh c ty x K|_=>False
  |_=>False
 |_=>False
|_=>False
end
section
variable{P:Program}{tt:T TI}{e t:T V}{eh:T EO}{h:Hp}
def Di(r:KF)(K:KE):Prop:=∃v a b c,r=some (v,a,b)/\fV c a/\K v c b
def Di.put{eh:T EO}{h:Hp}{b a:Nat}{o:EO}{v:V}{K:T EO->Prop}{Q:KE}(f:fV eh h)(c:qZ eh b o K)(g:∀d,K d->Q v d a):Di (some (v,h.set b o.ob,a)) Q:=by rw[gT]at c;exact⟨_,_,_,_,A,f.set b o,g _ c⟩
def aa7{ty:TypeId}{i:TI}(F:TF P ty i)(j:fV eh h){r:Nat}{a v:V}{K:KE}(c:aeY eh r i.z a v K):Di (wW P h r ty a v) K:=by unfold aeY at c;split at c;(.rename_i b o;split at c;(.rename_i l k;obtain⟨m,d⟩:=vE c;split at d;(.rename_i n;obtain⟨p,q,f⟩:=Cq _ _ _ _ d;have g:=j _ _ k;simp only[EO.ob]at g;rw[gT]at f;exact⟨_,_,_,_,by simp only[wW,F.sz,m,g,n,q,EO.ob],j.set b (.c p),f⟩);exact d.elim);(.rename_i l mk k;obtain⟨m,d⟩:=vE c;split at d;(.rename_i n;obtain⟨p,q,f⟩:=d.h;have g:=j _ _ k;simp only[EO.ob]at g;rw[gT]at f;exact⟨_,_,_,_,by simp only[wW,F.sz,m,g,n,q,EO.ob],j.set b (.y p mk),f⟩);exact d.elim);exact c.elim);exact c.elim
def QR{kd:Bool}{x y:V}:∀{l:List (V×V)}{K:List (V×V)->Prop},aa3 kd x y l K->∃r,KH kd l x y=some r/\K r|[],K,a=>⟨_,A,a⟩|(k,v)::l,K,a=>by simp only[aa3]at a;split at a;(.rename_i b;exact⟨_,by simp[KH,b],a⟩);(.rename_i b;obtain⟨r,c,d⟩:=QR a;exact⟨_,by simp[KH,b,c],d⟩);exact a.elim
def QS(ht:hZ P tt)(b:fV eh h){c:Nat}{ty:TypeId}{m k v:V}{K:KE}(a:aa4 tt eh c ty m k v K):Di (KI P h c ty m k v) K:=by unfold aa4 at a;split at a;(.rename_i r i g;split at a;(.rename_i kd s es j l;obtain⟨n,o,d⟩:=QR a;rw[gT]at d;obtain⟨y,p,q⟩:=(ht.f g).mp j;have f:=b _ _ l;simp only[EO.ob]at f;exact⟨_,_,_,_,by simp only[KI,p,q,f,o,EO.ob],b.set r (.m n),d⟩);exact a.elim);exact a.elim
def QT(j:fV eh h){z:Nat}{x:V}{K:List V->Nat->Prop}(a:aa5 eh z x K):∃k n,Be h z x=some (k,n)/\K k n:=by
 unfold aa5 at a;split at a;.exact⟨_,_,A,a⟩
 .exact⟨_,_,A,a⟩
 .rename_i b o n c y;split at a;(.rename_i l f;obtain⟨m,g⟩:=Co _ _ _ a;obtain⟨p,q⟩:=Cn _ _ _ g;have d:=j _ _ f;simp only[EO.ob]at d;(have i:Nat.ble (o+n*z) l.length=true:=by rw[cf];simp at p;omega);exact⟨_,_,by simp only[Be,qp,d,cM,i],q⟩);(.rename_i l mk f;obtain⟨r,m,g⟩:=a.h;have d:=j _ _ f;simp only[EO.ob]at d;exact⟨_,_,by simp only[Be,qp,d,m],g⟩);exact a.elim
 .rename_i n l;(have i:Nat.beq l.length (n*z)=true:=by rw[a.l,iv]);exact⟨_,_,by simp only[Be,i],a.r⟩
 .split at a;(.exact⟨_,_,A,a⟩);exact a.elim
 exact a.elim
def QU(m:fV eh h){f z:Nat}{x:V}{b o n c:Nat}{p:Option Nat}{l g:List V}{k:Nat}{K:KE}(q:h.get b=some (.c l false))(a:aa6 eh f z x b o n c p l g k K):Di (nT 1000000000000 h f z x (.Z b o n c p) g k) K:=by
 unfold aa6 at a;rcases a.out with⟨r,a⟩|⟨r,a⟩
 .have i:Nat.ble (n+k) c=true:=by rw[cf];exact r
  obtain⟨C,j,d⟩:=a.h;rw[gT]at d;exact⟨_,_,_,_,by simp only[nT,q,i,j,EO.ob],m.set b (.y C false),d⟩
 have i:Nat.ble (n+k) c=false:=by cases s:Nat.ble (n+k) c with|false=>rfl|true=>rw[cf]at s;exact absurd s r
 obtain⟨⟨u,v,D⟩,w,j,d⟩:=a;have A:Nat.ble (n+k) 1000000000000=true:=by rw[cf];exact D
 cases p with|none=>simp only at d;rw[gT]at d;exact⟨_,_,_,_,by simp only[nT,q,i,u,v,A,jG,j,EO.ob],m.set f (.y (w++g) false),d⟩|some y=>simp only at d;obtain⟨E,B,F⟩:=IM _ _ _ d;rw[gT]at B;refine⟨_,_,_,_,by simp only[nT,q,i,u,v,A,jG,j,EO.ob],fV.set (eh:=E) (h:=h.del b) (λk o a=>?_) f (.y (w++g) false),B⟩;rw[F]at a;exact m.del b _ _ a
def aa8(b:fV eh h){c z:Nat}{x s:V}{d:List V}{k:Nat}{K:KE}(a:aeZ eh c z x s d k K):Di (nT 1000000000000 h c z x s d k) K:=by
 unfold aeZ at a;split at a;.rcases a.out with⟨f,i⟩|⟨f,a⟩;(.subst f;exact⟨_,_,_,_,A,b,i⟩);cases k with|zero=>exact absurd A f|succ k=>obtain⟨q,a⟩:=a;(have j:Nat.ble (k+1) 1000000000000=true:=by rw[cf];exact q);rw[gT]at a;exact⟨_,_,_,_,by simp only[nT,j,EO.ob],b.set c (.y d false),a⟩
 .split at a;(.rename_i l g;exact QU b (by simpa[EO.ob]using b _ _ g) a);(.rename_i l g;exact QU b (by simpa[EO.ob]using b _ _ g) a);exact a.elim
 exact a.elim
def aa9{ty:TypeId}{i:TI}(F:TF P ty i){x:V}(h:ae0 i.k x=true):KG P ty x=true/\∀k n,x≠.i k n:=by
 unfold ae0 at h;split at h;.rename_i b;exact⟨by simp[KG,F.str b],by simp⟩
 .cases h
 .cases h
 .rename_i b c a;refine⟨?_,λk n e=>a k n e⟩;have d:=(F.Z b).1;revert c a;rename_i x _ _ _ _;cases x<;>intro c a<;>first|exact absurd A (c _)|exact absurd A (a _ _)|(simp only[KG,d])
 cases h
def WW(ht:hZ P tt)(d:fV eh h){c:Nat}{ty f:TypeId}{s x:V}{K:KE}(a:WV tt eh c ty f s x K):Di (lT P h c [ty,f] (some [s,x])) K:=by unfold WV at a;split at a;(.rename_i i i' C m;split at a;(.rename_i o z0 D;split at a;(.rename_i j z E;have g:=((ht.f C).Z D).2;have F:=(dJ g).2;have b:=ht.f E;(have p:j.z=z+1:=by have:=b.sz;rw[F]at this;exact(eH this).symm);(have q:Nat.beq j.v.cells.length (z+1)=true:=by rw[b.len,p,iv]);split at a;(.rename_i k r;have G:=(ht.f m).int r;unfold ahn at a;split at a;(.rename_i H k;obtain⟨⟨I,J,L⟩,a⟩:=a;rw[gT]at a;(have M:(Nat.ble (k*j.w) 281474976710656&&Nat.ble k 1000000000000)=true:=by rw[aA,cf,cf];exact⟨I,J⟩);(have N:Nat.beq k 0=false:=by cases O:Nat.beq k 0 with|false=>rfl|true=>exact absurd (cm O) L);have l:Nat.beq (z+1) 0=false:=A;rw[p]at a;refine⟨_,_,_,_,?_,d.set c (.y (rep k j.v.cells) false),a⟩;simp only[lT,g,l,CX,G,b.zero,b.eo,q,M,N,EO.ob]);exact a.elim);rename_i H r;split at a;(.rename_i w Q R;obtain⟨S,U⟩:=aa9 (ht.f m) Q;split at a;(case h_2=>exact a.elim);rename_i u;obtain⟨cs,n,W,a⟩:=QT d a;obtain⟨v,y,B,X,Y,Z,h4⟩:=aa8 d a;refine⟨v,y,B,X,?_,Z,h4⟩;have l:Nat.beq (z+1) 0=false:=A;(have hb:sF P o=some (w+1):=by rw[b.eo,R]);(have:rF P h c o (z+1) x s f=some (v,y,B):=by (have a0:Nat.ble w 131071=true:=by rw[cf]at u|-;omega);simp only[rF,W,hb,S,b.zero,q,a0,jG,NT,u,cond_true];exact Y);simp only[lT,g,l];cases x<;>first|exact absurd A (U _ _)|exact this);exact a.elim);exact a.elim);exact a.elim);exact a.elim
def aa'(ht:hZ P tt)(f:fV eh h){v:Nat}{ty:TypeId}{w:List TypeId}{d x:V}{K:KE}(a:ae1 tt eh v ty d x K):Di (oS P h v (ty::w) (some [d,x])) K:=by unfold ae1 at a;split at a;(.rename_i i B;split at a;(.rename_i D E C;have m:=((ht.f B).Z C).2;split at a;(.rename_i z;have p:Nat.beq (z+1) 0=false:=A;obtain⟨F,k,q,a⟩:=QT f a;split at a;(.rename_i b o n c y _;split at a;(.rename_i l r;have g:=f _ _ r;simp only[EO.ob]at g;obtain⟨s,u,j⟩:=a.h;rw[gT]at j;exact⟨_,_,_,_,by simp only[oS,m,p,q,CY,g,u,EO.ob],f.set b (.y s false),j⟩);(.rename_i l mk r;have g:=f _ _ r;simp only[EO.ob]at g;obtain⟨s,u,j⟩:=a.h;rw[gT]at j;exact⟨_,_,_,_,by simp only[oS,m,p,q,CY,g,u,EO.ob],f.set b (.y s mk),j⟩);exact a.elim);(.exact⟨_,_,_,_,by simp only[oS,m,p,q,EO.ob],f,a⟩);exact a.elim);exact a.elim);exact a.elim);exact a.elim
def aba(ht:hZ P tt)(d:fV eh h){k:Nat}{ty:TypeId}{q:List TypeId}{x:V}{K:KE}(a:ae2 tt eh k ty x K):Di (mq P h k (ty::q) (some [x])) K:=by unfold ae2 at a;split at a;(.rename_i i r;split at a;(.rename_i D z s;have f:=((ht.f r).Z s).2;split at a;(.rename_i j b o n c y u;split at a;(.rename_i l mk v;have m:=d _ _ v;simp only[EO.ob]at m;rcases a.out with⟨g,w⟩|⟨g,a⟩;(.subst g;exact⟨_,_,_,_,by simp only[mq,f],d,w⟩);obtain⟨B,C,p⟩:=a.h;rw[gT]at p;cases n with|zero=>exact absurd A g|succ n=>exact⟨_,_,_,_,by simp only[mq,f,m,(ht.f u).zero,C,EO.ob],d.set b (.y B mk),p⟩);exact a.elim);(.exact⟨_,_,_,_,by simp only[mq,f,EO.ob],d,a⟩);exact a.elim);exact a.elim);exact a.elim
def aho(ht:hZ P tt)(c:mW e t)(f:fV eh h){p:Nat}{op:Op}{K:KE}(b:eK tt e eh p op K):Di (VA P t h p op) K:=by
 unfold eK at b;split at b;.split at b;(.rename_i i s;obtain⟨a,d,b⟩:=dv c b;obtain⟨v,g,b⟩:=dv c b;have:=aa7 (ht.f s) f b;simpa[VA,It,d,g]using this);exact b.elim
 .obtain⟨v,d,b⟩:=dv c b;obtain⟨m,g,b⟩:=dv c b;obtain⟨k,n,b⟩:=dv c b;have:=QS ht f b;simpa[VA,It,d,g,n]using this
 .obtain⟨v,d,b⟩:=dv c b;obtain⟨m,g,b⟩:=dv c b;obtain⟨k,n,b⟩:=dv c b;have:=QS ht f b;simpa[VA,It,d,g,n]using this
 .split at b;(.split at b;(.rename_i q r ty u j;obtain⟨l,d,b⟩:=qt c b;split at b;(.have:=WW ht f b;simpa only[VA,d,j]using this);exact b.elim);exact b.elim);(.split at b;(.rename_i q r ty o j;obtain⟨l,d,b⟩:=qt c b;split at b;(.have:=aa' (w:=o) ht f b;simpa only[VA,d,j]using this);exact b.elim);exact b.elim);(.split at b;(.rename_i q r ty o j;obtain⟨l,d,b⟩:=qt c b;split at b;(.have:=aba (q:=o) ht f b;simpa only[VA,d,j]using this);exact b.elim);exact b.elim);exact b.elim
 exact b.elim
def ajt(tt:T TI)(a b:TypeId):Kd:=match tt.get a,tt.get b with
|some j,some i=>match j.k,i.k with|.Z _ _,.str=>.r|.str,.Z _ _=>.a|_,_=>.p
|_,_=>.no
def aju(tt:T TI)(b:Builtin)(a:List TypeId):Kd:=match b with
|.len=>match a with
 |t::_=>match tt.get t with
  |some i=>match i.k with|.mp _ _=>.no|_=>.p
  |none=>.no
 |[]=>.no
|.cap=>.p|.min=>.p|.max=>.p|.append=>.e|.copy=>.e|.clear=>.e|_=>.no
def cl(tt:T TI)(op:Op):Kd:=match op with|.move _=>.p|.assign _=>.p|.pick _ _ _=>.p|.build _ _=>.p|.nilCheck _=>.p|.binOp _ _ _ _ _=>.p|.unOp _ _ _=>.p|.convert a c _=>ajt tt a c|.makeFunc _ _ _=>.p|.slice _ _ _ _ _=>.p|.fieldAddr _ _ _=>.p|.field _ _ _=>.p|.indexAddr _ _ _=>.p|.index _ _ _=>.p|.extract _ _=>.p|.load _ _=>.r|.lookup _ _ _ _=>.r|.alloc _=>.a|.box _ _=>.a|.buildSlice _ _ _=>.a|.makeMap _ _=>.a|.makeSlice _ _ _=>.a|.store _ _ _=>.e|.mapUpdate _ _ _ _=>.e|.insert _ _ _ _=>.e|.call {callee:=.builtin b,argTypes ..}=>aju tt b argTypes.toList|_=>.no
def adu{ty:TypeId}{i:TI}(F:TF P ty i)(h:∀a b,i.k≠.Z a b):∀e,P.underlying ty≠some (.slice e):=by obtain⟨d,g,c⟩:=F.k;intro e f;rw[g]at f;cases f;simp only[ye]at c;split at c;(.injection c with c;exact h _ _ c.symm);cases c
def ahp{ty:TypeId}{i:TI}(F:TF P ty i)(h:∀a b,i.k≠.mp a b):∀k e,P.underlying ty≠some (.map k e):=by obtain⟨d,g,c⟩:=F.k;intro k e f;rw[g]at f;cases f;simp only[ye]at c;split at c;(.injection c with c;exact h _ _ c.symm);cases c
def WX{ty:TypeId}{i:TI}(F:TF P ty i)(h:i.k≠.str):P.underlying ty≠some .string:=by obtain⟨d,c,a⟩:=F.k;intro b;rw[c]at b;cases b;simp only[ye]at a;injection a with a;exact h a.symm
def ae3(ht:hZ P tt){p q:TypeId}{c:Kd}(h:ajt tt p q=c)(r:c≠.no):CZ P p q=c:=by unfold ajt at h;split at h;(.rename_i j i s u;have f:=ht.f s;have g:=ht.f u;split at h;(.rename_i k l;simp[CZ,(f.Z k).1,g.str l,h]);(.rename_i k l;simp[CZ,f.str k,(g.Z l).1,h]);rename_i k l;obtain⟨w,v,_⟩:=f.k;obtain⟨z,A,_⟩:=g.k;unfold CZ;split;(.rename_i a b;have d:∃x y,j.k=.Z x y:=hS λn=>adu f (λx y m=>n ⟨x,y,m⟩) _ a;have o:i.k=.str:=hS λn=>WX g n b;obtain⟨x,y,d⟩:=d;exact absurd o (k _ _ d));(.rename_i a b;have d:∃x y,i.k=.Z x y:=hS λn=>adu g (λx y m=>n ⟨x,y,m⟩) _ b;have o:j.k=.str:=hS λn=>WX f n a;obtain⟨x,y,d⟩:=d;exact absurd d (l _ _ o));(.exact h);rename_i a;rw[v]at a;cases a);exact absurd h.symm r
def ae4(ht:hZ P tt){b:Builtin}{f:List TypeId}{c:Kd}(h:aju tt b f=c)(d:c≠.no):zX P b f=c:=by unfold aju at h;split at h;(.split at h;(.split at h;(.rename_i i g;split at h;(.exact absurd h.symm d);rename_i j;simp only[zX];split;(.rename_i a b k;exact absurd k (ahp (ht.f g) (λx y e=>j x y e) _ _));exact h);exact absurd h.symm d);exact absurd h.symm d);all_goals first|exact h|exact absurd h.symm d
def yj(ht:hZ P tt){op:Op}{c:Kd}(h:cl tt op=c)(a:c≠.no):kd P op=c:=by unfold cl at h;split at h;all_goals first|exact h|exact ae3 ht h a|exact ae4 ht h a|exact absurd h.symm a
def ajv(P:Program)(tt:T TI)(e:T V)(eh:T EO)(a:Nat)(op:Op)(K:KE):Prop:=match cl tt op with|.p=>pK P tt e op λv=>K v eh a|.r=>rK tt e eh op λv=>K v eh a|.a=>aK tt e op λo m=>qZ eh a o λeh=>K (m.at a) eh (a+1)|.e=>eK tt e eh a op K|_=>False
def ae5(ht:hZ P tt)(i:mW e t)(f:fV eh h){g:Nat}{op:Op}{K:KE}(b:ajv P tt e eh g op K):Di (ps P t h g op) K:=by
 unfold ajv at b;split at b;.rename_i c;obtain⟨v,d,a⟩:=ahl ht i b;exact⟨v,h,g,eh,by simp[ps,yj ht c,rP,d],f,a⟩
 .rename_i c;obtain⟨v,d,a⟩:=WT ht i f b;exact⟨v,h,g,eh,by simp[ps,yj ht c,rP,d],f,a⟩
 .rename_i c;obtain⟨o,m,d,a⟩:=ahm ht i b;rw[gT]at a;exact⟨_,_,_,_,by simp only[ps,yj ht c aS,rA,d,EO.ob],f.set g o,a⟩
 .rename_i c;obtain⟨v,j,k,l,d,a,n⟩:=aho ht i f b;exact⟨v,j,k,l,by simp only[ps,yj ht c aS,d],a,n⟩
 exact b.elim
end
section
structure O(P:Program)(g:Nat)(d:List V)(eh:T EO)(f:Nat)(K:KE):Prop where
 ID:FI P g
 h:∀h,fV eh h->∃v a b c,RC P g d h f v a b/\fV c a/\K v c b
def Dj(z:Nat)(e:T V)(d:Option Nat)(v:V)(K:T V->Prop):Prop:=match d with|none=>K e|some d=>match Nat.blt d z with|true=>qZ e d v K|false=>False
def TJ:List Oper->Nat->Option Oper|[],_=>none|o::l,n=>match n with|0=>some o|n+1=>TJ l n
def abb(a:List Oper)(e:T V)(g:Option (Nat×Bool))(K:Bool->Prop):Prop:=match g with
|none=>K true|some (j,w)=>match TJ a j with
|some o=>match o.dst with
 |some d=>match e.get d with
  |some (.b b)=>match b,w with|true,true=>K true|true,false=>K false|false,true=>K false|false,false=>K true
  |some (.ey _)=>K false|_=>False
 |none=>False
|none=>False
def ae6(P:Program)(tt:T TI)(z:Nat)(s:ES)(d:Option Nat)(op:Op)(K:ES->Prop):Prop:=s.un λb j k=>match op with
|.call {callee:=.value f,args ..}=>iS b f λf=>match f with|.f g a c=>IH b args.toList λl=>WK l c λl=>WK a l λl=>O P g l j k λv h i=>Dj z b d v λe=>K ⟨e,h,i⟩|_=>False
|op=>ajv P tt b j k op λv h i=>Dj z b d v λe=>K ⟨e,h,i⟩
def oK(P:Program)(tt:T TI)(z:Nat)(a:List Oper):List Oper->ES->(ES->Prop)->Prop|[],s,K=>K s|o::l,s,K=>s.un λb c d=>match o with|⟨f,op,_,_,_,guard⟩=>abb a b guard λw=>match w with|true=>ae6 P tt z ⟨b,c,d⟩ f op λs=>oK P tt z a l s K|false=>Dj z b f sx λe=>oK P tt z a l ⟨e,c,d⟩ K
def ae7(tt:T TI)(e:T V)(op:Op)(v:V):List (T EO)->Prop->Prop|[],A=>A|h::l,A=>An (rK tt e h op λu=>u=v) (ae7 tt e op v l A)
def TL:Nat->List (T EO)->List (T EO)|0,_=>[]|n+1,l=>match l with|[]=>[]|h::l=>h::TL n l
def ae8(tt:T TI)(e:T V)(op:Op)(a:List (T EO))(K:V->Prop):Prop:=match a with|h::a=>rK tt e h op λv=>ae7 tt e op v a (K v)|[]=>False
def sM(op:Op):Bool:=match op with|.call {callee:=.value _,..}=>true|_=>false
def dK(P:Program)(tt:T TI)(z:Nat)(a:List Oper):List (Nat×Nat)->ES->List (T EO)->(ES->Prop)->Prop
|[],s,_,K=>K s|(i,k)::l,s,b,K=>s.un λc d f=>match TJ a i with
|none=>False|some ⟨g,op,_,_,_,guard⟩=>abb a c guard λw=>match w with
|true=>match sM op with|true=>ae6 P tt z ⟨c,d,f⟩ g op λs=>s.un λe h n=>dK P tt z a l ⟨e,h,n⟩ (h::b) K|false=>match cl tt op with|.r=>ae8 tt c op (TL (b.length-k) b) λv=>Dj z c g v λe=>dK P tt z a l ⟨e,d,f⟩ b K|.p=>ae6 P tt z ⟨c,d,f⟩ g op λs=>dK P tt z a l s b K|.a=>ae6 P tt z ⟨c,d,f⟩ g op λs=>dK P tt z a l s b K|.e=>ae6 P tt z ⟨c,d,f⟩ g op λs=>s.un λe h n=>dK P tt z a l ⟨e,h,n⟩ (h::b) K|_=>False
|false=>match sM op with|true=>Dj z c g sx λe=>dK P tt z a l ⟨e,d,f⟩ (d::b) K|false=>match cl tt op with|.r=>Dj z c g sx λe=>dK P tt z a l ⟨e,d,f⟩ b K|.p=>Dj z c g sx λe=>dK P tt z a l ⟨e,d,f⟩ b K|.a=>Dj z c g sx λe=>dK P tt z a l ⟨e,d,f⟩ b K|.e=>Dj z c g sx λe=>dK P tt z a l ⟨e,d,f⟩ (d::b) K|_=>False
structure cV(P:Program)(tt:T TI)(z:Nat)(a:Array Oper)(s:ES)(K:ES->Prop):Prop where
 h:∃l,NU P a=some l/\dK P tt z a.toList l s [s.h] K
def cV.eo{P:Program}{tt:T TI}{z:Nat}{a:Array Oper}{s:ES}{K:ES->Prop}(l:List (Nat×Nat))(b:NU P a=some l)(h:dK P tt z a.toList l s [s.h] K):cV P tt z a s K:=⟨l,b,h⟩
variable{P:Program}{tt:T TI}{e t:T V}{eh:T EO}{h:Hp}
def WY(t:T V)(d:Nat)(v:V)(k:Nat):gA (t.set d v) k=if k=d then v else gA t k:=by unfold gA;rw[T.dI];by_cases h:k=d;(.rw[U h,U h]);rw[I h,I h]
def mW.set(b:mW e t)(d:Nat)(v:V):mW (e.set d v) (t.set d v):=λk u a=>by rw[T.dI]at a;rw[WY];split at a;(.rename_i e;cases a;rw[U e]);rename_i e;rw[I e];exact b k u a
def vF(b:mW e t){z:Nat}{c:Hp}{k f:Nat}{g:List (V×List V)}{d:Option Nat}{v:V}{K:T V->Prop}(a:Dj z e d v K):∃i j,St.put ⟨t,z,h,k,g⟩ d v c f=some ⟨i,z,c,f,g⟩/\mW j i/\K j:=by
 unfold Dj at a;split at a;.exact⟨t,e,A,b,a⟩
 split at a;.rename_i d _ l;rw[gT]at a;exact⟨_,_,by simp[St.put,l],b.set d v,a⟩
 exact a.elim
def IN:∀(l:List Oper)(n:Nat),TJ l n=l[n]?|[],n=>by simp[TJ]|o::l,0=>A|o::l,n+1=>by simpa[TJ]using IN l n
def QV(i:mW e t){c:Array Oper}{g:Option (Nat×Bool)}{K:Bool->Prop}(a:abb c.toList e g K):K (kV c t g):=by
 unfold abb at a;split at a;.exact a
 rename_i j w;rw[IN]at a;split at a;.rename_i o m;split at a;(.rename_i d n;(have p:c[j]?=some o:=by simpa using m);(have k:Da c j=some d:=by simp[Da,p,n]);split at a;(.rename_i b f;have:=i _ _ f;simp only[kV,k,this,adh];split at a<;>exact a);(.rename_i l f;have:=i _ _ f;simp only[kV,k,this,adh];exact a);exact a.elim);exact a.elim
 exact a.elim
inductive One(P:Program)(o:Oper)(s:St):V->Hp->Nat->Prop|plain{v a b}(k:sM o.op=false)(h:ps P s.t s.h s.nx o.op=some (v,a,b)):One P o s v a b|call{f c j d g i v a b}(l:o.op=.call ⟨.value f,c,j⟩)(m:mV s.t f=some d)(n:pw d (oa s.t c.toList)=some (g,i))(p:FI P g)(q:RC P g i s.h s.nx v a b):One P o s v a b
def Dk(ht:hZ P tt){z:Nat}{s:ES}{o:Oper}{k:List (V×List V)}{K:ES->Prop}(m:mW s.e t)(C:fV s.h h)(b:ae6 P tt z s o.dst o.op K):∃v i d j n,One P o ⟨t,z,h,s.nx,k⟩ v i d/\St.put ⟨t,z,h,s.nx,k⟩ o.dst v i d=some ⟨j,z,i,d,k⟩/\mW n.e j/\fV n.h i/\n.nx=d/\K n:=by
 unfold ae6 at b;rw[ES.WE]at b;split at b;.rename_i f J L D;obtain⟨E,p,b⟩:=dv m b;split at b;(.rename_i E g a c;obtain⟨l,q,b⟩:=qt m b;rw[Cr,Cr]at b;obtain⟨v,i,d,r,u,F,G⟩:=b.h h C;obtain⟨j,w,x,y,B⟩:=vF (h:=h) (c:=i) (k:=s.nx) (f:=d) (g:=k) m G;exact⟨v,i,d,j,⟨w,r,d⟩,.call D p (by simp[pw,q]) b.ID u,x,y,F,A,B⟩);exact b.elim
 rename_i op H;obtain⟨v,i,d,r,p,q,u⟩:=ae5 ht m C b;obtain⟨j,w,x,y,B⟩:=vF (h:=h) (c:=i) (k:=s.nx) (f:=d) (g:=k) m u;refine⟨v,i,d,j,⟨w,r,d⟩,.plain ?_ p,x,y,q,A,B⟩;unfold sM;split;.rename_i I;exact absurd I (H _ _ _)
 rfl
def One.so{o:Oper}{s b c:St}{v:V}{d:Hp}{f:Nat}(h:One P o s v d f){a:Array Oper}{i:Nat}{l:List Nat}(g:a[i]?=some o)(j:kV a s.t o.guard=true)(k:s.put o.dst v d f=some b)(m:SO P a l b c):SO P a (i::l) s c:=by cases h with|plain w h=>exact SO.plain g j h k m|call n p q r u=>exact SO.call g j n p q r u k m
def WZ(ht:hZ P tt){z:Nat}{b:Array Oper}{f:List (V×List V)}:∀(l:List Oper)(k:Nat){t:T V}{h:Hp}{s:ES}{K:ES->Prop},b.toList.drop k=l->mW s.e t->fV s.h h->oK P tt z b.toList l s K->∃g m c,SO P b (List.range' k l.length) ⟨t,z,h,s.nx,f⟩ ⟨g,z,m,c.nx,f⟩/\mW c.e g/\fV c.h m/\K c|[],k,t,h,s,K,n,d,i,a=>⟨t,h,s,SO.nil _,d,i,a⟩|o::l,k,t,h,s,K,n,d,i,a=>by (have B:b[k]?=some o:=by (have:b.toList[k]?=some o:=by have:=aY (·[0]?) n;simpa using this);simpa using this);(have C:b.toList.drop (k+1)=l:=by rw[<-fK,n];rfl);simp only[oK,ES.WE]at a;have a:=QV d a;cases j:kV b t o.guard with|true=>rw[j]at a;obtain⟨v,m,M,g,c,D,E,F,G,H,p⟩:=Dk (k:=f) ht d i a;obtain⟨q,r,u,w,x,y,A⟩:=WZ ht l (k+1) C F G p;subst H;exact⟨q,r,u,D.so B j E w,x,y,A⟩|false=>rw[j]at a;obtain⟨g,I,p,J,L⟩:=vF (h:=h) (c:=h) (k:=s.nx) (f:=s.nx) (g:=f) d a;obtain⟨q,r,u,w,x,y,A⟩:=WZ ht l (k+1) C (s:=⟨I,s.h,s.nx⟩) J i L;exact⟨q,r,u,SO.QH B j p w,x,y,A⟩
def qv:List (T EO)->List Hp->Prop|[],[]=>True|a::l,b::r=>fV a b/\qv l r|_,_=>False
def qv.len:∀{l:List (T EO)}{r:List Hp},qv l r->l.length=r.length|[],[],_=>A|a::l,b::r,h=>by simp[qv.len h.2]
def qv.take:∀(n:Nat){l:List (T EO)}{r:List Hp},qv l r->qv (TL n l) (r.take n)|0,l,r,h=>by simp[TL,qv]|n+1,[],[],h=>by simp[TL,qv]|n+1,a::l,b::r,h=>by simpa[TL,qv]using⟨h.1,qv.take n h.2⟩
def QW(ht:hZ P tt)(d:mW e t){op:Op}{v:V}:∀{l:List (T EO)}{r:List Hp}{A:Prop},qv l r->ae7 tt e op v l A->(∀h∈r,NR P t h op=some v)/\A|[],[],A,_,h=>⟨by simp,h⟩|a::l,b::r,A,f,h=>by obtain⟨u,g,i⟩:=WT ht d f.1 h.l;subst i;obtain⟨j,k⟩:=QW ht d f.2 h.r;refine⟨λx c=>?_,k⟩;rcases aR.1 c with rfl|c;(.exact g);exact j x c
def abc(ht:hZ P tt)(d:mW e t){op:Op}{l:List (T EO)}{r:List Hp}{K:V->Prop}(a:qv l r)(h:ae8 tt e op l K):∃v,(∀x∈r,NR P t x op=some v)/\K v:=by unfold ae8 at h;split at h;(.cases r with|nil=>exact a.elim|cons b r=>obtain⟨v,f,g⟩:=WT ht d a.1 h;obtain⟨i,j⟩:=QW ht d a.2 g;refine⟨v,λx c=>?_,j⟩;rcases aR.1 c with rfl|c;(.exact f);exact i x c);exact h.elim
def QX{op:Op}(h:sM op=true):kd P op=.c:=by unfold sM at h;split at h;(.rfl);cases h
def Ad{op:Op}(h:sM op=false){f:Operand}{a:Array Operand}{b:Array TypeId}:op≠.call ⟨.value f,a,b⟩:=by rintro rfl;cases h
def yk(ht:hZ P tt){z:Nat}{Y:Array Oper}:∀(l:List (Nat×Nat)){t:T V}{h:Hp}{s:ES}{D:List (T EO)}{J:List Hp}{K:ES->Prop},mW s.e t->fV s.h h->qv D J->dK P tt z Y.toList l s D K->∃E L B F,Bj P Y l ⟨t,z,h,s.nx,[]⟩ J F ⟨E,z,L,B.nx,[]⟩/\mW B.e E/\fV B.h L/\K B
|[],t,h,s,D,J,K,u,r,w,a=>⟨t,h,s,[],.nil _ _,u,r,a⟩|(i,k)::l,t,h,s,D,J,K,u,r,w,a=>by
 simp only[dK,IN,ES.WE]at a;split at a;.exact a.elim
 rename_i a2 op ty pos a3 guard x;generalize Z:(⟨a2,op,ty,pos,a3,guard⟩:Oper)=o at x;have e1:a2=o.dst:=by rw[<-Z]
 have e2:op=o.op:=by rw[<-Z]
 have e3:guard=o.guard:=by rw[<-Z]
 subst e1 e2 e3;clear Z;have x:Y[i]?=some o:=by simpa using x
 have a:=QV u a;cases C:kV Y t o.guard with
 |true=>
  rw[C]at a;simp only at a;cases A:sM o.op with
  |true=>rw[A]at a;obtain⟨v,L,a0,E,B,G,M,N,H,O,q⟩:=Dk (k:=[]) ht u r a;subst O;cases G with|plain X _=>rw[A]at X;cases X|call Q a4 a5 a6 a7=>obtain⟨d,f,g,F,j,m,n,p⟩:=yk ht l N H (D:=B.h::D) (J:=L::J) ⟨H,w⟩ q;exact⟨d,f,g,_,.cons x (.c C Q a4 a5 a6 a7) M (by rw[QX A];exact j),m,n,p⟩
  |false=>rw[A]at a;simp only at a;split at a;(.rename_i I;have b:=yj ht I aS;have a8:=w.len;obtain⟨v,G,a⟩:=abc ht u (w.take (D.length-k)) a;obtain⟨E,S,q,U,W⟩:=vF (h:=h) (c:=h) (k:=s.nx) (f:=s.nx) (g:=[]) u a;obtain⟨d,f,g,F,j,m,n,p⟩:=yk ht l (s:=⟨S,s.h,s.nx⟩) U r w W;exact⟨d,f,g,_,.cons x (.r C b (by rw[<-a8];exact G)) q (by rw[b];exact j),m,n,p⟩);(.rename_i I;have b:=yj ht I aS;obtain⟨v,L,a0,E,B,G,M,N,H,O,q⟩:=Dk (k:=[]) ht u r a;subst O;cases G with|call Q _ _ _ _=>exact absurd Q (Ad A)|plain X c=>simp only[ps,b]at c;cases R:BT P t o.op with|none=>rw[R]at c;cases c|some y=>rw[R]at c;simp only[rP,bB,cj]at c;obtain⟨rfl,rfl,a1⟩:=c;obtain⟨d,f,g,F,j,m,n,p⟩:=yk ht l N H w q;exact⟨d,f,g,_,.cons x (.p C b R) (by rw[a1];exact M) (by rw[b];exact j),m,n,p⟩);(.rename_i I;have b:=yj ht I aS;obtain⟨v,L,a0,E,B,G,M,N,H,O,q⟩:=Dk (k:=[]) ht u r a;subst O;cases G with|call Q _ _ _ _=>exact absurd Q (Ad A)|plain X c=>simp only[ps,b]at c;cases R:Qt P t o.op with|none=>rw[R]at c;cases c|some y=>obtain⟨ob,mk⟩:=y;rw[R]at c;simp only[rA,bB,cj]at c;obtain⟨rfl,rfl,a1⟩:=c;obtain⟨d,f,g,F,j,m,n,p⟩:=yk ht l N H w q;exact⟨d,f,g,_,.cons x (.a C b R) (by rw[a1];exact M) (by rw[b];exact j),m,n,p⟩);(.rename_i I;have b:=yj ht I aS;obtain⟨v,L,a0,E,B,G,M,N,H,O,q⟩:=Dk (k:=[]) ht u r a;subst O;cases G with|call Q _ _ _ _=>exact absurd Q (Ad A)|plain X c=>simp only[ps,b]at c;obtain⟨d,f,g,F,j,m,n,p⟩:=yk ht l N H (D:=B.h::D) (J:=L::J) ⟨H,w⟩ q;exact⟨d,f,g,_,.cons x (.e C b c) M (by rw[b];exact j),m,n,p⟩);exact a.elim
 |false=>rw[C]at a;simp only at a;cases A:sM o.op with|true=>rw[A]at a;obtain⟨E,S,q,U,W⟩:=vF (h:=h) (c:=h) (k:=s.nx) (f:=s.nx) (g:=[]) u a;obtain⟨d,f,g,F,j,m,n,p⟩:=yk ht l (s:=⟨S,s.h,s.nx⟩) U r (D:=s.h::D) (J:=h::J) ⟨r,w⟩ W;exact⟨d,f,g,_,.cons x (.skip C) q (by rw[QX A];exact j),m,n,p⟩|false=>rw[A]at a;simp only at a;split at a;all_goals first|exact a.elim|(rename_i I;have b:=yj ht I aS;obtain⟨E,S,q,U,W⟩:=vF (h:=h) (c:=h) (k:=s.nx) (f:=s.nx) (g:=[]) u a;first|(obtain⟨d,f,g,F,j,m,n,p⟩:=yk ht l (s:=⟨S,s.h,s.nx⟩) U r w W;exact⟨d,f,g,_,.cons x (.skip C) q (by rw[b];exact j),m,n,p⟩)|(obtain⟨d,f,g,F,j,m,n,p⟩:=yk ht l (s:=⟨S,s.h,s.nx⟩) U r (D:=s.h::D) (J:=h::J) ⟨r,w⟩ W;exact⟨d,f,g,_,.cons x (.skip C) q (by rw[b];exact j),m,n,p⟩))
end
end Go.Ev
