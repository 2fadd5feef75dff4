/- TopRewrites: a part of the proof. -/
import Derived.Test.YtcimkkmkiedobaaGreatDoorM6
set_option maxRecDepth 100000
set_option maxHeartbeats 32000000
set_option linter.all false
namespace Go.Ev
section
structure Entry where
 w:World
 β:Nat->Option (Nat×Nat)
 F:Nat->Prop
 h:Hp
 n:Nat
structure adv(E:Entry)(w:World)(a:Nat->Option (Nat×Nat))(F:Nat->Prop)(h:Hp):Prop where
 size:E.w.heap.size<=w.heap.size
 os:w.os=E.w.os
 tape:w.tape=E.w.tape
 output:w.output=E.w.output
 out:∀B,¬E.F B->B<E.w.heap.size->¬F B
 kF:∀B,¬E.F B->B<E.w.heap.size->w.heap[B]?=E.w.heap[B]?
 FG:∀(B:Nat)(c:Array Value)(e:TypeId)(j:Nat×Nat),E.w.heap[B]?=some (.cells c e j)->∃(g:Array Value)(k:TypeId)(l:Nat×Nat),w.heap[B]?=some (.cells g k l)/\g.size=c.size
 keep:∀B,B<E.w.heap.size->(∀b o d,E.h.get b=some o->E.β b=some (B,d)->False)->w.heap[B]?=E.w.heap[B]?
 mono:∀B,E.F B->F B
 tW:∀B,F B->E.F B\/(E.w.heap.size<=B/\B<w.heap.size)
 kB:∀b o B d,h.get b=some o->a b=some (B,d)->E.w.heap.size<=B\/∃i m n,E.h.get i=some m/\E.β i=some (B,n)
 fix:∀b,b<E.n->a b=E.β b
def adv.start(w:World)(a:Nat->Option (Nat×Nat))(F:Nat->Prop)(h:Hp)(n:Nat):adv ⟨w,a,F,h,n⟩ w a F h:=⟨af _,A,A,A,λ_ h _=>h,λ_ _ _=>A,λ_ c e g h=>⟨c,e,g,h,A⟩,λ_ _ _=>A,λ_ h=>h,λ_ h=>.inl h,λb o B d i j=>.inr ⟨b,o,d,i,j⟩,λ_ _=>A⟩
def adv.step{E:Entry}{w u:World}{v x:Nat->Option (Nat×Nat)}{F y:Nat->Prop}{h z:Hp}{A D:Nat}(a:adv E w v F h)(b:wI w v F h A u x y z D)(S:E.n<=A):adv E u x y z:=by
 have H:=b.ext.size;refine⟨aL a.size H,b.ext.os.trans a.os,b.ext.tape.trans a.tape,b.ext.output.trans a.output,λB j c=>b.ext.out B (a.out B j c) (bS c a.size),λB j c=>(b.ext.keep B (a.out B j c) (bS c a.size)).trans (a.kF B j c),λB I e J K=>?_,λB c C=>?_,λB c=>b.mono B (a.mono B c),λB c=>?_,λk o B d l L=>?_,λk m=>?_⟩;.obtain⟨c1,n,M,g,N⟩:=a.FG B I e J K;obtain⟨c2,O,P,i,R⟩:=b.ext.FG B c1 n M g;exact⟨c2,O,P,i,R.trans N⟩
 .have n:=a.keep B c C;have:=a.size;refine(b.keep B G λk o d l m=>?_).trans n;rcases a.kB k o B d l m with g|⟨p,q,r,g,i⟩;(.omega);exact C p q r g i
 .rcases b.tW B c with g|⟨g,i⟩;(.rcases a.tW B g with t|⟨t,U⟩;(.exact .inl t);exact .inr ⟨t,G⟩);exact .inr ⟨by have:=a.size;omega,i⟩
 .rcases b.kB k o B d l L with g|⟨p,q,r,g,i⟩;(.exact .inl (by have:=a.size;omega));exact a.kB p q B r g i
 rw[b.old k (.inl G),a.fix k m]
structure adw(E:Entry):Prop where
 bd:∀B,E.F B->B<E.w.heap.size
def En(E:Entry)(z:Nat)(s:ES)(w:World)(a:Act):Prop:=∃c F t h,mW s.e t/\fV s.h h/\MR w c F ⟨t,z,h,s.nx,[]⟩ a/\adv E w c F h/\(∀b,s.nx<=b->c b=none)/\E.n<=s.nx
def PQ(E:Entry)(z:Nat)(Q:X->ES->Prop)(e:Exit)(a:Act)(w:World):Prop:=False\/∃x s,e=x.out/\En E z s w a/\Q x s
structure FJ where
 P:Program
 h:Hp
 n:Nat
 z:Nat
def WI(f:FJ)(h:List Item)(s:ES)(Q:X->ES->Prop):Prop:=∀(E:Entry),E.h=f.h->E.n=f.n->adw E->∀w a,En E f.z s w a->∀(b:Frame)(k:List Item)(c:List Frame),∃e d g,PQ E f.z Q e d g/\Arrives f.P (lone (b.at a (h++k)) c w) b k c e d g
structure bh(f:FJ)(b:Code)(s:ES)(Q:X->ES->Prop):Prop where
 h:WI f [.code b,.inLoop b] s Q
structure Dl(f:FJ)(b c:Code)(s:ES)(Q:X->ES->Prop):Prop where
 h:WI f [.code c,.inScope b] s Q
def cK(f:FJ)(tt:T TI):Code->ES->(X->ES->Prop)->Prop
|.skip,s,Q=>Q .norm s|.label _,s,Q=>Q .norm s|.ret,s,Q=>Q .ret s|.exit k,s,Q=>Q (.exit k) s|.goto k,s,Q=>Q (.goto k) s|.seq a b,s,Q=>cK f tt a s λx s=>match x with|.norm=>cK f tt b s Q|.exit k=>Q (.exit k) s|.goto k=>Q (.goto k) s|.ret=>Q .ret s
|.cond c a b,s,Q=>s.un λe h n=>iS e c λv=>match v with|.b true=>cK f tt a ⟨e,h,n⟩ Q|.b false=>cK f tt b ⟨e,h,n⟩ Q|_=>False
|.block k b,s,Q=>cK f tt b s λx s=>match x with
 |.norm=>Q .norm s|.exit j=>match Nat.beq j k with|true=>Q .norm s|false=>Q (.exit j) s
 |.goto k=>Q (.goto k) s|.ret=>Q .ret s
|.loop b,s,Q=>bh f b s Q|.scope b,s,Q=>Dl f b b s Q|.region _ g d,s,Q=>match d with|false=>oK f.P tt f.z g.toList g.toList s λs=>Q .norm s|true=>cV f.P tt f.z g s λs=>Q .norm s
|_,_,_=>False
variable{f:FJ}{tt:T TI}{Q:X->ES->Prop}{s:ES}
def WI.ya{d g:List Item}(h:WI f g s Q)(i:∀(b:Frame)a k c w,step f.P (lone (b.at a (d++k)) c w)=.next (lone (b.at a (g++k)) c w)):WI f d s Q:=λE j l m w a n b k c=>by obtain⟨e,o,p,q,r⟩:=h E j l m w a n b k c;exact⟨e,o,p,q,.of_steps (.one (i b a k c w)) r⟩
def WI.now{c:Code}(x:X)(d:Q x s)(e:∀(R:Exit->Act->World->Prop)a w,R x.out a w->c.wp f.P R a w):WI f [.code c] s Q:=λE i j l w a g b k h=>e (PQ E f.z Q) a w (.inr ⟨x,s,A,g,d⟩) b k h
def WI.mono{d:List Item}{g:X->ES->Prop}(h:WI f d s Q)(i:∀x s,Q x s->g x s):WI f d s g:=λE j l m w a n b k o=>by obtain⟨e,p,q,c,r⟩:=h E j l m w a n b k o;refine⟨e,p,q,?_,r⟩;rcases c with c|⟨x,s,t,u,v⟩;(.exact .inl c);exact .inr ⟨x,s,t,u,i _ _ v⟩
def WI.sc{c:Code}(h:∀t g,mW s.e t->fV s.h g->∃x i j d,SC f.P c ⟨t,f.z,g,s.nx,[]⟩ x ⟨i,f.z,j,d.nx,[]⟩/\mW d.e i/\fV d.h j/\Q x d):WI f [.code c] s Q:=by rintro E O P R w a⟨r,F,t,g,u,v,m,y,o,p⟩b k z;obtain⟨x,i,j,d,n,B,C,D⟩:=h t g u v;obtain⟨e,G,H,I,J⟩:=n.2 w r F a m (λb l _=>o b l) b k z;refine⟨e,G,H,?_,J⟩;rcases I with K|⟨rfl,L,M,N,q⟩;(.exact K.elim);refine .inr ⟨x,d,A,⟨L,M,i,j,B,C,N,y.step q p,λb l=>?_,aL p n.1⟩,D⟩;rw[q.old b (.inr l)];exact o b (aL n.1 l)
def X.abd{x y:X}(h:x.out=y.out):x=y:=by cases x<;>cases y<;>simp[X.out]at h<;>simp[h]
def PQ.norm{E:Entry}{z:Nat}{a:Act}{w:World}(h:PQ E z Q .normal a w):∃s,En E z s w a/\Q .norm s:=by rcases h with h|⟨x,s,b,c,d⟩;(.cases h);have:x=.norm:=X.abd (by rw[<-b];rfl);subst this;exact⟨s,c,d⟩
def qw(ht:hZ f.P tt)(L:f.P.follows .mixedOrders=true):∀(c:Code)(s:ES)(Q:X->ES->Prop),cK f tt c s Q->WI f [.code c] s Q
|.skip,s,Q,h=>.now .norm h λ_ _ _=>wp_skip|.label _,s,Q,h=>.now .norm h λ_ _ _=>wp_label|.ret,s,Q,h=>.now .ret h λ_ _ _=>wp_ret|.exit k,s,Q,h=>.now (.exit k) h λ_ _ _=>wp_exit|.goto k,s,Q,h=>.now (.goto k) h λ_ _ _=>wp_goto|.seq C y,s,Q,h=>by have D:=qw ht L C s _ h;intro E G H I w a J b k K;obtain⟨O,g,i,N,o⟩:=D E G H I w a J b (.code y::k) K;rcases N with S|⟨z,j,rfl,p,n⟩;(.exact S.elim);cases z with|norm=>obtain⟨a1,a2,w2,a3,a4⟩:=qw ht L y j Q n E G H I i g p b k K;exact⟨a1,a2,w2,a3,.of_steps (.head step_seq o) a4⟩|exit id=>exact⟨_,g,i,.inr ⟨.exit id,j,A,p,n⟩,.of_steps (.one step_seq) (.pass (x:=.code y) A (λ_ _=>.inl (by simp[X.out])) o)⟩|goto l=>exact⟨_,g,i,.inr ⟨.goto l,j,A,p,n⟩,.of_steps (.one step_seq) (.pass (x:=.code y) A (λ_ _=>.inl (by simp[X.out])) o)⟩|ret=>exact⟨_,g,i,.inr ⟨.ret,j,A,p,n⟩,.of_steps (.one step_seq) (.pass (x:=.code y) A (λ_ _=>.inl (by simp[X.out])) o)⟩
|.cond c C y,s,Q,h=>by
 intro E G H I w a J b k K;obtain⟨β,F,t,N,P,R,m,st,a5,hn⟩:=id J;obtain⟨v,a0,B⟩:=dv P h;split at B
 .have U:a.eval c=.bool true:=by have:=Gt m.tr a0;generalize a.eval c=u at this;cases this;rfl
  obtain⟨O,g,i,q,r⟩:=qw ht L C s Q B E G H I w a J b k K;exact⟨O,g,i,q,.of_steps (.one (step_cond U)) r⟩
 .have U:a.eval c=.bool false:=by have:=Gt m.tr a0;generalize a.eval c=u at this;cases this;rfl
  obtain⟨O,g,i,q,r⟩:=qw ht L y s Q B E G H I w a J b k K;exact⟨O,g,i,q,.of_steps (.one (step_cond U)) r⟩
 exact B.elim|.block id C,s,Q,h=>by have D:=qw ht L C s _ h;intro E G H I w a J b k K;obtain⟨O,g,i,N,o⟩:=D E G H I w a J b (.inBlock id::k) K;rcases N with S|⟨z,j,rfl,p,n⟩;(.exact S.elim);cases z with|norm=>exact⟨_,g,i,.inr ⟨.norm,j,A,p,n⟩,.head step_block (Steps.trans o (.one step_inBlock))⟩|exit V=>simp only at n;split at n;(.rename_i hid;have hid:=cm hid;exact⟨.normal,g,i,.inr ⟨.norm,j,A,p,n⟩,.head step_block (o k (by simp[exitTo,hid]))⟩);rename_i hid;have hid:=cz hid;refine⟨.exit V,g,i,.inr ⟨.exit V,j,A,p,n⟩,λW B=>.head step_block (o W ?_)⟩;(have:(id==V)=false:=by simp;exactλh=>hid h.symm);simp[exitTo,this,B]|goto l=>exact⟨_,g,i,.inr ⟨.goto l,j,A,p,n⟩,λW B=>.head step_block (o W (by simp[gotoIn,B]))⟩|ret=>exact⟨_,g,i,.inr ⟨.ret,j,A,p,n⟩,.of_steps (e:=.ret) (.one step_block) o⟩
|.loop C,s,Q,h=>.ya h.h λ_ _ _ _ _=>step_loop|.scope C,s,Q,h=>.ya h.h λ_ _ _ _ _=>step_scope|.region id Y d,s,Q,h=>by refine .sc λt N P R=>?_;simp only[cK]at h;split at h;(.obtain⟨Z,h',j,D,h2,h3,h4⟩:=WZ (f:=[]) ht Y.toList 0 A P R h;refine⟨.norm,Z,h',j,?_,h2,h3,h4⟩;(have:List.range Y.size=List.range' 0 Y.toList.length:=by simp[List.range_eq_range']);exact SO.region (by rw[this];exact D));obtain⟨l,hl,B⟩:=h.h;obtain⟨Z,h',j,tr,D,h2,h3,h4⟩:=yk ht l P R (J:=[N]) (D:=[s.h]) ⟨R,M⟩ B;exact⟨.norm,Z,h',j,SC.Bl L hl D,h2,h3,h4⟩|.rangeFunc _ _ _ _,s,Q,h=>h.elim|.refuse _,s,Q,h=>h.elim
end
section
structure VB(P:Program)(tt:T TI):Prop where
 ok:hZ P tt
 mo:P.follows .mixedOrders=true
 nm:Bi P
variable{f:FJ}{tt:T TI}{Q:X->ES->Prop}{s s2:ES}
def ahr(f:FJ)(b:Code)(Q:X->ES->Prop)(x:X)(s:ES):Prop:=match x with|.norm=>bh f b s Q|.exit k=>Q (.exit k) s|.goto k=>Q (.goto k) s|.ret=>Q .ret s
def bh.sN{b:Code}(h:WI f [.code b] s (ahr f b Q)):bh f b s Q:=by refine⟨λE n o p w a t q k r=>?_⟩;obtain⟨e,c,d,u,g⟩:=h E n o p w a t q (.inLoop b::k) r;rcases u with v|⟨z,m,rfl,i,j⟩;(.exact v.elim);cases z with|norm=>obtain⟨y,B,C,D,F⟩:=j.h E n o p d c i q k r;exact⟨y,B,C,D,.of_steps (Steps.trans g (.one step_inLoop)) F⟩|exit id=>exact⟨_,c,d,.inr ⟨.exit id,m,A,i,j⟩,.pass (x:=.inLoop b) A (λ_ _=>.inl (by simp[X.out])) g⟩|goto l=>exact⟨_,c,d,.inr ⟨.goto l,m,A,i,j⟩,.pass (x:=.inLoop b) A (λ_ _=>.inl (by simp[X.out])) g⟩|ret=>exact⟨_,c,d,.inr ⟨.ret,m,A,i,j⟩,.pass (x:=.inLoop b) A (λ_ _=>.inl (by simp[X.out])) g⟩
def bh.dg(H:VB f.P tt){b:Code}(h:cK f tt b s (ahr f b Q)):bh f b s Q:=bh.sN (qw H.ok H.mo b s _ h)
def ahs(f:FJ)(b:Code)(Q:X->ES->Prop)(x:X)(s:ES):Prop:=match x with
|.norm=>Q .norm s|.exit k=>Q (.exit k) s|.goto k=>match findLabel b k with|some c=>Dl f b c s Q|none=>Q (.goto k) s
|.ret=>Q .ret s
def Dl.dg(H:VB f.P tt){b c:Code}(h:cK f tt c s (ahs f b Q)):Dl f b c s Q:=by refine⟨λE r t u w a y v k x=>?_⟩;obtain⟨e,g,i,B,j⟩:=qw H.ok H.mo c s _ h E r t u w a y v (.inScope b::k) x;rcases B with C|⟨z,n,rfl,m,d⟩;(.exact C.elim);cases z with|norm=>exact⟨_,g,i,.inr ⟨.norm,n,A,m,d⟩,Steps.trans j (.one step_inScope)⟩|exit id=>exact⟨_,g,i,.inr ⟨.exit id,n,A,m,d⟩,λo p=>j o (by simp[exitTo,p])⟩|goto l=>simp only[ahs]at d;split at d;(.rename_i K q;obtain⟨D,F,G,I,J⟩:=d.h E r t u i g m v k x;exact⟨D,F,G,I,.of_steps (j _ (by simp[gotoIn,q])) J⟩);rename_i q;exact⟨_,g,i,.inr ⟨.goto l,n,A,m,d⟩,λo p=>j o (by simp[gotoIn,q,p])⟩|ret=>exact⟨_,g,i,.inr ⟨.ret,n,A,m,d⟩,j⟩
mutual
def ee:V->Bool|.p _ _=>false|.Z _ _ _ _ _=>false|.m _=>false|.f _ x y=>bp x&&bp y|.agg l=>bp l|.ey l=>bp l|.ip l=>bp l|.Q _ l=>bp l|_=>true
def bp:List V->Bool|[]=>true|v::l=>ee v&&bp l
end
def iT:∀{l:List V},bp l=true->∀v∈l,ee v=true
|[],_,v,h=>by simp at h
|a::l,b,v,h=>by simp only[bp,aA]at b;rcases aR.1 h with rfl|h;(.exact b.1);exact iT b.2 v h
def jW:∀{l:List V},(∀v∈l,ee v=true)->bp l=true|[],_=>A|a::l,h=>by simp only[bp,aA];exact⟨h a aS,jW λv b=>h v (by simp[b])⟩
def hg{a b:List V}(c:bp a=true)(d:bp b=true):bp (a++b)=true:=jW λv e=>(aZ.1 e).elim (iT c v) (iT d v)
def R.free{w:World}{I J:Nat->Option (Nat×Nat)}{F E:Nat->Prop}(G:∀B,E B->F B){v:V}{u:Value}(h:R w I F v u):ee v=true->R w J E v u:=by have t:∀{l:List V}{i:Nat}{v:V},bp l=true->l[i]?=some v->ee v=true:=λK L=>iT K _ (bb L);induction h with|b x=>intro _;exact .b x|i k n=>intro _;exact .i k n|s x l h=>intro _;exact .s x l h|p b o B d h=>intro h;cases h|np=>intro _;exact .np|Z b o n c x B d S h H z U W _=>intro h;cases h|E=>intro _;exact .E|m r B h=>intro h;cases h|nm=>intro _;exact .nm|f f x y a c j _ m _ M N=>intro h;simp only[ee,aA]at h;exact .f f x y a c j (λi v u e g=>M i v u e g (t h.1 e)) m (λi v u e g=>N i v u e g (t h.2 e))|nf=>intro _;exact .nf|zK=>intro _;exact .zK|agg l c j _ m p=>intro h;exact .agg l c j (λi v u e g=>p i v u e g (t h e)) m|ey l c j _ p=>intro h;exact .ey l c j (λi v u e g=>p i v u e g (t h e))|ip l B o A C D j z _ m p=>intro h;exact .ip l B o (λq=>A (G B q)) C D j z (λi v u e g=>p i v u e g (t h e)) m|is0 a c h=>intro _;exact .is0 a c h|es a c=>intro _;exact .es a c|x u h=>intro _;exact .x u h|j u h O=>intro _;exact .j u h O|Q n l c B o H A C D j z _ m P p=>intro h;exact .Q n l c B o H (λq=>A (G B q)) C D j z (λi v u e g=>p i v u e g (t h e)) m P
inductive Vw(h:T EO)(a:Nat->Option Nat)(d:Nat->Prop):V->V->Prop|B(v:V)(L:ee v=true):Vw h a d v v|p(b q o:Nat)(w:a q=some b):Vw h a d (.p b o) (.p q o)|Z(b q o n c:Nat)(x:Option Nat)(w:a q=some b):Vw h a d (.Z b o n c x) (.Z q o n c x)|m(b q:Nat)(w:a q=some b):Vw h a d (.m b) (.m q)|E:Vw h a d .E (.Q 0 [])|es:Vw h a d .es (.Q 0 [])|GC(b o c:Nat)(x:Option Nat):Vw h a d (.Z b o 0 c x) (.Q 0 [])|fz(b o n c k:Nat)(x:Option Nat)(r:EO)(l t:List V)(mk:Bool)(G:d b)(w:h.get b=some r)(A:r.ob=.c l mk)(I:cM l o k=some t)(J:bp t=true):Vw h a d (.Z b o n c x) (.Q n t)|fp(b o:Nat)(r:EO)(l:List V)(mk:Bool)(G:d b)(w:h.get b=some r)(A:r.ob=.c l mk)(J:bp (l.drop o)=true):Vw h a d (.p b o) (.ip (l.drop o))|agg(l u:List V)(H:l.length=u.length)(z:∀(i:Nat)v e,l[i]?=some v->u[i]?=some e->Vw h a d v e)(A:∀v∈u,v.one=true):Vw h a d (.agg l) (.agg u)|ey(l u:List V)(H:l.length=u.length)(z:∀(i:Nat)v e,l[i]?=some v->u[i]?=some e->Vw h a d v e):Vw h a d (.ey l) (.ey u)|f(g:Nat)(x C y D:List V)(M:x.length=C.length)(z:∀(i:Nat)v e,x[i]?=some v->C[i]?=some e->Vw h a d v e)(N:y.length=D.length)(K:∀(i:Nat)v e,y[i]?=some v->D[i]?=some e->Vw h a d v e):Vw h a d (.f g x y) (.f g C D)|ae9(b o n c k:Nat)(x:Option Nat)(r:EO)(l F t:List V)(mk:Bool)(G:d b)(w:h.get b=some r)(A:r.ob=.c l mk)(I:cM l o k=some F)(H:F.length=t.length)(z:∀(i:Nat)v e,F[i]?=some v->t[i]?=some e->Vw h a d v e)(O:∀v∈t,v.one=true):Vw h a d (.Z b o n c x) (.Q n t)|j(v:V)(z:v.one=true)(K:∀b,v≠.b b):Vw h a d v .j
def R.ajw{w:World}{d:Nat->Option (Nat×Nat)}{F:Nat->Prop}{g:Nat->Option (Nat×Nat)}{F2:Nat->Prop}{v:V}{u:Value}(h:R w d F v u)(a:v.one=true)(i:∀b,v≠.b b):R w g F2 .j u:=by cases h with|b x=>exact absurd A (i x)|agg=>cases a|ey=>cases a|x=>cases a|j u h j=>exact .j _ h j|_=>exact .j _ (λb e=>by cases e) ⟨λc e=>(by cases e),λc e=>(by cases e)⟩
def mX(a:Nat->Option (Nat×Nat))(c:Nat->Option Nat)(b:Nat):Option (Nat×Nat):=match c b with|some d=>a d|none=>none
def less(F:Nat->Prop)(a:Nat->Option (Nat×Nat))(Z:Nat->Prop)(B:Nat):Prop:=F B/\¬∃b d,Z b/\a b=some (B,d)
def xc{w:World}{K:Nat->Option (Nat×Nat)}{F:Nat->Prop}{eh:T EO}{h:Hp}{σ:Nat->Option Nat}{Z:Nat->Prop}(H:HR w K F h)(a0:fV eh h){v v2:V}(j:Vw eh σ Z v v2):∀{u:Value},R w K F v u->R w (mX K σ) (less F K Z) v2 u:=by
 induction j with
 |B v j=>intro u h;exact h.free (λB q=>q.1) j|j v O h2=>intro u h;exact h.ajw O h2|p b b2 o r=>intro u h;cases h with|p _ _ B d h=>exact .p _ _ B d (by simpa[mX,r]using h)
 |Z b b2 o n c x r=>intro u h;cases h with|Z _ _ _ _ _ B d P h S U N L hm=>exact .Z _ _ _ _ _ B d P (by simpa[mX,r]using h) S U N L hm
 |m b b2 r=>intro u h;cases h with|m _ B h=>exact .m _ B (by simpa[mX,r]using h)
 |E=>intro u h;cases h;exact .is0 _ _ (λ_=>A)|es=>intro u h;cases h;exact .is0 _ _ (λh=>by cases h)|GC b o c x=>intro u h;cases h;exact .is0 _ _ (λh=>by cases h)|fz b o n c k x ob l cs mk L r M a1 S=>intro u h;cases h with|Z _ _ _ _ _ B d P z a2 U N a4 a5=>have C:=a0 _ _ r;rw[M]at C;obtain⟨B',d',t,e,fz,D,q2,E,W,q5,q6,q7,q8⟩:=H.c _ _ _ C;rw[z]at D;cases D;obtain⟨rfl,a6⟩:=iz a1;(have I:RL w K F ((l.drop o).take k) (((t.toList.drop (d+o)).take k)):=by have:=(W.drop o).take k;(have e1:(((t.toList.drop d).take l.length).drop o).take k=(t.toList.drop (d+o)).take k:=by rw[eE,fK,hE,cR G]);rw[e1]at this;exact this);refine .Q n _ P B (d+o) (aL a2 U) (λq=>q.2 ⟨b,d,L,z⟩) (dX E) _ I.1 (λi u m=>?_) (λi v u j p=>(I.2 i v u j p).free (λB q=>q.1) (iT S v (bb j))) (λv j=>q8 v (xY j)) G;have:=oh E (d+o) k i u m;exact this
 |ae9 b o n c k x ob l ls cs mk L r M a1 J O h3 Y=>intro u h;cases h with|Z _ _ _ _ _ B d P z a2 U N a4 a5=>have C:=a0 _ _ r;rw[M]at C;obtain⟨B',d',t,e,fz,D,q2,E,W,q5,q6,q7,q8⟩:=H.c _ _ _ C;rw[z]at D;cases D;obtain⟨rfl,a6⟩:=iz a1;(have I:RL w K F ((l.drop o).take k) (((t.toList.drop (d+o)).take k)):=by have:=(W.drop o).take k;(have e1:(((t.toList.drop d).take l.length).drop o).take k=(t.toList.drop (d+o)).take k:=by rw[eE,fK,hE,cR G]);rw[e1]at this;exact this);refine .Q n _ P B (d+o) (aL a2 U) (λq=>q.2 ⟨b,d,L,z⟩) (dX E) _ (J▸I.1) (λi u m=>?_) (λi v u j p=>?_) h3 G;(.have:=oh E (d+o) k i u m;exact this);(have m:i<((l.drop o).take k).length:=by rw[J];exact(ba.1 j).1);exact Y i _ v (aa m) j (I.2 i _ u (aa m) p)
 |fp b o ob l mk L r M S=>intro u h;cases h with|p _ _ B d z=>have C:=a0 _ _ r;rw[M]at C;obtain⟨B',d',t,e,fz,D,q2,E,W,q5,q6,q7,q8⟩:=H.c _ _ _ C;rw[z]at D;cases D;(have I:RL w K F (l.drop o) ((t.toList.drop (d+o)).take (l.length-o)):=by have:=W.drop o;rw[eE,fK]at this;exact this);exact .ip _ B (d+o) (λq=>q.2 ⟨b,d,L,z⟩) (dX E) _ I.1 (λi u m=>oh E (d+o) (l.length-o) i u m) (λi v u j p=>(I.2 i v u j p).free (λB q=>q.1) (iT S v (bb j))) (λv j=>q8 v (dN j))
 |agg l l2 J O M Y=>intro u h;cases h with|agg _ c g1 g2 g3=>refine .agg _ c (by rw[<-J];exact g1) (λi v u j p=>?_) M;(have m:i<l.length:=by rw[J];exact(ba.1 j).1);exact Y i _ v (aa m) j (g2 i _ u (aa m) p)
 |ey l l2 J O Y=>intro u h;cases h with|ey _ c g1 g2=>refine .ey _ c (by rw[<-J];exact g1) (λi v u j p=>?_);(have m:i<l.length:=by rw[J];exact(ba.1 j).1);exact Y i _ v (aa m) j (g2 i _ u (aa m) p)
 |f g x x2 y y2 N O a3 h2 a7 a8=>intro u h;cases h with|f _ _ _ a c g1 g2 g3 g4=>refine .f _ _ _ a c (by rw[<-N];exact g1) (λi v u j p=>?_) (by rw[<-a3];exact g3) (λi v u j p=>?_);(. (have m:i<x.length:=by rw[N];exact(ba.1 j).1);exact a7 i _ v (aa m) j (g2 i _ u (aa m) p));(have m:i<y.length:=by rw[a3];exact(ba.1 j).1);exact a8 i _ v (aa m) j (g4 i _ u (aa m) p)
inductive Ow(h:T EO)(b:Nat->Option Nat)(Z:Nat->Prop):EO->EO->Prop|c(o d:EO)(l a:List V)(mk:Bool)(g:o.ob=.c l mk)(j:d.ob=.c a mk)(k:l.length=a.length)(n:∀(i:Nat)v e,l[i]?=some v->a[i]?=some e->Vw h b Z v e)(q:∀v∈a,v.one=true):Ow h b Z o d|m(es:List (V×V))(r:∀p∈es,ee p.1=true/\ee p.2=true):Ow h b Z (.m es) (.m es)
structure Cp(f:FJ)(a:Nat->Option Nat)(Z:Nat->Prop)(s s2:ES):Prop where
 en:∀k d,s2.e.get k=some d->∃v,s.e.get k=some v/\Vw s.h a Z v d
 hp:∀e g,s2.h.get e=some g->∃b o,a e=some b/\¬Z b/\s.h.get b=some o/\Ow s.h a Z o g
 inj:∀b h c,a b=some c->a h=some c->b=h
 fix:∀b,b<f.n->a b=some b\/a b=none
 lt:∀b c,a b=some c->b<s2.nx
 zh:∀b,Z b->∃o,s.h.get b=some o
 fz:(∀b,¬Z b)\/∀b o,f.h.get b=some o->b<f.n/\¬Z b/\∃i,s.h.get b=some i
def T.mp{a b:Type}(g:a->b):T a->T b|.e=>.e|.n l o r=>.n (l.mp g) (o.map g) (r.mp g)
def T.hq{a b:Type}(g:a->b):∀(t:T a)(k:Nat),(t.mp g).get k=(t.get k).map g|.e,k=>by simp[T.mp]|.n l o r,0=>A|.n l o r,k+1=>by simp only[T.mp,T.get];cases Nat.beq (k%2) 0;(.exact T.hq g r _);exact T.hq g l _
def abe:Value->V|.bool b=>.b b|_=>.x
def ae'{w:World}{a:Nat->Option (Nat×Nat)}{F:Nat->Prop}(u:Value):R w a F (abe u) u:=by unfold abe;split;(.exact .b _);rename_i h;exact .x _ (λb e=>h b e)
def Lg(a:Act):Nat->T V->T V|0,t=>t|n+1,t=>Lg a n (match t.get n with|some _=>t|none=>t.set n (abe (a.tmps.getD n undef)))
def Ae(a:Act):∀(n:Nat)(t:T V)(k:Nat),(Lg a n t).get k=match t.get k with|some v=>some v|none=>if k<n then some (abe (a.tmps.getD k undef))else none
|0,t,k=>by simp only[Lg];cases t.get k<;>simp|n+1,t,k=>by
 simp only[Lg];rw[Ae a n];cases d:t.get n with
 |some v=>simp only;cases c:t.get k with|some v=>rfl|none=>simp only;(have:k≠n:=λe=>by rw[e,d]at c;cases c);by_cases b:k<n;(.rw[U b,U G]);rw[I b,I G]
 |none=>simp only[T.dI];by_cases e:k=n;(.subst e;rw[U A];simp[d]);rw[I e];cases c:t.get k with|some v=>rfl|none=>simp only;by_cases b:k<n;(.rw[U b,U G]);rw[I b,I G]
def HR.cp{w:World}{I:Nat->Option (Nat×Nat)}{F:Nat->Prop}{z:Hp}{J A:T EO}{r:Nat->Option Nat}{Z:Nat->Prop}(k:HR w I F z)(t:fV J z)(C:∀g K,A.get g=some K->∃b o,r g=some b/\¬Z b/\J.get b=some o/\Ow J r Z o K)(a2:∀b y c,r b=some c->r y=some c->b=y)(a1:∀b,Z b->∃o,J.get b=some o):HR w (mX I r) (less F I Z) (A.mp EO.ob):=by
 refine⟨λg l2 mk a=>?_,λg es a=>?_,λb y o o' B d L m D i1 i2=>?_,λB hB=>k.bd B hB.1,k.gl.sub λB q=>q.1⟩
 .rw[T.hq]at a;cases j:A.get g with
  |none=>rw[j]at a;cases a|some K=>
   rw[j]at a;simp only[eG,bB]at a;obtain⟨b,o,E,U,M,V⟩:=C _ _ j;cases V with
   |m es=>simp[EO.ob]at a
   |c _ _ l a3 a4 q1 N O q4 q5=>rw[a]at N;cases N;have G:=t _ _ M;rw[q1]at G;obtain⟨B,d,a5,e,fz,m,D,W,P,S,g6,g7,g8⟩:=k.c _ _ _ G;refine⟨B,d,a5,e,fz,by simp[mX,E,m],⟨D,?_⟩,W,⟨by rw[<-O];exact P.1,λi v u n H=>?_⟩,by rw[<-O];exact S,g6,λh=>by rw[<-O];exact g7 h,q5⟩;(.rintro⟨y,L,R,Y⟩;obtain⟨o',a0⟩:=a1 _ R;have:=k.inj b y _ _ B d L G (t _ _ a0) m Y;subst this;exact U R);rw[<-O]at H;(have hi:i<l.length:=by rw[O];exact(ba.1 n).1);exact xc k t (q4 i _ v (aa hi) n) (P.2 i _ u (aa hi) H)
 .rw[T.hq]at a;cases j:A.get g with|none=>rw[j]at a;cases a|some K=>rw[j]at a;simp only[eG,bB]at a;obtain⟨b,o,E,U,M,V⟩:=C _ _ j;cases V with|c _ _ l a3 a4 q1 N=>rw[a]at N;cases N|m a' hk=>simp only[EO.ob,Ob.m.injEq]at a;subst a;have G:=t _ _ M;obtain⟨B,l,a6,m,D,W,P,S⟩:=k.m _ _ G;refine⟨B,l,a6,by simp[mX,E,m],⟨D,?_⟩,W,⟨P.1,λi v u n H=>(P.2 i v u n H).free (λB q=>q.1) ?_⟩,⟨S.1,λi v u n H=>(S.2 i v u n H).free (λB q=>q.1) ?_⟩⟩;(.rintro⟨y,L,R,Y⟩;obtain⟨o',a0⟩:=a1 _ R;have:=k.inj b y _ _ B 0 L G (t _ _ a0) m Y;subst this;exact U R);(.obtain⟨p,z,rfl⟩:=aV.1 (bb n);exact(hk p z).1);obtain⟨p,z,rfl⟩:=aV.1 (bb n);exact(hk p z).2
 rw[T.hq]at m D;have get:∀{g:Nat}{ob:Ob},(A.get g).map EO.ob=some ob->∀{x},mX I r g=some x->∃b o,r g=some b/\J.get b=some o/\I b=some x:=by intro g ob a x hx;cases j:A.get g with|none=>rw[j]at a;cases a|some K=>obtain⟨b,o,E,_,M,_⟩:=C _ _ j;exact⟨b,o,E,M,by simpa[mX,E]using hx⟩
 obtain⟨c,o1,p1,p2,p3⟩:=get m i1;obtain⟨c',b0,a7,a8,a9⟩:=get D i2;have:=k.inj c c' _ _ B d L (t _ _ p2) (t _ _ a8) p3 a9;subst this;exact a2 _ _ _ p1 a7
def HR.sub{w:World}{a b:Nat->Option (Nat×Nat)}{F:Nat->Prop}{h:Hp}(H:HR w a F h)(e:Ext w a F w b F):HR w b F h:=by refine H.ext e H.bd λk o B d g i=>⟨A,?_⟩;obtain⟨l,m,c,j,n⟩:=H.kB g;rw[i]at c;cases c;exact j
def Ext.B{w:World}{a c:Nat->Option (Nat×Nat)}{F d:Nat->Prop}(h:∀b x,a b=some x->c b=some x)(g:∀B,d B->F B):Ext w a F w c d:=⟨h,λB i _ j=>i (g B j),λ_ _ _=>A,af _,A,A,A,λB k e l h=>⟨k,e,l,h,A⟩⟩
def Cp.wk{q:Nat->Option Nat}{Z:Nat->Prop}(C:Cp f q Z s s2)(W:f.n<=s2.nx){E:Entry}(Y:E.h=f.h)(A:E.n=f.n)(i:adw E){w:World}{a:Act}(h:En E f.z s w a):En E f.z s2 w a:=by
 obtain⟨u,F,t,hp,he,p,m,e,a2,hn⟩:=h;have D:=m.hr;let l:Nat->Option (Nat×Nat):=λb=>match q b with|some c=>u c|none=>if b<f.n then u b else none
 have H:∀b x,mX u q b=some x->l b=some x:=λb x M=>by
  cases y:q b with
  |none=>simp[mX,y]at M
  |some c=>simpa[mX,y,l]using M
 refine⟨l,less F u Z,Lg a f.z s2.e,s2.h.mp EO.ob,λk v J=>?_,λb o i=>by rw[T.hq,i];rfl,⟨(HR.cp D p C.hp C.inj C.zh).sub (.B H λB j=>j),λk=>?_,m.sz,by have:=m.ds;cases hd:a.defers with|nil=>exact True.intro|cons d r=>rw[hd]at this;exact this.elim⟩,⟨e.size,e.os,e.tape,e.output,λB g n h3=>e.out B g n h3.1,e.kF,e.FG,e.keep,λB j=>⟨e.mono B j,?_⟩,λB j=>e.tW B j.1,λb2 o2 B d K a0=>?_,λb i=>?_⟩,λb i=>?_,by rw[A];exact W⟩;.unfold gA;rw[Ae,J]
 .unfold gA;rw[Ae];cases J:s2.e.get k with|some v2=>obtain⟨v,g,n⟩:=C.en _ _ J;have:=m.tr k;rw[he _ _ g]at this;exact(xc D p n this).ext (.B H λB j=>j)|none=>simp only;by_cases N:k<f.z;(.rw[U N];exact ae' _);rw[I N];have H:a.tmps.size=f.z:=m.sz;(have:a.tmps.getD k undef=undef:=by simp[fA,tB (show a.tmps.size<=k by omega)]);rw[this];exact .sx
 .rintro⟨b,d,L,O⟩;rcases C.fz with h|h;(.exact h b L);obtain⟨o,P⟩:=C.zh _ L;rcases e.kB b _ B d (p _ _ P) O with g|⟨z,o0,R,g,n⟩;(.have:=i.bd B j;omega);rw[Y]at g;obtain⟨q1,q2,o',q3⟩:=h z o0 g;have a1:u z=some (B,R):=(e.fix z (by rw[A];exact q1)).trans n;have:=D.inj b z _ _ B d R (p _ _ P) (p _ _ q3) O a1;subst this;exact q2 L
 .rw[T.hq]at K;cases S:s2.h.get b2 with|none=>rw[S]at K;cases K|some o=>obtain⟨b,o,g,_,n,_⟩:=C.hp _ _ S;exact e.kB b _ B d (p _ _ n) (by simpa[l,g]using a0)
 .have V:b<f.n:=by rw[<-A];exact i
  rcases C.fix b V with this|this;.simp only[l,this];exact e.fix b i
  simp only[l,this,U V];exact e.fix b i
 cases y:q b with|none=>simp only[l,y];rw[I G]|some c=>have:=C.lt _ _ y;omega
def bh.wk{b:Code}(g:Nat->Option Nat)(Z:Nat->Prop)(s2:ES)(C:Cp f g Z s s2)(i:f.n<=s2.nx)(h:bh f b s2 Q):bh f b s Q:=⟨λE c d e w a j l k m=>h.h E c d e w a (C.wk i c d e j) l k m⟩
def Dl.wk{b c:Code}(i:Nat->Option Nat)(Z:Nat->Prop)(s2:ES)(C:Cp f i Z s s2)(j:f.n<=s2.nx)(h:Dl f b c s2 Q):Dl f b c s Q:=⟨λE d e g w a l m k n=>h.h E d e g w a (C.wk j d e g l) m k n⟩
end
def abf:List V->Nat->T V->(T V->Prop)->Prop|[],_,t,K=>K t|v::l,k,t,K=>qZ t k v λt=>abf l (k+1) t K
def QY:∀(l:List V)(k:Nat)(t:T V)(K:T V->Prop),abf l k t K=K (tmpsOf l k t)|[],k,t,K=>A|v::l,k,t,K=>by simp only[abf,tmpsOf];rw[gT];exact QY l _ _ _
def Lh(a:T TI)(s:ES):List ResultVar->(List V->Prop)->Prop
|[],K=>K []|.tmp k::l,K=>match s.e.get k with|some v=>Lh a s l λr=>K (v::r)|none=>False
|.cell k ty::l,K=>match s.e.get k,a.get ty with|some v,some i=>aaX i s.h v λv=>Lh a s l λr=>K (v::r)|_,_=>False
def Xa(l:List V)(K:V->Prop):Prop:=match l with|[v]=>K v|l=>K (.ey l)
def abg(l:List V)(K:V->Prop):Xa l K=K (Db l):=by unfold Xa Db;split<;>split<;>first|rfl|simp_all
def IP{P:Program}{g:T TI}(ht:hZ P g){s:ES}{t:T V}{h:Hp}(b:mW s.e t)(c:fV s.h h):∀{l:List ResultVar}{K:List V->Prop},Lh g s l K->∃r,hT P t h l=some r/\K r|[],K,a=>⟨[],A,a⟩|.tmp k::l,K,a=>by simp only[Lh]at a;split at a;(.rename_i v d;obtain⟨r,e,f⟩:=IP ht b c a;exact⟨v::r,by simp[hT,e,b _ _ d],f⟩);exact a.elim|.cell k ty::l,K,a=>by simp only[Lh]at a;split at a;(.rename_i v i d j;obtain⟨u,m,a⟩:=QO (ht.f j) c a;obtain⟨r,e,f⟩:=IP ht b c a;exact⟨u::r,by simp[hT,e,b _ _ d,m],f⟩);exact a.elim
def ajx(a:T TI)(b:List ResultVar)(K:V->T EO->Nat->Prop)(x:X)(s:ES):Prop:=match x with|.norm=>s.un λe h n=>Lh a ⟨e,h,n⟩ b λl=>Xa l λv=>K v h n|.ret=>s.un λe h n=>Lh a ⟨e,h,n⟩ b λl=>Xa l λv=>K v h n|.exit _=>False|.goto _=>False
def ra(P:Program)(a:T TI)(f:Hp)(g:T EO)(b:Nat)(z:Nat)(d:Func)(h:List V)(K:V->T EO->Nat->Prop):Prop:=match d.body with|some c=>abf h 0 .e λe=>cK ⟨P,f,b,z⟩ a c ⟨e,g,b⟩ (ajx a d.results.toList K)|none=>False
def Oj(l:List V):mW (tmpsOf l 0 .e) (tmpsOf l 0 .e):=λk v h=>by unfold gA;rw[h]
def ym{t:Program}{J:T TI}(H:VB t J){g:Nat}{p:Func}{q:List V}{d:Hp}{M:T EO}{h:Nat}{K:V->T EO->Nat->Prop}(N:t.funcs[g]?=some p){z:Nat}(Y:max q.length p.ntmps=z)(s:ra t J d M h z p q K)(Z:fV M d):FI t g/\∀(w:World)(i:Nat->Option (Nat×Nat))(n:Nat->Prop)(B:Array Value),HR w i n d->(∀b,h<=b->i b=none)->RL w i n q B.toList->Calls t g B w λ|.returned u,G=>∃a j r o D y,HR G a j o/\fV D o/\R G a j r u/\adv ⟨w,i,n,d,h⟩ G a j o/\(∀b,y<=b->a b=none)/\h<=y/\K r D y|.panicked _,_=>False|.outgrown,_=>False:=by subst Y;unfold ra at s;split at s;(.rename_i O S;rw[QY]at s;refine⟨H.nm.ID N S,λw i n B U a0 W=>calls_of_wp_defers N S ?_⟩;(have a1:q.length=B.size:=by simpa using W.1);have m:MR w i n ⟨tmpsOf q 0 .e,max q.length p.ntmps,d,h,[]⟩ {tmps:=B++Array.replicate (p.ntmps-B.size) undef,defers:=[]}:=⟨U,TR.start W _,by simp[a1];omega,True.intro⟩;have a2:=qw (f:=⟨t,d,h,max q.length p.ntmps⟩) H.ok H.mo O _ _ s ⟨w,i,n,d,h⟩ A A ⟨U.bd⟩ w _ ⟨i,n,_,d,Oj q,Z,m,.start w i n d h,a0,af _⟩;refine wp_mono (c:=O) (λb k cs=>a2 b k cs) λe a' G hp=>?_;rcases hp with hF|⟨x,E,rfl,⟨a,j,t',o,a3,X,I,st,a4,a5⟩,C⟩;(.exact hF.elim);(have a6:Lh J E p.results.toList (λl=>Xa l λv=>K v E.h E.nx)/\(x=.norm\/x=.ret):=by cases x with|norm=>exact⟨C,.inl A⟩|ret=>exact⟨C,.inr A⟩|exit _=>exact C.elim|goto _=>exact C.elim);obtain⟨C,hx⟩:=a6;obtain⟨l,hl,s⟩:=IP H.ok a3 X C;rw[abg]at s;obtain⟨u,hr,a7⟩:=Gx I.hr I.tr hl;have:=uy (k:=⟨λ_ _ _ _=>none,λ_=>false⟩) (P:=t) (n:=p) (β:=a) (F:=j) aS (Q:=λ|.returned u,L=>∃a j r o D y,HR L a j o/\fV D o/\R L a j r u/\adv ⟨w,i,n,d,h⟩ L a j o/\(∀b,y<=b->a b=none)/\h<=y/\K r D y|.panicked _,_=>False|.outgrown,_=>False) hr ⟨a,j,_,o,E.h,E.nx,I.hr,X,a7,st,a4,a5,s⟩ [] a'.defers A I.ds;rcases hx with rfl|rfl<;>exact this);exact s.elim
def Pu(P:Program)(g:Nat)(b:List V)(v:V):Prop:=FI P g/\∀h a,RC P g b h a v h a
def Nw(P:Program)(g:Nat)(b:List V)(v:Nat->V)(o:EO):Prop:=FI P g/\∀h a,RC P g b h a (v a) (h.set a o.ob) (a+1)
def mw(a:T EO)(b:Nat):Prop:=∃o,a.get b=some o
structure Fin(v:V)(r:V)(a:T EO)(b:Nat):Prop where
 h:Vw a (λ_=>none) (mw a) r v
structure alF(v:Nat->V)(o:EO)(r:V)(a:T EO)(e:Nat):Prop where
 h:∃b d,a.get b=some d/\∀k,Vw a (λj=>if j=k then some b else none) (λc=>c≠b/\mw a c) r (v k)/\Ow a (λj=>if j=k then some b else none) (λc=>c≠b/\mw a c) d o
def HR.empty{w:World}{a:Nat->Option (Nat×Nat)}{F:Nat->Prop}{h:Hp}(H:HR w a F h):HR w (λ_=>none) F .e:=⟨λb l mk h=>by simp at h,λb es h=>by simp at h,λb c o e B d f h=>by simp at h,H.bd,H.gl⟩
def QZ:fV .e .e:=λb o h=>by simp at h
def RL.free{w:World}{d e:Nat->Option (Nat×Nat)}{F a:Nat->Prop}(f:∀B,a B->F B){l:List V}{b:List Value}(h:RL w d F l b)(g:bp l=true):RL w e a l b:=⟨h.1,λi v u c j=>(h.2 i v u c j).free f (iT g v (bb c))⟩
def Pu.of{P:Program}{t:T TI}(H:VB P t){g:Nat}{n:Func}{m:List V}{v:V}(E:P.funcs[g]?=some n)(z:Nat)(G:max m.length n.ntmps=z)(I:bp m=true)(J:ee v=true)(i:ra P t .e .e 0 z n m (Fin v)):Pu P g m v:=by obtain⟨K,L⟩:=ym H E G i QZ;refine⟨K,λh nx=>⟨af _,λw p F M j N a0=>Calls.mono (L w (λ_=>none) F M j.empty (λ_ _=>A) (N.free (λ_ q=>q) I)) λe x f=>?_⟩⟩;match e,f with|.returned u,f=>obtain⟨O,Q,r,h',R,a1,S,y,U,c,_,_,W⟩:=f;have k:=xc S y W.h U;(have i:∀B,B<w.heap.size->x.heap[B]?=w.heap[B]?:=λB a=>c.keep B a λb o d l _=>by simp at l);have C:Ext w p F x p F:=⟨λ_ _ h=>h,λ_ h _=>h,λB _ a=>i B a,c.size,c.os,c.tape,c.output,c.FG⟩;have X:∀B,F B->less Q O (mw R) B:=λB a=>⟨c.mono B a,by rintro⟨b,d,⟨o,Y⟩,Z⟩;rcases c.kB b _ B d (y _ _ Y) Z with k|⟨b0,o0,d0,k,_⟩;(.have:=j.bd B a;simp only at k;omega);simp at k⟩;refine⟨p,F,k.free X J,C,j.ext C (λB a=>bS (j.bd B a) c.size) (λb2 o B d l s=>?_),af _,λ_ _=>A,λB a _=>i B a,λ_ h=>h,λ_ h=>.inl h,λb o B d l s=>.inr ⟨b,o,d,l,s⟩⟩;obtain⟨B',d',D,q2,q3⟩:=j.kB l;rw[s]at D;cases D;exact⟨i _ q3,q2⟩|.panicked _,f=>exact f.elim|.outgrown,f=>exact f.elim
def O.C{P:Program}{g:Nat}{c:List V}{v:V}{b:T EO}{a:Nat}{K:KE}(h:Pu P g c v)(k:K v b a):O P g c b a K:=⟨h.1,λd e=>⟨v,d,a,b,h.2 d a,e,k⟩⟩
def O.nw{P:Program}{g:Nat}{c:List V}{v:Nat->V}{o:EO}{b:T EO}{a:Nat}{K:KE}(h:Nw P g c v o)(k:qZ b a o λb=>K (v a) b (a+1)):O P g c b a K:=⟨h.1,λd e=>⟨v a,d.set a o.ob,a+1,b.set a o,h.2 d a,e.set a o,by rw[gT]at k;exact k⟩⟩
def GD{a:Type}:∀(l:List (Nat×a))(t:T a)(k:Nat)(x:a),(l.foldl (λt p=>T.set t p.1 p.2) t).get k=some x->(k,x)∈l\/t.get k=some x|[],t,k,x,h=>.inr h|(i,y)::l,t,k,x,h=>by rcases GD l _ k x h with h|h;(.exact .inl (bA _ h));rw[T.dI]at h;split at h;(.rename_i e;cases h;subst e;exact .inl aS);exact .inr h
def Xb{P:Program}:∀(l:List (Nat×TI)),l.map (λp=>Of P p.1)=l.map (λp=>some p.2)->∀p∈l,Of P p.1=some p.2
|[],_,p,b=>by simp at b
|a::l,h,p,b=>by simp only[aw,List.cons.injEq]at h;rcases aR.1 b with rfl|b;(.exact h.1);exact Xb l h.2 p b
def afa(P:Program)(L:List (Nat×TI))(a:T TI)(b:a=L.foldl (λt p=>T.set t p.1 p.2) .e)(c:L.map (λp=>Of P p.1)=L.map (λp=>some p.2)):hZ P a:=λty i h=>by subst b;rcases GD _ _ _ _ h with h|h;(.exact Xb L c _ h);simp at h
inductive tI(h:T EO)(a:Nat->Option Nat)(Z:Nat->Prop):List V->List V->Prop|nil:tI h a Z [] []|cons{v b:V}{l c:List V}(d:Vw h a Z v b)(e:tI h a Z l c):tI h a Z (v::l) (b::c)
def tI.B{h:T EO}{b:Nat->Option Nat}{Z:Nat->Prop}:∀{l:List V},bp l=true->tI h b Z l l|[],_=>.nil|v::l,a=>by simp only[bp,aA]at a;exact .cons (.B v a.1) (tI.B a.2)
def tI.R{w:World}{c:Nat->Option (Nat×Nat)}{F:Nat->Prop}{e:T EO}{h:Hp}{f:Nat->Option Nat}{Z:Nat->Prop}(H:HR w c F h)(i:fV e h){l g:List V}(d:tI e f Z l g):∀{b:List Value},RL w c F l b->RL w (mX c f) (less F c Z) g b:=by
 induction d with
 |nil=>intro b h;cases b with|nil=>exact RL.nil|cons a l=>simp[RL]at h
 |cons d k j=>
  intro b h;cases b with
  |nil=>simp[RL]at h
  |cons a l=>exact RL.cons (xc H i d (h.2 0 _ _ A A)) (j h.tail)
def tI.get{h:T EO}{f:Nat->Option Nat}{Z:Nat->Prop}{l b:List V}(c:tI h f Z l b):l.length=b.length/\∀(i:Nat)v a,l[i]?=some v->b[i]?=some a->Vw h f Z v a:=by
 induction c with
 |nil=>exact⟨A,λi v a h=>by simp at h⟩
 |cons c j g=>refine⟨by simp[g.1],λi v a d e=>?_⟩;cases i with|zero=>simp at d e;subst d e;exact c|succ i=>exact g.2 i v a (by simpa using d) (by simpa using e)
mutual
def flat:V->Bool|.b _=>true|.i _ _=>true|.s _=>true|.np=>true|.nf=>true|.zK=>true|.agg l=>GF l|.ey l=>GF l|_=>false
def GF:List V->Bool|[]=>true|v::l=>flat v&&GF l
end
def GG:∀{l:List V},GF l=true->∀v∈l,flat v=true
|[],_,v,h=>by simp at h
|a::l,b,v,h=>by simp only[GF,aA]at b;rcases aR.1 h with rfl|h;(.exact b.1);exact GG b.2 v h
def R.flat{w:World}{g j:Nat->Option (Nat×Nat)}{F m:Nat->Prop}{v:V}{u:Value}(h:R w g F v u):flat v=true->R w j m v u:=by have f:∀{l:List V}{i:Nat}{v:V},GF l=true->l[i]?=some v->Ev.flat v=true:=λo p=>GG o _ (bb p);induction h with|b x=>intro _;exact .b x|i k n=>intro _;exact .i k n|s x l h=>intro _;exact .s x l h|np=>intro _;exact .np|nf=>intro _;exact .nf|zK=>intro _;exact .zK|agg l c b _ q d=>intro h;exact .agg l c b (λi v u a e=>d i v u a e (f h a)) q|ey l c b _ d=>intro h;exact .ey l c b (λi v u a e=>d i v u a e (f h a))|_=>intro h;simp[Ev.flat]at h
def O.rd{P:Program}{g:Nat}{E z:List V}{v:V}{c:T EO}{y:Nat}{K:KE}(a:Pu P g z v)(M:flat v=true)(C:tI c (λ_=>none) (mw c) E z)(k:K v c y):O P g E c y K:=by refine⟨a.1,λN G=>⟨v,N,y,c,⟨af _,λw j m H r Q a0=>?_⟩,G,k⟩⟩;have R:HR w (λ_=>none) (less m j (mw c)) .e:=HR.empty (F:=less m j (mw c)) (a:=j) (h:=.e) ⟨λb l mk a=>by simp at a,λb es a=>by simp at a,λb S o o2 B d d2 a=>by simp at a,λB f=>r.bd B f.1,r.gl.sub λB q=>q.1⟩;(have U:RL w (λ_=>none) (less m j (mw c)) z H.toList:=by have:=C.R r G Q;exact⟨this.1,λi v u C W=>(this.2 i v u C W).ext ⟨λb x s=>by simp[mX]at s,λB a _=>a,λ_ _ _=>A,af _,A,A,A,λB X e Y a=>⟨X,e,Y,a,A⟩⟩⟩);refine Calls.mono ((a.2 .e y).2 w (λ_=>none) (less m j (mw c)) H R U (λ_ _ _=>A)) λe I n=>?_;match e,n with|.returned u,n=>obtain⟨a1,F',Z,p⟩:=n;(have D:∀B,B<w.heap.size->I.heap[B]?=w.heap[B]?:=λB f=>p.keep B f λb o d t _=>by simp at t);have J:Ext w j m I j m:=⟨λ_ _ a=>a,λ_ a _=>a,λB _ f=>D B f,p.ext.size,p.ext.os,p.ext.tape,p.ext.output,p.ext.FG⟩;refine⟨j,m,Z.flat M,J,r.ext J (λB f=>bS (r.bd B f) p.ext.size) (λS o B d t s=>?_),af _,λ_ _=>A,λB f _=>D B f,λ_ a=>a,λ_ a=>.inl a,λb o B d t s=>.inr ⟨b,o,d,t,s⟩⟩;obtain⟨B',d',L,q2,q3⟩:=r.kB t;rw[s]at L;cases L;exact⟨D _ q3,q2⟩|.panicked _,n=>exact n.elim|.outgrown,n=>exact n.elim
def Og(P:Program)(g:Nat)(a:Nat)(b:T EO)(c:List V)(d:Nat)(e:T EO)(v:V):Prop:=FI P g/\RC P g c (b.mp EO.ob) a v (e.mp EO.ob) d
structure abh(i j:Nat)(k:T EO)(v:V)(r:V)(d:T EO)(l:Nat):Prop where
 h:∃a:Nat->Option Nat,Vw d a (λ_=>False) r v/\(∀e f,k.get e=some f->∃b o,a e=some b/\d.get b=some o/\Ow d a (λ_=>False) o f)/\(∀b g c,a b=some c->a g=some c->b=g)/\(∀b,b<i->a b=some b)/\(∀b c,a b=some c->b<j)
def xd(e:T EO):fV e (e.mp EO.ob):=λb o h=>by rw[T.hq,h];rfl
def nr{F:Nat->Prop}{a:Nat->Option (Nat×Nat)}{B:Nat}:less F a (λ_=>False) B↔F B:=⟨λh=>h.1,λh=>⟨h,λ⟨_,_,h,_⟩=>h⟩⟩
mutual
def rC(n:Nat):V->Bool|.p b _=>Nat.blt b n|.Z b _ _ _ _=>Nat.blt b n|.m b=>Nat.blt b n|.f _ x y=>gi n x&&gi n y|.agg l=>gi n l|.ey l=>gi n l|.ip l=>bp l|.Q _ l=>bp l|_=>true
def gi(n:Nat):List V->Bool|[]=>true|v::l=>rC n v&&gi n l
end
def Dm{n:Nat}:∀{l:List V},gi n l=true->∀v∈l,rC n v=true
|[],_,v,h=>by simp at h
|a::l,b,v,h=>by simp only[gi,aA]at b;rcases aR.1 h with rfl|h;(.exact b.1);exact Dm b.2 v h
def R.lt{w:World}{K L:Nat->Option (Nat×Nat)}{F:Nat->Prop}{n:Nat}(C:∀b,b<n->L b=K b){v:V}{u:Value}(h:R w K F v u):rC n v=true->R w L F v u:=by have A:∀{l:List V}{i:Nat}{v:V},gi n l=true->l[i]?=some v->rC n v=true:=λj D=>Dm j _ (bb D);have M:∀{l:List V}{i:Nat}{v:V},bp l=true->l[i]?=some v->ee v=true:=λj D=>iT j _ (bb D);induction h with|b x=>intro _;exact .b x|i k n=>intro _;exact .i k n|s x l h=>intro _;exact .s x l h|p b o B d h=>intro j;exact .p b o B d (by rw[C b (by simpa[rC,eW]using j)];exact h)|np=>intro _;exact .np|Z b o n c x B d N h E s O P G=>intro j;exact .Z b o n c x B d N (by rw[C b (by simpa[rC,eW]using j)];exact h) E s O P G|E=>intro _;exact .E|m r B h=>intro j;exact .m r B (by rw[C r (by simpa[rC,eW]using j)];exact h)|nm=>intro _;exact .nm|f f x y a c m _ p _ Q S=>intro h;simp only[rC,aA]at h;exact .f f x y a c m (λi v u e g=>Q i v u e g (A h.1 e)) p (λi v u e g=>S i v u e g (A h.2 e))|nf=>intro _;exact .nf|zK=>intro _;exact .zK|agg l c m _ p t=>intro h;exact .agg l c m (λi v u e g=>t i v u e g (A h e)) p|ey l c m _ t=>intro h;exact .ey l c m (λi v u e g=>t i v u e g (A h e))|ip l B o H I J m s z p t=>intro h;exact .ip l B o H I J m s (λi v u e g=>(z i v u e g).free (λB q=>q) (M h e)) p|is0 a c h=>intro _;exact .is0 a c h|es a c=>intro _;exact .es a c|x u h=>intro _;exact .x u h|j u h z=>intro _;exact .j u h z|Q n l c B o E H I J m s z p G t=>intro h;exact .Q n l c B o E H I J m s (λi v u e g=>(z i v u e g).free (λB q=>q) (M h e)) p G
def EO.lt(n:Nat):EO->Prop|.c l=>gi n l=true|.y l _=>gi n l=true|.m es=>∀p∈es,rC n p.1=true/\rC n p.2=true
def RL.lt{w:World}{a c:Nat->Option (Nat×Nat)}{F:Nat->Prop}{n:Nat}(f:∀b,b<n->c b=a b){l:List V}{d:List Value}(h:RL w a F l d)(g:gi n l=true):RL w c F l d:=⟨h.1,λi v u e j=>(h.2 i v u e j).lt f (Dm g v (bb e))⟩
def Ol(a:Nat->Option (Nat×Nat))(n b:Nat):Option (Nat×Nat):=if b<n then a b else none
def kC{a:Nat->Option (Nat×Nat)}{n b:Nat}(h:b<n):Ol a n b=a b:=U h
def kD{a:Nat->Option (Nat×Nat)}{n b:Nat}{x:Nat×Nat}(h:Ol a n b=some x):b<n/\a b=some x:=by unfold Ol at h;split at h;(.exact⟨by assumption,h⟩);cases h
def HR.cut{w:World}{G:Nat->Option (Nat×Nat)}{F:Nat->Prop}{a:Nat}{c:T EO}(H:HR w G F (c.mp EO.ob))(I:∀b o,c.get b=some o->b<a/\o.lt a):HR w (Ol G a) F (c.mp EO.ob):=by
 have get:∀{b:Nat}{y:Ob},(c.mp EO.ob).get b=some y->∃o,c.get b=some o/\o.ob=y:=λ{b y}h=>by rw[T.hq]at h;cases f:c.get b with|none=>rw[f]at h;cases h|some o=>rw[f]at h;simp at h;exact⟨o,A,h⟩
 refine⟨λb l mk j=>?_,λb es j=>?_,λb J o K B d L k m M N=>H.inj b J o K B d L k m (kD M).2 (kD N).2,H.bd,H.gl⟩;.obtain⟨o,f,g⟩:=get j;obtain⟨B,d,O,e,P,k,m,z,t,x⟩:=H.c b l mk j;obtain⟨C,q⟩:=I b o f;refine⟨B,d,O,e,P,by rw[kC C];exact k,m,z,t.lt (n:=a) (λb r=>kC r) ?_,x⟩;cases o<;>simp only[EO.ob,Ob.c.injEq,reduceCtorEq]at g;(.obtain⟨rfl,_⟩:=g;exact q);obtain⟨rfl,_⟩:=g;exact q
 obtain⟨o,f,g⟩:=get j;obtain⟨B,l,Q,k,m,z,t,x⟩:=H.m b es j;obtain⟨C,q⟩:=I b o f;cases o<;>simp only[EO.ob,Ob.m.injEq,reduceCtorEq]at g;subst g;refine⟨B,l,Q,by rw[kC C];exact k,m,z,⟨t.1,λi v u s D=>(t.2 i v u s D).lt (n:=a) (λb r=>kC r) ?_⟩,⟨x.1,λi v u s D=>(x.2 i v u s D).lt (n:=a) (λb r=>kC r) ?_⟩⟩;.obtain⟨p,E,rfl⟩:=aV.1 (bb s);exact(q p E).1
 obtain⟨p,E,rfl⟩:=aV.1 (bb s);exact(q p E).2
def Og.of{P:Program}{Y:T TI}(H:VB P Y){g:Nat}{N:Func}{i C:Nat}{D E:T EO}{L:List V}{v:V}(a3:P.funcs[g]?=some N)(z:Nat)(hz:max L.length N.ntmps=z)(Z:i<=C)(h0:∀b o,D.get b=some o->b<i/\o.lt i)(a4:gi i L=true)(hk:ra P Y (D.mp EO.ob) D i z N L (abh i C E v)):Og P g i D L C E v:=by
 obtain⟨he,O⟩:=ym H a3 hz hk (xd D);refine⟨he,Z,λw M F us a5 a6 a7=>Calls.mono (O w (Ol M i) F us (a5.cut h0) (λb a=>I G) (a6.lt (n:=i) (λb a=>kC a) a4)) λe J l=>?_⟩;match e,l with
 |.returned u,l=>obtain⟨j,t,r,h',eh,b7,Q,R,a8,f,_,_,a9⟩:=l;obtain⟨y,s1,s2,s3,s4,s5⟩:=a9.h;have a':=xc Q R s1 a8;have H1:=HR.cp Q R (A:=E) (λb2 S h=>by obtain⟨b,o,m,K,W⟩:=s2 b2 S h;exact⟨b,o,m,λh=>h,K,W⟩) s3 (λb(h:False)=>h.elim);let k:Nat->Option (Nat×Nat):=λb=>if b<i then M b else if b<C then mX j y b else M b;(have a0:∀b,b<i->mX j y b=M b:=λb a=>by simp only[mX,s4 b a];rw[f.fix b a];exact kC a);(have a1:∀b x,mX j y b=some x->k b=some x:=λb x p=>by simp only[k];split;(.rename_i a;rw[<-a0 b a];exact p);(have:b<C:=by simp only[mX]at p;split at p;(.rename_i c O;exact s5 b c O);cases p);rw[U this];exact p);have p:Ext J (mX j y) (less t j (λ_=>False)) J k t:=.B a1 λB q=>nr.2 q;have b0:Ext J (mX j y) (less t j (λ_=>False)) J k (less t j (λ_=>False)):=.B a1 λB q=>q;(have H2:HR J k t (E.mp EO.ob):=by have:=H1.sub b0;refine this.ext (.B (λ_ _ h=>h) λB q=>nr.2 q) Q.bd λb2 o B d s a=>⟨A,?_⟩;obtain⟨B',d',m,K,W⟩:=this.kB s;rw[a]at m;cases m;exact K.1);refine⟨k,t,a'.ext p,⟨λb x a=>?_,f.out,f.kF,f.size,f.os,f.tape,f.output,f.FG⟩,H2,Z,λb a=>?_,λB q b1=>f.keep B q λb o d s a=>b1 b o d s (kD a).2,f.mono,f.tW,λb o B d s a=>?_⟩;(.simp only[k];split;(.exact a);split;(.have:=a7 b G (by assumption);rw[a]at this;cases this);exact a);(.simp only[k];split;(.rfl);rw[I G]);rw[T.hq]at s;cases a2:E.get b with|none=>rw[a2]at s;cases s|some S=>obtain⟨c,o3,m,K,W⟩:=s2 b S a2;(have b3:j c=some (B,d):=by have b4:=s5 b c m;(have:mX j y b=some (B,d):=by simp only[k]at a;split at a;(.rename_i b5;rw[a0 b b5];exact a);first|exact a|(rw[U b4]at a;exact a));simpa[mX,m]using this);rcases f.kB c _ B d (R _ _ K) b3 with X|⟨b6,o0,d0,X,h2⟩;(.exact .inl X);exact .inr ⟨b6,o0,d0,X,(kD h2).2⟩
 |.panicked _,l=>exact l.elim|.outgrown,l=>exact l.elim
section
structure SL where
 L:List (Nat×V)
 H:List (Nat×EO)
 nx:Nat
def TM{a:Type}:List (Nat×a)->T a->(T a->Prop)->Prop|[],e,K=>K e|(k,v)::l,e,K=>qZ e k v λe=>TM l e K
def mh{a:Type}:List (Nat×a)->T a->T a|[],e=>e|(k,v)::l,e=>mh l (e.set k v)
def yn{a:Type}:∀(l:List (Nat×a))(e:T a)(K:T a->Prop),TM l e K=K (mh l e)|[],e,K=>A|(k,v)::l,e,K=>by simp only[TM,mh];rw[gT];exact yn l _ _
def gn{a:Type}:∀(l:List (Nat×a))(e:T a)(k:Nat)(v:a),(mh l e).get k=some v->(k,v)∈l\/e.get k=some v|[],e,k,v,h=>.inr h|(i,x)::l,e,k,v,h=>by rcases gn l _ k v h with h|h;(.exact .inl (bA _ h));rw[T.dI]at h;split at h;(.rename_i e;cases h;subst e;exact .inl aS);exact .inr h
def SL.st(S:SL):ES:=⟨mh S.L .e,mh S.H .e,S.nx⟩
def TN(S:SL)(K:ES->Prop):Prop:=match S with|⟨L,H,a⟩=>TM L .e λe=>TM H .e λh=>K ⟨e,h,a⟩
def vG(S:SL)(K:ES->Prop):TN S K=K S.st:=by cases S;simp only[TN];rw[yn];simp only[yn];rfl
def lr:List (Nat×Nat)->Nat->Option Nat|[],_=>none|(a,b)::l,k=>match Nat.beq a k with|true=>some b|false=>lr l k
def rH:∀{l:List (Nat×Nat)}{k c:Nat},lr l k=some c->(k,c)∈l
|[],k,c,h=>by simp[lr]at h
|(a,b)::l,k,c,h=>by simp only[lr]at h;split at h;(.rename_i e;have:=cm e;subst this;cases h;simp);exact bA _ (rH h)
def TO(s:ES)(a:Nat->Option Nat)(Z:Nat->Prop):List (Nat×V)->Prop|[]=>True|(k,b)::l=>(match s.e.get k with|some v=>Vw s.h a Z v b|none=>False)/\TO s a Z l
def abi(s:ES)(a:Nat->Option Nat)(Z:Nat->Prop):List (Nat×EO)->Prop
|[]=>True|(c,d)::l=>(match a c with
|some b=>match s.h.get b with|some o=>Ow s.h a Z o d|none=>False
|none=>False)/\abi s a Z l
def IQ:List Nat->Bool|[]=>true|a::l=>!l.contains a&&IQ l
def Af(n e:Nat)(h:T EO)(g:Bool)(a:List (Nat×Nat))(d:List Nat):Bool:=IQ (a.map (·.2))&&a.all (λp=>Nat.blt p.1 e&&!d.contains p.2)&&(List.range n).all (λb=>match lr a b with|some c=>Nat.beq c b|none=>true)&&d.all (λz=>(h.get z).isSome)&&(d.isEmpty||g)&&Nat.ble n e
def T.FX{a:Type}:T a->(Nat->Bool)->Bool|.e,_=>true|.n l o r,p=>(match o with|some _=>p 0|none=>true)&&(l.FX λj=>p (2*j+1))&&(r.FX λj=>p (2*j+2))
def T.Dn{c:Type}:∀{t:T c}{p:Nat->Bool}{k:Nat}{v:c},t.FX p=true->t.get k=some v->p k=true
|.e,p,k,v,h,a=>by simp at a
|.n l o r,p,0,v,h,a=>by have a:o=some v:=a;subst a;simp only[T.FX,aA]at h;exact h.1.1|.n l o r,p,k+1,v,h,a=>by simp only[T.FX,aA]at h;simp only[T.get]at a;cases b:Nat.beq (k%2) 0 with|true=>rw[b]at a;have:=T.Dn h.1.2 a;have e:k%2=0:=cm b;rw[show 2*(k/2)+1=k+1 by omega]at this;exact this|false=>rw[b]at a;have:=T.Dn h.2 a;(have e:¬k%2=0:=λq=>by rw[q]at b;cases b);rw[show 2*(k/2)+2=k+1 by omega]at this;exact this
def GH(n:Nat)(h:T EO)(a:List Nat)(b:Nat):Bool:=Nat.blt b n&&(!a.contains b&&(h.get b).isSome)
structure Sm(f:FJ)(s:ES)(S:SL):Prop where
 h:∃b a,Af f.n S.nx s.h (f.h.FX (GH f.n s.h a)) b a=true/\TO s (lr b) (·∈a) S.L/\abi s (lr b) (·∈a) S.H
def Dp:∀{l:List (Nat×Nat)},IQ (l.map (·.2))=true->∀{a b c:Nat},(a,c)∈l->(b,c)∈l->lr l a=some c->lr l b=some c->a=b
|[],_,a,b,c,h,_,_,_=>by simp at h
|(x,y)::l,j,a,b,c,e,d,m,n=>by
 simp only[aw,IQ,aA,gE,oA,fu]at j;obtain⟨o,p⟩:=j;have g:∀k,(k,y)∉l:=λk i=>o (aV.2 ⟨_,i,A⟩);simp only[aR,cj]at e d;rcases e with⟨rfl,rfl⟩|e;.rcases d with⟨rfl,_⟩|d;(.rfl);exact absurd d (g _)
 rcases d with⟨rfl,rfl⟩|d;.exact absurd e (g _)
 have look:∀k,(k,c)∈l->lr ((x,y)::l) k=some c->lr l k=some c:=λk i h=>by simp only[lr]at h;split at h;(.cases h;exact absurd i (g _));exact h
 exact Dp p e d (look _ e m) (look _ d n)
def IS{s:ES}{c:Nat->Option Nat}{Z:Nat->Prop}:∀{l:List (Nat×V)},TO s c Z l->∀k a,(k,a)∈l->∃v,s.e.get k=some v/\Vw s.h c Z v a
|[],_,k,a,h=>by simp at h
|(i,x)::l,d,k,a,h=>by simp only[TO]at d;obtain⟨b,e⟩:=d;simp only[aR,cj]at h;rcases h with⟨rfl,rfl⟩|h;(.split at b;(.rename_i v g;exact⟨v,g,b⟩);exact b.elim);exact IS e k a h
def Ra{s:ES}{c:Nat->Option Nat}{Z:Nat->Prop}:∀{l:List (Nat×EO)},abi s c Z l->∀k d,(k,d)∈l->∃b o,c k=some b/\s.h.get b=some o/\Ow s.h c Z o d
|[],_,k,e,h=>by simp at h
|(i,x)::l,g,k,e,h=>by simp only[abi]at g;obtain⟨a,j⟩:=g;simp only[aR,cj]at h;rcases h with⟨rfl,rfl⟩|h;(.split at a;(.rename_i b m;split at a;(.rename_i o n;exact⟨b,o,m,n,a⟩);exact a.elim);exact a.elim);exact Ra j k e h
def Sm.cp{f:FJ}{s:ES}{S:SL}(h:Sm f s S):∃d Z,Cp f d Z s S.st/\f.n<=S.nx:=by
 obtain⟨d,p,i,q,r⟩:=h.h;simp only[Af,aA]at i;obtain⟨⟨⟨⟨⟨t,j⟩,u⟩,v⟩,l⟩,w⟩:=i;refine⟨lr d,(·∈p),⟨λk B e=>?_,λC D e=>?_,λb E c a m=>?_,λb a=>?_,λb c a=>?_,λb a=>?_,?_⟩,by rw[<-cf];exact w⟩;.rcases gn _ _ _ _ e with h|h;(.exact IS q _ _ h);simp at h
 .rcases gn _ _ _ _ e with h|h;(.obtain⟨b,o,n,x,y⟩:=Ra r _ _ h;refine⟨b,o,n,λz=>?_,x,y⟩;have:=aU.1 j _ (rH n);simp only[aA,gE,oA,fu]at this;exact this.2 z);simp at h
 .exact Dp t (rH a) (rH m) a m
 .have:=aU.1 u b (by simpa using a);split at this;(.rename_i c g;rw[g,cm this];exact .inl A);rename_i g;exact .inr g
 .have:=aU.1 j _ (rH a);simp only[aA,eW]at this;exact this.1
 .have:=aU.1 v b a;exact fe.1 this
 simp only[dH,gg]at l;rcases l with h|h;.left;intro b a;rw[h]at a;simp at a
 right;intro b o a;have:=T.Dn h a;simp only[GH,aA,eW,gE,oA,fu]at this;exact⟨this.1,this.2.1,fe.1 this.2.2⟩
variable{f:FJ}{tt:T TI}{Q:X->ES->Prop}{s:ES}
structure cr{b:Type}(f:FJ)(I:b->Prop)(d:b->Nat)(S:b->SL)(a:b)(s:ES):Prop where
 h:∃c,I c/\d c<d a/\Sm f s (S c)
def cr.to{b:Type}{I:b->Prop}{d:b->Nat}{S:b->SL}{a:b}(c:b)(e:I c)(g:d c<d a)(h:Sm f s (S c)):cr f I d S a s:=⟨c,e,g,h⟩
def ahu{b:Type}(f:FJ)(I:b->Prop)(c:b->Nat)(S:b->SL)(Q:X->ES->Prop)(a:b)(x:X)(s:ES):Prop:=match x with|.norm=>cr f I c S a s|.exit k=>Q (.exit k) s|.goto k=>Q (.goto k) s|.ret=>Q .ret s
def bh.ind(H:VB f.P tt){b:Code}{c:Type}(S:c->SL)(I:c->Prop)(k:c->Nat)(e:c)(m:I e)(o:Sm f s (S e))(step:∀a,I a->TN (S a) λs=>cK f tt b s (ahu f I k S Q a)):bh f b s Q:=by
 have p:∀(n:Nat)(a:c),k a<=n->I a->bh f b (S a).st Q:=by
  intro n;induction n with
  |zero=>intro a q g;have h:=step a g;rw[vG]at h;refine bh.sN ((qw H.ok H.mo b _ _ h).mono λx s d=>?_);cases x with|norm=>obtain⟨l,_,r,_⟩:=d.h;omega|_=>exact d
  |succ n t=>intro a q g;have h:=step a g;rw[vG]at h;refine bh.sN ((qw H.ok H.mo b _ _ h).mono λx s d=>?_);cases x with|norm=>obtain⟨l,u,r,v⟩:=d.h;obtain⟨i,Z,C,j⟩:=v.cp;exact bh.wk i Z _ C j (t l G u)|_=>exact d
 obtain⟨i,Z,C,j⟩:=o.cp;exact bh.wk i Z _ C j (p _ e (af _) m)
def Sm.e{L:List (Nat×V)}{a:Nat}(b:Af f.n a s.h (f.h.FX (GH f.n s.h [])) [] []=true)(h:TO s (lr []) (·∈([]:List Nat)) L):Sm f s ⟨L,[],a⟩:=⟨[],[],b,h,True.intro⟩
def Sm.eo{S:SL}(b:List (Nat×Nat))(a:List Nat)(c:Af f.n S.nx s.h (f.h.FX (GH f.n s.h a)) b a=true)(h:TO s (lr b) (·∈a) S.L)(d:abi s (lr b) (·∈a) S.H):Sm f s S:=⟨b,a,c,h,d⟩
mutual
def VC:V->Prop|.s l=>∀c∈l,c<256|.Z _ _ n _ _=>n<=1000000000000|.Q n l=>n<=1000000000000/\IT l|.ip l=>IT l|.agg l=>IT l|.ey l=>IT l|.f _ x y=>IT x/\IT y|_=>True
def IT:List V->Prop|[]=>True|v::l=>VC v/\IT l
end
def Om:∀{l:List V},(∀(i:Nat)v,l[i]?=some v->VC v)->IT l|[],_=>True.intro|v::l,h=>⟨h 0 v A,Om λi v a=>h (i+1) v (by simpa using a)⟩
def R.ok{w:World}{C:Nat->Option (Nat×Nat)}{F:Nat->Prop}{v:V}{u:Value}(h:R w C F v u):VC v:=by (have get:∀{l:List V}{t:Nat}{e:Nat->Option Value},(∀(i:Nat),i<l.length->∃u,e i=some u)->(∀(i:Nat)v u,l[i]?=some v->e i=some u->VC v)->IT l:=λD h=>Om λi v z=>by obtain⟨u,E⟩:=D i (ba.1 z).1;exact h i v u z E);induction h with|s x l h=>intro e m;rw[<-h]at m;obtain⟨b,_,rfl⟩:=aV.1 m;exact b.toNat_lt|Z b o t e x B d K h A m L M r=>exact aL A r.2|f f x y a e j _ q _ G H=>exact⟨get (t:=0) (e:=λi=>a[i]?) (λi g=>⟨a[i],eR (j▸g)⟩) G,get (t:=0) (e:=λi=>e[i]?) (λi g=>⟨e[i],eR (q▸g)⟩) H⟩|agg l e j _ q k=>exact get (t:=0) (e:=λi=>e[i]?) (λi g=>⟨e[i],eR (j▸g)⟩) k|ey l e j _ k=>exact get (t:=0) (e:=λi=>e[i]?) (λi g=>⟨e[i],eR (j▸g)⟩) k|ip l B o I J p j m _ q k=>exact get (t:=0) (e:=λi=>p[i]?) (λi g=>⟨p[i],aa (j▸g)⟩) k|Q t l e B o A I J p j m _ q r k=>exact⟨r,get (t:=0) (e:=λi=>p[i]?) (λi g=>⟨p[i],aa (j▸g)⟩) k⟩|is0 a e h=>exact⟨au _,True.intro⟩|_=>exact True.intro
def RL.ok{w:World}{a:Nat->Option (Nat×Nat)}{F:Nat->Prop}{l:List V}{b:List Value}(h:RL w a F l b):IT l:=Om λi v c=>by obtain⟨u,_,d⟩:=h.get c;exact d.ok
def my{n:Nat}{l:List V}(h:VC (.Q n l)):n<=1000000000000:=h.1
def ajz{l:List Nat}(h:VC (.s l)):∀c∈l,c<256:=h
def Pu.ok{P:Program}{g:Nat}{a:List V}{v:V}(c:FI P g)(h:IT a->Pu P g a v):Pu P g a v:=by exact⟨c,λd e=>⟨af _,λw i F j H b k=>((h b.ok).2 d e).2 w i F j H b k⟩⟩
def Og.ok{P:Program}{g a b:Nat}{d e:T EO}{c:List V}{v:V}(j:FI P g)(k:a<=b)(h:IT c->Og P g a d c b e v):Og P g a d c b e v:=by exact⟨j,k,λw l F m H i n=>(h i.ok).2.2 w l F m H i n⟩
def WI.ok{c:List Item}(h:(∀k v,s.e.get k=some v->VC v)->WI f c s Q):WI f c s Q:=λE e g i w a d b k j=>by refine h ?_ E e g i w a d b k j;obtain⟨o,F,t,p,l,q,m,_⟩:=d;intro k v n;have:=m.tr k;rw[l _ _ n]at this;exact this.ok
def bh.ok{b:Code}(h:(∀k v,s.e.get k=some v->VC v)->bh f b s Q):bh f b s Q:=⟨WI.ok λq=>(h q).h⟩
def bh.cA(H:VB f.P tt){b:Code}{c:Type}(S:c->SL)(I:c->Prop)(m:c->Nat)(e:c)(p:I e)(q:Sm f s (S e))(step:∀a,I a->(∀k v,(S a).st.e.get k=some v->VC v)->TN (S a) λs=>cK f tt b s (ahu f I m S Q a)):bh f b s Q:=by
 have r:∀(n:Nat)(a:c),m a<=n->I a->bh f b (S a).st Q:=by
  intro n;induction n with
  |zero=>intro a t g;refine bh.ok λi=>?_;have h:=step a g i;rw[vG]at h;refine bh.sN ((qw H.ok H.mo b _ _ h).mono λx s d=>?_);cases x with|norm=>obtain⟨o,_,u,_⟩:=d.h;omega|_=>exact d
  |succ n w=>intro a t g;refine bh.ok λi=>?_;have h:=step a g i;rw[vG]at h;refine bh.sN ((qw H.ok H.mo b _ _ h).mono λx s d=>?_);cases x with|norm=>obtain⟨o,y,u,z⟩:=d.h;obtain⟨j,Z,C,l⟩:=z.cp;exact bh.wk j Z _ C l (w o G y)|_=>exact d
 obtain⟨j,Z,C,l⟩:=q.cp;exact bh.wk j Z _ C l (r _ e (af _) p)
end
def Own(P:Program)(g:Nat)(a:List V)(n z:Nat)(c:List V):Prop:=(n=0->Pu P g a (.Q 0 []))/\(n≠0->Nw P g a (λb=>.Z b 0 n n (some z)) (.y c false))
structure ki(n z:Nat)(d:List V)(r:V)(a:T EO)(e:Nat):Prop where
 h:(n=0/\Vw a (λ_=>none) (mw a) r (.Q 0 []))\/(n≠0/\∃b c x o,r=.Z b 0 n c x/\n<=c/\a.get b=some o/\o.ob=.c d false/\(x=some z\/(x=none/\c=n/\n*z<=d.length)))
def ki.none{z:Nat}{b:List V}{r:V}{a:T EO}{c n:Nat}(d:n=0)(h:Vw a (λ_=>.none) (mw a) r (.Q 0 [])):ki n z b r a c:=⟨.inl ⟨d,h⟩⟩
def ki.some{n z:Nat}{a d:List V}{b c:Nat}{f:T EO}{g:Nat}(h:n≠0)(i:n<=c)(j:f.get b=.some (.y d false))(e:d=a):ki n z a (.Z b 0 n c (.some z)) f g:=⟨.inr ⟨h,b,c,_,_,A,i,j,by rw[e];rfl,.inl A⟩⟩
def Own.of{P:Program}{tt:T TI}(H:VB P tt){g:Nat}{U:Func}{N:List V}{n z:Nat}{D:List V}(b0:P.funcs[g]?=some U)(a3:Nat)(hz:max N.length U.ntmps=a3)(hn:bp N=true)(b1:bp D=true)(s:ra P tt .e .e 0 a3 U N (ki n z D)):Own P g N n z D:=by obtain⟨he,hc⟩:=ym H b0 hz s QZ;refine⟨λW=>⟨he,λh t=>⟨af _,λw l F X m Y a4=>Calls.mono (hc w (λ_=>none) F X m.empty (λ_ _=>A) (Y.free (λ_ q=>q) hn)) λe C f=>?_⟩⟩,λW=>⟨he,λh t=>⟨qT _,λw l F X m Y a4=>Calls.mono (hc w (λ_=>none) F X m.empty (λ_ _=>A) (Y.free (λ_ q=>q) hn)) λe C f=>?_⟩⟩⟩;(.match e,f with|.returned u,f=>obtain⟨a5,Z,r,h',K,b2,hr,O,a0,a,_,_,L⟩:=f;(have L:Vw K (λ_=>none) (mw K) r (.Q 0 []):=by rcases L.h with⟨_,q⟩|⟨q,_⟩;(.exact q);exact absurd W q);have v:=xc hr O L a0;(have s:∀B,B<w.heap.size->C.heap[B]?=w.heap[B]?:=λB j=>a.keep B j λb o d i _=>by simp at i);have a1:Ext w l F C l F:=⟨λ_ _ h=>h,λ_ h _=>h,λB _ j=>s B j,a.size,a.os,a.tape,a.output,a.FG⟩;have b3:∀B,F B->less Z a5 (mw K) B:=λB j=>⟨a.mono B j,by rintro⟨b,d,⟨o,b4⟩,z2⟩;rcases a.kB b _ B d (O _ _ b4) z2 with v|⟨b5,o0,d0,v,_⟩;(.have:=m.bd B j;simp only at v;omega);simp at v⟩;refine⟨l,F,v.free b3 A,a1,m.ext a1 (λB j=>bS (m.bd B j) a.size) (λy o B d i M=>?_),af _,λ_ _=>A,λB j _=>s B j,λ_ h=>h,λ_ h=>.inl h,λb o B d i M=>.inr ⟨b,o,d,i,M⟩⟩;obtain⟨Q,R,k,E,S⟩:=m.kB i;rw[M]at k;cases k;exact⟨s _ S,E⟩|.panicked _,f=>exact f.elim|.outgrown,f=>exact f.elim);match e,f with|.returned u,f=>obtain⟨a5,Z,r,h',K,b2,hr,O,a0,a,_,_,L⟩:=f;(obtain⟨b,c,x,o,rfl,c4,M,b6,hx⟩:∃b c x o,r=.Z b 0 n c x/\n<=c/\K.get b=some o/\o.ob=.c D false/\(x=some z\/(x=none/\c=n/\n*z<=D.length)):=by rcases L.h with⟨q,_⟩|⟨_,q⟩;(.exact absurd q W);exact q);have a2:=O _ _ M;rw[b6]at a2;obtain⟨B,d,a6,e0,fz,g1,g2,g3,g4,g5,g6,g7,g8⟩:=hr.c _ _ _ a2;(have b7:w.heap.size<=B:=by rcases a.kB b _ B d a2 g1 with v|⟨b5,o0,d0,v,_⟩;(.exact v);simp at v);have c5:B<C.heap.size:=dX g3;(have s:∀B,B<w.heap.size->C.heap[B]?=w.heap[B]?:=λB j=>a.keep B j λb o d i _=>by simp at i);have a1:Ext w l F C l F:=⟨λ_ _ h=>h,λ_ h _=>h,λB _ j=>s B j,a.size,a.os,a.tape,a.output,a.FG⟩;have a7:l t=none:=a4 t (af _) (ax _);have a8:Ext w l F C (ub l t (B,d)) (uF F B):=⟨Dc a7 _,λB0 h a9=>by rintro(q|q);(.exact h q);omega,λB _ j=>s B j,a.size,a.os,a.tape,a.output,a.FG⟩;(have b8:∀B0,uF F B B0->B0<C.heap.size:=by rintro B0(q|q);(.exact bS (m.bd B0 q) a.size);omega);(have b9:∀B0,uF F B B0->Z B0:=by rintro B0(q|q);(.exact a.mono B0 q);subst q;exact g2);(have c6:∀y J,h.get y=some J->y≠t:=λy J i e=>by obtain⟨Q,R,k,_⟩:=m.kB i;rw[e,a7]at k;cases k);refine⟨ub l t (B,d),uF F B,?_,a8,m.put a8 b8 t (.c D false) (gR l t _) (.inr A) ⟨a6,e0,fz,g3,g4.free b9 b1,g5,g6,g7,g8⟩ (λy J B2 b' i p=>?_) (λy J d2 b' i p=>?_),qT _,λy p=>?_,λB0 a9 _=>s B0 a9,λ_ h=>.inl h,λB0 h=>?_,λy J B2 d2 i p=>?_⟩;(.cases a0 with|Z _ _ _ _ _ Q R c' a' c7 c8 c0 c1 hm=>rw[g1]at a';cases a';refine .Z t 0 n n (some z) B d c' (gR l t _) (af _) G (λh=>by cases h) (λq f=>?_) ⟨hm.1,G⟩;cases f;rcases hx with rfl|⟨rfl,rfl,hl⟩;(.obtain⟨c2,e2,c3,k,E⟩:=c1 z A;exact⟨c2,e2,c3,k,E⟩);have:=c0 A;subst this;exact⟨a6,e0,fz,g3,G⟩);(.obtain⟨d2,p⟩:=p;obtain⟨Q,R,k,E,S⟩:=m.kB i;rw[p]at k;cases k;exact⟨s _ S,.inl E⟩);(.obtain⟨Q,R,k,E,S⟩:=m.kB i;rw[p]at k;cases k;omega);(.simp only[ub];rw[I G]);(.rcases h with h|h;(.exact .inl h);exact .inr G);rw[T.dI]at i;split at i;(.rename_i e;subst e;rw[gR]at p;cases p;exact .inl b7);rename_i e;simp only[ub]at p;rw[I e]at p;exact .inr ⟨y,J,d2,i,p⟩|.panicked _,f=>exact f.elim|.outgrown,f=>exact f.elim
def Nw.fz{P:Program}{g:Nat}{r:List V}{n z:Nat}{a:List V}(h:Nw P g r (λb=>.Z b 0 n n (some z)) (.y a false))(E:bp r=true)(v:bp a=true):Pu P g r (.Q n a):=by refine⟨h.1,λR i=>⟨af _,λw s F G l H S=>Calls.mono ((h.2 .e i).2 w (λ_=>none) F G l.empty (H.free (λ_ q=>q) E) (λ_ _ _=>A)) λe x k=>?_⟩⟩;match e,k with|.returned u,k=>obtain⟨I,J,K,c⟩:=k;(have j:(T.set (.e:T EO) i (.y a false)).get i=some (.y a false):=by rw[T.dI,U A]);have y:fV (T.set (.e:T EO) i (.y a false)) (T.set (.e:Hp) i (EO.ob (.y a false))):=QZ.set i _;have p:=xc c.hr y (Vw.fz (a:=λ_=>none) (d:=mw (T.set (.e:T EO) i (.y a false))) i 0 n n a.length (some z) _ a a false ⟨_,j⟩ j A (by (have j:Nat.ble (0+a.length) a.length=true:=by rw[cf];omega);simp only[cM,j,fM,hh]) v) K;(have t:∀B,B<w.heap.size->x.heap[B]?=w.heap[B]?:=λB f=>c.keep B f λb o d m _=>by simp at m);have C:Ext w s F x s F:=⟨λ_ _ h=>h,λ_ h _=>h,λB _ f=>t B f,c.ext.size,c.ext.os,c.ext.tape,c.ext.output,c.ext.FG⟩;have L:∀B,F B->less J I (mw (T.set (.e:T EO) i (.y a false))) B:=λB f=>⟨c.mono B f,by rintro⟨b,d,⟨o,M⟩,N⟩;rcases c.kB b _ B d (y _ _ M) N with p|⟨W,X,Y,p,_⟩;(.have:=l.bd B f;omega);simp at p⟩;refine⟨s,F,p.free L (by simpa[ee]using v),C,l.ext C (λB f=>bS (l.bd B f) c.ext.size) (λb2 o B d m j=>?_),af _,λ_ _=>A,λB f _=>t B f,λ_ h=>h,λ_ h=>.inl h,λb o B d m j=>.inr ⟨b,o,d,m,j⟩⟩;obtain⟨B',d',D,O,Q⟩:=l.kB m;rw[j]at D;cases D;exact⟨t _ Q,O⟩|.panicked _,k=>exact k.elim|.outgrown,k=>exact k.elim
def Own.fz{P:Program}{g:Nat}{c:List V}{n z:Nat}{a:List V}(h:Own P g c n z a)(d:bp c=true)(e:bp a=true)(f:n=0->a=[]):Pu P g c (.Q n a):=by by_cases b:n=0;(.have:=h.1 b;rw[f b,b];exact this);exact(h.2 b).fz d e
def Own.ID{P:Program}{g:Nat}{b:List V}{n z:Nat}{c:List V}(h:Own P g b n z c):FI P g:=by by_cases a:n=0;(.exact(h.1 a).1);exact(h.2 a).1
def Nw.ok{P:Program}{g:Nat}{a:List V}{v:Nat->V}{o:EO}(c:FI P g)(h:IT a->Nw P g a v o):Nw P g a v o:=⟨c,λd e=>⟨qT _,λw f F i H b j=>((h b.ok).2 d e).2 w f F i H b j⟩⟩
def Own.ok{P:Program}{g:Nat}{a:List V}{n z:Nat}{c:List V}(d:FI P g)(h:IT a->Own P g a n z c):Own P g a n z c:=⟨λb=>Pu.ok d λq=>(h q).1 b,λb=>Nw.ok d λq=>(h q).2 b⟩
def Pu.is0{P:Program}{g:Nat}{v:V}(m:Pu P g [.E] v)(p:Pu P g [.es] v):Pu P g [.Q 0 []] v:=by
 refine⟨m.1,λh f=>⟨af _,λw d F b i q j=>?_⟩⟩;obtain⟨u,e,r⟩:∃u,b.toList=[u]/\R w d F (.Q 0 []) u:=by obtain⟨s,k⟩:=q;match b.toList,s,k with|[u],_,k=>exact⟨u,A,k 0 _ u A A⟩
 cases r with
 |is0 a c t=>cases a with|none=>have:=t A;subst this;exact(m.2 h f).2 w d F b i (by rw[e];exact RL.cons .E RL.nil) j|some a=>exact(p.2 h f).2 w d F b i (by rw[e];exact RL.cons (.es a c) RL.nil) j
 |Q n l c B o x y z C D E G H I=>exact(p.2 h f).2 w d F b i (by rw[e];exact RL.cons (.es _ c) RL.nil) j
def EO.free:EO->Prop|.c l=>bp l=true|.y l _=>bp l=true|.m es=>∀p∈es,ee p.1=true/\ee p.2=true
def dL(a:List Nat)(c i:Nat):Nat:=match a[i]?with|some b=>b|none=>c+(i-a.length)
def lX(a:List Nat)(b:Nat)(e:T EO):Nat->Hp->Hp|0,h=>h|k+1,h=>(lX a b e k h).put (dL a b k) ((e.get k).map EO.ob)
def vH{c:List Nat}{d:Nat}{e:T EO}:∀(n:Nat)(h:Hp),(∀i j,i<n->j<n->dL c d i=dL c d j->i=j)->(∀i,i<n->(lX c d e n h).get (dL c d i)=(e.get i).map EO.ob)/\∀b,(∀i,i<n->dL c d i≠b)->(lX c d e n h).get b=h.get b|0,h,_=>⟨λi f=>G,λb _=>A⟩|n+1,h,f=>by obtain⟨l,m⟩:=vH n h λi j a b=>f i j G G;refine⟨λi g=>?_,λb k=>?_⟩;(.simp only[lX,T.sH];by_cases e:dL c d i=dL c d n;(.have:=f i n g G e;subst this;rw[U A]);rw[I e];refine l i ?_;rcases iw i n with q|q;(.exact q);have:i=n:=G;subst this;exact absurd A e);simp only[lX,T.sH];rw[I (λq=>k n G q.symm)];exact m b λi g=>k i G
def Og.at_{P:Program}{g J n:Nat}{e0 N:T EO}{vs c2:List V}{v v':V}(H:Og P g J e0 vs n N v)(f:List Nat)(a1:f.length=J)(c':f.Nodup)(hn:J<=n){h:Hp}{r:Nat}{eh:T EO}(d1:fV eh h)(h0:∀i o,e0.get i=some o->i<J/\o.free)(c3:∀i b,f[i]?=some b->∃o,e0.get i=some o/\h.get b=some o.ob)(h1:∀i o,N.get i=some o->i<n/\o.free)(Q:tI eh (λi=>f[i]?) (λ_=>False) c2 vs)(σ:Nat->Option Nat)(d3:∀b i,σ b=some i->i<n/\dL f r i=b)(d4:Vw N σ (λ_=>False) v v'):RC P g c2 h r v' (lX f r N n h) (r+(n-J)):=by
 refine⟨by omega,λw β F us L d5 c4=>?_⟩;have b7:∀i b,f[i]?=some b->i<J:=λi b q=>by rw[<-a1];exact(ba.1 q).1
 let a7:Nat->Option (Nat×Nat):=mX β λi=>f[i]?;have a2:∀i b,f[i]?=some b->a7 i=β b:=λi b q=>by simp only[a7,mX,q]
 have d6:∀i,J<=i->a7 i=none:=λi q=>by simp only[a7,mX,bO (by rw[a1];exact q)]
 have d7:∀i,i<J->∃b,f[i]?=some b:=λi q=>⟨f[i],aa (by rw[a1];exact q)⟩;have c5:∀i j b,f[i]?=some b->f[j]?=some b->i=j:=λi j b y m=>by exact(qU (by rw[a1];exact b7 i b y) c').1 (y.trans m.symm)
 have a6:∀{i:Nat}{K:Ob},(e0.mp EO.ob).get i=some K->∃o b,e0.get i=some o/\o.ob=K/\f[i]?=some b/\h.get b=some K:=λ{i K}q=>by rw[T.hq]at q;cases t:e0.get i with|none=>rw[t]at q;cases q|some o=>rw[t]at q;simp at q;obtain⟨b,c⟩:=d7 i (h0 i o t).1;obtain⟨o',y,m⟩:=c3 i b c;rw[t]at y;cases y;exact⟨o,b,A,q,c,by rw[m,q]⟩
 have d8:HR w a7 F (e0.mp EO.ob):=by refine⟨λi l mk a=>?_,λi es a=>?_,λi j o o2 B d d2 D E i1 S=>?_,L.bd,L.gl⟩;(.obtain⟨o,b,y,m,M,q4⟩:=a6 a;obtain⟨B,d,b1,a3,fz,D,E,O,W,X⟩:=L.c b l mk q4;(have a4:bp l=true:=by have:=(h0 i o y).2;cases o<;>simp only[EO.ob,Ob.c.injEq,reduceCtorEq]at m;(.obtain⟨rfl,_⟩:=m;exact this);obtain⟨rfl,_⟩:=m;exact this);exact⟨B,d,b1,a3,fz,by rw[a2 i b M];exact D,E,O,W.free (λ_ q=>q) a4,X⟩);(.obtain⟨o,b,y,m,M,q4⟩:=a6 a;obtain⟨B,l,b2,D,E,O,W,X⟩:=L.m b es q4;have a4:=(h0 i o y).2;cases o<;>simp only[EO.ob,Ob.m.injEq,reduceCtorEq]at m;subst m;refine⟨B,l,b2,by rw[a2 i b M];exact D,E,O,W.free (λ_ q=>q) (jW λv Q=>?_),X.free (λ_ q=>q) (jW λv Q=>?_)⟩;(.obtain⟨p,hp,rfl⟩:=aV.1 Q;exact(a4 p hp).1);obtain⟨p,hp,rfl⟩:=aV.1 Q;exact(a4 p hp).2);obtain⟨o',b,y,m,M,q4⟩:=a6 D;obtain⟨b8,k,p1,p2,p3,p4⟩:=a6 E;rw[a2 i b M]at i1;rw[a2 j k p3]at S;have:=L.inj b k _ _ B d d2 q4 p4 i1 S;subst this;exact c5 i j b M p3
 have d9:RL w a7 F vs us.toList:=by have:=Q.R L d1 d5;exact⟨this.1,λi v u Q hu=>(this.2 i v u Q hu).ext (.B (λ_ _ q=>q) λB hB=>nr.2 hB)⟩
 refine Calls.mono (H.2.2 w a7 F us d8 d9 (λb y _=>d6 b y)) λa3 w' Y=>?_;match a3,Y with
 |.panicked _,Y=>exact Y.elim|.outgrown,Y=>exact Y.elim|.returned u,Y=>
  obtain⟨b9,F',e1,s⟩:=Y;let Z:Nat->Option (Nat×Nat):=λb=>if r<=b/\b<r+(n-J)then b9 (J+(b-r))else β b;have b':∀i b,f[i]?=some b->¬(r<=b/\b<r+(n-J)):=λi b q c=>by obtain⟨o,_,m⟩:=c3 i b q;obtain⟨B,d,M,_⟩:=L.kB m;have:=c4 b c.1 c.2;rw[this]at M;cases M
  have a8:∀i,i<n->Z (dL f r i)=b9 i:=λi z=>by unfold dL;cases c:f[i]?with|some b=>simp only[Z];rw[I (b' i b c),<-a2 i b c];exact(s.old i (.inl (b7 i b c))).symm|none=>(have:J<=i:=by rw[<-a1];exact dG.1 c);simp only[Z,a1];rw[U G];congr 1;omega
  have e2:∀i j,i<n->j<n->dL f r i=dL f r j->i=j:=λi j z b3 he=>by
   unfold dL at he;cases c:f[i]?with
   |some b=>cases a5:f[j]?with|some k=>rw[c,a5]at he;simp only at he;subst he;exact c5 i j b c a5|none=>rw[c,a5]at he;simp only at he;(have:J<=j:=by rw[<-a1];exact dG.1 a5);exact absurd ⟨by omega,G⟩ (b' i b c)
   |none=>(have h1:J<=i:=by rw[<-a1];exact dG.1 c);cases a5:f[j]?with|some k=>rw[c,a5]at he;simp only at he;exact absurd ⟨by omega,G⟩ (b' j k a5)|none=>(have h2:J<=j:=by rw[<-a1];exact dG.1 a5);rw[c,a5]at he;simp only at he;omega
  obtain⟨e3,e4⟩:=vH (c:=f) (d:=r) (e:=N) n h e2;have a9:Ext w β F w' Z F':=⟨λb x c=>by simp only[Z];split;(.rename_i q;have:=c4 b q.1 q.2;rw[c]at this;cases this);exact c,s.ext.out,s.ext.keep,s.ext.size,s.ext.os,s.ext.tape,s.ext.output,s.ext.FG⟩;have e5:R w' Z F' v' u:=by refine(xc s.hr (xd N) d4 e1).ext (.B (λb x hx=>?_) λB hB=>nr.2 hB);simp only[mX]at hx;split at hx;(.rename_i i z;obtain⟨y,m⟩:=d3 b i z;rw[<-m,a8 i y];exact hx);cases hx
  have c0:∀b,(∀i,i<n->dL f r i≠b)->∀i,f[i]?≠some b:=λb c i q=>by have z:=b7 i b q;refine c i G ?_;simp[dL,q]
  have c6:∀b o B d,h.get b=some o->β b=some (B,d)->(∀i,f[i]?≠some b)->B<w.heap.size->w'.heap[B]?=w.heap[B]?:=λb o B d a c C hB=>by refine s.keep B hB λi o' d' e6 c7=>?_;obtain⟨o2,k,y,m,M,q4⟩:=a6 e6;rw[a2 i k M]at c7;have:=L.inj b k _ _ B d d' a q4 c c7;subst this;exact C i M
  have a':∀b K,(lX f r N n h).get b=some K->(∃i o,i<n/\dL f r i=b/\N.get i=some o/\o.ob=K)\/((∀i,i<n->dL f r i≠b)/\h.get b=some K):=λb K a=>by by_cases Y:∃i,i<n/\dL f r i=b;(.obtain⟨i,z,rfl⟩:=Y;rw[e3 i z]at a;cases t:N.get i with|none=>rw[t]at a;cases a|some o=>rw[t]at a;simp at a;exact .inl ⟨i,o,z,A,t,a⟩);have C:∀i,i<n->dL f r i≠b:=λi z a3=>Y ⟨i,z,a3⟩;rw[e4 b C]at a;exact .inr ⟨C,a⟩
  have b0:∀{i:Nat}{o:EO},N.get i=some o->(N.mp EO.ob).get i=some o.ob:=λq=>by rw[T.hq,q];rfl
  have c8:∀i o b K B d d',i<n->N.get i=some o->b9 i=some (B,d)->(∀j,j<n->dL f r j≠b)->h.get b=some K->β b=some (B,d')->False:=λi o b K B d d' z t c C a c9=>by rcases s.kB i _ B d (b0 t) c with q|⟨i0,o0,d0,y,m⟩;(.obtain⟨B',d2,p1,_,p3⟩:=L.kB a;rw[c9]at p1;cases p1;omega);obtain⟨o2,k,p1,p2,p3,p4⟩:=a6 y;rw[a2 i0 k p3]at m;have:=L.inj b k _ _ B d' d0 a p4 c9 m;subst this;exact c0 b C i0 p3
  have b5:∀b K,(∀i,i<n->dL f r i≠b)->h.get b=some K->Z b=β b:=λb K C a=>by obtain⟨B,d,q,_⟩:=L.kB a;rw[a9.sub _ _ q,q]
  have e7:HR w' Z F' (lX f r N n h):=by refine⟨λb l mk a=>?_,λb es a=>?_,λb k o o2 B d d2 D E i1 S=>?_,s.hr.bd,s.hr.gl⟩;(.rcases a' b _ a with⟨i,o,z,rfl,t,a0⟩|⟨C,a⟩;(.obtain⟨B,d,b1,a3,fz,D,E,O,W,X⟩:=s.hr.c i l mk (by rw[b0 t,a0]);(have a4:bp l=true:=by have:=(h1 i o t).2;cases o<;>simp only[EO.ob,Ob.c.injEq,reduceCtorEq]at a0;(.obtain⟨rfl,_⟩:=a0;exact this);obtain⟨rfl,_⟩:=a0;exact this);exact⟨B,d,b1,a3,fz,by rw[a8 i z];exact D,E,O,W.free (λ_ q=>q) a4,X⟩);obtain⟨B,d,b1,a3,fz,D,E,O,W,X⟩:=L.c b l mk a;exact⟨B,d,b1,a3,fz,a9.sub _ _ D,s.mono B E,by rw[c6 b _ B d a D (c0 b C) (dX O)];exact O,W.ext a9,X⟩);(.rcases a' b _ a with⟨i,o,z,rfl,t,a0⟩|⟨C,a⟩;(.obtain⟨B,l,b2,D,E,O,W,X⟩:=s.hr.m i es (by rw[b0 t,a0]);have a4:=(h1 i o t).2;cases o<;>simp only[EO.ob,Ob.m.injEq,reduceCtorEq]at a0;subst a0;refine⟨B,l,b2,by rw[a8 i z];exact D,E,O,W.free (λ_ q=>q) (jW λv Q=>?_),X.free (λ_ q=>q) (jW λv Q=>?_)⟩;(.obtain⟨p,hp,rfl⟩:=aV.1 Q;exact(a4 p hp).1);obtain⟨p,hp,rfl⟩:=aV.1 Q;exact(a4 p hp).2);obtain⟨B,l,b2,D,E,O,W,X⟩:=L.m b es a;exact⟨B,l,b2,a9.sub _ _ D,s.mono B E,by rw[c6 b _ B 0 a D (c0 b C) (dX O)];exact O,W.ext a9,X.ext a9⟩);rcases a' b _ D with⟨i,o',z,rfl,t,a0⟩|⟨C,a⟩;(.rw[a8 i z]at i1;rcases a' k _ E with⟨j,b8,b3,rfl,c1,e8⟩|⟨b6,b4⟩;(.rw[a8 j b3]at S;have:=s.hr.inj i j _ _ B d d2 (b0 t) (b0 c1) i1 S;rw[this]);rw[b5 k _ b6 b4]at S;exact(c8 i o' k _ B d d2 z t i1 b6 b4 S).elim);rw[b5 b _ C a]at i1;rcases a' k _ E with⟨j,b8,b3,rfl,c1,e8⟩|⟨b6,b4⟩;(.rw[a8 j b3]at S;exact(c8 j b8 b _ B d2 d b3 c1 S C a i1).elim);rw[b5 k _ b6 b4]at S;exact L.inj b k _ _ B d d2 a b4 i1 S
  refine⟨Z,F',e5,a9,e7,G,λb c=>?_,λB hB C=>s.keep B hB λi o d a c=>?_,s.mono,s.tW,λb o B d a c=>?_⟩;.simp only[Z];rw[I G]
  .obtain⟨o2,k,y,m,M,q4⟩:=a6 a;rw[a2 i k M]at c;exact C k _ d q4 c
  rcases a' b _ a with⟨i,o',z,rfl,t,a0⟩|⟨C,a⟩;.rw[a8 i z]at c;rcases s.kB i _ B d (b0 t) c with q|⟨i0,o0,d0,y,m⟩;(.exact .inl q);obtain⟨o2,k,p1,p2,p3,p4⟩:=a6 y;rw[a2 i0 k p3]at m;exact .inr ⟨k,_,d0,p4,m⟩
  rw[b5 b _ C a]at c;exact .inr ⟨b,_,d,a,c⟩
def lY(a:List Nat)(b:Nat)(e:T EO):Nat->T EO->T EO|0,h=>h|k+1,h=>(lY a b e k h).put (dL a b k) (e.get k)
def vI{f:List Nat}{g:Nat}{e:T EO}:∀(n:Nat){a:T EO}{h:Hp},fV a h->fV (lY f g e n a) (lX f g e n h)|0,a,h,d=>d|n+1,a,h,d=>λb o c=>by simp only[lY,lX,T.sH]at c|-;split at c;(.rename_i q;rw[U q,c];rfl);rename_i q;rw[I q];exact vI n d b o c
def O.og{P:Program}{g d a:Nat}{j f:T EO}{s t:List V}{v l:V}{h:T EO}{e:Nat}{K:KE}(H:Og P g d j s a f v)(c:List Nat)(m:T EO)(u:c.length=d)(w:c.Nodup)(x:d<=a)(y:∀i o,j.get i=some o->i<d/\o.free)(z:∀i b,c[i]?=some b->∃o,j.get i=some o/\∃n,h.get b=some n/\n.ob=o.ob)(A:∀i o,f.get i=some o->i<a/\o.free)(B:tI h (λi=>c[i]?) (λ_=>False) t s)(p:Nat->Option Nat)(C:∀b i,p b=some i->i<a/\dL c e i=b)(D:Vw f p (λ_=>False) v l)(E:lY c e f a h=m)(k:K l m (e+(a-d))):O P g t h e K:=⟨H.1,λF r=>⟨l,lX c e f a F,e+(a-d),m,Og.at_ H c u w x r y (λi b q=>by obtain⟨o,G,n,I,J⟩:=z i b q;exact⟨o,G,by rw[r _ _ I,J]⟩) A B p C D,E▸vI a r,k⟩⟩
def abk(h:Hp):fV .e h:=λb o q=>by simp at q
def Nw.abl{P:Program}{g:Nat}{a:List V}{o n c:Nat}{x:Option Nat}{f:EO}(j:Og P g 0 .e a 1 (T.set .e 0 f) (.Z 0 o n c x))(l:bp a=true)(m:f.free):Nw P g a (λb=>.Z b o n c x) f:=by
 refine⟨j.1,λk d=>?_⟩;have:=Og.at_ j [] A List.nodup_nil (au _) (h:=k) (r:=d) (eh:=.e) (c2:=a) (v':=.Z d o n c x) (abk k) (λi o q=>by simp at q) (λi b q=>by simp at q) (λi o q=>?_) (tI.B l) (λb=>if b=d then some 0 else none) (λb i q=>?_) (.Z 0 d o n c x (U A));.exact this
 .rw[T.dI]at q;split at q;(.rename_i e;subst e;cases q;exact⟨Nat.one_pos,m⟩);simp at q
 split at q;.rename_i e;subst e;cases q;exact⟨Nat.one_pos,A⟩
 cases q
def qh(P:Program)(g:Nat)(f:List V)(n z:Nat)(d:List V):Prop:=(n=0->Pu P g f (.Q 0 []))/\(n≠0->∃a e c,n<=c/\bp (a++(d++e))=true/\(a++(d++e)).all V.one=true/\Nw P g f (λb=>.Z b a.length n c (some z)) (.y (a++(d++e)) false))
def Own.s{P:Program}{g:Nat}{b:List V}{n z:Nat}{a:List V}(h:Own P g b n z a)(c:bp a=true)(d:a.all V.one=true):qh P g b n z a:=⟨h.1,λe=>⟨[],[],n,af _,by simpa using c,by simpa using d,by simpa using h.2 e⟩⟩
def Nw.akX{P:Program}{g:Nat}{v:List V}{n z c:Nat}{f a l:List V}(h:Nw P g v (λb=>.Z b f.length n c (some z)) (.y (f++(a++l)) false))(I:bp v=true)(C:bp a=true):Pu P g v (.Q n a):=by refine⟨h.1,λX k=>⟨af _,λw x F J r K Y=>Calls.mono ((h.2 .e k).2 w (λ_=>none) F J r.empty (K.free (λ_ q=>q) I) (λ_ _ _=>A)) λe D p=>?_⟩⟩;match e,p with|.returned u,p=>obtain⟨L,M,N,i⟩:=p;(have m:(T.set (.e:T EO) k (.y (f++(a++l)) false)).get k=some (.y (f++(a++l)) false):=by rw[T.dI,U A]);have E:fV (T.set (.e:T EO) k (.y (f++(a++l)) false)) (T.set (.e:Hp) k (EO.ob (.y (f++(a++l)) false))):=QZ.set k _;have t:=xc i.hr E (Vw.fz (a:=λ_=>none) (d:=mw (T.set (.e:T EO) k (.y (f++(a++l)) false))) k f.length n c a.length (some z) _ _ a false ⟨_,m⟩ m A (by (have m:Nat.ble (f.length+a.length) (f++(a++l)).length=true:=by rw[cf];simp);simp only[cM,m];simp) C) N;(have y:∀B,B<w.heap.size->D.heap[B]?=w.heap[B]?:=λB j=>i.keep B j λb o d s _=>by simp at s);have G:Ext w x F D x F:=⟨λ_ _ h=>h,λ_ h _=>h,λB _ j=>y B j,i.ext.size,i.ext.os,i.ext.tape,i.ext.output,i.ext.FG⟩;have O:∀B,F B->less M L (mw (T.set (.e:T EO) k (.y (f++(a++l)) false))) B:=λB j=>⟨i.mono B j,by rintro⟨b,d,⟨o,Q⟩,R⟩;rcases i.kB b _ B d (E _ _ Q) R with t|⟨b0,o0,d0,t,_⟩;(.have:=r.bd B j;omega);simp at t⟩;refine⟨x,F,t.free O (by simpa[ee]using C),G,r.ext G (λB j=>bS (r.bd B j) i.ext.size) (λb2 o B d s m=>?_),af _,λ_ _=>A,λB j _=>y B j,λ_ h=>h,λ_ h=>.inl h,λb o B d s m=>.inr ⟨b,o,d,s,m⟩⟩;obtain⟨B',d',H,S,W⟩:=r.kB s;rw[m]at H;cases H;exact⟨y _ W,S⟩|.panicked _,p=>exact p.elim|.outgrown,p=>exact p.elim
def qh.fz{P:Program}{g:Nat}{d:List V}{n z:Nat}{a:List V}(h:qh P g d n z a)(e:bp d=true)(f:bp a=true)(i:n=0->a=[]):Pu P g d (.Q n a):=by by_cases b:n=0;(.have:=h.1 b;rw[i b,b];exact this);obtain⟨j,k,c,_,_,_,h⟩:=h.2 b;exact h.akX e f
def Og.akY{P:Program}{g s n1:Nat}{e0 x:T EO}{vs b5:List V}{v v':V}(H:Og P g s e0 vs n1 x v)(c:List Nat)(a6:c.length=s)(c0:c.Nodup)(hn:s<=n1){h:Hp}{L:Nat}{eh:T EO}(c1:fV eh h)(e2:∀b∈c,b<L)(h0:∀i o,e0.get i=some o->i<s/\o.free)(b0:∀i b,c[i]?=some b->∃o,e0.get i=some o/\h.get b=some o.ob)(h1:∀i o,x.get i=some o->i<n1/\o.free)(c2:∀i,i<s->∃o,x.get i=some o)(M:tI eh (λi=>c[i]?) (λ_=>False) b5 vs)(c3:Vw x (λ_=>none) (λi=>s<=i/\∃o,x.get i=some o) v v')(c4:ee v'=true):RC P g b5 h L v' (lX c L x s h) L:=by
 refine⟨af _,λw S F us D c5 e3=>?_⟩;have a7:∀i b,c[i]?=some b->i<s:=λi b q=>by rw[<-a6];exact(ba.1 q).1
 let a0:Nat->Option (Nat×Nat):=mX S λi=>c[i]?;have Y:∀i b,c[i]?=some b->a0 i=S b:=λi b q=>by simp only[a0,mX,q]
 have c6:∀i,s<=i->a0 i=none:=λi q=>by simp only[a0,mX,bO (by rw[a6];exact q)]
 have a8:∀i,i<s->∃b,c[i]?=some b:=λi q=>⟨c[i],aa (by rw[a6];exact q)⟩;have b6:∀i j b,c[i]?=some b->c[j]?=some b->i=j:=λi j b r f=>by exact(qU (by rw[a6];exact a7 i b r) c0).1 (r.trans f.symm)
 have a1:∀{i:Nat}{E:Ob},(e0.mp EO.ob).get i=some E->∃o b,e0.get i=some o/\o.ob=E/\c[i]?=some b/\h.get b=some E:=λ{i E}q=>by rw[T.hq]at q;cases t:e0.get i with|none=>rw[t]at q;cases q|some o=>rw[t]at q;simp at q;obtain⟨b,C⟩:=a8 i (h0 i o t).1;obtain⟨o',r,f⟩:=b0 i b C;rw[t]at r;cases r;exact⟨o,b,A,q,C,by rw[f,q]⟩
 have c7:HR w a0 F (e0.mp EO.ob):=by refine⟨λi l mk a=>?_,λi es a=>?_,λi j o o2 B d d2 k I i1 i2=>?_,D.bd,D.gl⟩;(.obtain⟨o,b,r,f,G,N⟩:=a1 a;obtain⟨B,d,a2,K,fz,k,I,J,O,Q⟩:=D.c b l mk N;(have X:bp l=true:=by have:=(h0 i o r).2;cases o<;>simp only[EO.ob,Ob.c.injEq,reduceCtorEq]at f;(.obtain⟨rfl,_⟩:=f;exact this);obtain⟨rfl,_⟩:=f;exact this);exact⟨B,d,a2,K,fz,by rw[Y i b G];exact k,I,J,O.free (λ_ q=>q) X,Q⟩);(.obtain⟨o,b,r,f,G,N⟩:=a1 a;obtain⟨B,l,a3,k,I,J,O,Q⟩:=D.m b es N;have X:=(h0 i o r).2;cases o<;>simp only[EO.ob,Ob.m.injEq,reduceCtorEq]at f;subst f;refine⟨B,l,a3,by rw[Y i b G];exact k,I,J,O.free (λ_ q=>q) (jW λv M=>?_),Q.free (λ_ q=>q) (jW λv M=>?_)⟩;(.obtain⟨p,hp,rfl⟩:=aV.1 M;exact(X p hp).1);obtain⟨p,hp,rfl⟩:=aV.1 M;exact(X p hp).2);obtain⟨o',b,r,f,G,N⟩:=a1 k;obtain⟨e4,n,p1,p2,p3,p4⟩:=a1 I;rw[Y i b G]at i1;rw[Y j n p3]at i2;have:=D.inj b n _ _ B d d2 N p4 i1 i2;subst this;exact b6 i j b G p3
 have c8:RL w a0 F vs us.toList:=by have:=M.R D c1 c5;exact⟨this.1,λi v u M hu=>(this.2 i v u M hu).ext (.B (λ_ _ q=>q) λB y=>nr.2 y)⟩
 refine Calls.mono (H.2.2 w a0 F us c7 c8 (λb r _=>c6 b r)) λK w' U=>?_;match K,U with|.panicked _,U=>exact U.elim|.outgrown,U=>exact U.elim|.returned u,U=>obtain⟨b7,F',c9,m⟩:=U;(have a9:∀i b,c[i]?=some b->dL c L i=b:=λi b q=>by simp only[dL,q]);(have b1:∀i b,c[i]?=some b->b7 i=S b:=λi b q=>by rw[<-Y i b q];exact m.old i (.inl (a7 i b q)));(have c':∀i j,i<s->j<s->dL c L i=dL c L j->i=j:=λi j z d0 he=>by obtain⟨b,C⟩:=a8 i z;obtain⟨n,a4⟩:=a8 j d0;rw[a9 i b C,a9 j n a4]at he;subst he;exact b6 i j b C a4);obtain⟨d1,d3⟩:=vH (c:=c) (d:=L) (e:=x) s h c';have a':Ext w S F w' S F:=⟨λ_ _ h=>h,λ_ h _=>h,m.ext.keep,m.ext.size,m.ext.os,m.ext.tape,m.ext.output,m.ext.FG⟩;(have a5:∀{i:Nat}{o:EO},x.get i=some o->(x.mp EO.ob).get i=some o.ob:=λq=>by rw[T.hq,q];rfl);have d4:∀B,F B->less F' b7 (λi=>s<=i/\∃o,x.get i=some o) B:=λB y=>⟨m.mono B y,by rintro⟨i,d,⟨z,o,t⟩,z2⟩;rcases m.kB i _ B d (a5 t) z2 with q|⟨i0,o0,d5,r,f⟩;(.have:=D.bd B y;omega);obtain⟨o2,n,p1,p2,p3,p4⟩:=a1 r;have d6:=a7 i0 n p3;obtain⟨o3,d7⟩:=c2 i0 d6;have:=m.hr.inj i i0 _ _ B d d5 (a5 t) (a5 d7) z2 (by rw[b1 i0 n p3,<-Y i0 n p3];exact f);omega⟩;have d8:R w' S F v' u:=(xc m.hr (xd x) c3 c9).free d4 c4;(have b2:∀b E,(lX c L x s h).get b=some E->(∃i o,c[i]?=some b/\x.get i=some o/\o.ob=E)\/((∀i,c[i]?≠some b)/\h.get b=some E):=λb E a=>by by_cases U:∃i:Nat,c[i]?=some b;(.obtain⟨i,z⟩:=U;have:=d1 i (a7 i b z);rw[a9 i b z]at this;rw[this]at a;cases t:x.get i with|none=>rw[t]at a;cases a|some o=>rw[t]at a;simp at a;exact .inl ⟨i,o,z,t,a⟩);have W:∀i:Nat,c[i]?≠some b:=λi K=>U ⟨i,K⟩;rw[d3 b (λi z K=>by obtain⟨n,a4⟩:=a8 i z;rw[a9 i n a4]at K;subst K;exact W i a4)]at a;exact .inr ⟨W,a⟩);(have b8:∀b o B d,h.get b=some o->S b=some (B,d)->(∀i,c[i]?≠some b)->B<w.heap.size->w'.heap[B]?=w.heap[B]?:=λb o B d a C W y=>by refine m.keep B y λi o' d' d9 b9=>?_;obtain⟨o2,n,r,f,G,N⟩:=a1 d9;rw[Y i n G]at b9;have:=D.inj b n _ _ B d d' a N C b9;subst this;exact W i G);(have b':∀i b B d,c[i]?=some b->S b=some (B,d)->F B:=λi b B d q C=>by obtain⟨o,_,f⟩:=b0 i b q;obtain⟨B',d',G,N,_⟩:=D.kB f;rw[C]at G;cases G;exact N);(have b3:∀b E,(lX c L x s h).get b=some E->∃b4,h.get b=some b4:=λb E a=>by rcases b2 b E a with⟨i,o,z,_,_⟩|⟨_,q⟩;(.obtain⟨o2,_,f⟩:=b0 i b z;exact⟨_,f⟩);exact⟨_,q⟩);(have e1:HR w' S F (lX c L x s h):=by refine⟨λb l mk a=>?_,λb es a=>?_,λb n o o2 B d d2 k I i1 i2=>?_,λB y=>bS (D.bd B y) m.ext.size,(D.gl.ext m.ext).sub m.mono⟩;(.rcases b2 b _ a with⟨i,o,z,t,Z⟩|⟨W,a⟩;(.obtain⟨B,d,a2,K,fz,k,I,J,O,Q⟩:=m.hr.c i l mk (by rw[a5 t,Z]);(have X:bp l=true:=by have:=(h1 i o t).2;cases o<;>simp only[EO.ob,Ob.c.injEq,reduceCtorEq]at Z;(.obtain⟨rfl,_⟩:=Z;exact this);obtain⟨rfl,_⟩:=Z;exact this);rw[b1 i b z]at k;exact⟨B,d,a2,K,fz,k,b' i b B d z k,J,O.free (λB y=>m.mono B y) X,Q⟩);obtain⟨B,d,a2,K,fz,k,I,J,O,Q⟩:=D.c b l mk a;exact⟨B,d,a2,K,fz,k,I,by rw[b8 b _ B d a k W (dX J)];exact J,O.ext a',Q⟩);(.rcases b2 b _ a with⟨i,o,z,t,Z⟩|⟨W,a⟩;(.obtain⟨B,l,a3,k,I,J,O,Q⟩:=m.hr.m i es (by rw[a5 t,Z]);have X:=(h1 i o t).2;cases o<;>simp only[EO.ob,Ob.m.injEq,reduceCtorEq]at Z;subst Z;rw[b1 i b z]at k;refine⟨B,l,a3,k,b' i b B _ z k,J,O.free (λB y=>m.mono B y) (jW λv M=>?_),Q.free (λB y=>m.mono B y) (jW λv M=>?_)⟩;(.obtain⟨p,hp,rfl⟩:=aV.1 M;exact(X p hp).1);obtain⟨p,hp,rfl⟩:=aV.1 M;exact(X p hp).2);obtain⟨B,l,a3,k,I,J,O,Q⟩:=D.m b es a;exact⟨B,l,a3,k,I,by rw[b8 b _ B 0 a k W (dX J)];exact J,O.ext a',Q.ext a'⟩);obtain⟨E,r⟩:=b3 b _ k;obtain⟨b4,f⟩:=b3 n _ I;exact D.inj b n _ _ B d d2 r f i1 i2);refine⟨S,F,d8,a',e1,af _,λb C=>A,λB y W=>m.keep B y λi o d a C=>?_,λ_ h=>h,λ_ h=>.inl h,λb o B d a C=>?_⟩;(.obtain⟨o2,n,r,f,G,N⟩:=a1 a;rw[Y i n G]at C;exact W n _ d N C);obtain⟨b4,q⟩:=b3 b _ a;exact .inr ⟨b,_,d,q,C⟩
def O.agX{P:Program}{g a j:Nat}{l d:T EO}{r s:List V}{v f:V}{h:T EO}{e:Nat}{K:KE}(H:Og P g a l r j d v)(c:List Nat)(m:T EO)(t:c.length=a)(u:c.Nodup)(w:a<=j)(x:∀b∈c,b<e)(y:∀i o,l.get i=some o->i<a/\o.free)(z:∀i b,c[i]?=some b->∃o,l.get i=some o/\∃n,h.get b=some n/\n.ob=o.ob)(A:∀i o,d.get i=some o->i<j/\o.free)(B:∀i,i<a->∃o,d.get i=some o)(C:tI h (λi=>c[i]?) (λ_=>False) s r)(D:Vw d (λ_=>none) (λi=>a<=i/\∃o,d.get i=some o) v f)(E:ee f=true)(F:lY c e d a h=m)(k:K f m e):O P g s h e K:=⟨H.1,λG p=>⟨f,lX c e d a G,e,m,Og.akY H c t u w p x y (λi b q=>by obtain⟨o,I,n,J,L⟩:=z i b q;exact⟨o,I,by rw[p _ _ J,L]⟩) A B C D E,F▸vI a p,k⟩⟩
section
variable{f:FJ}{tt:T TI}{Q:X->ES->Prop}{s:ES}
structure ajA{b:Type}(f:FJ)(I:b->Prop)(d:b->Nat)(St:b->ES)(a:b)(s:ES):Prop where
 h:∃c,I c/\d c<d a/\∃e Z,Cp f e Z s (St c)/\f.n<=(St c).nx
def abm{b:Type}(f:FJ)(I:b->Prop)(c:b->Nat)(St:b->ES)(Q:X->ES->Prop)(a:b)(x:X)(s:ES):Prop:=match x with|.norm=>ajA f I c St a s|.exit k=>Q (.exit k) s|.goto k=>Q (.goto k) s|.ret=>Q .ret s
def bh.abm(H:VB f.P tt){b:Code}{c:Type}(L:c->List (Nat×V))(l:c->T EO)(g:c->Nat)(I:c->Prop)(q:c->Nat)(d:c)(t:I d)(u:∃i Z,Cp f i Z s ⟨mh (L d) .e,l d,g d⟩/\f.n<=g d)(step:∀a,I a->(∀k v,(mh (L a) .e).get k=some v->VC v)->TM (L a) .e λe=>cK f tt b ⟨e,l a,g a⟩ (Go.Ev.abm f I q (λa=>⟨mh (L a) .e,l a,g a⟩) Q a)):bh f b s Q:=by
 have w:∀(n:Nat)(a:c),q a<=n->I a->bh f b ⟨mh (L a) .e,l a,g a⟩ Q:=by
  intro n;induction n with
  |zero=>intro a y m;refine bh.ok λo=>?_;have h:=step a m o;rw[yn]at h;refine bh.sN ((qw H.ok H.mo b _ _ h).mono λx s j=>?_);cases x with|norm=>obtain⟨r,_,z,_⟩:=j.h;omega|_=>exact j
  |succ n A=>intro a y m;refine bh.ok λo=>?_;have h:=step a m o;rw[yn]at h;refine bh.sN ((qw H.ok H.mo b _ _ h).mono λx s j=>?_);cases x with|norm=>obtain⟨r,B,z,i,Z,C,p⟩:=j.h;exact bh.wk i Z _ C p (A r G B)|_=>exact j
 obtain⟨i,Z,C,p⟩:=u;exact bh.wk i Z _ C p (w _ d (af _) t)
def Cp.akq{L:List (Nat×V)}{h:T EO}{g:Nat}(a:Nat->Option Nat)(v:f.n=0)(l:TO s a (λ_=>False) L)(m:∀d e,h.get d=some e->∃b o,a d=some b/\s.h.get b=some o/\Ow s.h a (λ_=>False) o e)(n:∀b j c,a b=some c->a j=some c->b=j)(p:∀b c,a b=some c->b<g):∃a Z,Cp f a Z s ⟨mh L .e,h,g⟩/\f.n<=g:=⟨a,λ_=>False,⟨λk w i=>by rcases gn _ _ _ _ i with h|h;(.exact IS l _ _ h);simp at h,λd e i=>by obtain⟨b,o,r,t,u⟩:=m d e i;exact⟨b,o,r,λq=>q,t,u⟩,n,λb x=>G,p,λb q=>q.elim,.inl λb q=>q⟩,G⟩
def O.abn{P:Program}{g:Nat}{l d:List V}{v:V}{a:T EO}{c:Nat}{K:KE}(h:Pu P g d v)(j:tI a (λ_=>none) (λ_=>False) l d)(k:K v a c):O P g l a c K:=by refine⟨h.1,λm n=>⟨v,m,c,a,⟨af _,λw o F p r t y=>?_⟩,n,k⟩⟩;(have z:RL w o F d p.toList:=by have:=j.R r n t;exact⟨this.1,λi v u j C=>(this.2 i v u j C).ext ⟨λb x D=>by simp[mX]at D,λB h H q=>h (nr.2 q),λ_ _ _=>A,af _,A,A,A,λB E e G h=>⟨E,e,G,h,A⟩⟩⟩);exact(h.2 m c).2 w o F p r z y
end
structure On(i j:Nat)(k:T EO)(v:V)(r:V)(d:T EO)(l:Nat):Prop where
 h:∃a:Nat->Option Nat,Vw d a (λ_=>False) r v/\(∀e f,k.get e=some f->∃b o,a e=some b/\d.get b=some o/\Ow d a (λ_=>False) o f)/\(∀b g c,a b=some c->a g=some c->b=g)/\(∀b,b<i->a b=some b\/a b=none)/\(∀b c,a b=some c->b<j)
def Og.akZ{P:Program}{tt:T TI}(H:VB P tt){g:Nat}{O:Func}{j D:Nat}{E J:T EO}{M:List V}{v:V}(a2:P.funcs[g]?=some O)(z:Nat)(hz:max M.length O.ntmps=z)(hn:j<=D)(h0:∀b o,E.get b=some o->b<j/\o.lt j)(a3:gi j M=true)(hk:ra P tt (E.mp EO.ob) E j z O M (On j D J v)):Og P g j E M D J v:=by
 obtain⟨he,Q⟩:=ym H a2 hz hk (xd E);refine⟨he,hn,λw N F us a4 a5 a6=>Calls.mono (Q w (Ol N j) F us (a4.cut h0) (λb a=>I G) (a5.lt (n:=j) (λb a=>kC a) a3)) λe K p=>?_⟩;match e,p with
 |.returned u,p=>obtain⟨k,y,r,h',eh,b6,R,S,a7,f,_,_,a8⟩:=p;obtain⟨C,s1,s2,s3,s4,s5⟩:=a8.h;have a9:=xc R S s1 a7;have H1:=HR.cp R S (A:=J) (λb2 W h=>by obtain⟨b,o,l,L,X⟩:=s2 b2 W h;exact⟨b,o,l,λh=>h,L,X⟩) s3 (λb(h:False)=>h.elim);let m:Nat->Option (Nat×Nat):=λb=>if b<j then N b else if b<D then mX k C b else N b;(have a':∀b,b<j->∀x,mX k C b=some x->N b=some x:=λb a x i=>by rcases s4 b a with q|q;(.simp only[mX,q]at i;rw[f.fix b a]at i;rw[<-i];exact(kC a).symm);simp[mX,q]at i);(have a0:∀b x,mX k C b=some x->m b=some x:=λb x i=>by simp only[m];split;(.rename_i a;exact a' b a x i);(have:b<D:=by simp only[mX]at i;split at i;(.rename_i c Q;exact s5 b c Q);cases i);rw[U this];exact i);have i:Ext K (mX k C) (less y k (λ_=>False)) K m y:=.B a0 λB s=>nr.2 s;have b0:Ext K (mX k C) (less y k (λ_=>False)) K m (less y k (λ_=>False)):=.B a0 λB s=>s;(have H2:HR K m y (J.mp EO.ob):=by have:=H1.sub b0;refine this.ext (.B (λ_ _ h=>h) λB s=>nr.2 s) R.bd λb2 o B d t a=>⟨A,?_⟩;obtain⟨B',d',l,L,X⟩:=this.kB t;rw[a]at l;cases l;exact L.1);refine⟨m,y,a9.ext i,⟨λb x a=>?_,f.out,f.kF,f.size,f.os,f.tape,f.output,f.FG⟩,H2,hn,λb a=>?_,λB s b1=>f.keep B s λb o d t a=>b1 b o d t (kD a).2,f.mono,f.tW,λb o B d t a=>?_⟩;(.simp only[m];split;(.exact a);split;(.have:=a6 b G (by assumption);rw[a]at this;cases this);exact a);(.simp only[m];split;(.rfl);rw[I G]);rw[T.hq]at t;cases a1:J.get b with|none=>rw[a1]at t;cases t|some W=>obtain⟨c,o3,l,L,X⟩:=s2 b W a1;(have b3:k c=some (B,d):=by have b4:=s5 b c l;(have:mX k C b=some (B,d):=by simp only[m]at a;split at a;(.rename_i Y;rcases s4 b Y with q|q;(.simp only[mX,q];rw[f.fix b Y];exact(kC Y).trans a);rw[q]at l;cases l);first|exact a|(rw[U b4]at a;exact a));simpa[mX,l]using this);rcases f.kB c _ B d (S _ _ L) b3 with Z|⟨b5,o0,d0,Z,h2⟩;(.exact .inl Z);exact .inr ⟨b5,o0,d0,Z,(kD h2).2⟩
 |.panicked _,p=>exact p.elim|.outgrown,p=>exact p.elim
def Og.ak0{P:Program}{g K C:Nat}{e0 M a7:T EO}{vs c5:List V}{v v':V}(H:Og P g K e0 vs C M v)(f:List Nat)(a0:f.length=K)(d6:f.Nodup)(hn:K<=C){h:Hp}{t:Nat}{eh:T EO}(b3:fV eh h)(h0:∀i o,e0.get i=some o->i<K)(b8:∀i b,f[i]?=some b->∃o r,e0.get i=some o/\eh.get b=some r/\Ow eh (λi=>f[i]?) (λ_=>False) r o)(W:tI eh (λi=>f[i]?) (λ_=>False) c5 vs)(a':Nat->Option Nat)(h1:∀i r,a7.get i=some r->∃o,M.get i=some o/\Ow M a' (λ_=>False) o r)(d7:∀b i,a' b=some i->i<C/\dL f t i=b)(d8:Vw M a' (λ_=>False) v v'):RC P g c5 h t v' (lX f t a7 C h) (t+(C-K)):=by
 refine⟨by omega,λw β F us N d9 c6=>?_⟩;have b9:∀i b,f[i]?=some b->i<K:=λi b q=>by rw[<-a0];exact(ba.1 q).1
 let a3:Nat->Option (Nat×Nat):=mX β λi=>f[i]?;have b0:∀i b,f[i]?=some b->a3 i=β b:=λi b q=>by simp only[a3,mX,q]
 have e1:∀i,K<=i->a3 i=none:=λi q=>by simp only[a3,mX,bO (by rw[a0];exact q)]
 have c7:∀i,i<K->∃b,f[i]?=some b:=λi q=>⟨f[i],aa (by rw[a0];exact q)⟩;have c8:∀i j b,f[i]?=some b->f[j]?=some b->i=j:=λi j b n m=>by exact(qU (by rw[a0];exact b9 i b n) d6).1 (n.trans m.symm)
 have b4:∀{i:Nat}{L:Ob},(e0.mp EO.ob).get i=some L->∃o b r,e0.get i=some o/\o.ob=L/\f[i]?=some b/\h.get b=some (EO.ob r):=λ{i L}q=>by rw[T.hq]at q;cases D:e0.get i with|none=>rw[D]at q;cases q|some o=>rw[D]at q;simp at q;obtain⟨b,a⟩:=c7 i (h0 i o D);obtain⟨o1,r,n,m,_⟩:=b8 i b a;rw[D]at n;cases n;exact⟨o,b,r,A,q,a,b3 _ _ m⟩
 have e3:HR w a3 F (e0.mp EO.ob):=by have H1:=HR.cp N b3 (A:=e0) (r:=λi=>f[i]?) (Z:=λ_=>False) (λi o y=>by obtain⟨b,a⟩:=c7 i (h0 i o y);obtain⟨o1,r,n,m,J⟩:=b8 i b a;rw[y]at n;cases n;exact⟨b,r,a,λh=>h,m,J⟩) c8 (λb h=>h.elim);refine H1.ext (.B (λ_ _ q=>q) λB O=>nr.2 O) N.bd λz o B d c a=>⟨A,?_⟩;obtain⟨B',d',n,m,J⟩:=H1.kB c;rw[a]at n;cases n;exact nr.1 m
 have e4:RL w a3 F vs us.toList:=by have:=W.R N b3 d9;exact⟨this.1,λi v u W hu=>(this.2 i v u W hu).ext (.B (λ_ _ q=>q) λB O=>nr.2 O)⟩
 refine Calls.mono (H.2.2 w a3 F us e3 e4 (λb n _=>e1 b n)) λa4 w' X=>?_;match a4,X with
 |.panicked _,X=>exact X.elim|.outgrown,X=>exact X.elim|.returned u,X=>
  obtain⟨b5,F',e5,s⟩:=X;let Q:Nat->Option (Nat×Nat):=λb=>if t<=b/\b<t+(C-K)then b5 (K+(b-t))else β b;have b':∀i b,f[i]?=some b->¬(t<=b/\b<t+(C-K)):=λi b q a=>by obtain⟨_,o,_,m,_⟩:=b8 i b q;obtain⟨B,d,J,_⟩:=N.kB (b3 _ _ m);have:=c6 b a.1 a.2;rw[this]at J;cases J
  have a5:∀i,i<C->Q (dL f t i)=b5 i:=λi y=>by unfold dL;cases a:f[i]?with|some b=>simp only[Q];rw[I (b' i b a),<-b0 i b a];exact(s.old i (.inl (b9 i b a))).symm|none=>(have:K<=i:=by rw[<-a0];exact dG.1 a);simp only[Q,a0];rw[U G];congr 1;omega
  have e6:∀i j,i<C->j<C->dL f t i=dL f t j->i=j:=λi j y b1 Y=>by
   unfold dL at Y;cases a:f[i]?with
   |some b=>cases a1:f[j]?with|some z=>rw[a,a1]at Y;simp only at Y;subst Y;exact c8 i j b a a1|none=>rw[a,a1]at Y;simp only at Y;(have:K<=j:=by rw[<-a0];exact dG.1 a1);exact absurd ⟨by omega,G⟩ (b' i b a)
   |none=>(have h1:K<=i:=by rw[<-a0];exact dG.1 a);cases a1:f[j]?with|some z=>rw[a,a1]at Y;simp only at Y;exact absurd ⟨by omega,G⟩ (b' j z a1)|none=>(have h2:K<=j:=by rw[<-a0];exact dG.1 a1);rw[a,a1]at Y;simp only at Y;omega
  obtain⟨e7,e8⟩:=vH (c:=f) (d:=t) (e:=a7) C h e6;have a6:Ext w β F w' Q F':=⟨λb x a=>by simp only[Q];split;(.rename_i q;have:=c6 b q.1 q.2;rw[a]at this;cases this);exact a,s.ext.out,s.ext.keep,s.ext.size,s.ext.os,s.ext.tape,s.ext.output,s.ext.FG⟩;have c9:∀b x,mX b5 a' b=some x->Q b=some x:=λb x hx=>by simp only[mX]at hx;split at hx;(.rename_i i y;obtain⟨n,m⟩:=d7 b i y;rw[<-m,a5 i n];exact hx);cases hx
  have e9:R w' Q F' v' u:=(xc s.hr (xd M) d8 e5).ext (.B c9 λB O=>nr.2 O);have c0:∀b,(∀i,i<C->dL f t i≠b)->∀i,f[i]?≠some b:=λb a i q=>by have y:=b9 i b q;refine a i G ?_;simp[dL,q]
  have c':∀b o B d,h.get b=some o->β b=some (B,d)->(∀i,f[i]?≠some b)->B<w.heap.size->w'.heap[B]?=w.heap[B]?:=λb o B d c a E O=>by refine s.keep B O λi r d' e' d1=>?_;obtain⟨o2,z,o3,n,m,J,q4⟩:=b4 e';rw[b0 i z J]at d1;have:=N.inj b z _ _ B d d' c q4 a d1;subst this;exact E i J
  have a8:∀b L,(lX f t a7 C h).get b=some L->(∃i o r,i<C/\dL f t i=b/\M.get i=some o/\Ow M a' (λ_=>False) o r/\EO.ob r=L)\/((∀i,i<C->dL f t i≠b)/\h.get b=some L):=λb L c=>by by_cases X:∃i,i<C/\dL f t i=b;(.obtain⟨i,y,rfl⟩:=X;rw[e7 i y]at c;cases D:a7.get i with|none=>rw[D]at c;cases c|some r=>rw[D]at c;simp at c;obtain⟨o,n,m⟩:=h1 i r D;exact .inl ⟨i,o,r,y,A,n,m,c⟩);have E:∀i,i<C->dL f t i≠b:=λi y a4=>X ⟨i,y,a4⟩;rw[e8 b E]at c;exact .inr ⟨E,c⟩
  have a9:∀{i:Nat}{o:EO},M.get i=some o->(M.mp EO.ob).get i=some o.ob:=λq=>by rw[T.hq,q];rfl
  have d3:∀i o b L B d d',i<C->M.get i=some o->b5 i=some (B,d)->(∀j,j<C->dL f t j≠b)->h.get b=some L->β b=some (B,d')->False:=λi o b L B d d' y D a E c d4=>by rcases s.kB i _ B d (a9 D) a with q|⟨i0,o0,d0,n,m⟩;(.obtain⟨B',d2,p1,_,p3⟩:=N.kB c;rw[d4]at p1;cases p1;omega);obtain⟨o2,z,o3,p1,p2,p3,p4⟩:=b4 n;rw[b0 i0 z p3]at m;have:=N.inj b z _ _ B d' d0 c p4 d4 m;subst this;exact c0 b E i0 p3
  have b6:∀b L,(∀i,i<C->dL f t i≠b)->h.get b=some L->Q b=β b:=λb L E c=>by obtain⟨B,d,q,_⟩:=N.kB c;rw[a6.sub _ _ q,q]
  have f0:HR w' Q F' (lX f t a7 C h):=by
   refine⟨λb l mk c=>?_,λb es c=>?_,λb z o o2 B d d2 S g2 i1 i2=>?_,s.hr.bd,s.hr.gl⟩
   .rcases a8 b _ c with⟨i,o,r,y,rfl,D,c1,a2⟩|⟨E,c⟩
    .cases c1 with
     |m es=>simp[EO.ob]at a2
     |c _ _ l1 l2 f1 n m J q4 q5=>rw[a2]at m;cases m;obtain⟨B,d,c2,a4,fz,S,g2,g3,g4,g5,g6,g7,g8⟩:=s.hr.c i l1 _ (by rw[a9 D,n]);refine⟨B,d,c2,a4,fz,by rw[a5 i y];exact S,g2,g3,⟨by rw[<-J];exact g4.1,λk v u W hu=>?_⟩,by rw[<-J];exact g5,g6,λh=>by rw[<-J];exact g7 h,q5⟩;rw[<-J]at hu;(have hk:k<l1.length:=by rw[J];exact(ba.1 W).1);refine(xc s.hr (xd M) (q4 k _ v (aa hk) W) (g4.2 k _ u (aa hk) hu)).ext (.B c9 λB O=>nr.2 O)
    obtain⟨B,d,c2,a4,fz,S,g2,g3,g4,g5⟩:=N.c b l mk c;exact⟨B,d,c2,a4,fz,a6.sub _ _ S,s.mono B g2,by rw[c' b _ B d c S (c0 b E) (dX g3)];exact g3,g4.ext a6,g5⟩
   (.rcases a8 b _ c with⟨i,o,r,y,rfl,D,c1,a2⟩|⟨E,c⟩;(.cases c1 with|c _ _ l1 l2 f1 n m=>rw[a2]at m;cases m|m f2 hk=>simp only[EO.ob,Ob.m.injEq]at a2;subst a2;obtain⟨B,l,c3,S,g2,g3,g4,g5⟩:=s.hr.m i f2 (by rw[a9 D];rfl);refine⟨B,l,c3,by rw[a5 i y];exact S,g2,g3,g4.free (λ_ q=>q) (jW λv W=>?_),g5.free (λ_ q=>q) (jW λv W=>?_)⟩;(.obtain⟨p,hp,rfl⟩:=aV.1 W;exact(hk p hp).1);obtain⟨p,hp,rfl⟩:=aV.1 W;exact(hk p hp).2);obtain⟨B,l,c3,S,g2,g3,g4,g5⟩:=N.m b es c;exact⟨B,l,c3,a6.sub _ _ S,s.mono B g2,by rw[c' b _ B 0 c S (c0 b E) (dX g3)];exact g3,g4.ext a6,g5.ext a6⟩);rcases a8 b _ S with⟨i,r,_,y,rfl,D,_,a2⟩|⟨E,c⟩;(.rw[a5 i y]at i1;rcases a8 z _ g2 with⟨j,d5,_,b1,rfl,c4,_,f3⟩|⟨b7,b2⟩;(.rw[a5 j b1]at i2;have:=s.hr.inj i j _ _ B d d2 (a9 D) (a9 c4) i1 i2;rw[this]);rw[b6 z _ b7 b2]at i2;exact(d3 i r z _ B d d2 y D i1 b7 b2 i2).elim);rw[b6 b _ E c]at i1;rcases a8 z _ g2 with⟨j,d5,_,b1,rfl,c4,_,f3⟩|⟨b7,b2⟩;(.rw[a5 j b1]at i2;exact(d3 j d5 b _ B d2 d b1 c4 i2 E c i1).elim);rw[b6 z _ b7 b2]at i2;exact N.inj b z _ _ B d d2 c b2 i1 i2
  refine⟨Q,F',e9,a6,f0,G,λb a=>?_,λB O E=>s.keep B O λi o d c a=>?_,s.mono,s.tW,λb o B d c a=>?_⟩;.simp only[Q];rw[I G]
  .obtain⟨o2,z,o3,n,m,J,q4⟩:=b4 c;rw[b0 i z J]at a;exact E z _ d q4 a
  rcases a8 b _ c with⟨i,r,_,y,rfl,D,_,a2⟩|⟨E,c⟩;.rw[a5 i y]at a;rcases s.kB i _ B d (a9 D) a with q|⟨i0,o0,d0,n,m⟩;(.exact .inl q);obtain⟨o2,z,o3,p1,p2,p3,p4⟩:=b4 n;rw[b0 i0 z p3]at m;exact .inr ⟨z,_,d0,p4,m⟩
  rw[b6 b _ E c]at a;exact .inr ⟨b,_,d,c,a⟩
def O.ai8{P:Program}{g d c:Nat}{m j:T EO}{r s:List V}{v n:V}{f:T EO}{e:Nat}{K:KE}(H:Og P g d m r c j v)(a:List Nat)(p q:T EO)(u:a.length=d)(w:a.Nodup)(x:d<=c)(y:∀i o,m.get i=some o->i<d)(z:∀i b,a[i]?=some b->∃o h,m.get i=some o/\f.get b=some h/\Ow f (λi=>a[i]?) (λ_=>False) h o)(A:tI f (λi=>a[i]?) (λ_=>False) s r)(l:Nat->Option Nat)(B:∀i h,p.get i=some h->∃o,j.get i=some o/\Ow j l (λ_=>False) o h)(C:∀b i,l b=some i->i<c/\dL a e i=b)(D:Vw j l (λ_=>False) v n)(E:lY a e p c f=q)(k:K n q (e+(c-d))):O P g s f e K:=⟨H.1,λF t=>⟨n,lX a e p c F,e+(c-d),q,Og.ak0 H a u w x t y z A l B C D,E▸vI c t,k⟩⟩
structure Oo(e j:Nat)(k:T EO)(v:V)(r:V)(d:T EO)(l:Nat):Prop where
 h:∃(a:Nat->Option Nat)(Z:Nat->Prop),Vw d a Z r v/\(∀f g,k.get f=some g->∃b o,a f=some b/\¬Z b/\d.get b=some o/\Ow d a Z o g)/\(∀b i c,a b=some c->a i=some c->b=i)/\(∀b,b<e->a b=some b)/\(∀b c,a b=some c->b<j)/\(∀b,Z b->∃o,d.get b=some o)/\(∀b,b<e->¬Z b/\∃o,d.get b=some o)
def Og.ak1{P:Program}{tt:T TI}(H:VB P tt){g:Nat}{W:Func}{j C:Nat}{D E:T EO}{N:List V}{v:V}(a2:P.funcs[g]?=some W)(z:Nat)(X:max N.length W.ntmps=z)(hn:j<=C)(h0:∀b o,D.get b=some o->b<j/\o.lt j)(a3:gi j N=true)(hk:ra P tt (D.mp EO.ob) D j z W N (Oo j C E v)):Og P g j D N C E v:=by
 obtain⟨he,Y⟩:=ym H a2 X hk (xd D);refine⟨he,hn,λw O F us a1 a4 a5=>Calls.mono (Y w (Ol O j) F us (a1.cut h0) (λb a=>I G) (a4.lt (n:=j) (λb a=>kC a) a3)) λe w' m=>?_⟩;match e,m with
 |.returned u,m=>obtain⟨k,J,r,h',eh,b6,hr,t,a6,f,_,_,a7⟩:=m;obtain⟨p,Z,s1,s2,s3,a8,s5,s6,s7⟩:=a7.h;have s4:∀b,b<j->p b=some b\/p b=none:=λb a=>.inl (a8 b a);have a9:=xc hr t s1 a6;have H1:=HR.cp hr t (A:=E) s2 s3 s6;let l:Nat->Option (Nat×Nat):=λb=>if b<j then O b else if b<C then mX k p b else O b;(have a':∀b,b<j->∀x,mX k p b=some x->O b=some x:=λb a x i=>by rcases s4 b a with q|q;(.simp only[mX,q]at i;rw[f.fix b a]at i;rw[<-i];exact(kC a).symm);simp[mX,q]at i);(have b0:∀b x,mX k p b=some x->l b=some x:=λb x i=>by simp only[l];split;(.rename_i a;exact a' b a x i);(have:b<C:=by simp only[mX]at i;split at i;(.rename_i c Y;exact s5 b c Y);cases i);rw[U this];exact i);have i:Ext w' (mX k p) (less J k Z) w' l (less J k Z):=.B b0 λB y=>y;have b7:=i;have H2:HR w' l (less J k Z) (E.mp EO.ob):=H1.sub i;have b1:∀B,F B->less J k Z B:=λB y=>⟨f.mono B y,by rintro⟨b,d,z1,z2⟩;obtain⟨o,K⟩:=s6 b z1;rcases f.kB b _ B d (t _ _ K) z2 with q|⟨s,o0,Q,L,R⟩;(.have A:w.heap.size<=B:=q;have:=a1.bd B y;omega);have S:s<j:=(kD (R)).1;obtain⟨X,o',b2⟩:=s7 s S;have b3:k s=some (B,Q):=(f.fix s S).trans R;have:=hr.inj b s _ _ B d Q (t _ _ K) (t _ _ b2) z2 b3;subst this;exact X z1⟩;refine⟨l,less J k Z,a9.ext i,⟨λb x a=>?_,λB A h2 h3=>f.out B A h2 h3.1,f.kF,f.size,f.os,f.tape,f.output,f.FG⟩,H2,hn,λb a=>?_,λB y b4=>f.keep B y λb o d M a=>b4 b o d M (kD a).2,b1,λB h=>f.tW B h.1,λb o B d M a=>?_⟩;(.simp only[l];split;(.exact a);split;(.have:=a5 b G (by assumption);rw[a]at this;cases this);exact a);(.simp only[l];split;(.rfl);rw[I G]);rw[T.hq]at M;cases K:E.get b with|none=>rw[K]at M;cases M|some o2=>obtain⟨c,o3,L,_,R,q3⟩:=s2 b o2 K;(have b5:k c=some (B,d):=by have S:=s5 b c L;(have:mX k p b=some (B,d):=by simp only[l]at a;split at a;(.rename_i a0;rcases s4 b a0 with q|q;(.simp only[mX,q];rw[f.fix b a0];exact(kC a0).trans a);rw[q]at L;cases L);first|exact a|(rw[U S]at a;exact a));simpa[mX,L]using this);rcases f.kB c _ B d (t _ _ R) b5 with A|⟨s,o0,Q,A,h2⟩;(.exact .inl A);exact .inr ⟨s,o0,Q,A,(kD h2).2⟩
 |.panicked _,m=>exact m.elim|.outgrown,m=>exact m.elim
def T.ia{a:Type}:∀(t:T a)(k:Nat)(v:a),t.get k=some v->t.put k (some v)=t
|.e,k,v,h=>by simp at h
|.n l o r,0,v,h=>by have h:o=some v:=h;simp[T.put,h]|.n l o r,k+1,v,h=>by simp only[T.get]at h;simp only[T.put];cases b:Nat.beq (k%2) 0 with|true=>rw[b]at h;simp only at h|-;rw[T.ia l _ v h]|false=>rw[b]at h;simp only at h|-;rw[T.ia r _ v h]
def Oq(n i:Nat):Option Nat:=if i<n then some i else none
mutual
def Rb(n:Nat):V->Bool|.p b _=>Nat.blt b n|.Z b _ _ _ _=>Nat.blt b n|.f _ x y=>zL n x&&zL n y|v=>ee v
def zL(n:Nat):List V->Bool|[]=>true|v::l=>Rb n v&&zL n l
end
mutual
def Vw.agY{h:T EO}{Z:Nat->Prop}{n:Nat}{e:Nat->Option Nat}(d:∀i,i<n->e i=some i):∀v:V,Rb n v=true->Vw h e Z v v
|.b x,_=>.B _ A|.i k x,_=>.B _ A|.s x,_=>.B _ A|.np,_=>.B _ A|.E,_=>.B _ A|.nm,_=>.B _ A|.nf,_=>.B _ A|.zK,_=>.B _ A|.es,_=>.B _ A|.x,_=>.B _ A|.j,_=>.B _ A|.p b o,a=>.p b b o (d b (by simpa[Rb]using a))|.Z b o m c x,a=>.Z b b o m c x (d b (by simpa[Rb]using a))|.m b,a=>by simp[Rb,ee]at a
|.f g x y,a=>by simp only[Rb,aA]at a;exact .f g x x y y A (Xc d x a.1) A (Xc d y a.2)|.agg l,a=>.B _ (by simpa[Rb]using a)|.ey l,a=>.B _ (by simpa[Rb]using a)|.ip l,a=>.B _ (by simpa[Rb]using a)|.Q n l,a=>.B _ (by simpa[Rb]using a)
def Xc{h:T EO}{Z:Nat->Prop}{n:Nat}{f:Nat->Option Nat}(g:∀i,i<n->f i=some i):∀l:List V,zL n l=true->∀(i:Nat)v b,l[i]?=some v->l[i]?=some b->Vw h f Z v b
|[],_,i,v,b,c,_=>by simp at c
|a::l,d,0,v,b,c,e=>by simp only[zL,aA]at d;simp at c e;subst c e;exact Vw.agY g a d.1|a::l,d,i+1,v,b,c,e=>by simp only[zL,aA]at d;exact Xc g l d.2 i v b (by simpa using c) (by simpa using e)
end
def tI.ids{h:T EO}{Z:Nat->Prop}{n:Nat}{c:Nat->Option Nat}(d:∀i,i<n->c i=some i):∀l:List V,zL n l=true->tI h c Z l l|[],_=>.nil|a::l,b=>by simp only[zL,aA]at b;exact .cons (Vw.agY d a b.1) (tI.ids d l b.2)
def EO.adx(n:Nat):EO->Prop|.c l=>zL n l=true/\l.all V.one=true|.y l _=>zL n l=true/\l.all V.one=true|.m _=>False
def Ow.agY{h:T EO}{Z:Nat->Prop}{n:Nat}{c:Nat->Option Nat}(d:∀i,i<n->c i=some i):∀{o:EO},o.adx n->Ow h c Z o o|.c l,a=>.c _ _ l l false A A A (Xc d l a.1) (λv b=>aU.1 a.2 v b)|.y l mk,a=>.c _ _ l l mk A A A (Xc d l a.1) (λv b=>aU.1 a.2 v b)
def TP(n i b:Nat)(h:(List.range n)[i]?=some b):i=b/\i<n:=by rw[ba]at h;obtain⟨a,c⟩:=h;simp at a c;exact⟨c,a⟩
def Dq{n i:Nat}(h:i<n):(List.range n)[i]?=some i:=by rw[aa (by simpa using h)];simp
def Li{n b:Nat}{e a:T EO}:∀k,k<=n->(∀i,i<k->∃o,e.get i=some o/\a.get i=some o)->lY (List.range n) b e k a=a|0,_,_=>A|k+1,f,h=>by obtain⟨o,c,d⟩:=h k G;rw[lY,Li k G (λi g=>h i G),c];(have:dL (List.range n) b k=k:=by simp[dL,Dq (show k<n by omega)]);rw[this];exact T.ia _ _ _ d
def O.Rc{P:Program}{g a:Nat}{e:T EO}{f:List V}{v:V}{j:T EO}{m:Nat}{K:KE}(H:Og P g a e f a e v)(s:ee v=true)(l:∀i o,e.get i=some o->i<a/\o.adx a)(p:∀i,i<a->∃o,e.get i=some o/\j.get i=some o)(t:zL a f=true)(k:K v j m):O P g f j m K:=by
 have q:∀i,i<a->(λi=>(List.range a)[i]?) i=some i:=λi c=>Dq c;refine O.ai8 H (List.range a) e j aS List.nodup_range (af _) (λi o h=>(l i o h).1) (λi b d=>?_) (tI.ids q f t) (Oq a) (λi o h=>⟨o,h,Ow.agY (n:=a) (λi c=>by simp[Oq,c]) (l i o h).2⟩) (λb i d=>?_) (.B _ s) (Li a (af _) p) (by rw[fN];exact k);.obtain⟨rfl,c⟩:=TP _ _ _ d;obtain⟨o,r,u⟩:=p i c;exact⟨o,o,r,u,Ow.agY q (l i o r).2⟩
 simp only[Oq]at d;split at d;.cases d;rename_i c;exact⟨c,by simp[dL,Dq c]⟩
 cases d
section
class oi(v:V):Prop where
 h:ee v=true
class mz(l:List V):Prop where
 h:bp l=true
class rb(l:List V):Prop where
 h:l.all V.one=true
def Lj:∀{a b:List V},bp a=true->bp b=true->bp (a++b)=true|[],b,_,h=>h|v::a,b,h,c=>by simp only[bp,aA,bE]at h|-;exact⟨h.1,Lj h.2 c⟩
instance:mz []:=⟨A⟩
instance{v:V}{l:List V} [a:oi v] [b:mz l]:mz (v::l):=⟨by simp only[bp,a.h,b.h,cQ]⟩
instance{a b:List V} [x:mz a] [y:mz b]:mz (a++b):=⟨Lj x.h y.h⟩
instance{n:Nat}{l:List V} [a:mz l]:oi (.Q n l):=⟨a.h⟩
instance{l:List V} [a:mz l]:oi (.agg l):=⟨a.h⟩
instance{b:Bool}:oi (.b b):=⟨A⟩
instance{k:IntKind}{n:Int}:oi (.i k n):=⟨A⟩
instance{s:List Nat}:oi (.s s):=⟨A⟩
instance:oi .E:=⟨A⟩
instance{a b:List V} [x:rb a] [y:rb b]:rb (a++b):=⟨by rw[fT,x.h,y.h];rfl⟩
def Ot{p:Prop}(h:p:=by first|rfl|exact oi.h|exact mz.h|exact rb.h|fail):p:=h
def aX{p:Prop}(h:p:=by first|rfl|omega|(simp;done)|(simp only[aj];omega)|(simp;omega)):p:=h
variable{f:FJ}{s:ES}{σ:Nat->Option Nat}{Z:Nat->Prop}
def Vw.sle{h:T EO}{b a o n d c c2:Nat}{x:Option Nat}(g:σ a=some b)(e:n=d:=by first|exact aX|fail)(i:c=c2:=by first|exact aX|fail):Vw h σ Z (.Z b o n c x) (.Z a o d c2 x):=by subst e i;exact .Z _ _ _ _ _ _ g
def ahv{a:T EO}{v c:V}(h:Vw a σ Z v c:=by first|exact .B _ A|exact .Z _ _ _ _ _ _ A|exact .B _ oi.h|exact .j _ A (λb q=>by cases q)|fail):Vw a σ Z v c:=h
def ai9{l:List (Nat×V)}(h:TO s σ Z l:=by(repeat' first|exact .B _ A|exact .p _ _ _ A|exact .Z _ _ _ _ _ _ A|exact .B _ oi.h|exact True.intro|refine⟨?_,?_⟩|exact VD aX|exact zM aX|exact .sle A|exact rI A|exact ajB A A|exact ajC A|exact ajD A A|exact TQ A A|exact ak2 A);done):TO s σ Z l:=h
def agZ{l:List (Nat×EO)}(h:abi s σ Z l:=by(repeat' first|exact cE A A|exact cE Ot Ot|exact dQ A Ot Ot|exact True.intro|refine⟨?_,?_⟩|exact mA A (by assumption)|exact ag0 A|exact Dr A|exact Ah (.Z _ _ _ _ _ _ A) (.B _ A) (.B _ A) A A A|exact Ou ahv ahv A A|exact Ah ahv ahv ahv A A A|exact dQ (by simp) Ot Ot|exact dQ (by simp only[aM,bP,cX,ej,gI,ak,aI];rfl) Ot Ot);done):abi s σ Z l:=h
def Sm.a{S:SL}(σ:List (Nat×Nat))(a:Af f.n S.nx s.h (f.h.FX (GH f.n s.h [])) σ []=true:=by rfl)(h:TO s (lr σ) (·∈[]) S.L:=by first|exact ai9|fail)(b:abi s (lr σ) (·∈[]) S.H:=by first|exact agZ|fail):Sm f s S:=⟨σ,[],a,h,b⟩
def cr.a{c:Type}{I:c->Prop}{d:c->Nat}{S:c->SL}{a:c}(b:c)(e:I b)(σ:List (Nat×Nat))(g:d b<d a:=by first|exact aN|fail)(i:Af f.n (S b).nx s.h (f.h.FX (GH f.n s.h [])) σ []=true:=by rfl)(h:TO s (lr σ) (·∈[]) (S b).L:=by first|exact ai9|fail)(j:abi s (lr σ) (·∈[]) (S b).H:=by first|exact agZ|fail):cr f I d S a s:=⟨b,e,g,σ,[],i,h,j⟩
def D.bk{p A B:Prop}(a:p->A)(b:¬p->B):D p A B:=⟨a,b⟩
def D.y{p A B:Prop}(a:A)(h:p:=by first|omega|decide|assumption):D p A B:=.yes h a
def D.n{p A B:Prop}(b:B)(h:¬p:=by first|omega|decide|assumption):D p A B:=.no h b
def Mem{a:Type}(l:List a):Prop:=l=l
def oM{a:Type}{l:List a}(h:Mem l):List a:=l
end
end Go.Ev
