/- TopRewrites: a part of the proof. -/
import Derived.Deep.DeepAppendWide
import Derived.Deep.MidRow
import Derived.Defers
import Derived.Laws.IdiomStrings
import Derived.Lib.AppendZeros
import Derived.Orders
import Derived.Room.AppendAny
import Derived.Scope
import Derived.Test.YtcimkkmkiedobaaGreatDoorM4
set_option maxRecDepth 100000
set_option maxHeartbeats 32000000
set_option linter.all false
namespace Go.Ev
section
variable{P:Program}{w:World}{β:Nat->Option (Nat×Nat)}{F:Nat->Prop}{h:Hp}
def oh{B:Nat}{b:Array Value}{e:TypeId}{c:Nat×Nat}(d:w.heap[B]?=some (.cells b e c))(o n:Nat):w.rangeAt B o ((b.toList.drop o).take n):=by intro j v a;simp only[cT,dj]at a;split at a;(.simp only[World.cell?,d];simpa using a);cases a
def HR.own(H:HR w β F h){b o n:Nat}{l:List V}{mk:Bool}(f:h.get b=some (.c l mk)){x:List V}(g:cM l o n=some x):∃B d a,β b=some (B,d)/\F B/\RL w β F x a/\w.rangeAt B (d+o) a/\a.length=n/\(∀v∈x,v.one=true):=by obtain⟨B,d,c,e,s,i,j,k,m,t,u,y,p⟩:=H.c b l mk f;obtain⟨rfl,z⟩:=iz g;refine⟨B,d,(c.toList.drop (d+o)).take n,i,j,?_,oh k _ _,aN,λv q=>p v (xY q)⟩;have:=(m.drop o).take n;(have r:(((c.toList.drop d).take l.length).drop o).take n=(c.toList.drop (d+o)).take n:=by rw[eE,fK,hE];congr 1;omega);rwa[r]at this
def Tq{ty:TypeId}(a:lb P ty=some true):∃d,P.underlying ty=some d/\d.isRow=true:=by unfold lb at a;split at a<;>first|exact⟨_,‹_›,A⟩|simp at a
def Wk{ty:TypeId}{z B o:Nat}{l:List V}{b:List Value}{k:Nat}{v:V}(m:od P ty=some z)(n:iG (lb P ty) z l k=some v)(f:RL w β F l b)(p:∀v∈l,v.one=true)(g:w.rangeAt B o b):∃r,(Instr.loadAt ty (.pointer (some ⟨B,o+k,none⟩))).run P w=.ok r w/\R w β F v r:=by rcases Qx (t:=ty) n f p with⟨c,A,e⟩|⟨c,u,q,e⟩;(.obtain⟨d,s,x⟩:=Tq c;obtain⟨i,y,rfl⟩:=lU m;refine⟨_,run_loadAt_mid w B (o+k) ty ((b.drop k).take i.size) d (λj u a=>?_) s x ?_,e⟩;(.simp only[cT,dj]at a;split at a;(.have:=g _ _ a;rw[show o+k+j=o+(k+j)by omega];exact this);cases a);have:=f.1;simp[y];omega);refine⟨u,?_,e⟩;have:=g _ _ q;simp only[Instr.loadAt,Instr.sureAddr,Sem.run_bind,Sem.run_pure,Result.andThen_ok,loadVar,run_isAgg c];simp[this]
def Qz(H:HR w β F h){ty:TypeId}{x v:V}{u:Value}(a:xS P h ty x=some v)(g:R w β F x u):∃r,(Instr.loadAt ty u).run P w=.ok r w/\R w β F v r:=by
 unfold xS at a;split at a;.rename_i b c z f;cases g with|p b c i d n=>split at a;(.rename_i l mk p;obtain⟨G,I,J,e,K,m,L,q,s,M,N,O,t⟩:=H.c _ _ _ p;rw[n]at m;cases m;exact Wk f a s t (oh q _ _));cases a
 .rename_i l z f;cases g with|ip l i c Q S T y A C D=>have:=Wk (B:=i) (o:=c) (k:=0) f a ⟨y,C⟩ D (λj u E=>A j u E);simpa using this
 cases a
def QA{kd r:Bool}{x y:V}{u g:Value}{j:TypeId}(h:Vz kd x y=some r)(e:R w β F x u)(f:R w β F y g)(c:tF P j=some kd):∃d,P.underlying j=some d/\Instr.sameNow d u g=some r/\Instr.sameBits 10000 u g=r:=by
 unfold tF at c;unfold Vz at h;split at h;.split at h;(.rename_i k a n b m;have:=eZ m;subst this;cases e;cases f;cases h;split at c<;>cases c;rename_i o i;exact⟨_,i,by simp[Instr.sameNow,sI],by simp[Instr.sameBits,sI]⟩);cases h
 .cases e with|s a l e=>cases f with|s b p f=>cases h;split at c<;>cases c;rename_i i;subst e f;refine⟨_,i,?_,?_⟩;(.simp only[Instr.sameNow,xX];rw[beq_toListBytes,ByteArray.toList_eq,ByteArray.toList_eq]);simp only[Instr.sameBits,xX];rw[beq_toListBytes,ByteArray.toList_eq,ByteArray.toList_eq]
 cases h
def RE(w:World)(β:Nat->Option (Nat×Nat))(F:Nat->Prop)(es:List (V×V))(l:List MapEntry):Prop:=RL w β F (es.map (·.1)) (l.map (·.key))/\RL w β F (es.map (·.2)) (l.map (·.val))
def RL.tail{v:V}{l:List V}{u:Value}{c:List Value}(h:RL w β F (v::l) (u::c)):RL w β F l c:=⟨by have:=h.1;simpa using this,λi a b d e=>h.2 (i+1) a b (by simpa using d) (by simpa using e)⟩
def RE.cons_inv{k v:V}{es:List (V×V)}{l:List MapEntry}(h:RE w β F ((k,v)::es) l):∃e r,l=e::r/\R w β F k e.key/\R w β F v e.val/\RE w β F es r:=by
 cases l with
 |nil=>have:=h.1.1;simp at this
 |cons e r=>exact⟨e,r,A,h.1.2 0 _ _ A A,h.2.2 0 _ _ A A,h.1.tail,h.2.tail⟩
def QB{kd:Bool}{f:TypeId}{x:V}{u:Value}(a:tF P f=some kd)(g:R w β F x u):∀(es:List (V×V))(l:List MapEntry)(r:Option V)(i:Nat),xU kd es x=some r->RE w β F es l->∃d,P.underlying f=some d/\∃c,Instr.findNow d u l i=some c/\((r=none/\c=none)\/∃v j p,r=some v/\c=some (j,p)/\R w β F v p)
|[],l,r,i,h,m=>by
 have:l=[]:=by have:=m.1.1;simpa using this.symm
 subst this;simp only[xU,bB]at h;subst h;have:∃d,P.underlying f=some d:=by unfold tF at a;split at a<;>first|exact⟨_,‹_›⟩|cases a
 obtain⟨d,b⟩:=this;exact⟨d,b,none,A,.inl ⟨A,A⟩⟩|(k,v)::es,l,r,i,h,m=>by
 obtain⟨e,l,rfl,q,t,y⟩:=m.cons_inv;simp only[xU]at h;split at h;.rename_i n;cases h;obtain⟨d,b,o,_⟩:=QA n g q a;exact⟨d,b,some (i,e.val),by simp only[Instr.findNow,o],.inr ⟨v,i,e.val,A,A,t⟩⟩
 .rename_i n;obtain⟨d,b,o,_⟩:=QA n g q a;obtain⟨C,s,c,z,B⟩:=QB a g es l r (i+1) h y;rw[b]at s;cases s;exact⟨d,b,c,by simp only[Instr.findNow,o];exact z,B⟩
 cases h
def Bg{b:TypeId}{kd:Bool}{c:Bool}{n:Nat}{u:Value}(a:tF P b=some kd):(Instr.checkKey c (n+1) b u).run P w=.ok () w:=by unfold tF at a;split at a<;>cases a<;>rename_i d<;>simp[Instr.checkKey,run_underlying d]
def QC{d b:Bool}{v:V}{u:Value}(h:R w β F v u):R w β F (Qs d v b) (if d then .tuple #[u,.bool b]else u):=by cases d;(.exact h);refine .ey _ _ A λi x y a c=>?_;match i with|0=>simp at a c;subst a c;exact h|1=>simp at a c;subst a c;exact .b _|(i+2)=>simp at a
def run_getMap{B a:Nat}{l:Array MapEntry}(h:w.heap[B]?=some (.map l a)):(getObj B).run P w=.ok (.map l a) w:=by simp[getObj,Sem.run,h]
def Tr(H:HR w β F h){ty:TypeId}{o:Bool}{x k v:V}{u m:Value}(a:xV P h ty o x k=some v)(C:R w β F x u)(N:R w β F k m):∃r,(Instr.lookup ty u m o).run P w=.ok r w/\R w β F v r:=by
 unfold xV at a;split at a
 .rename_i s e p;split at a
  .rename_i kd z es D O b;obtain⟨a0,E,G,I,Q,a1⟩:=hX (w:=w) (β:=β) (F:=F) O;have tail:∀l:List MapEntry,RE w β F es l->∃c,(Instr.findKey s m l).run P w=.ok c w/\((c=none/\R w β F v (if o then .tuple #[E,.bool false]else E))\/∃j f,c=some (j,f)/\R w β F v (if o then .tuple #[f,.bool true]else f)):=by
    intro l S;unfold NQ at a;cases t:xU kd es k with
    |none=>simp[t]at a
    |some r=>obtain⟨d,T,c,U,g⟩:=QB D N es l r 0 t S;(have J:(Instr.findKey s m l).run P w=.ok c w:=by simp[Instr.findKey,run_underlying T,U]);rw[t]at a;rcases g with⟨rfl,rfl⟩|⟨v',j,f,rfl,rfl,W⟩;(.simp only[bB]at a;subst a;exact⟨_,J,.inl ⟨A,QC Q⟩⟩);simp only[bB]at a;subst a;exact⟨_,J,.inr ⟨j,f,A,QC W⟩⟩
   have q:∀K:Bool,(Instr.checkKey K 10000 s m).run P w=.ok () w:=λK=>Bg (n:=9999) D;unfold Iq at b;split at b;(.cases C;cases b;obtain⟨c,g,y⟩:=tail [] ⟨RL.nil,RL.nil⟩;rcases y with⟨rfl,i⟩|⟨j,f,rfl,i⟩;(.refine⟨_,?_,i⟩;simp only[Instr.lookup,Sem.run_bind,run_underlying p,Result.andThen_ok,Sem.run_pure,q,g,run_zero G I]);refine⟨_,?_,i⟩;simp only[Instr.lookup,Sem.run_bind,run_underlying p,Result.andThen_ok,Sem.run_pure,q,g]);(.cases C with|m r B X=>split at b;(.rename_i a2 Y;cases b;obtain⟨B',l,a3,L,g2,M,Z,g5⟩:=H.m _ _ Y;rw[X]at L;cases L;obtain⟨c,g,y⟩:=tail l.toList ⟨Z,g5⟩;rcases y with⟨rfl,i⟩|⟨j,f,rfl,i⟩;(.refine⟨_,?_,i⟩;simp only[Instr.lookup,Sem.run_bind,run_underlying p,Result.andThen_ok,run_getMap M,Sem.run_pure,q,g,run_zero G I]);refine⟨_,?_,i⟩;simp only[Instr.lookup,Sem.run_bind,run_underlying p,Result.andThen_ok,run_getMap M,Sem.run_pure,q,g]);cases b);cases b
  cases a
 cases a
def aaz(H:HR w β F h){ty d:TypeId}{b:Array TypeId}{x v:V}{u:Value}(a:VO P h ty x=some v)(e:R w β F x u)(ht:b[0]?=some ty):∃r,(Builtin.len_ b d #[u]).run P w=.ok r w/\R w β F v r:=by unfold VO at a;split at a;(.rename_i r f;cases e with|m r B g=>split at a;(.rename_i es i;cases a;obtain⟨m,l,n,c,o,j,k,p⟩:=H.m _ _ i;rw[g]at c;cases c;refine⟨.int .i64 (l.size:Int),by simp[Builtin.len_,ht,run_underlying f,goInt,run_getMap j],?_⟩;have:=k.1;simp at this;rw[this];exact .i _ _);cases a);cases a
def Gv:∀(l:List V)(s:List Nat)(a:List Value),bytesOf l=some s->RL w β F l a->∃d:List UInt8,d.map UInt8.toNat=s/\a=d.map λb=>.int .u8 (b.toNat:Int)
|[],s,a,h,c=>by simp only[bytesOf,bB]at h;subst h;(have:a=[]:=by have:=c.1;simpa using this.symm);subst this;exact⟨[],A,A⟩|v::l,s,a,h,c=>by
 unfold bytesOf at h;split at h;.rename_i f;cases f
 .rename_i n o f;cases f;split at h
  .rename_i r g i;cases h;cases a with
   |nil=>have:=c.1;simp at this
   |cons u a=>obtain⟨d,j,k⟩:=Gv l r a i c.tail;have m:=c.2 0 _ _ A A;cases m;(have g:n<256:=by simpa[eW]using g);(have e:(UInt8.ofNat n).toNat=n:=by simp;omega);exact⟨UInt8.ofNat n::d,by simp[j];omega,by rw[aw,e,k];rfl⟩
  cases h
 cases h
def Wl(H:HR w β F h){m p:TypeId}{x v:V}{u:Value}(g:Ir P h m p x=some v)(t:R w β F x u):∃r,(convert m p u).run P w=.ok r w/\R w β F v r:=by
 unfold Ir at g;split at g
 .rename_i e D E;split at g
  .rename_i G;unfold aeq at g;cases f:byteCells h x with
   |none=>simp[f]at g
   |some l=>
    cases k:bytesOf l with
    |none=>simp[f,k]at g
    |some s=>simp only[f,k,bB]at g;subst g;(have I:∀(a:Option Addr)(c:Nat),(convert m p (.slice a 0 c)).run P w=.ok (.string ByteArray.empty) w:=by intro a c;rw[run_convert_bytes_string w m p e a 0 c E G D];cases a with|none=>simp[Conv.bytesToString]|some a=>simp[Conv.bytesToString,loadCells,loadCellsFrom]);(have J:∀(B o c n:Nat)(i:List Value),RL w β F l i->w.rangeAt B o i->i.length=n->∃r,(convert m p (.slice (some ⟨B,o,none⟩) n c)).run P w=.ok r w/\R w β F (.s s) r:=by intro B o c n i M N q;obtain⟨O,z,rfl⟩:=Gv l s i k M;simp at q;subst q;refine⟨_,run_convert_bytes_back w m p e ⟨B,o,none⟩ c O E G D (λj C=>?_),.s _ _ (by simpa using z)⟩;rw[ho];exact N j _ (by simp[aa C]));unfold byteCells at f;split at f;(.cases t;cases f;simp only[bytesOf,bB]at k;subst k;exact⟨_,I none 0,.s _ _ A⟩);(.rename_i b o n c y;cases t with|Z b o n c x B d Y Q q Z t hz=>unfold qp at f;split at f;(.rename_i L mk S;obtain⟨B',d',i,K,g2,T,U,W,g6⟩:=H.own S f;rw[Q]at K;cases K;exact J B _ _ n i T U W);cases f);(.rename_i n L;split at f;(.rename_i q;cases f;cases t with|is0 a c a0=>simp only[bytesOf,bB]at k;subst k;exact⟨_,I a c,.s _ _ A⟩|Q n L c B o a1 hF hB i z f X h3=>exact J B o c n i ⟨z,X⟩ (λj u C=>f j u C) (by rw[<-z];exact Nat.hY q));cases f);cases f
  cases g
 cases g
def adq(H:HR w β F h){t:T V}{a:Act}{o:Oper}{v:V}(ht:OR w β F t a.eval o.op.operands.toList)(b:NR P t h o.op=some v):∃u,(execOp a.eval o).run P w=.ok (.value u) w/\R w β F v u:=by
 obtain⟨s,op,k,pos,z,guard⟩:=o;simp only at b;unfold NR at b;split at b;.obtain⟨g,d,b⟩:=jj b;obtain⟨r,e,c⟩:=Qz H b (ht _ (by simp[Op.operands]) _ d);exact⟨r,by simp[execOp,e],c⟩
 .obtain⟨g,B,d,f,b⟩:=sJ b;obtain⟨r,e,c⟩:=Tr H b (ht _ (by simp[Op.operands]) _ d) (ht _ (by simp[Op.operands]) _ f);exact⟨r,by simp[execOp,e],c⟩
 .obtain⟨g,d,b⟩:=jj b;obtain⟨r,e,c⟩:=Wl H b (ht _ (by simp[Op.operands]) _ d);exact⟨r,by simp[execOp,e],c⟩
 .rename_i i C;unfold sE at b;split at b;(.rename_i ty r x l m;have j:=px (ht.sub λy f=>by simp[Op.operands,Call.operands];simpa using f) m;have n:=j.1;simp at n;obtain⟨y,f⟩:=fL.1 (show i.toList.length=1 by simp;omega);(have p:i=#[y]:=by apply lP;rw[f]);subst p;obtain⟨u,q,c⟩:=aaz (P:=P) (d:=k) H b (j.2 0 x (a.eval y) A A) (by rw[<-ev,l];rfl);exact⟨u,by simp[execOp,resolve,invoke,builtin,q],c⟩);cases b
 cases b
end
section
variable{P:Program}{w:World}{β:Nat->Option (Nat×Nat)}{F:Nat->Prop}{h:Hp}
def OC(w:World)(β:Nat->Option (Nat×Nat))(F:Nat->Prop)(B d:Nat):Ob->Prop|.c l mk=>∃(a:Array Value)(e:TypeId)(b:Nat×Nat),w.heap[B]?=some (.cells a e b)/\RL w β F l ((a.toList.drop d).take l.length)/\d+l.length<=a.size/\(mk=false->b=(0,0))/\(mk=true->d+l.length<=b.1)/\∀v∈l,v.one=true|.m es=>d=0/\∃(c:Array MapEntry)(f:Nat),w.heap[B]?=some (.map c f)/\RE w β F es c.toList
def OC.ext{a:World}{i:Nat->Option (Nat×Nat)}{j:Nat->Prop}{B d:Nat}{o:Ob}(k:OC w β F B d o)(b:Ext w β F a i j)(m:a.heap[B]?=w.heap[B]?):OC a i j B d o:=by cases o with|c l mk=>obtain⟨n,e,p,c,f,g⟩:=k;exact⟨n,e,p,m.trans c,f.ext b,g⟩|m es=>obtain⟨q,r,s,c,f,g⟩:=k;exact⟨q,r,s,m.trans c,f.ext b,g.ext b⟩
def OC.lt{B d:Nat}{o:Ob}(b:OC w β F B d o):B<w.heap.size:=by cases o with|c l mk=>obtain⟨c,e,f,a,_⟩:=b;exact dX a|m es=>obtain⟨g,i,j,a,_⟩:=b;exact dX a
def HR.oc(H:HR w β F h){b:Nat}{o:Ob}(j:h.get b=some o):∃B d,β b=some (B,d)/\F B/\OC w β F B d o:=by cases o with|c l mk=>obtain⟨B,d,k,e,m,a,c,f,g,i⟩:=H.c b l mk j;exact⟨B,d,a,c,k,e,m,f,g,i⟩|m es=>obtain⟨B,n,p,a,c,f,g,i⟩:=H.m b es j;exact⟨B,0,a,c,A,n,p,f,g,i⟩
def HR.put{f:World}{j:Nat->Option (Nat×Nat)}{c:Nat->Prop}(H:HR w β F h)(x:Ext w β F f j c)(y:∀B,c B->B<f.heap.size)(b:Nat)(o:Ob){B d:Nat}(g:j b=some (B,d))(t:c B)(u:OC f j c B d o)(z:∀a o B,a≠b->h.get a=some o->(∃d,β a=some (B,d))->f.heap[B]?=w.heap[B]?/\c B)(A:∀a k m,a≠b->h.get a=some k->β a=some (B,m)->False):HR f j c (h.set b o):=by
 refine H.aki x y b (some o) (λa o B d n p g=>z a o B n p ⟨d,g⟩) ?_ ?_ ?_;.rintro l mk q;cases q;obtain⟨C,e,D,r,i,s⟩:=u;exact⟨B,d,C,e,D,g,t,r,i,s⟩
 .rintro es q;cases q;obtain⟨rfl,E,G,r,i,s⟩:=u;exact⟨B,E,G,g,t,r,i,s⟩
 rintro I J K _ v a k m n p i;rw[g]at v;cases v;exact A a k m n p i
structure FH(w:World)(a:World)(o:Obj):Prop where
 heap:a.heap=w.heap.push o
 os:a.os=w.os
 tape:a.tape=w.tape
 output:a.output=w.output
def FH.alloc(w:World)(o:Obj):FH w (w.alloc o) o:=⟨A,A,A,A⟩
def FH.get{a:World}{o:Obj}(n:FH w a o):a.heap[w.heap.size]?=some o:=by rw[n.heap];simp
def FH.ext{a:World}{o:Obj}(n:FH w a o){b:Nat}(c:β b=none):Ext w β F a (ub β b (w.heap.size,0)) (uF F w.heap.size):=Ext.push o n.heap n.os n.tape n.output (Dc c _)
def KS(P:Program)(w:World)(β:Nat->Option (Nat×Nat))(F:Nat->Prop)(b:Nat)(s:Sem Value)(c:Ob)(mk:Mk):Prop:=∃u a o,s.run P w=.ok u a/\FH w a o/\OC a (ub β b (w.heap.size,0)) (uF F w.heap.size) w.heap.size 0 c/\R a (ub β b (w.heap.size,0)) (uF F w.heap.size) (mk.at b) u
def Df{b:World}{c:Nat->Option (Nat×Nat)}{d:Nat->Prop}{B:Nat}{a:Array Value}{e:TypeId}{l:List V}(g:b.heap[B]?=some (.cells a e (0,0)))(f:RL b c d l a.toList)(i:∀v∈l,v.one=true):OC b c d B 0 (.c l false):=by (have j:l.length=a.size:=by simpa using f.1);refine⟨a,e,(0,0),g,?_,G,λ_=>A,λh=>by simp at h,i⟩;rw[fM,j,bq aS];exact f
def Wm{b:Nat}(f:β b=none){x:Option V}{e:TypeId}{u:Value}{a:Ob}{mk:Mk}(h:NS x=some (a,mk))(g:∀v,x=some v->R w β F v u):KS P w β F b (Instr.box e u) a mk:=by unfold NS at h;split at h;(.rename_i v;split at h;(.rename_i c;cases h;have d:=g v A;have n:=FH.alloc w (.cells u.cells e);refine⟨.pointer (some ⟨w.heap.size,0,none⟩),_,_,?_,n,Df n.get ((d.mv c).ext (n.ext f)) (ji d c),?_⟩;(.simp[Instr.box,newVar,newRow]);exact .p b 0 _ 0 (gR β b _));cases h);cases h
def Wn{b:Nat}(g:β b=none){a:TypeId}{d:Ob}{mk:Mk}(h:Is P a=some (d,mk)):KS P w β F b (Instr.alloc a true (.tuple #[])) d mk:=by
 unfold Is at h;cases c:zeroOf P a with
 |none=>rw[c]at h;simp[NS]at h
 |some v=>obtain⟨i,z,j,k,l,r⟩:=hX (w:=w) (β:=β) (F:=F) c;obtain⟨m,n,o,p,q⟩:=Wm (P:=P) (e:=a) (u:=z) g h (λs f=>by rw[c]at f;cases f;exact l);refine⟨m,n,o,?_,q⟩;simp only[Instr.alloc,Sem.run_bind,run_zero j k,Result.andThen_ok];exact p
def sK(z:List V):∀n,(rep n z).length=n*z.length|0=>by simp[rep]|n+1=>by simp[rep,sK z n,cc,mN]
def QD(z:List V):∀(n i:Nat),i<n*z.length->(rep n z)[i]?=z[i%z.length]?
|0,i,h=>by simp at h
|n+1,i,h=>by simp only[rep];by_cases a:i<z.length;(.rw[cb a,Nat.mod_eq_of_lt a]);have b:z.length<=i:=G;rw[bU b,QD z n (i-z.length) (by rw[cc]at h;omega)];congr 1;exact(Nat.mod_eq_sub_mod b).symm
def uv{z:List V}(a:∀v∈z,v.one=true):∀n,∀v∈rep n z,v.one=true
|0,v,h=>by simp[rep]at h
|n+1,v,h=>by simp only[rep,aZ]at h;rcases h with h|h;(.exact a v h);exact uv a n v h
def QE{z:List V}{a:Array Value}(h:RL w β F z a.toList)(n:Nat):RL w β F (rep n z) ((List.range (n*a.size)).map λi=>a[i%a.size]!):=by
 have b:z.length=a.size:=by simpa using h.1
 refine⟨by simp[sK,b],λi v u c f=>?_⟩;have d:i<n*a.size:=by have:=(ba.1 c).1;rw[sK,b]at this;exact this
 rw[QD z n i (by rw[b];exact d),b]at c;simp only[ck,List.getElem?_range d,eG,bB]at f;subst f;have g:i%a.size<a.size:=FE _ (by rcases cn a.size with e|e;rw[e]at d;omega;exact e);refine h.2 _ v _ c ?_;rw[getElem!_pos a _ g];simp[g]
def FV{b:Nat}(D:β b=none){ty:TypeId}{n:Nat}{g:List (Nat×V)}{j:Array (Nat×Value)}{p:Ob}{mk:Mk}(h:oe P ty n (some g)=some (p,mk))(E:RP w β F g j.toList):KS P w β F b (Instr.buildSlice ty n j) p mk:=by unfold oe at h;split at h;(.rename_i e z Y G H;cases H;obtain⟨q,k⟩:=dJ G;split at h;(.rename_i J m f;have K:=dE (xb f).2;have f:=(xb f).1;obtain⟨i,d,r,L,s,t⟩:=hX (w:=w) (β:=β) (F:=F) m;obtain⟨Z,u,a0⟩:=lU k;rw[r]at u;cases u;split at h;(.rename_i l M N;cases h;have a1:J.cells.length=z:=Nat.hY M;have v:=s.mv t;(have O:d.cells.size=z:=by have:=v.1;simp at this;omega);(have Q:∃a:Array Value,((n*z=0/\a=#[])\/(¬n*z=0/\a=d.cells))/\((Array.range (n*z)).map (a[·%a.size]!)).toList=(List.range (n*z)).map λi=>d.cells[i%d.cells.size]!:=by by_cases c:n*z=0;(.exact⟨#[],.inl ⟨c,A⟩,by simp[c]⟩);exact⟨d.cells,.inr ⟨c,A⟩,by simp⟩);obtain⟨a,R,x⟩:=Q;have y:=QE v n;rw[O]at y x;obtain⟨S,B,T,W,_⟩:=Cj (s:=λi=>some (i*z,z)) (λ_ _ X=>X) g j.toList _ l ((Array.range (n*z)).map (a[·%a.size]!)) N E (by rw[x];exact y) (uv (ji s t) n);have o:=FH.alloc w (.cells S e);refine⟨.slice (some ⟨w.heap.size,0,none⟩) n n,_,_,?_,o,Df o.get (T.ext (o.ext D)) W,?_⟩;(. (have C:¬(n*z>2^24):=by have:=dE f;omega);rcases R with⟨c,rfl⟩|⟨c,rfl⟩;(.simp only[Instr.buildSlice,Sem.run_bind,run_underlying q,Result.andThen_ok,run_sizeOf k,I C,Sem.run_ite,U c,Sem.run_pure];rw[B];simp[newRow]);simp only[Instr.buildSlice,Sem.run_bind,run_underlying q,Result.andThen_ok,run_sizeOf k,I C,Sem.run_ite,I c,Sem.run_pure,run_zero r L];rw[B];simp[newRow]);exact .Z b 0 n n none _ 0 n (gR β b _) (af _) (af _) (λ_=>A) (λz m=>by cases m) ⟨by omega,K⟩);cases h);cases h);cases h
def IB{b:Nat}(S:β b=none){ty:TypeId}{x y:V}{u s:Value}{t:Ob}{mk:Mk}(h:sG P ty x y=some (t,mk))(T:R w β F x u)(W:R w β F y s):KS P w β F b (Instr.makeSlice ty u s) t mk:=by unfold sG at h;split at h;(.rename_i e z l c X Y Z;obtain⟨v,k⟩:=dJ X;obtain⟨k1,rfl⟩:=KP Y T;obtain⟨k2,rfl⟩:=KP Z W;split at h;(.rename_i a0 g m n o;obtain⟨i,f,j,a1,B,C⟩:=hX (w:=w) (β:=β) (F:=F) m;obtain⟨i',D,a8⟩:=lU k;rw[j]at D;cases D;(have E:i.bytes=g:=by unfold sF at n;rw[j]at n;simpa using n);split at h;(.rename_i a2 a3;cases h;obtain⟨p,q⟩:=xb a3;have p:=dE p;have q:=dE q;have o:=dE o;have a9:a0.cells.length=z:=Nat.hY a2;have H:=B.mv C;(have a4:f.cells.size=z:=by have:=H.1;simp at this;omega);have J:IntKind.i64.wrap (l:Int)=l:=wrap_small .i64 _ G (by simp[IntKind.bits];omega);have K:IntKind.i64.wrap (c:Int)=c:=wrap_small .i64 _ G (by simp[IntKind.bits];omega);(have a5:∃a:Array Value,((c*z=0/\a=#[])\/(¬c*z=0/\a=f.cells))/\((Array.range (c*z)).map (a[·%a.size]!)).toList=(List.range (c*z)).map λi=>f.cells[i%f.cells.size]!:=by by_cases d:c*z=0;(.exact⟨#[],.inl ⟨d,A⟩,by simp[d]⟩);exact⟨f.cells,.inr ⟨d,A⟩,by simp⟩);obtain⟨a,a6,L⟩:=a5;have M:=QE H c;rw[a4]at M L;have r:=FH.alloc w (.cells ((Array.range (c*z)).map (a[·%a.size]!)) e);refine⟨.slice (some ⟨w.heap.size,0,none⟩) l c,_,_,?_,r,Df r.get (RL.ext (r.ext S) (by rw[L];exact M)) (uv (ji B C) c),?_⟩;(. (have a':(g:Int)*(c:Int)<=281474976710656:=by have N:((g*c:Nat):Int)<=((281474976710656:Nat):Int):=av.2 p;rw[Int.natCast_mul]at N;exact N);(have a7:(2:Int)^48=281474976710656:=by decide);(have O:¬(((decide ((c:Int)<0)||decide ((g:Int)*(c:Int)>2^48))||decide ((l:Int)<0)||decide ((l:Int)>(c:Int)))=true):=by rw[a7];simp only[dH,bG];omega);(have Q:(typeInfo e).run P w=.ok i w:=by simp[typeInfo,j]);rcases a6 with⟨d,rfl⟩|⟨d,rfl⟩;(.simp only[Instr.makeSlice,Sem.run_bind,run_underlying v,Result.andThen_ok,asInt,asIntOf,Sem.run_pure,Q,E,J,K];rw[I O];simp only[Sem.run_bind,run_askRoom,Result.andThen_ok,ir,run_sizeOf k,Sem.run_ite,U d,Sem.run_pure,newRow];simp);simp only[Instr.makeSlice,Sem.run_bind,run_underlying v,Result.andThen_ok,asInt,asIntOf,Sem.run_pure,Q,E,J,K];rw[I O];simp only[Sem.run_bind,run_askRoom,Result.andThen_ok,ir,run_sizeOf k,Sem.run_ite,I d,Sem.run_pure,run_zero j a1,newRow];simp);exact .Z b 0 l c none _ 0 c (gR β b _) o (af _) (λ_=>A) (λz m=>by cases m) ⟨by omega,q⟩);cases h);cases h);cases h
end
section
variable{P:Program}{w:World}{β:Nat->Option (Nat×Nat)}{F:Nat->Prop}{h:Hp}
def KT(a:Array Obj)(o:Obj)(f:Obj->Obj):(a.push o).modify a.size f=a.push (f o):=by
 apply Array.ext;.simp
 intro i c d;rw[Array.getElem_modify];simp at c;by_cases b:a.size=i;.subst b;simp
 have:i<a.size:=G;simp[b,Array.getElem_push,this]
def Bh{e:World}{f:Nat->Option (Nat×Nat)}{g:Nat->Prop}(s:ByteArray):RL e f g (s.data.toList.map λc=>V.i .u8 (.ofNat c.toNat)) (s.data.map λb=>Value.int .u8 (b.toNat:Int)).toList:=by refine⟨by simp,λi v u d a=>?_⟩;simp only[ck,Array.toList_map]at d a;obtain⟨b,j,rfl⟩:=gX.1 d;rw[j]at a;simp at a;subst a;exact .i _ _
def KU{b:Nat}(T:β b=none){m o:TypeId}{x:V}{u:Value}{p:Ob}{mk:Mk}(h:vy P o x=some (p,mk))(t:(P.underlying m).isSome=true)(g:R w β F x u):KS P w β F b (convert m o u) p mk:=by obtain⟨y,B⟩:=fe.1 t;unfold vy at h;split at h;(.rename_i e s C;split at h;(.rename_i D q;have q:=dE q;cases h;cases g with|s x l g=>let a:=(Question.appendCap x.size 0 e).cut (w.tape w.drawn (.appendCap x.size 0 e));(have i:x.size<=a:=by simp[a,Question.cut]);let d:Array Value:=(x.data.map λb=>Value.int .u8 (b.toNat:Int))++Array.replicate (a-x.size) (.int .u8 0);have j:x.data.size=x.size:=A;(have r:d.size=a:=by simp[d,j];omega);(have E:s.length=x.size:=by rw[<-g,aF,dV];rfl);let f:World:={w with heap:=w.heap.push (.cells d e (a,a+1)),drawn:=w.drawn+1};have k:FH w f (.cells d e (a,a+1)):=⟨A,A,A,A⟩;(have H:s.map (λc=>V.i .u8 (.ofNat c))=x.data.toList.map λc=>V.i .u8 (.ofNat c.toNat):=by rw[<-g,cI];rfl);refine⟨.slice (some ⟨w.heap.size,0,none⟩) x.size a,f,_,?_,k,?_,?_⟩;(. (have J:({w with heap:=w.heap.push (.cells d e),drawn:=w.drawn+1}:World).freeze {block:=w.heap.size,off:=d.size} 1=f:=by simp only[World.freeze,f];rw[I G];congr 1;rw[KT];simp[r]);(have K:({w with heap:=w.heap.push (.cells d e),drawn:=w.drawn+1}:World).shape? w.heap.size=some (e,d.size):=by simp[World.shape?]);(have L:(Conv.stringToBytes e x).run P w=.ok (.slice (some ⟨w.heap.size,0,none⟩) x.size a) f:=by simp only[Conv.stringToBytes,Sem.run_bind,run_choose];have M:(Question.appendCap x.size 0 e).forced=false:=A;simp only[M,cy,dz,Result.andThen_ok,newRow,Sem.run_bind,run_newObj,Sem.run_pure];simp only[markStringish,Sem.run_bind,run_shape,Result.andThen_ok];show((Sem.run P (match World.shape? {w with heap:=w.heap.push (.cells d e),drawn:=w.drawn+1} w.heap.size with|some (_,n)=>freeze {block:=w.heap.size,off:=n} 1|_=>pure ()) {w with heap:=w.heap.push (.cells d e),drawn:=w.drawn+1}).andThen λ_ N=>Result.ok (Value.slice (some ⟨w.heap.size,0,none⟩) x.size a) N)=_;rw[K];simp only[run_freeze,Result.andThen_ok,J]);simp only[convert,Sem.run_bind,run_underlying B,run_underlying C,Result.andThen_ok];cases y<;>simp only[run_underlying D,Sem.run_bind,Result.andThen_ok]<;>exact L);(.rw[H];refine⟨d,e,(a,a+1),k.get,?_,?_,λh=>by simp at h,λ_=>?_,?_⟩;(.have:=Bh (e:=f) (f:=ub β b (w.heap.size,0)) (g:=uF F w.heap.size) x;(have O:((d.toList.drop 0).take (x.data.toList.map λc=>V.i .u8 (.ofNat c.toNat)).length)=(x.data.map λb=>Value.int .u8 (b.toNat:Int)).toList:=by simp only[fM,aF,d,iQ];rw[cu aS];exact bq aS);rw[O];exact this);(.simp[r,j];exact i);(.simp[j];exact i);intro v Q;obtain⟨c,_,rfl⟩:=aV.1 Q;rfl);rw[E];exact .Z b 0 _ _ _ _ 0 a (gR β b _) (af _) i (λh=>by cases h) (λz S=>by cases S;exact⟨d,e,_,k.get,G⟩) (by (have U:x.size=s.length:=by rw[<-g,aF,dV];rfl);have:=FE (w.tape w.drawn (.appendCap x.size 0 e)) (show 0<2^63-x.size by omega);simp only[a,Question.cut];constructor<;>omega));cases h);cases h
def adr{b:Nat}(m:β b=none){t:T V}{a:Act}{o:Oper}{s:Ob}{mk:Mk}(ht:OR w β F t a.eval o.op.operands.toList)(d:Qt P t o.op=some (s,mk)):∃g f C,(execOp a.eval o).run P w=.ok (.value g) f/\FH w f C/\OC f (ub β b (w.heap.size,0)) (uF F w.heap.size) w.heap.size 0 s/\R f (ub β b (w.heap.size,0)) (uF F w.heap.size) (mk.at b) g:=by
 obtain⟨D,op,H,pos,I,guard⟩:=o;simp only at d;unfold Qt at d;split at d;.obtain⟨g,f,o,j,k⟩:=Wn (P:=P) m d;exact⟨g,f,o,by simp[execOp,j],k⟩
 .rename_i E x;obtain⟨g,f,o,j,k⟩:=Wm (P:=P) (e:=E) (u:=a.eval x) m d (λv d=>ht _ (by simp[Op.operands]) _ d);exact⟨g,f,o,by simp[execOp,j],k⟩
 .rename_i ty n z;cases p:wH t z.toList with
  |none=>rw[p]at d;unfold oe at d;split at d<;>simp_all
  |some l=>rw[p]at d;obtain⟨g,f,o,j,k⟩:=FV (P:=P) m (j:=z.map λ(i,x)=>(i,a.eval x)) d (by simpa using Iv (ht.sub λy q=>by simpa[Op.operands]using q) p);exact⟨g,f,o,by simp only[execOp,Sem.run_bind,j,Result.andThen_ok];rfl,k⟩
 .rename_i ty;cases d;have B:=FH.alloc w (.map #[] 0);exact⟨.map (some w.heap.size),_,_,by simp[execOp,Instr.makeMap],B,⟨A,#[],0,B.get,RL.nil,RL.nil⟩,.m b _ (gR β b _)⟩
 .rename_i ty l c;split at d;(.rename_i x y r q;obtain⟨g,f,o,j,k⟩:=IB (P:=P) m d (ht _ (by simp[Op.operands]) _ r) (ht _ (by simp[Op.operands]) _ q);exact⟨g,f,o,by simp[execOp,j],k⟩);cases d
 .rename_i J D x;split at d;(.rename_i v r;split at d;(.rename_i G;obtain⟨g,f,o,j,k⟩:=KU (P:=P) m d G (ht _ (by simp[Op.operands]) _ r);exact⟨g,f,o,by simp[execOp,j],k⟩);cases d);cases d
 cases d
end
section
variable{P:Program}{w:World}{β:Nat->Option (Nat×Nat)}{F:Nat->Prop}{h:Hp}
structure wI(w:World)(β:Nat->Option (Nat×Nat))(F:Nat->Prop)(h:Hp)(f:Nat)(a:World)(c:Nat->Option (Nat×Nat))(e:Nat->Prop)(g:Hp)(i:Nat):Prop where
 ext:Ext w β F a c e
 hr:HR a c e g
 le:f<=i
 old:∀b,b<f\/i<=b->c b=β b
 keep:∀B,B<w.heap.size->(∀b o d,h.get b=some o->β b=some (B,d)->False)->a.heap[B]?=w.heap[B]?
 mono:∀B,F B->e B
 tW:∀B,e B->F B\/(w.heap.size<=B/\B<a.heap.size)
 kB:∀b o B d,g.get b=some o->c b=some (B,d)->w.heap.size<=B\/∃j k l,h.get j=some k/\β j=some (B,l)
def wI.refl(H:HR w β F h)(a:Nat):wI w β F h a w β F h a:=⟨.refl _ _ _,H,af _,λ_ _=>A,λ_ _ _=>A,λ_ h=>h,λ_ h=>.inl h,λb o B d c e=>.inr ⟨b,o,d,c,e⟩⟩
def wI.trans{l m:World}{n p:Nat->Option (Nat×Nat)}{q F2:Nat->Prop}{c e:Hp}{r s t:Nat}(a:wI w β F h r l n q c s)(b:wI l n q c s m p F2 e t):wI w β F h r m p F2 e t:=by
 refine⟨a.ext.trans b.ext,b.hr,aL a.le b.le,λk u=>?_,λB z v=>?_,λB h=>b.mono B (a.mono B h),λB h=>?_,λk o B d f x=>?_⟩;.have x:=b.le;have C:=a.le;rw[b.old k G,a.old k G]
 .have A:=a.keep B z v;have y:=a.ext.size;refine(b.keep B G λk o d f u=>?_).trans A;rcases a.kB k o B d f u with c|⟨g,i,j,c,e⟩;(.omega);exact v g i j c e
 .have y:=a.ext.size;have D:=b.ext.size;rcases b.tW B h with h|h;(.rcases a.tW B h with h|h;(.exact .inl h);exact .inr G);exact .inr G
 have y:=a.ext.size;rcases b.kB k o B d f x with c|⟨g,i,j,c,e⟩;.exact .inl G
 exact a.kB g i B j c e
def FH.ahe(H:HR w β F h){i:World}{o:Obj}{c:Nat}(n:FH w i o)(j:β c=none){k:Ob}(q:OC i (ub β c (w.heap.size,0)) (uF F w.heap.size) w.heap.size 0 k):wI w β F h c i (ub β c (w.heap.size,0)) (uF F w.heap.size) (h.set c k) (c+1):=by
 have r:i.heap.size=w.heap.size+1:=by rw[n.heap];simp
 have y:∀b o,h.get b=some o->b≠c:=λb o f e=>by obtain⟨B,d,g,_⟩:=H.kB f;rw[e,j]at g;cases g
 refine⟨n.ext j,H.put (n.ext j) (adn H.bd r) c k (gR β c _) (.inr A) q (λs l B t f a=>?_) (λs l z t f m=>?_),G,λb a=>?_,λB u _=>?_,λB h=>.inl h,λB h=>?_,λb l B d f a=>?_⟩;.obtain⟨d,a⟩:=a;obtain⟨v,x,g,m,p⟩:=H.kB f;rw[a]at g;cases g;exact⟨by rw[n.heap,mu w o p],.inl m⟩
 .obtain⟨v,x,g,C,p⟩:=H.kB f;rw[m]at g;cases g;omega
 .simp only[ub];rw[I G]
 .rw[n.heap,mu w o u]
 .rcases h with h|h;(.exact .inl h);exact .inr G
 rw[T.dI]at f;simp only[ub]at a;split at f;.rename_i e;rw[U e]at a;cases a;exact .inl (af _)
 rename_i e;rw[I e]at a;exact .inr ⟨b,l,d,f,a⟩
def run_store_seg(g o:Nat)(t:TypeId)(b:Nat×Nat):∀(c:List Value)(i:Nat)(a:Array Value)(w:World),w.heap[g]?=some (.cells a t b)->o+i+c.length<=a.size->(∀j,o+i<=j->j<o+i+c.length->¬(b.1<=j/\j<b.2))->(∀v∈c,v.oneCell'=true)->(storeCells ⟨g,o,none⟩ c i).run P w=.ok () (w.setRow g (a.toList.take (o+i)++c++a.toList.drop (o+i+c.length)).toArray)
|[],i,a,w,d,_,_,_=>by simp only[storeCells,ak,bC,cC,dq,vq];rw[setRow_self w g a t b d];rfl|v::l,i,a,w,d,f,m,k=>by
 have n:o+i<a.size:=by simp at f;omega
 have p:(⟨g,o,none⟩:Addr).add i=⟨g,o+i,none⟩:=ho _ _ _;have q:w.cell? ⟨g,o+i,none⟩=some a[o+i]:=by simp[World.cell?,d,n]
 have r:w.frozen? ⟨g,o+i,none⟩=false:=by have:=m (o+i) (af _) aS;simp only[World.frozen?,d];simpa using this
 have s:(store ((⟨g,o,none⟩:Addr).add i) v).run P w=.ok () (w.setRow g (a.setIfInBounds (o+i) v)):=by rw[p,run_store P w _ v _ (k v aS),q];simp[r,setCell_eq_setRow w g (o+i) a t b v d]
 have u:=run_store_seg g o t b l (i+1) (a.setIfInBounds (o+i) v) (w.setRow g (a.setIfInBounds (o+i) v)) (setRow_heap w g a _ t _ d) (by simp at f|-;omega) (λj k z=>m j G aN) (λx y=>k x (by simp[y]));simp only[storeCells,Sem.run_bind,s,Result.andThen_ok,u,setRow_setRow];congr 3;have e:=list_seg_step a.toList (o+i) v l (by simp at f|-;omega);simpa[qa,gm]using e
def aey{l x:List V}{a b:List Value}(h:RL w β F l a)(c:RL w β F x b)(o:Nat):RL w β F (l.take o++(x++l.drop (o+x.length))) (a.take o++(b++a.drop (o+b.length))):=by rw[c.1];exact(h.take o).append (c.append (by rw[<-c.1];exact h.drop _))
def HR.store(H:HR w β F h){b o nx:Nat}{l E x:List V}{mk:Bool}{a:List Value}(r:h.get b=some (.c l mk))(X:setAt l o x=some E)(z:RL w β F x a)(C:∀v∈x,v.one=true):∃B d,β b=some (B,d)/\∃I,(∀P,(storeCells ⟨B,d+o,none⟩ a).run P w=.ok () I)/\wI w β F h nx I β F (h.set b (.c E mk)) nx:=by
 obtain⟨B,d,c,e,s,t,J,u,Y,g5,K,L,M⟩:=H.c b l mk r;obtain⟨rfl,a5⟩:=Dd X;have a6:=z.1;have N:=dX u;refine⟨B,d,t,w.setRow B (c.toList.take (d+o)++a++c.toList.drop (d+o+a.length)).toArray,λP=>?_,?_⟩;.have:=run_store_seg (P:=P) B (d+o) e s a 0 c w u G (by intro j C h2 O;cases mk;(.have:=K A;rw[this]at O;simp at O);have:=L A;omega) (z.VU C);simpa using this
 have Q:(w.setRow B (c.toList.take (d+o)++a++c.toList.drop (d+o+a.length)).toArray).heap[B]?=some (.cells (c.toList.take (d+o)++a++c.toList.drop (d+o+a.length)).toArray e s):=setRow_heap w B c _ e s u;have R:((c.toList.take (d+o)++a++c.toList.drop (d+o+a.length)).toArray).size=c.size:=by simp;omega
 have y:Ext w β F (w.setRow B (c.toList.take (d+o)++a++c.toList.drop (d+o+a.length)).toArray) β F:=by refine⟨λ_ _ h=>h,λ_ h _=>h,λn Z a0=>setRow_other w B n _ (λe=>by subst e;exact Z J),by simp,A,A,A,λn c' e' f' D=>?_⟩;by_cases S:n=B;(.subst S;rw[u]at D;cases D;exact⟨_,_,_,Q,R⟩);exact⟨c',e',f',by rw[setRow_other w B n _ S];exact D,A⟩
 have U:∀f k B2,f≠b->h.get f=some k->(∃d,β f=some (B2,d))->B2≠B:=by rintro f k B2 q i⟨p,g⟩rfl;exact q (H.inj f b k _ B2 p d i r g t)
 refine⟨y,H.put y (λB N=>bS (H.bd B N) y.size) b _ t J ?_ (λf k B2 q i g=>?_) (λf k p q i g=>U f k B q i ⟨p,g⟩ A),af _,λ_ _=>A,λn a0 a1=>?_,λ_ h=>h,λ_ h=>.inl h,λf k B2 p i g=>?_⟩;.refine⟨_,e,s,Q,?_,by rw[R];simp;omega,K,λhm=>by have:=L hm;simp;omega,?_⟩;(.have a2:=(aey Y z o).ext y;(have e1:((c.toList.take (d+o)++a++c.toList.drop (d+o+a.length)).drop d).take (l.take o++(x++l.drop (o+x.length))).length=(((c.toList.drop d).take l.length).take o++(a++((c.toList.drop d).take l.length).drop (o+a.length))):=by (have a7:(c.toList.take (d+o)).length=d+o:=by simp;omega);(have e2:(c.toList.take (d+o)++a++c.toList.drop (d+o+a.length)).drop d=(c.toList.drop d).take o++(a++(c.toList.drop d).drop (o+a.length)):=by rw[aI,fa G,eE,fK];congr 2<;>first|omega|(congr 1;omega));rw[e2,hE,cR G];(have a3:(l.take o++(x++l.drop (o+x.length))).length=o+(a.length+(l.length-(o+a.length))):=by simp;omega);rw[a3];(have a4:((c.toList.drop d).take o).length=o:=by simp;omega);have W:=gY (l₁:=(c.toList.drop d).take o) (l₂:=a++(c.toList.drop d).drop (o+a.length)) (a.length+(l.length-(o+a.length)));rw[a4]at W;rw[W,gY,eE]);rw[eX,e1];exact a2);intro v m;simp only[aZ]at m;rcases m with m|m|m;(.exact M v (ft m));(.exact C v m);exact M v (dN m)
 .have:=U f k B2 q i g;obtain⟨p,g⟩:=g;obtain⟨n,d',k1,k2,k3⟩:=H.kB i;rw[g]at k1;cases k1;exact⟨setRow_other w B _ _ this,k2⟩
 .exact setRow_other w B n _ (λe=>by subst e;exact a1 b _ d r t)
 rw[T.dI]at i;split at i;.rename_i e;subst e;exact .inr ⟨f,_,p,r,g⟩
 exact .inr ⟨f,k,p,i,g⟩
end
section
variable{P:Program}{w:World}{β:Nat->Option (Nat×Nat)}{F:Nat->Prop}{h:Hp}
def Ts(P:Program)(w:World)(β:Nat->Option (Nat×Nat))(F:Nat->Prop)(h:Hp)(d:Nat)(s:Sem Value)(v:V)(e:Hp)(f:Nat):Prop:=∃u a b c,s.run P w=.ok u a/\R a b c v u/\wI w β F h d a b c e f
def ads(P:Program)(w:World)(β:Nat->Option (Nat×Nat))(F:Nat->Prop)(h:Hp)(b:Nat)(s:Sem Unit)(v:V)(c:Hp)(d:Nat):Prop:=v=sx/\∃a e f,s.run P w=.ok () a/\wI w β F h b a e f c d
def Wo(H:HR w β F h){c i:Nat}{ty:TypeId}{x y v:V}{j:Hp}{u e:Value}(a:wW P h c ty x y=some (v,j,i))(m:R w β F x u)(f:R w β F y e):ads P w β F h c (Instr.storeAt ty u e) v j i:=by unfold wW at a;split at a;(.rename_i b o z n g;cases m with|p b o B d p=>split at a;(.rename_i l mk q;split at a;(.rename_i G r s;cases a;obtain⟨I,J,k,t,C,D⟩:=H.store (nx:=c) q s (f.mv g) (ji f g);rw[p]at k;cases k;refine⟨A,t,β,F,?_,D⟩;(have E:e.cells.size=z:=by have:=(f.mv g).1;have:=Nat.hY r;simp at*;omega);simp only[Instr.storeAt,Instr.sureAddr,Sem.run_bind,Sem.run_pure,Result.andThen_ok,storeVar,run_sizeOf n,E];simp[C P]);cases a);cases a);cases a
def RL.set{l:List V}{g:List Value}(e:RL w β F l g){i:Nat}{v:V}{u:Value}(k:R w β F v u):RL w β F (l.set i v) (g.set i u):=by refine⟨by simp[e.1],λj a b c d=>?_⟩;rw[qO]at c d;split at c;(.rename_i f;rw[U f]at d;split at c;(.rw[U (by rw[<-e.1];assumption)]at d;cases c;cases d;exact k);cases c);rename_i f;rw[I f]at d;exact e.2 j a b c d
def Wp{a b:ByteArray}(h:(a==b)=true):a=b:=by rw[beq_toListBytes,ByteArray.toList_eq,ByteArray.toList_eq,FB]at h;exact ByteArray.ext (lP h)
def Wq{kd:Bool}{z:TypeId}{x y:V}{u G:Value}(f:tF P z=some kd)(o:R w β F x u)(H:R w β F y G):∀(es p:List (V×V))(l:List MapEntry)(i:Nat),KH kd es x y=some p->RE w β F es l->∃d,P.underlying z=some d/\((Instr.findNow d u l i=some none/\p=es++[(x,y)])\/∃j e,l[j]?=some e/\Instr.findNow d u l i=some (some (i+j,e.val))/\Instr.sameBits 10000 e.key u=true/\∀g:MapEntry,g.key=u->g.val=G->RE w β F p (l.set j g))
|[],p,l,i,h,B=>by
 have:l=[]:=by have:=B.1.1;simpa using this.symm
 subst this;simp only[KH,bB]at h;subst h;have:∃d,P.underlying z=some d:=by unfold tF at f;split at f<;>first|exact⟨_,‹_›⟩|cases f
 obtain⟨d,m⟩:=this;exact⟨d,m,.inl ⟨A,A⟩⟩|(k,v)::es,p,l,i,h,B=>by
 obtain⟨e,l,rfl,n,I,C⟩:=B.cons_inv;obtain⟨K,X,Y⟩:=e;simp only at n I;simp only[KH]at h;split at h;.rename_i c;cases h;obtain⟨d,m,t,q⟩:=QA c o n f;(have D:Instr.sameBits 10000 K u=true/\R w β F k u:=by unfold Vz at c;split at c;(.cases o;cases n;split at c;(.simp[Instr.sameBits]at q|-;obtain⟨rfl,rfl⟩:=q;exact⟨⟨A,A⟩,.i _ _⟩);cases c);(.cases o with|s a Z ha=>cases n with|s b a0 L=>simp[Instr.sameBits]at q;have:=Wp q;subst this;exact⟨by simp[Instr.sameBits];exact q,.s _ _ L⟩);cases c);obtain⟨D,M⟩:=D;refine⟨d,m,.inr ⟨0,_,A,by simp only[Instr.findNow,t,cC],D,λg s E=>?_⟩⟩;simp only[xH];refine⟨?_,?_⟩;(.simp only[aw,s];exact RL.cons M C.1);simp only[aw,E];exact RL.cons H C.2
 .rename_i c;obtain⟨d,m,t,_⟩:=QA c o n f;split at h;(.rename_i r N;cases h;obtain⟨d',J,O⟩:=Wq f o H es r l (i+1) N C;rw[m]at J;cases J;refine⟨d,m,?_⟩;rcases O with⟨s,rfl⟩|⟨j,Q,s,E,S,T⟩;(.exact .inl ⟨by simp only[Instr.findNow,t];exact s,A⟩);refine .inr ⟨j+1,Q,by simpa using s,by simp only[Instr.findNow,t];rw[E];congr 3;omega,S,λg U W=>?_⟩;have:=T g U W;simp only[xI];exact⟨by simpa using RL.cons n this.1,by simpa using RL.cons I this.2⟩);cases h
 cases h
def KV{B e b:Nat}{es c:Array MapEntry}(d:w.heap[B]?=some (.map es e)):∃a,(∀P,(setObj B (.map c b)).run P w=.ok () a)/\a.heap[B]?=some (.map c b)/\(∀k,k≠B->a.heap[k]?=w.heap[k]?)/\a.os=w.os/\a.tape=w.tape/\a.output=w.output/\a.heap.size=w.heap.size:=by have f:=dX d;refine⟨{w with heap:=w.heap.setIfInBounds B (.map c b)},λP=>by simp[setObj,Sem.run,d],?_,λk g=>?_,A,A,A,by simp⟩;(.simp[f]);simp[iK (nY g)]
def HR.Wr(H:HR w β F h){r B y agS:Nat}{es es':List (V×V)}{l l':Array MapEntry}{nx:Nat}(p:h.get r=some (.m es))(q:β r=some (B,0))(t:F B)(n:w.heap[B]?=some (.map l y))(u:RE w β F es' l'.toList):∃j,(∀P,(setObj B (.map l' agS)).run P w=.ok () j)/\wI w β F h nx j β F (h.set r (.m es')) nx:=by
 obtain⟨j,z,C,o,D,E,I,R⟩:=KV (c:=l') (b:=agS) n;have k:Ext w β F j β F:=by refine⟨λ_ _ h=>h,λ_ h _=>h,λg J K=>o g (λe=>by subst e;exact J t),G,D,E,I,λg L M N s=>?_⟩;by_cases v:g=B;(.subst v;rw[n]at s;cases s);exact⟨L,M,N,by rw[o g v];exact s,A⟩
 have x:∀a f B2,a≠r->h.get a=some f->(∃d,β a=some (B2,d))->B2≠B:=by rintro a f B2 m c⟨i,b⟩rfl;exact m (H.inj a r f _ B2 i 0 c p b q)
 refine⟨j,z,k,H.put k (λB n=>bS (H.bd B n) k.size) r _ q t ⟨A,l',agS,C,⟨u.1.ext k,u.2.ext k⟩⟩ (λa f B2 m c b=>?_) (λa f i m c b=>x a f B m c ⟨i,b⟩ A),af _,λ_ _=>A,λg K O=>?_,λ_ h=>h,λ_ h=>.inl h,λa f B2 i c b=>?_⟩;.have:=x a f B2 m c b;obtain⟨i,b⟩:=b;obtain⟨g,S,k1,Q,U⟩:=H.kB c;rw[b]at k1;cases k1;exact⟨o _ this,Q⟩
 .exact o g (λe=>by subst e;exact O r _ 0 p q)
 rw[T.dI]at c;split at c;.rename_i e;subst e;exact .inr ⟨a,_,i,p,b⟩
 exact .inr ⟨a,f,i,c,b⟩
def Ws(H:HR w β F h){f D:Nat}{ty:TypeId}{m k x v:V}{E:Hp}{G a c:Value}(b:KI P h f ty m k x=some (v,E,D))(Y:R w β F m G)(I:R w β F k a)(J:R w β F x c):ads P w β F h f (Instr.mapUpdate ty G a c) v E D:=by unfold KI at b;split at b;(.rename_i r Z e K;cases Y with|m r B q=>split at b;(.rename_i kd es L s;split at b;(.rename_i M a0;cases b;obtain⟨B',l,t,N,O,g,Q,S⟩:=H.m _ _ s;rw[q]at N;cases N;obtain⟨d,T,a1⟩:=Wq L I J es M l.toList 0 a0 ⟨Q,S⟩;have U:(Instr.checkKey false 10000 Z a).run P w=.ok () w:=Bg (n:=9999) L;rcases a1 with⟨o,rfl⟩|⟨j,p,o,W,h3,h4⟩;(.obtain⟨u,y,z⟩:=H.Wr (nx:=f) (agS:=t+1) (es':=es++[(k,x)]) (l':=l.push {key:=a,val:=c,born:=t}) s q O g (by refine⟨?_,?_⟩;(.simpa using Q.append (RL.cons I RL.nil));simpa using S.append (RL.cons J RL.nil));refine⟨A,u,β,F,?_,z⟩;simp only[Instr.mapUpdate,Sem.run_bind,run_underlying K,Result.andThen_ok,run_getMap g,U,Instr.findKey,run_underlying T,o,Sem.run_pure,y P]);(have a2:j<l.size:=by have:=(ba.1 o).1;simpa using this);(have C:l[j]?=some p:=by simpa using o);obtain⟨u,y,z⟩:=H.Wr (nx:=f) (agS:=t) (es':=M) (l':=l.modify j λe=>{e with key:=a,val:=c}) s q O g (by have:=h4 {p with key:=a,val:=c} A A;(have e1:(l.modify j λe=>{e with key:=a,val:=c}).toList=l.toList.set j {p with key:=a,val:=c}:=by apply ke;intro i;simp only[ev,jQ,qO];by_cases X:j=i;(.subst X;simp[C,a2,(dn.1 C).2]);simp[X]);rw[e1];exact this);refine⟨A,u,β,F,?_,z⟩;(have a3:(Instr.keyThatStays p.key a).run P w=.ok a w:=by simp[Instr.keyThatStays,h3]);simp only[bR]at W;simp only[Instr.mapUpdate,Sem.run_bind,run_underlying K,Result.andThen_ok,run_getMap g,U,Instr.findKey,run_underlying T,W,Sem.run_pure,C,eG,nN,a3,y P]);cases b);cases b);cases b
end
section
variable{P:Program}{w:World}{β:Nat->Option (Nat×Nat)}{F:Nat->Prop}{h:Hp}
structure XS(P:Program)(w:World)(β:Nat->Option (Nat×Nat))(F:Nat->Prop)(h:Hp)(z:Nat)(x:V)(u:Value)(a:List V)(k:Nat)where
 news:List Value
 rl:RL w β F a news
 flat:∀v∈a,v.one=true
 len:a.length=k*z
 lenOf:Builtin.lenOf u=Sem.pure k
 cells:(Builtin.firstCells z k u).run P w=.ok news.toArray w
 cellsD:(Builtin.firstCells z k u).run P w.drew=.ok news.toArray w.drew
 pre:∀j,j<=k->(Builtin.firstCells z j u).run P w=.ok (news.take (j*z)).toArray w
 alE:0<k->(∃s,u=.string s)\/∃e c,u=.slice (some e) k c/\Room.holdsV w e (k*z)=true/\∀b o B d,h.get b=some o->β b=some (B,d)->inBlock x b=false->B≠e.block
def Aa{B o n:Nat}{a:Array Value}{e:TypeId}{b:Nat×Nat}(c:w.heap[B]?=some (.cells a e b))(d:o+n<=a.size):Room.holdsV w ⟨B,o,none⟩ n=true:=by simp[Room.holdsV,World.shape?,c,d]
def jf{z j B o n c:Nat}{a:List Value}(d:w.rangeAt B o a)(e:j*z<=a.length):(Builtin.firstCells z j (.slice (some ⟨B,o,none⟩) n c)).run P w=.ok (a.take (j*z)).toArray w:=run_firstCells_some w z j ⟨B,o,none⟩ n c (a.take (j*z)) aN (λi v b=>by rw[ho];rw[cT]at b;split at b;(.exact d i v b);cases b)
theorem IC(H:HR w β F h){p k:Nat}{x:V}{u:Value}{a3:List V}(g:Be h p x=some (a3,k))(q:R w β F x u)(hz:p≠0):Nonempty (XS P w β F h p x u a3 k):=by
 unfold Be at g;split at g;.cases q;cases g;exact⟨⟨[],RL.nil,λv h=>by simp at h,by simp,A,by simp[Builtin.firstCells],by simp[Builtin.firstCells],λi r=>by simp[Builtin.firstCells],λh=>G⟩⟩
 .cases q;cases g;exact⟨⟨[],RL.nil,λv h=>by simp at h,by simp,A,by simp[Builtin.firstCells,loadCells,loadCellsFrom],by simp[Builtin.firstCells,loadCells,loadCellsFrom],λi r=>by have:i=0:=G;subst this;simp[Builtin.firstCells,loadCells,loadCellsFrom],λh=>G⟩⟩
 .rename_i b t K m y;cases q with|Z b t K m x C d M N hn O q a'=>split at g;(.rename_i l D;cases g;unfold qp at D;split at D;(.rename_i L mk Q;obtain⟨B',d',f,E,g2,S,T,g5,g6⟩:=H.own Q D;rw[N]at E;cases E;obtain⟨B',d',b0,e,fz,q1,q2,q3,q4,q5,_⟩:=H.c _ _ _ Q;rw[N]at q1;cases q1;have b1:=(iz D).2;have I:f.take (k*p)=f:=bq G;refine⟨⟨f,S,g6,by rw[S.1,g5],A,?_,?_,λi r=>jf T (by rw[g5];exact bZ _ r),λ_=>.inr ⟨_,M,A,Aa q3 G,λb2 o2 B2 d2 U X a4=>?_⟩⟩⟩;(.have:=jf (P:=P) (z:=p) (n:=k) (c:=M) (j:=k) T G;rw[I]at this;exact this);(.have:=jf (P:=P) (w:=w.drew) (z:=p) (n:=k) (c:=M) (j:=k) (B:=C) (o:=d+t) (a:=f) T G;rw[I]at this;exact this);rintro rfl;have:=H.inj b2 b o2 _ _ d2 d U Q X N;subst this;simp[inBlock]at a4);cases D);cases g
 .rename_i K l;split at g;(.rename_i hn;cases g;have J:=Nat.hY hn;cases q with|is0 a m b3=>refine⟨⟨[],RL.nil,λv h=>by simp at h,by simpa using J,A,?_,?_,λi r=>?_,λh=>G⟩⟩;(.cases a<;>simp[Builtin.firstCells,loadCells,loadCellsFrom]);(.cases a<;>simp[Builtin.firstCells,loadCells,loadCellsFrom]);have:i=0:=G;subst this;cases a<;>simp[Builtin.firstCells,loadCells,loadCellsFrom]|Q K l m C t b4 hF hB f Y O h2 h3=>have Z:w.rangeAt C t f:=λi u r=>O i u r;have I:f.take (k*p)=f:=bq G;refine⟨⟨f,⟨Y,h2⟩,h3,J,A,?_,?_,λi r=>jf Z (by rw[<-Y,J];exact bZ _ r),λhk=>.inr ⟨_,m,A,?_,λb2 o2 B2 d2 U X a4=>?_⟩⟩⟩;(.have:=jf (P:=P) (z:=p) (n:=k) (c:=m) (j:=k) Z G;rw[I]at this;exact this);(.have:=jf (P:=P) (w:=w.drew) (z:=p) (n:=k) (c:=m) (j:=k) (B:=C) (o:=t) (a:=f) Z G;rw[I]at this;exact this);(. (have a5:0<f.length:=by rw[<-Y,J];exact qP hk (xJ hz));have a6:=O (f.length-1) f[f.length-1] (aa G);have a7:k*p=f.length:=G;rw[a7];exact holdsV_of_last w C t f.length a5 (by rw[a6];rfl) _ (af _));rintro rfl;obtain⟨B',d',E,g2,S⟩:=H.kB U;rw[X]at E;cases E;exact hF g2);cases g
 .rename_i s;split at g;(.rename_i a0;cases g;have a0:=Nat.hY a0;subst a0;cases q with|s x l q=>(have a1:s.length=x.size:=by rw[<-q,aF,dV];rfl);(have a8:s.map (λm=>V.i .u8 (.ofNat m))=x.data.toList.map λm=>V.i .u8 (.ofNat m.toNat):=by rw[<-q,cI];rfl);(have a2:∀(W:World)(i:Nat),(Builtin.firstCells 1 i (.string x)).run P W=.ok ((x.data.map λb=>Value.int .u8 (b.toNat:Int)).toList.take i).toArray W:=by intro W i;simp only[Builtin.firstCells,Sem.run_pure];congr 1;apply lP;rw[tC];simp[rv]);refine⟨⟨(x.data.map λb=>Value.int .u8 (b.toNat:Int)).toList,by rw[a8];exact Bh x,λv a9=>by obtain⟨m,_,rfl⟩:=aV.1 a9;rfl,by simp,by rw[a1];rfl,?_,?_,λi r=>by rw[qQ];exact a2 w i,λ_=>.inl ⟨_,A⟩⟩⟩;(.rw[a2 w,bq (by simp[a1])]);rw[a2 w.drew,bq (by simp[a1])]);cases g
 cases g
end
section
variable{P:Program}{w:World}{β:Nat->Option (Nat×Nat)}{F:Nat->Prop}{h:Hp}
def FH.drew{a:World}{o:Obj}(n:FH w.drew a o):FH w a o:=⟨n.heap,n.os,n.tape,n.output⟩
def HR.del(H:HR w β F h)(b:Nat):HR w β F (h.del b):=H.aki (.refl w β F) H.bd b none (λg o B d _ c e=>by obtain⟨i,j,a,f,k⟩:=H.kB c;rw[e]at a;cases a;exact⟨A,f⟩) (λl mk h=>by cases h) (λes h=>by cases h) (λo B d h=>by cases h)
def wI.del(H:HR w β F h)(b c:Nat):wI w β F h c w β F (h.del b) c:=⟨.refl _ _ _,H.del b,af _,λ_ _=>A,λ_ _ _=>A,λ_ h=>h,λ_ h=>.inl h,λe o B d a f=>by rw[T.vz]at a;split at a;(.cases a);exact .inr ⟨e,o,d,a,f⟩⟩
def HR.congr{c:Hp}(H:HR w β F h)(e:∀k,c.get k=h.get k):HR w β F c:=⟨λb l mk a=>H.c b l mk (by rw[<-e];exact a),λb es a=>H.m b es (by rw[<-e];exact a),λb f o g B d i j m=>H.inj b f o g B d i (by rw[<-e];exact j) (by rw[<-e];exact m),H.bd,H.gl⟩
def wI.congr{a:World}{c:Nat->Option (Nat×Nat)}{f:Nat->Prop}{g i:Hp}{j l:Nat}(s:wI w β F h j a c f g l)(e:∀k,i.get k=g.get k):wI w β F h j a c f i l:=⟨s.ext,s.hr.congr e,s.le,s.old,s.keep,s.mono,s.tW,λb o B d m=>s.kB b o B d (by rw[<-e];exact m)⟩
def grownCap_le(w:World)(n o:Nat)(e:TypeId)(h:n<=9223372036854775807):grownCap w n o e<=9223372036854775807:=by have:=FE (w.tape w.drawn (.appendCap n o e)) (show 0<2^63-n by omega);simp only[grownCap,Question.cut];omega
def Wt{b:World}{i:Nat->Option (Nat×Nat)}{j:Nat->Prop}{B:Nat}{c d:List Value}{k:Array Value}{e:TypeId}{l x:List V}(m:b.heap[B]?=some (.cells ((c++d).toArray++k) e))(f:RL b i j l c)(g:RL b i j x d)(n:∀v∈l,v.one=true)(o:∀v∈x,v.one=true):OC b i j B 0 (.c (l++x) false):=by
 refine⟨_,e,(0,0),m,?_,?_,λ_=>A,λh=>by simp at h,λv a=>?_⟩
 .have:(((c++d).toArray++k).toList.drop 0).take (l++x).length=c++d:=by rw[fM,iQ,eX,cu (by simp[f.1,g.1])];exact bq (by simp[f.1,g.1])
  rw[this];exact f.append g
 .simp[f.1,g.1]
 rcases aZ.1 a with a|a;.exact n v a
 exact o v a
def Oa{a b:List Value}{z:Array Value}{n k g s:Nat}(c:a.length=n*s)(d:b.length=k*s)(e:z.size=s)(f:n+k<=g):((a++b).toArray++Builtin.zeroCells z (g-(n+k))).size=g*s:=by rw[qR,size_zeroCells,e];simp only[qS,aj,c,d];rw[<-cc,<-cc];congr 1;omega
def Gw{z:Value}{a:V}{s:Nat}(b:R w β F a z)(c:a.Vx=true)(d:Nat.beq a.cells.length s=true):z.cells.size=s:=by have:=(b.mv c).1;have:=Nat.hY d;simp at*;omega
def Oc(H:HR w β F h){r b5:Nat}{t Z tr e:TypeId}{a6:Nat}{x s v:V}{h':Hp}{us a7:Value}(he:iy P t=some (e,a6))(hz:a6≠0)(p:rF P h r e a6 x s Z=some (v,h',b5))(hs:R w β F s us)(hx:R w β F x a7)(hb:r<b5->β r=none):Ts P w β F h r (Builtin.append_ #[t,Z] tr #[us,a7]) v h' b5:=by obtain⟨hu,b0⟩:=dJ he;obtain⟨i,hi,e2⟩:=lU b0;subst e2;unfold rF at p;split at p;(.rename_i b6 k a4 h7 e3 b7 b1 e4;split at p;(case h_2=>cases p);rename_i b8;obtain⟨b8,c7⟩:=xb b8;have c7:=dE c7;obtain⟨X⟩:=IC (P:=P) H e3 hx hz;(have b9:0<i.bytes/\i.bytes<=131072/\i.bytes=a4+1:=by unfold sF at b7;rw[hi]at b7;simp at b7;omega);obtain⟨b9,e5,h8⟩:=b9;(have b':(NT a4+NT a4/4+192)*i.bytes<=281474976710656/\NT a4<=1000000000000:=by unfold NT;cases a8:Nat.ble a4 199 with|true=>have:=dE a8;exact⟨aL (eu _ (show i.bytes<=200 by omega)) aD,af _⟩|false=>exact⟨aL (eu _ e5) aD,by decide⟩);(have e6:∃d,P.underlying Z=some d/\(∀k,d≠.int k)/\((∃e',P.underlying Z=some (.slice e'))\/P.underlying Z=some .string):=by unfold KG at b1;split at b1;(.rename_i S;exact⟨_,S,λk=>by simp,.inr S⟩);(.simp at b1);(.rename_i S _;exact⟨_,S,λk=>by simp,.inl ⟨_,S⟩⟩);simp at b1);obtain⟨d,hd,h9,b2⟩:=e6;(have c8:X.news.length=k*i.size:=by rw[<-X.rl.1,X.len]);have e7:Src P i.size Z a7 k X.news w:=⟨b2,λw'=>by rw[X.lenOf];rfl,X.cells,X.cellsD,c8,X.rl.VU X.flat⟩;(have e8:∃a0,i.zero=some a0/\a0.cells.size=i.size:=by obtain⟨i',a0,c9,a9,hr,e9⟩:=hX (w:=w) (β:=β) (F:=F) e4;rw[hi]at c9;cases c9;exact⟨a0,a9,Gw hr e9 b8⟩);obtain⟨a0,a9,f0⟩:=e8;(have grow:∀(base:Option Addr)(f y:Nat)(M:List Value)(l:List V),us=.slice base f y->f<=y->y<f+k->RL w β F l M->(∀v∈l,v.one=true)->M.length=f*i.size->(Builtin.firstCells i.size f us).run P w.drew=.ok M.toArray w.drew->(∀a,base=some a->Room.holdsV w a (f*i.size)=true/\w.frozen? (a.add (f/2*i.size))=false/\∃b g d,h.get b=some g/\β b=some (a.block,d)/\inBlock x b=false)->(base=none->f=0)->β r=none->f+k<=NT a4->Ts P w β F h r (Builtin.append_ #[t,Z] tr #[us,a7]) (.Z r 0 (f+k) (f+k) (some i.size)) (h.set r (.c (l++b6) false)) (r+1):=by intro base f y M l f1 f2 K hl h1 f3 b3 i0 b4 a1 a2;subst f1;have hp:Builtin.nextslicecap (f+k) y*i.bytes<=281474976710656:=growslice_fits_wide K (aL (bZ _ G) b'.1);(have f4:((f+k:Nat):Int)<=9223372036854775807:=by have h1:(f+k)*i.bytes<=281474976710656:=aL (bZ _ (le_nextslicecap K)) hp;have:f+k<=(f+k)*i.bytes:=jd _ b9;omega);have W:=run_append_grow_src (P:=P) w t Z tr e i a0 hu hi a9 base f y M b3 a7 k X.news e7 K f4 hp;have nw:=FH.drew (FH.alloc w.drew (.cells ((M++X.news).toArray++Builtin.zeroCells a0.cells (grownCap w (f+k) y e-(f+k))) e));have a3:=nw.ext (β:=β) (F:=F) a1;have c':=grownCap_ge w (f+k) y e;refine⟨_,_,_,_,W,.Z r 0 _ _ _ _ 0 _ (gR β r _) (af _) c' (λh=>by cases h) (λa6 hz=>by cases hz;exact⟨_,e,_,nw.get,by rw[Oa f3 c8 f0 c'];omega⟩) ⟨grownCap_le w _ _ _ G,aL a2 b'.2⟩,nw.ahe H a1 (Wt nw.get (hl.ext a3) (X.rl.ext a3) h1 X.flat)⟩);unfold nT at p;split at p;(.cases hs;have i1:=X.len;split at p;(.cases p;refine⟨.slice none 0 0,w,β,F,?_,.E,.refl H r⟩;rcases b2 with⟨e',E⟩|E<;>simp[Builtin.append_,run_underlying hu,run_underlying E,sizeOf,typeInfo,hi,X.lenOf,X.cells]);split at p;(case h_2=>cases p);rename_i k d0;have d0:=dE d0;cases p;have:=grow none 0 0 [] [] A (af _) G RL.nil (λv h=>by simp at h) aS (by simp[Builtin.firstCells]) (λa h=>by cases h) (λ_=>A) (hb G) G;simpa using this);(.rename_i b g f d1 ex;split at p;(.rename_i l K;cases hs with|Z b g f d1 ex m d y J f2 f5 d3 d4 d5=>obtain⟨O,d',L,e0,fz,g1,g2,g3,g4,i2,g6,i3,g8⟩:=H.c _ _ _ K;rw[J]at g1;cases g1;have:=g6 A;subst this;split at p;(.rename_i a5;have a5:=dE a5;split at p;(.rename_i l' f6;cases p;obtain⟨O,d',q1,w',W,a'⟩:=H.store (nx:=r) K f6 X.rl X.flat;rw[J]at q1;cases q1;refine⟨.slice (some ⟨m,d+g,none⟩) (f+k) y,w',β,F,?_,?_,a'⟩;(.have hr:=W P;(have c0:(⟨m,d+g,none⟩:Addr).add (f*i.size)=⟨m,d+(g+f*i.size),none⟩:=by rw[ho];congr 1;omega);have f7:f+k<=y:=G;rcases b2 with⟨e',E⟩|E<;>simp[Builtin.append_,run_underlying hu,run_underlying E,sizeOf,typeInfo,hi,X.lenOf,X.cells,f7,c0,hr]);refine .Z b g _ d1 ex m d y J a5 f5 d3 (λq a8=>?_) d5;obtain⟨Q,e',f8,h1,i4⟩:=d4 q a8;obtain⟨f9,f',g0,h3,i5⟩:=a'.ext.FG _ _ _ _ h1;exact⟨f9,f',g0,h3,G⟩);cases p);rename_i a5;have a5:=pd a5;split at p;(.rename_i i6 b3 d6 c2;obtain⟨c2,a2⟩:=xb c2;have a2:=dE a2;obtain⟨rfl,i7⟩:=iz b3;cases p;(have a9:∀q,ex=some q->q=i.size:=λq a8=>by subst a8;exact Nat.hY (by simpa[zW]using c2));obtain⟨O,d',M,q1,q2,q3,q4,q5,q6⟩:=H.own K b3;rw[J]at q1;cases q1;by_cases c3:f+k<=y;(.cases ex with|none=>have:=d3 A;omega|some q=>have:=a9 q A;subst this;obtain⟨Q,e',f8,k1,k2⟩:=d4 _ A;rw[g3]at k1;cases k1;have a1:=hb G;(have b4:b≠r:=λe=>by rw[e,a1]at J;cases J);(have i8:f*i.size+k*i.size=(f+k)*i.size:=by rw[cc]);have i9:=bZ i.size c3;have W:=run_store_seg (P:=P) m (d+g+f*i.size) e0 (0,0) X.news 0 L w g3 G (λj0 _ _ h=>by simp at h) (X.rl.VU X.flat);simp only[cC]at W;generalize d7:(L.toList.take (d+g+f*i.size)++X.news++L.toList.drop (d+g+f*i.size+X.news.length)).toArray=Q at W;have c4:(w.setRow m Q).heap[m]?=some (.cells Q e0 (0,0)):=setRow_heap w m L _ e0 (0,0) g3;(have b0:Q.size=L.size:=by rw[<-d7];simp;omega);(have a3:Ext w β F (w.setRow m Q) (ub β r (m,d+g)) F:=by refine⟨Dc a1 _,λ_ h _=>h,λO hF g5=>setRow_other w m O _ (λe=>by subst e;exact hF g2),by simp,A,A,A,λO c1 e1 g7 S=>?_⟩;by_cases d8:O=m;(.subst d8;rw[g3]at S;cases S;exact⟨_,_,_,c4,b0⟩);exact⟨c1,e1,g7,by rw[setRow_other w m O _ d8];exact S,A⟩);(have d9:∀N Y B2,(h.del b).get N=some Y->(∃d,β N=some (B2,d))->B2≠m:=by rintro N Y B2 C⟨d2,D⟩rfl;rw[T.vz]at C;split at C;(.cases C);rename_i c5;exact c5 (H.inj N b Y _ B2 d2 d C K D J));have H2:=H.del b;refine⟨.slice (some ⟨m,d+g,none⟩) (f+k) y,w.setRow m Q,ub β r (m,d+g),F,?_,?_,a3,H2.put a3 (λm hB=>bS (H.bd m hB) a3.size) r _ (gR β r _) g2 ?_ (λN Y B2 hn C D=>?_) (λN Y d2 hn C D=>d9 N Y m C ⟨d2,D⟩ A),G,λN D=>?_,λO g5 g9=>?_,λ_ h=>h,λ_ h=>.inl h,λN Y B2 d2 C D=>?_⟩;(.have c0:(⟨m,d+g,none⟩:Addr).add (f*i.size)=⟨m,d+g+f*i.size,none⟩:=ho _ _ _;rcases b2 with⟨e',E⟩|E<;>simp[Builtin.append_,run_underlying hu,run_underlying E,sizeOf,typeInfo,hi,X.lenOf,X.cells,c3,c0,W]);(.have:=R.Z (w:=w.setRow m Q) (g:=ub β r (m,d+g)) (F:=F) r 0 (f+k) (f+k) (some i.size) m (d+g) y (gR β r _) (af _) c3 (λh=>by cases h) (λa6 hz=>by cases hz;exact⟨_,_,_,c4,G⟩) ⟨d5.1,aL a2 b'.2⟩;simpa using this);(. (have g':RL w β F ((l.drop g).take (f*i.size)) ((L.toList.drop (d+g)).take (f*i.size)):=by have:=(g4.drop g).take (f*i.size);(have e1:(((L.toList.drop d).take l.length).drop g).take (f*i.size)=(L.toList.drop (d+g)).take (f*i.size):=by rw[eE,fK,hE];congr 1;omega);rwa[e1]at this);refine⟨Q,e0,(0,0),c4,?_,by rw[b0];simp[X.len];omega,λ_=>A,λh=>by simp at h,λv p=>?_⟩;(.have h0:=(g'.append X.rl).ext a3;(have e1:(Q.toList.drop (d+g)).take ((l.drop g).take (f*i.size)++b6).length=(L.toList.drop (d+g)).take (f*i.size)++X.news:=by rw[<-d7,eX,aI,fa aN,eE];rw[show d+g+f*i.size-(d+g)=f*i.size by omega];(have h2:((L.toList.drop (d+g)).take (f*i.size)).length=f*i.size:=by simp;omega);(have h4:((l.drop g).take (f*i.size)++b6).length=f*i.size+X.news.length:=by simp[X.len];omega);have t1:=gY (l₁:=(L.toList.drop (d+g)).take (f*i.size)) (l₂:=X.news++L.toList.drop (d+g+f*i.size+X.news.length)) X.news.length;rw[h2]at t1;rw[h4,t1,gz]);rw[e1];exact h0);rcases aZ.1 p with p|p;(.exact g8 v (xY p));exact X.flat v p);(.have c5:=d9 N Y B2 C D;obtain⟨d2,D⟩:=D;obtain⟨O,d',k1,k2,k3⟩:=H2.kB C;rw[D]at k1;cases k1;exact⟨setRow_other w m _ _ c5,k2⟩);(.simp only[ub];rw[I G]);(.exact setRow_other w m O _ (λe=>by subst e;exact g9 b _ d K J));rw[T.dI]at C;simp only[ub]at D;split at C;(.rename_i e;rw[U e]at D;cases D;exact .inr ⟨b,_,d,K,J⟩);rename_i e;rw[I e]at D;rw[T.vz]at C;split at C;(.cases C);exact .inr ⟨N,Y,d2,C,D⟩);cases ex with|none=>have c6:=grow (some ⟨m,d+g,none⟩) f y M _ A G G q3 q6 q5 (by have:=jf (P:=P) (w:=w.drew) (z:=i.size) (n:=f) (c:=y) (j:=f) (B:=m) (o:=d+g) (a:=M) q4 G;rw[bq G]at this;exact this) (λa ha=>by cases ha;refine⟨Aa g3 G,?_,b,_,d,K,J,d6⟩;rw[ho];simp[World.frozen?,g3]) (λh=>by cases h) (hb G) a2;exact c6|some q=>have c6:=grow (some ⟨m,d+g,none⟩) f y M _ A G G q3 q6 q5 (by have:=jf (P:=P) (w:=w.drew) (z:=i.size) (n:=f) (c:=y) (j:=f) (B:=m) (o:=d+g) (a:=M) q4 G;rw[bq G]at this;exact this) (λa ha=>by cases ha;refine⟨Aa g3 G,?_,b,_,d,K,J,d6⟩;rw[ho];simp[World.frozen?,g3]) (λh=>by cases h) (hb G) a2;have a1:=hb G;(have b4:b≠r:=λe=>by rw[e,a1]at J;cases J);obtain⟨u,w',h5,F',W,hr,a'⟩:=c6;refine⟨u,w',h5,F',W,hr,(a'.trans (wI.del a'.hr b (r+1))).congr λk=>?_⟩;simp only[T.dI,T.vz];by_cases E:k=r;(.have:¬k=b:=λe=>b4 (by rw[<-e,E]);rw[U E,I this,U E]);by_cases h6:k=b<;>simp[E,h6,b4]);cases p);cases p);cases p);cases p
end
section
variable{P:Program}{w:World}{β:Nat->Option (Nat×Nat)}{F:Nat->Prop}{h:Hp}
def uw(z:Array Value)(n:Nat):(Builtin.zeroCells z n).toList=(List.range (n*z.size)).map λi=>z[i%z.size]!:=by simp[Builtin.zeroCells]
def Wu(H:HR w β F h){b f:Nat}{t g q e:TypeId}{z k:Nat}{r:IntKind}{s v:V}{u:Hp}{x:Value}(L:iy P t=some (e,z))(y:z≠0)(c:CX P h b e z k s g=some (v,u,f))(M:R w β F s x)(N:b<f->β b=none):Ts P w β F h b (Builtin.append_ #[t,g] q #[x,.int r (k:Int)]) v u f:=by obtain⟨O,Q⟩:=dJ L;obtain⟨i,j,S⟩:=lU Q;subst S;unfold CX at c;split at c;(.rename_i T B U W X l;cases M;split at c;(.rename_i C Y Z;cases c;obtain⟨D,E⟩:=xb Y;have D:=dE D;have E:=dE E;have a6:=cz Z;obtain⟨i',a,I,a0,m,n⟩:=hX (w:=w) (β:=β) (F:=F) X;rw[j]at I;cases I;have o:=Gw m n C;(have a1:i.bytes=U:=by unfold sF at l;rw[j]at l;simpa using l);have a2:=Go.Lib.run_append_nil_zeros (P:=P) w t g q e i a r T O W j a0 k G G G (by rw[a1];omega);have J:=grownCap_ge w k 0 e;have d:=FH.drew (FH.alloc w.drew (.cells (Builtin.zeroCells a.cells k++Builtin.zeroCells a.cells (grownCap w k 0 e-k)) e));have K:=N G;have a3:=d.ext (β:=β) (F:=F) K;have a4:=(QE (m.mv n) k).ext a3;(have p:(rep k B.cells).length=k*i.size:=by rw[sK,Nat.hY C]);(have a5:(Builtin.zeroCells a.cells k++Builtin.zeroCells a.cells (grownCap w k 0 e-k)).size=grownCap w k 0 e*i.size:=by rw[qR,size_zeroCells,size_zeroCells,o,<-cc];congr 1;omega);refine⟨_,_,_,_,a2,.Z b 0 _ _ _ _ 0 _ (gR β b _) (af _) J (λh=>by cases h) (λz y=>by cases y;exact⟨_,e,_,d.get,G⟩) ⟨grownCap_le w _ _ _ G,G⟩,d.ahe H K ⟨_,e,(0,0),d.get,?_,?_,λ_=>A,λh=>by simp at h,uv (ji m n) k⟩⟩;(. (have:(((Builtin.zeroCells a.cells k++Builtin.zeroCells a.cells (grownCap w k 0 e-k)).toList.drop 0).take (rep k B.cells).length)=(List.range (k*a.cells.size)).map λi=>a.cells[i%a.cells.size]!:=by rw[fM,iQ,uw,cu (by simp[p,o])];exact bq (by simp[p,o]));rw[this];exact a4);rw[a5,p,bR];exact bZ _ J);cases c);cases c
def KW(H:HR w β F h){i o:Nat}{q:List TypeId}{l:List V}{D:TypeId}{v:V}{u:Hp}{j:List Value}(b:lT P h i q (some l)=some (v,u,o))(g:RL w β F l j)(y:i<o->β i=none):∃t m c d,q=[t,m]/\j=[c,d]/\Ts P w β F h i (Builtin.append_ #[t,m] D #[c,d]) v u o:=by
 unfold lT at b;split at b
 .rename_i t m s x E;cases E;obtain⟨c,r,rfl⟩:∃c r,j=c::r:=by
   cases j with
   |nil=>have:=g.1;simp at this
   |cons a r=>exact⟨a,r,A⟩
  obtain⟨d,p,rfl⟩:∃d p,r=d::p:=by
   cases r with
   |nil=>have:=g.1;simp at this
   |cons a r=>exact⟨a,r,A⟩
  have:p=[]:=by have:=g.1;simp at this;exact this
  subst this;have B:=g.2 0 s c A A;have C:=g.2 1 x d A A;refine⟨t,m,c,d,A,A,?_⟩;cases n:iy P t with|none=>rw[n]at b;cases b|some G=>obtain⟨e,z⟩:=G;rw[n]at b;simp only at b;split at b;(.rename_i I k f;have f:=cz f;cases C;exact Wu H n f b B y);(.rename_i f _;have f:=cz f;exact Oc H n f b B C y);cases b
 cases b
def Wv{l:List V}{f:List Value}{s x:V}(d:RL w β F l f)(e:l=[s,x]):∃b c,f=[b,c]/\R w β F s b/\R w β F x c:=by
 subst e;obtain⟨b,r,rfl⟩:∃b r,f=b::r:=by
  cases f with
  |nil=>have:=d.1;simp at this
  |cons a r=>exact⟨a,r,A⟩
 obtain⟨c,g,rfl⟩:∃c g,r=c::g:=by
  cases r with
  |nil=>have:=d.1;simp at this
  |cons a r=>exact⟨a,r,A⟩
 have:g=[]:=by have:=d.1;simp at this;exact this
 subst this;exact⟨b,c,A,d.2 0 s b A A,d.2 1 x c A A⟩
def aaA{l:List V}{b:List Value}{x:V}(d:RL w β F l b)(e:l=[x]):∃u,b=[u]/\R w β F x u:=by
 subst e;obtain⟨c,r,rfl⟩:∃c r,b=c::r:=by
  cases b with
  |nil=>have:=d.1;simp at this
  |cons a r=>exact⟨a,r,A⟩
 have:r=[]:=by have:=d.1;simp at this;exact this
 subst this;exact⟨c,A,d.2 0 x c A A⟩
def Tt(H:HR w β F h){g r:Nat}{j:Array TypeId}{l:List V}{J:TypeId}{v:V}{s:Hp}{m:Array Value}(a:oS P h g j.toList (some l)=some (v,s,r))(K:RL w β F l m.toList):Ts P w β F h g (Builtin.copy_ j J m) v s r:=by unfold oS at a;split at a;(.rename_i t a3 d x L M;cases M;obtain⟨N,O,Q,u,C⟩:=Wv K A;(have R:m=#[N,O]:=by apply lP;rw[Q]);subst R;(have D:j[0]?=some t:=by rw[<-ev,L];rfl);split at a;(.rename_i e z S;obtain⟨E,G⟩:=dJ S;split at a;(.rename_i T k b o n c y f p;have f:=cz f;obtain⟨X⟩:=IC (P:=P) H p C f;unfold CY at a;split at a;(.rename_i l mk U;split at a;(.rename_i l' W;cases a;cases u with|Z b o n c y B d c' Y hn hc a4 a5=>obtain⟨B',d',I,Z,a0,a1⟩:=H.store (nx:=g) U W (X.rl.take (min k n*z)) (λv a=>X.flat v (ft a));rw[Y]at I;cases I;refine⟨.int .i64 ((min k n:Nat):Int),Z,β,F,?_,.i _ _,a1⟩;have i:=X.pre (min k n) (Nat.min_le_left _ _);have hr:=a0 P;have q:Nat.min k n=min k n:=A;simp[Builtin.copy_,D,run_underlying E,X.lenOf,run_sizeOf G,q,i,hr,goInt]);cases a);cases a);(.rename_i a2 f p;have f:=cz f;obtain⟨T,k⟩:=a2;obtain⟨X⟩:=IC (P:=P) H p C f;cases a;cases u;refine⟨.int .i64 0,w,β,F,?_,.i _ _,.refl H g⟩;have i:=X.pre 0 (au _);simp at i;have q:Nat.min k 0=0:=Nat.min_zero k;simp[Builtin.copy_,D,run_underlying E,X.lenOf,run_sizeOf G,q,i,goInt]);cases a);cases a);cases a
def Od(H:HR w β F h){f q:Nat}{j:Array TypeId}{l:List V}{I:TypeId}{v:V}{r:Hp}{k:Array Value}(a:mq P h f j.toList (some l)=some (v,r,q))(J:RL w β F l k.toList):Ts P w β F h f (Builtin.clear_ j I k) v r q:=by unfold mq at a;split at a;(.rename_i t a2 x K L;cases L;obtain⟨u,M,s⟩:=aaA J A;(have N:k=#[u]:=by apply lP;rw[M]);subst N;(have m:j[0]?=some t:=by rw[<-ev,K];rfl);split at a;(.rename_i e z b o n c y p;obtain⟨g,O⟩:=dJ p;cases s with|Z b o n c y B d c' Q hn hc a3 a4=>split at a;(.cases a;exact⟨.tuple #[],w,β,F,by simp[Builtin.clear_,m,run_underlying g],.sx,.refl H f⟩);rename_i n;split at a;(.rename_i l mk a5 R S;split at a;(.rename_i l' T;cases a;obtain⟨i,a6,U,W,C,D⟩:=hX (w:=w) (β:=β) (F:=F) S;have X:=QE (C.mv D) (n+1);obtain⟨B',d',E,Y,Z,a0⟩:=H.store (nx:=f) R T X (uv (ji C D) (n+1));rw[Q]at E;cases E;refine⟨.tuple #[],Y,β,F,?_,.sx,a0⟩;have G:=Z P;rw[<-uw]at G;simp[Builtin.clear_,m,run_underlying g,run_zero U W,G]);cases a);cases a);(.rename_i a1 p;obtain⟨e,z⟩:=a1;obtain⟨g,O⟩:=dJ p;cases a;cases s;exact⟨.tuple #[],w,β,F,by simp[Builtin.clear_,m,run_underlying g],.sx,.refl H f⟩);cases a);cases a
def pe{x y:Option V}{f:V->V->KF}{r:V×Hp×Nat}(h:It x y f=some r):∃a b,x=some a/\y=some b/\f a b=some r:=by
 cases x with
 |none=>simp[It]at h
 |some a=>
  cases y with
  |none=>simp[It]at h
  |some b=>exact⟨a,b,A,A,h⟩
def adt(H:HR w β F h){t:T V}{a:Act}{o:Oper}{v:V}{J:Hp}{q B:Nat}(ht:OR w β F t a.eval o.op.operands.toList)(b:VA P t h q o.op=some (v,J,B))(K:q<B->β q=none):∃C u c d e,(execOp a.eval o).run P w=.ok C c/\(C=.value u\/(C=.skip/\u=undef))/\R c d e v u/\wI w β F h q c d e J B:=by
 obtain⟨X,op,D,pos,Y,guard⟩:=o;simp only at b;unfold VA at b;split at b;.obtain⟨x,y,m,f,b⟩:=pe b;obtain⟨rfl,c,d,e,g,i⟩:=Wo H b (ht _ (by simp[Op.operands]) _ m) (ht _ (by simp[Op.operands]) _ f);exact⟨.skip,undef,c,d,e,by simp[execOp,g],.inr ⟨A,A⟩,.sx,i⟩
 .split at b;(.rename_i z E;obtain⟨x,y,m,f,b⟩:=pe b;obtain⟨rfl,c,d,e,g,i⟩:=Ws H b (ht _ (by simp[Op.operands]) _ m) (ht _ (by simp[Op.operands]) _ f) (ht _ (by simp[Op.operands]) _ E);exact⟨.skip,undef,c,d,e,by simp[execOp,g],.inr ⟨A,A⟩,.sx,i⟩);cases b
 .split at b;(.rename_i z E;obtain⟨x,y,m,f,b⟩:=pe b;obtain⟨rfl,c,d,e,g,i⟩:=Ws H b (ht _ (by simp[Op.operands]) _ m) (ht _ (by simp[Op.operands]) _ f) (ht _ (by simp[Op.operands]) _ E);exact⟨.skip,undef,c,d,e,by simp[execOp,g],.inr ⟨A,A⟩,.sx,i⟩);cases b
 .rename_i k G;cases j:oa t k.toList with
  |none=>rw[j]at b;unfold lT at b;split at b<;>simp_all
  |some l=>rw[j]at b;have n:=px (ht.sub λy f=>by simp[Op.operands,Call.operands];simpa using f) j;obtain⟨L,M,Z,u2,N,I,O⟩:=KW (D:=D) H b n K;(have Q:G=#[L,M]:=by apply lP;rw[N]);subst Q;(obtain⟨r,s,S⟩:∃r s,k=#[r,s]:=by (have U:k.toList.length=2:=by have:=aY List.length I;simpa using this);match W:k.toList,U with|[r,s],_=>exact⟨r,s,by apply lP;rw[W]⟩);subst S;simp at I;obtain⟨rfl,rfl⟩:=I;obtain⟨u,c,d,e,g,p,i⟩:=O;exact⟨.value u,u,c,d,e,by simp[execOp,resolve,invoke,builtin,g],.inl A,p,i⟩
 .rename_i k G;cases j:oa t k.toList with
  |none=>rw[j]at b;unfold oS at b;split at b<;>simp_all
  |some l=>rw[j]at b;have n:=px (ht.sub λy f=>by simp[Op.operands,Call.operands];simpa using f) j;obtain⟨u,c,d,e,g,p,i⟩:=Tt (J:=D) (m:=k.map a.eval) H b (by simpa using n);exact⟨.value u,u,c,d,e,by simp[execOp,resolve,invoke,builtin,g],.inl A,p,i⟩
 .rename_i k G;cases j:oa t k.toList with
  |none=>rw[j]at b;unfold mq at b;split at b<;>simp_all
  |some l=>rw[j]at b;have n:=px (ht.sub λy f=>by simp[Op.operands,Call.operands];simpa using f) j;obtain⟨u,c,d,e,g,p,i⟩:=Od (I:=D) (k:=k.map a.eval) H b (by simpa using n);exact⟨.value u,u,c,d,e,by simp[execOp,resolve,invoke,builtin,g],.inl A,p,i⟩
 cases b
end
section
variable{P:Program}
def QF(a:Nat->Option (Nat×Nat))(c d:Nat):Prop:=∀b,c<=b->b<d->a b=none
def DV(w:World)(a:Nat->Option (Nat×Nat))(F:Nat->Prop)(x:V×List V)(d:Deferred):Prop:=∃b first c e,R w a F x.1 (.func b first c)/\RL w a F x.2 e/\d={target:=.fn b c,args:=first++e.toArray}
def DR(w:World)(a:Nat->Option (Nat×Nat))(F:Nat->Prop):List (V×List V)->List Deferred->Prop|[],[]=>True|x::l,d::r=>DV w a F x d/\DR w a F l r|_,_=>False
structure MR(w:World)(b:Nat->Option (Nat×Nat))(F:Nat->Prop)(s:St)(a:Act):Prop where
 hr:HR w b F s.h
 tr:TR w b F s.t a.tmps
 sz:a.tmps.size=s.z
 ds:DR w b F s.ds a.defers
def RC(P:Program)(f:Nat)(j:List V)(h:Hp)(b:Nat)(v:V)(k:Hp)(c:Nat):Prop:=b<=c/\∀w a F(d:Array Value),HR w a F h->RL w a F j d.toList->QF a b c->Calls P f d w λ|.returned u,e=>∃g i,R e g i v u/\wI w a F h b e g i k c|.panicked _,_=>False|.outgrown,_=>False
def X.out:X->Exit|.norm=>.normal|.exit n=>.exit n|.goto n=>.goto n|.ret=>.ret
def oT(w:World)(f:Nat->Option (Nat×Nat))(F:Nat->Prop)(s:St)(x:X)(a:St)(e:Exit)(g:Act)(b:World):Prop:=False\/(e=x.out/\∃c d,MR b c d a g/\wI w f F s.h s.nx b c d a.h a.nx)
def SC(P:Program)(c:Code)(s:St)(x:X)(b:St):Prop:=s.nx<=b.nx/\∀w d F a,MR w d F s a->QF d s.nx b.nx->c.wp P (oT w d F s x b) a w
def SI(P:Program)(i:List Item)(s:St)(x:X)(c:St):Prop:=s.nx<=c.nx/\∀w d F a,MR w d F s a->QF d s.nx c.nx->∀(b:Frame)(k:List Item)(f:List Frame),∃e g h,oT w d F s x c e g h/\Arrives P (lone (b.at a (i++k)) f w) b k f e g h
def SO(P:Program)(d:Array Oper)(l:List Nat)(s:St)(b:St):Prop:=s.nx<=b.nx/\∀w c F a,MR w c F s a->QF c s.nx b.nx->wpOps P d (oT w c F s .norm b) l a w
def QF.left{d:Nat->Option (Nat×Nat)}{a b c:Nat}(h:QF d a c)(f:b<=c):QF d a b:=λx e g=>h x e G
def QF.right{w f:World}{a b:Nat->Option (Nat×Nat)}{F g:Nat->Prop}{h i:Hp}{c d e:Nat}(j:QF a c e)(s:wI w a F h c f b g i d):QF b d e:=λx k l=>by rw[s.old x (.inr k)];exact j x (by have:=s.le;omega) l
def oT.trans{w c:World}{d f:Nat->Option (Nat×Nat)}{F g:Nat->Prop}{s b i:St}{x:X}(k:wI w d F s.h s.nx c f g b.h b.nx){e:Exit}{a:Act}{j:World}(h:oT c f g b x i e a j):oT w d F s x i e a j:=by rcases h with h|⟨h,l,n,m,o⟩;(.exact .inl h);exact .inr ⟨h,l,n,m,k.trans o⟩
def SC.seq{c d:Code}{s f g:St}{x:X}(i:SC P c s .norm f)(b:SC P d f x g):SC P (.seq c d) s x g:=by refine⟨aL i.1 b.1,λw l F a m j=>wp_seq (wp_mono (i.2 w l F a m (j.left b.1)) ?_)⟩;rintro e n o(p|⟨rfl,q,r,t,k⟩);(.exact p.elim);exact wp_mono (b.2 o q r n t (j.right k)) λe a w h=>h.trans k
def SC.aaB{c d:Code}{s b:St}{x:X}(f:SC P c s x b)(g:x≠.norm):SC P (.seq c d) s x b:=by refine⟨f.1,λw i F a m j=>wp_seq (wp_mono (f.2 w i F a m j) ?_)⟩;rintro e l n(k|⟨rfl,h⟩);(.exact k.elim);cases x with|norm=>exact absurd A g|_=>exact .inr ⟨A,h⟩
def SC.cond{c:Operand}{x y:Code}{b:Bool}{s d:St}{z:X}(e:mV s.t c=some (.b b))(h:SC P (if b then x else y) s z d):SC P (.cond c x y) s z d:=by refine⟨h.1,λw f F a m g=>?_⟩;(have i:a.eval c=.bool b:=by have:=Gt m.tr e;generalize a.eval c=u at this;cases this;rfl);exact wp_cond i (h.2 w f F a m g)
def SC.block{c:Code}{s d:St}{x:X}{id:Nat}(h:SC P c s x d):SC P (.block id c) s (match x with|.exit j=>if j=id then .norm else .exit j|x=>x) d:=by refine⟨h.1,λw f F a m g=>wp_block (wp_mono (h.2 w f F a m g) ?_)⟩;rintro e k l(i|⟨rfl,q⟩);(.exact i.elim);cases x with|exit j=>simp only[X.out,Exit.inBlock];by_cases b:j=id;(.rw[U b,U b];exact .inr ⟨A,q⟩);rw[I b,I b];exact .inr ⟨A,q⟩|_=>exact .inr ⟨A,q⟩
def oT.refl{w:World}{b:Nat->Option (Nat×Nat)}{F:Nat->Prop}{s:St}{a:Act}(m:MR w b F s a)(x:X):oT w b F s x s x.out a w:=.inr ⟨A,b,F,m,.refl m.hr s.nx⟩
def SC.skip(s:St):SC P .skip s .norm s:=⟨af _,λw b F a m _=>wp_skip (oT.refl m .norm)⟩
def SC.label(s:St)(k:Nat):SC P (.label k) s .norm s:=⟨af _,λw b F a m _=>wp_label (oT.refl m .norm)⟩
def SC.ret(s:St):SC P .ret s .ret s:=⟨af _,λw b F a m _=>wp_ret (oT.refl m .ret)⟩
def SC.exit(s:St)(k:Nat):SC P (.exit k) s (.exit k) s:=⟨af _,λw b F a m _=>wp_exit (oT.refl m (.exit k))⟩
def SC.goto(s:St)(k:Nat):SC P (.goto k) s (.goto k) s:=⟨af _,λw b F a m _=>wp_goto (oT.refl m (.goto k))⟩
def SI.ya{d f:List Item}{s g:St}{x:X}(h:SI P f s x g)(i:∀(b:Frame)a k c w,step P (lone (b.at a (d++k)) c w)=.next (lone (b.at a (f++k)) c w)):SI P d s x g:=⟨h.1,λw j F a m l b k c=>by obtain⟨e,n,o,p,q⟩:=h.2 w j F a m l b k c;exact⟨e,n,o,p,.of_steps (.one (i b a k c w)) q⟩⟩
def SC.si{c:Code}{s d:St}{x:X}(h:SC P c s x d):SI P [.code c] s x d:=⟨h.1,λw e F a m f b k g=>h.2 w e F a m f b k g⟩
def SI.sc{c:Code}{s d:St}{x:X}(h:SI P [.code c] s x d):SC P c s x d:=⟨h.1,λw e F a m f b k g=>h.2 w e F a m f b k g⟩
def SI.round{c:Code}{s f g:St}{x:X}(h:SC P c s .norm f)(d:SI P [.code c,.inLoop c] f x g):SI P [.code c,.inLoop c] s x g:=by refine⟨aL h.1 d.1,λw n F a m i b k j=>?_⟩;obtain⟨e,o,p,q,r⟩:=h.2 w n F a m (i.left d.1) b (.inLoop c::k) j;rcases q with t|⟨rfl,u,v,y,l⟩;(.exact t.elim);obtain⟨z,A,B,C,D⟩:=d.2 p u v o y (i.right l) b k j;exact⟨z,A,B,C.trans l,.of_steps (Steps.trans r (.one step_inLoop)) D⟩
def SI.last{c:Code}{s f:St}{d:X}(g:SC P c s d f)(r:d≠.norm):SI P [.code c,.inLoop c] s d f:=by refine⟨g.1,λw i F a m j b k l=>?_⟩;obtain⟨e,n,o,h,p⟩:=g.2 w i F a m j b (.inLoop c::k) l;refine⟨e,n,o,h,.pass (x:=.inLoop c) A (λ_ _=>.inl ?_) p⟩;rcases h with q|⟨rfl,_⟩;(.exact q.elim);cases d<;>simp_all[X.out]
def SI.loop{c:Code}{s d:St}{x:X}(h:SI P [.code c,.inLoop c] s x d):SC P (.loop c) s x d:=SI.sc (SI.ya h λb a k e w=>step_loop)
def SI.scope{b c:Code}{s i:St}{x:X}(j:SC P c s x i)(o:∀l,x=.goto l->findLabel b l=none):SI P [.code c,.inScope b] s x i:=by refine⟨j.1,λw p F a m q f k r=>?_⟩;obtain⟨e,t,u,n,d⟩:=j.2 w p F a m q f (.inScope b::k) r;refine⟨e,t,u,n,?_⟩;rcases n with v|⟨rfl,_⟩;(.exact v.elim);cases x with|norm=>exact Steps.trans d (.one step_inScope)|exit id=>exactλg h=>d g (by simp[exitTo,h])|goto l=>exactλg h=>d g (by simp[gotoIn,o l A,h])|ret=>exact d
def SI.jump{b c g:Code}{s h i:St}{x:X}{l:Nat}(j:SC P c s (.goto l) h)(q:findLabel b l=some g)(d:SI P [.code g,.inScope b] h x i):SI P [.code c,.inScope b] s x i:=by refine⟨aL j.1 d.1,λw r F a m n f k o=>?_⟩;obtain⟨e,t,u,v,y⟩:=j.2 w r F a m (n.left d.1) f (.inScope b::k) o;rcases v with z|⟨rfl,A,B,C,p⟩;(.exact z.elim);obtain⟨D,E,G,H,I⟩:=d.2 u A B t C (n.right p) f k o;exact⟨D,E,G,H.trans p,.of_steps (y _ (by simp[gotoIn,q])) I⟩
def SI.pv{c:Code}{s d:St}{x:X}(h:SI P [.code c,.inScope c] s x d):SC P (.scope c) s x d:=SI.sc (SI.ya h λb a k e w=>step_scope)
end
section
variable{P:Program}{w:World}{β:Nat->Option (Nat×Nat)}{F:Nat->Prop}{h:Hp}
def TR.ext{a:World}{b:Nat->Option (Nat×Nat)}{c:Nat->Prop}{t:T V}{d:Array Value}(ht:TR w β F t d)(e:Ext w β F a b c):TR a b c t d:=λk=>(ht k).ext e
def DR.ext{c:World}{e:Nat->Option (Nat×Nat)}{f:Nat->Prop}(b:Ext w β F c e f):∀{l:List (V×List V)}{r:List Deferred},DR w β F l r->DR c e f l r|[],[],_=>True.intro|x::l,d::r,a=>⟨by obtain⟨g,first,i,j,k,m,n⟩:=a.1;exact⟨g,first,i,j,k.ext b,m.ext b,n⟩,DR.ext b a.2⟩|[],_::_,a=>a.elim|_::_,[],a=>a.elim
def TR.put{t:T V}{a:Array Value}(ht:TR w β F t a){d:Nat}{v:V}{u:Value}(c:d<a.size)(e:R w β F v u):TR w β F (t.set d v) (a.setIfInBounds d u):=by intro k;have:=ht k;simp only[gA,T.dI]at*;by_cases b:k=d;(.subst b;rw[U A];simpa[c]using e);rw[I b];simp only[fA]at*;rw[iK G];exact this
def MR.put{s e:St}{a:Act}(m:MR w β F s a){f:World}{g:Nat->Option (Nat×Nat)}{i:Nat->Prop}{j:Hp}{k:Nat}(b:wI w β F s.h s.nx f g i j k){d:Option Nat}{v:V}{u:Value}(l:R f g i v u)(c:s.put d v j k=some e):MR f g i e (a.put d u)/\e.h=j/\e.nx=k:=by unfold St.put at c;cases d with|none=>cases c;exact⟨⟨b.hr,m.tr.ext b.ext,m.sz,m.ds.ext b.ext⟩,A,A⟩|some d=>simp only at c;split at c;(.rename_i n;cases c;(have o:d<a.tmps.size:=by rw[m.sz];simpa[eW]using n);exact⟨⟨b.hr,(m.tr.ext b.ext).put o l,by simp[Act.put,m.sz],m.ds.ext b.ext⟩,A,A⟩);cases c
def nq{s b:St}{d:Option Nat}{v:V}{c:Hp}{e:Nat}(a:s.put d v c e=some b):b.nx=e/\b.h=c/\b.ds=s.ds/\b.z=s.z:=by
 unfold St.put at a;split at a;.cases a;exact⟨A,A,A,A⟩
 split at a;.cases a;exact⟨A,A,A,A⟩
 cases a
def Tu(b:Bool):Value->Bool|.bool c=>c==b|_=>false
def R.adh{v:V}{u:Value}(a:R w β F v u)(b:Bool):adh b v=Tu b u:=by
 cases a with
 |x u h=>cases u<;>first|rfl|exact absurd A (h _)
 |j u h c=>cases u<;>first|rfl|exact absurd A (h _)
 |_=>simp[Ev.adh,Tu]
def vB{c:Array Oper}{t:T V}{a:Array Value}(ht:TR w β F t a)(o:Oper):Region.wanted o (yielded c a)=kV c t o.guard:=by unfold Region.wanted kV;cases e:o.guard with|none=>rfl|some i=>obtain⟨j,b⟩:=i;simp only[yielded,Da];cases m:c[j]?with|none=>rfl|some k=>cases f:k.dst with|none=>simp[f]|some d=>have l:=ht d;have g:=l.adh b;have e:a.getD d undef=(a[d]?).getD undef:=aS;rw[e]at g;simp only[Option.bind_some,f,g];cases n:a[d]?with|none=>simp[undef,Tu]|some u=>cases u<;>simp[Bool.beq_comm,Tu]
def aez{s:St}{a:Act}(m:MR w β F s a){o:Oper}{v:V}{k:Hp}{i:Nat}(b:ps P s.t s.h s.nx o.op=some (v,k,i))(l:QF β s.nx i):∃j u d n p,(execOp a.eval o).run P w=.ok j d/\(j=.value u\/(j=.skip/\u=undef))/\R d n p v u/\wI w β F s.h s.nx d n p k i:=by
 unfold ps at b;have g:=m.tr.ops o.op.operands.toList;split at b;.cases c:BT P s.t o.op with|none=>rw[c]at b;cases b|some x=>rw[c]at b;cases b;obtain⟨u,e,f⟩:=adp (P:=P) g c;exact⟨.value u,u,w,β,F,e,.inl A,f,.refl m.hr _⟩
 .cases c:NR P s.t s.h o.op with|none=>rw[c]at b;cases b|some x=>rw[c]at b;cases b;obtain⟨u,e,f⟩:=adq (P:=P) m.hr g c;exact⟨.value u,u,w,β,F,e,.inl A,f,.refl m.hr _⟩
 .cases c:Qt P s.t o.op with|none=>rw[c]at b;cases b|some x=>rw[c]at b;cases b;have q:β s.nx=none:=l s.nx (af _) G;obtain⟨u,d,z,e,r,t,f⟩:=adr (P:=P) q g c;exact⟨.value u,u,d,_,_,e,.inl A,f,r.ahe m.hr q t⟩
 .exact adt m.hr g b λy=>l s.nx (af _) y
 cases b
def QG{t:T V}{b:Nat}{op:Op}{v:V}{e:Hp}{c:Nat}(a:ps P t h b op=some (v,e,c)):b<=c:=by
 have l:∀{B b z:Nat}{x s:V}{f:List V}{k:Nat},nT B h b z x s f k=some (v,e,c)->b<=c:=by intro B b z x s f k a;unfold nT at a;(repeat' split at a);all_goals first|(cases a;done)|(simp only[bB,cj]at a;omega)
 have g:∀{ty:TypeId}{m k x:V},KI P h b ty m k x=some (v,e,c)->b<=c:=by intro ty m k x a;unfold KI at a;(repeat' split at a);all_goals first|(cases a;done)|(simp only[bB,cj]at a;omega)
 unfold ps at a;split at a;.cases d:BT P t op<;>rw[d]at a<;>cases a;exact af _
 .cases d:NR P t h op<;>rw[d]at a<;>cases a;exact af _
 .cases d:Qt P t op<;>rw[d]at a<;>cases a;omega
 .unfold VA at a;split at a;.obtain⟨x,y,i,j,a⟩:=pe a;unfold wW at a;(repeat' split at a);all_goals first|(cases a;done)|(simp only[bB,cj]at a;omega)
  .split at a;(.obtain⟨x,y,i,j,a⟩:=pe a;exact g a);cases a
  .split at a;(.obtain⟨x,y,i,j,a⟩:=pe a;exact g a);cases a
  .unfold lT at a;(repeat' split at a);all_goals
    first
    |(cases a;done)|(unfold CX at a;(repeat' split at a);all_goals first|(cases a;done)|(simp only[bB,cj]at a;omega))
    |(unfold rF at a;(repeat' split at a);all_goals first|(cases a;done)|exact l a)
  .unfold oS at a;(repeat' split at a);all_goals
    first
    |(cases a;done)|(unfold CY at a;(repeat' split at a);all_goals first|(cases a;done)|(simp only[bB,cj]at a;omega))
    |(simp only[bB,cj]at a;omega)
  .unfold mq at a;(repeat' split at a);all_goals first|(cases a;done)|(simp only[bB,cj]at a;omega)
  cases a
 cases a
end
section
variable{P:Program}{w:World}{β:Nat->Option (Nat×Nat)}{F:Nat->Prop}{h:Hp}
def FI(P:Program)(f:Nat):Prop:=∀a w,(callFunc f a).run P w=.ok (.enter f a) w
def Idle(P:Program)(f:Nat):Prop:=FI P f/\∀a w,CallsD P f a .returning w λe u b=>False\/((∃v,e=.returned v)/\u=.returning/\b=w)
def Bi(P:Program):Prop:=∀(f:Nat)a,P.funcs[f]?=some a->a.body.isSome=true->(a.name== "runtime.NumGoroutine")=false
def Bi.ID(e:Bi P){f:Nat}{a:Func}{c:Code}(b:P.funcs[f]?=some a)(d:a.body=some c):FI P f:=by intro j w;have g:=e f a b (by simp[d]);(have i:¬a.name= "runtime.NumGoroutine":=by simpa using g);simp[callFunc,b,i,d]
def Ww{s:St}{x:X}{b:St}:¬LetsOut (oT w β F s x b):=by rintro⟨a,w,c|⟨h,_⟩⟩;(.exact c.elim);cases x<;>cases h
def SO.nil{b:Array Oper}(s:St):SO P b [] s s:=⟨af _,λw β F a m _=>by simp only[wpOps];exact oT.refl m .norm⟩
def qq{c:Array Oper}{l:List Nat}{s d f:St}{b:World}{k:Nat->Option (Nat×Nat)}{m:Nat->Prop}{p:Act}(A:SO P c l d f)(q:wI w β F s.h s.nx b k m d.h d.nx)(B:MR b k m d p)(C:QF β s.nx f.nx):wpOps P c (oT w β F s .norm f) l p b:=by
 have:=A.2 b k m p B (C.right q);have D:∀(l:List Nat)a y,wpOps P c (oT b k m d .norm f) l a y->wpOps P c (oT w β F s .norm f) l a y:=by
  intro l;induction l with
  |nil=>intro a t h;simp only[wpOps]at h|-;exact oT.trans q h|cons i l g=>
   intro a t h;simp only[wpOps]at h|-;cases z:c[i]?with
   |none=>simp only[z]at h|-;exact g _ _ h|some o=>
    simp only[z]at h|-;split
    .rename_i u;rw[U u]at h;rcases h with h|⟨h,E⟩
     .refine .inl ?_;unfold Oper.wp at*;generalize(execOp a.eval o).run P t=r at h|-;cases r with
      |ok n G=>cases n<;>simp only[Oper.upon]at h|-<;>first|exact g _ _ h|exact h.elim|exact Rows.mono h λ_ _ j=>g _ _ j|(refine Calls.mono h λe H j=>?_;cases e with|returned v=>exact g _ _ j|panicked J=>exact oT.trans q j|outgrown=>exact absurd j Ww)
      |halt x t=>cases x<;>simp only[Oper.upon]at h|-<;>first|exact h|exact oT.trans q h
     exact absurd E Ww
    rename_i u;rw[I u]at h;exact g _ _ h
 exact D l p b this
def SO.QH{b:Array Oper}{i:Nat}{l:List Nat}{o:Oper}{s c d:St}(k:b[i]?=some o)(n:kV b s.t o.guard=false)(e:s.put o.dst sx s.h s.nx=some c)(f:SO P b l c d):SO P b (i::l) s d:=by obtain⟨g,p,_⟩:=nq e;refine⟨by rw[<-g];exact f.1,λw β F a m q=>?_⟩;have j:wI w β F s.h s.nx w β F s.h s.nx:=.refl m.hr _;obtain⟨r,_,_⟩:=m.put j .sx e;simp only[wpOps,k];rw[I (by rw[vB m.tr,n];simp)];exact qq f (by rw[g,p];exact j) r q
def SO.plain{b:Array Oper}{i:Nat}{l:List Nat}{o:Oper}{s e c:St}{v:V}{f:Hp}{d:Nat}(x:b[i]?=some o)(y:kV b s.t o.guard=true)(g:ps P s.t s.h s.nx o.op=some (v,f,d))(j:s.put o.dst v f d=some e)(k:SO P b l e c):SO P b (i::l) s c:=by
 obtain⟨n,z,_⟩:=nq j;have A:=QG g;have p:d<=c.nx:=by rw[<-n];exact k.1
 refine⟨aL A p,λw β F a m q=>?_⟩;simp only[wpOps,x];rw[U (by rw[vB m.tr,y])];obtain⟨G,u,H,I,J,B,C,D,r⟩:=aez (P:=P) m g (q.left p);refine .inl ?_;obtain⟨E,_,_⟩:=m.put r D j;have t:=qq k (by rw[n,z];exact r) E q;unfold Oper.wp;rw[B];rcases C with rfl|⟨rfl,rfl⟩;.exact t
 exact t
def KX{b:V}{k:List V}{u:Value}{m:Array Value}{f:Nat}{l:List V}(d:pw b (some k)=some (f,l))(o:R w β F b u)(p:RL w β F k m.toList):∃first n,u=.func (.func f) first n/\RL w β F l ((first++m)++n).toList:=by
 cases b with
 |f g x y=>simp only[pw,bB,cj]at d;obtain⟨rfl,rfl⟩:=d;cases o with|f _ _ _ a c q r s t=>refine⟨a,c,A,?_⟩;have z:RL w β F x a.toList:=⟨by simpa using q,λi v u e j=>r i v u e (by simpa using j)⟩;have B:RL w β F y c.toList:=⟨by simpa using s,λi v u e j=>t i v u e (by simpa using j)⟩;have:=z.append (p.append B);simpa using this
 |_=>simp[pw]at d
def SO.call{j:Array Oper}{i:Nat}{l:List Nat}{o:Oper}{s q k:St}{f:Operand}{b:Array Operand}{H:Array TypeId}{r:V}{g:Nat}{t:List V}{v:V}{x:Hp}{n:Nat}(I:j[i]?=some o)(J:kV j s.t o.guard=true)(K:o.op=.call ⟨.value f,b,H⟩)(L:mV s.t f=some r)(c:pw r (oa s.t b.toList)=some (g,t))(M:FI P g)(y:RC P g t s.h s.nx v x n)(z:s.put o.dst v x n=some q)(A:SO P j l q k):SO P j (i::l) s k:=by
 obtain⟨B,N,_⟩:=nq z;have C:n<=k.nx:=by rw[<-B];exact A.1
 refine⟨aL y.1 C,λw β F a m D=>?_⟩;simp only[wpOps,I];rw[U (by rw[vB m.tr,J])];refine .inl ?_;cases p:oa s.t b.toList with
 |none=>rw[p]at c;unfold pw at c;split at c<;>first|cases c;done|simp_all
 |some X=>rw[p]at c;have O:=px (m.tr.ops b.toList) p;obtain⟨first,E,Q,R⟩:=KX (m:=b.map a.eval) c (Gt m.tr L) (by simpa using O);(have S:(execOp a.eval o).run P w=.ok (.enter g ((first++b.map a.eval)++E)) w:=by have d:=M ((first++b.map a.eval)++E) w;unfold execOp;rw[K];simp only[resolve,Q,Deferred.ofValue];simpa[invoke]using d);unfold Oper.wp;rw[S];simp only[Oper.upon];refine Calls.mono (y.2 w β F _ m.hr R (D.left C)) λe Y d=>?_;cases e with|returned u=>obtain⟨Z,F',T,G⟩:=d;obtain⟨W,_,_⟩:=m.put G T z;exact qq A (by rw[B,N];exact G) W D|panicked a0=>exact d.elim|outgrown=>exact d.elim
def SO.defer{e:Array Oper}{i:Nat}{l:List Nat}{o:Oper}{s p q:St}{f:Operand}{b:Array Operand}{C:Array TypeId}{j:V}{k:List V}{g:Nat}{x y:List V}(D:e[i]?=some o)(E:kV e s.t o.guard=true)(G:o.op=.defer ⟨.value f,b,C⟩)(H:mV s.t f=some j)(I:j=.f g x y)(J:oa s.t b.toList=some k)(r:St.put ⟨s.t,s.z,s.h,s.nx,(j,k)::s.ds⟩ o.dst sx s.h s.nx=some p)(t:SO P e l p q):SO P e (i::l) s q:=by
 obtain⟨v,K,_⟩:=nq r;refine⟨by rw[<-v];exact t.1,λw β F a m L=>?_⟩;simp only[wpOps,D];rw[U (by rw[vB m.tr,E])];refine .inl ?_;have M:=px (m.tr.ops b.toList) J;have n:=Gt m.tr H;subst I;obtain⟨c,d,z⟩:∃c d,a.eval f=.func (.func g) c d:=by generalize a.eval f=u at n;cases n;exact⟨_,_,A⟩
 have N:(execOp a.eval o).run P w=.ok (.defer {target:=.fn (.func g) d,args:=c++b.map a.eval}) w:=by unfold execOp;rw[G];simp[resolve,z,Deferred.ofValue]
 unfold Oper.wp;rw[N];simp only[Oper.upon];have B:wI w β F s.h s.nx w β F s.h s.nx:=.refl m.hr _;have O:MR w β F ⟨s.t,s.z,s.h,s.nx,(.f g x y,k)::s.ds⟩ {a with defers:={target:=.fn (.func g) d,args:=c++b.map a.eval}::a.defers}:=⟨m.hr,m.tr,m.sz,⟨.func g,c,d,(b.map a.eval).toList,z▸n,by simpa using M,by rw[vq]⟩,m.ds⟩;obtain⟨Q,_,_⟩:=O.put B .sx r;exact qq t (by rw[v,K];exact B) Q L
def SO.region{b:Array Oper}{id:Nat}{s c:St}(h:SO P b (List.range b.size) s c):SC P (.region id b false) s .norm c:=⟨h.1,λw β F a m d=>wp_region (h.2 w β F a m d)⟩
def Wx(b:Array Value):ResultVar->Sem Value|.tmp t=>pure (b.getD t undef)|.cell a t=>do loadVar t (<-asAddr (b.getD a undef))
def ux{c:Array Value}(H:HR w β F h){t:T V}(ht:TR w β F t c):∀(d:List ResultVar)(l:List V),hT P t h d=some l->∃e:List Value,RL w β F l e/\(d.mapM (Wx c)).run P w=.ok e w|[],l,a=>by simp only[hT]at a;cases a;exact⟨[],RL.nil,by simp⟩|.tmp k::d,l,a=>by simp only[hT]at a;split at a;(.rename_i r j;cases a;obtain⟨e,m,n⟩:=ux H ht d r j;have f:(Wx c (.tmp k)).run P w=.ok (c.getD k undef) w:=A;exact⟨_::e,m.cons (ht k),by simp only[vp,Sem.run_bind,Sem.run_pure,n,f,Result.andThen_ok]⟩);cases a|.cell k ty::d,l,a=>by simp only[hT]at a;split at a;(.rename_i v r g j;cases a;obtain⟨e,m,n⟩:=ux H ht d r j;obtain⟨u,f,q⟩:=Qz (P:=P) H g (ht k);(have s:(Wx c (.cell k ty)).run P w=.ok u w:=by (have i:∃b o,gA t k=.p b o\/∃l,gA t k=.ip l:=by unfold xS at g;split at g<;>first|exact⟨_,_,.inl ‹_›⟩|exact⟨0,0,.inr ⟨_,‹_›⟩⟩|cases g);have p:=ht k;obtain⟨b,o,i|⟨l,i⟩⟩:=i<;>rw[i]at p<;>change((do loadVar ty (<-asAddr (c.getD k undef))):Sem Value).run P w=_<;>generalize c.getD k undef=x at p f|-<;>cases p<;>simpa[Instr.loadAt,Instr.sureAddr,asAddr]using f);exact⟨u::e,m.cons q,by simp only[vp,Sem.run_bind,Sem.run_pure,n,s,Result.andThen_ok]⟩);cases a
def Gx{c:Func}{d:Array Value}(H:HR w β F h){t:T V}(ht:TR w β F t d){l:List V}(g:hT P t h c.results.toList=some l):∃u,(results c d).run P w=.ok u w/\R w β F (Db l) u:=by
 obtain⟨b,a,j⟩:=ux H ht _ _ g;have k:(c.results.mapM (Wx d)).run P w=.ok b.toArray w:=by rw[Array.mapM_eq_mapM_toList];simp[j]
 have m:(results c d).run P w=.ok (if h:b.toArray.size=1 then b.toArray[0]else .tuple b.toArray) w:=by have e:results c d=(do let f<-c.results.mapM (Wx d);pure (if h:f.size=1 then f[0]else .tuple f)):=A;rw[e];simp[k]
 refine⟨_,m,?_⟩;match l,b,a with
 |[v],[u],a=>simpa[Db]using a.2 0 v u A A|[],[],a=>exact .ey _ _ A λi v u h=>by simp at h
 |v::o::l,u::n::b,a=>have:¬(u::n::b).toArray.size=1:=aS;rw[Kt this];exact RL.ey (by simpa using a)|[],_::_,a=>have:=a.1;simp at this
 |_::_,[],a=>have:=a.1;simp at this
 |[_],_::_::_,a=>have:=a.1;simp at this
 |_::_::_,[_],a=>have:=a.1;simp at this
def uy{k:tG}(hid:∀m,k.idle m=true->Idle P m){n:Func}{o:Array Value}{Q:Ending->World->Prop}{u:Value}(p:(results n o).run P w=.ok u w)(q:Q (.returned u) w):∀(j:List (V×List V))(r:List Deferred),xW k j=true->DR w β F j r->Leaves P n o Q r .returning w
|[],[],_,_=>⟨u,p,q⟩|x::j,d::r,b,i=>by obtain⟨⟨I,first,s,t,z,A,B⟩,C⟩:=i;obtain⟨v,l⟩:=x;cases z with|x u h=>cases b|j u h A=>cases b|f g x y a c _ _ _ _=>simp only[xW,aA]at b;obtain⟨D,E⟩:=hid g b.1;subst B;refine leaves_cons aS (f:=g) (args:=(first++t.toArray)++s) (by simpa[invoke]using D ((first++t.toArray)++s) w) (CallsD.mono (E _ w) λe J K h=>?_);rcases h with G|⟨⟨v,rfl⟩,rfl,H⟩;(.exact G.elim);rw[H];exact uy hid p q j r b.2 C
|[],_::_,_,i=>i.elim|_::_,[],_,i=>i.elim
def Dg:∀(l:List V)(k:Nat)(t:T V)(j:Nat),gA (tmpsOf l k t) j=if h:k<=j/\j<k+l.length then l[j-k]'G else gA t j|[],k,t,j=>by rw[Kt aS];rfl|v::l,k,t,j=>by simp only[tmpsOf];rw[Dg l (k+1) _ j];by_cases a:k+1<=j/\j<k+1+l.length;(.rw[CL a,CL aN];have:j-k=(j-(k+1))+1:=G;simp[this]);rw[Kt a];by_cases b:j=k;(.subst b;rw[CL aS];simp[gA,T.dI]);rw[Kt aN];simp[gA,T.dI,b]
def TR.start{b:List V}{a:Array Value}(d:RL w β F b a.toList)(n:Nat):TR w β F (tmpsOf b 0 .e) (a++Array.replicate n undef):=by
 intro j;have f:b.length=a.size:=by simpa using d.1
 rw[Dg];split;.rename_i h;have c:j<a.size:=G;have:=d.2 j _ a[j] (aa G) (by simp[c]);simpa[ug,c]using this
 rename_i h;have c:a.size<=j:=G;have e:(a++Array.replicate n undef).getD j undef=undef:=by simp only[fA,ug];rw[I G];simp only[ry];split<;>rfl
 rw[e];simpa[gA]using(R.sx:R w β F sx undef)
def RC.body{o:tG}(v:Bi P)(hid:∀f,o.idle f=true->Idle P f){f:Nat}{b:Func}{c:Code}{d:List V}{h L:Hp}{g:Nat}{x:X}{a:St}{l:List V}(p:P.funcs[f]?=some b)(q:b.body=some c)(r:SC P c ⟨tmpsOf d 0 .e,max d.length b.ntmps,h,g,[]⟩ x a)(y:x=.norm\/x=.ret)(z:xW o a.ds=true)(A:hT P a.t a.h b.results.toList=some l):FI P f/\RC P f d h g (Db l) a.h a.nx:=by
 refine⟨v.ID p q,r.1,λw β F k H s B=>calls_of_wp_defers p q ?_⟩;have C:d.length=k.size:=by simpa using s.1
 have m:MR w β F ⟨tmpsOf d 0 .e,max d.length b.ntmps,h,g,[]⟩ {tmps:=k++Array.replicate (b.ntmps-k.size) undef,defers:=[]}:=⟨H,TR.start s _,by simp[C];omega,True.intro⟩;refine wp_mono (r.2 w β F _ m B) λe D M E=>?_;rcases E with G|⟨rfl,i,j,n,I⟩;.exact G.elim
 obtain⟨u,J,K⟩:=Gx n.hr n.tr A;have:=uy hid (Q:=λ|.returned u,t=>∃i j,R t i j (Db l) u/\wI w β F h g t i j a.h a.nx|.panicked _,_=>False|.outgrown,_=>False) J ⟨i,j,K,I⟩ a.ds D.defers z n.ds;rcases y with rfl|rfl<;>exact this
end
section
variable{P:Program}
inductive KY(a:Array Oper):Nat->Nat->Prop|one{i:Nat}{o:Oper}{e:Edge}(b:a[i]?=some o)(c:e∈o.after)(d:Region.binds .any e=true):KY a i e.on|step{i x:Nat}{o:Oper}{e:Edge}(b:a[i]?=some o)(c:e∈o.after)(d:Region.binds .any e=true)(h:KY a e.on x):KY a i x
def mem_merge{a b:List Nat}{x:Nat}(h:x∈merge a b):x∈a\/x∈b:=by simp only[merge,aZ,cd]at h;rcases h with h|h;(.exact .inl h);exact .inr h.1
def QI{d:Array Oper}:∀(l:List Oper)(c:List (List Nat)),(∀j o,l[j]?=some o->d[c.length+j]?=some o)->(∀i x,x∈c.getD i []->KY d i x)->∀i x,x∈(aak l c).getD i []->KY d i x
|[],c,_,h,i,x,a=>h i x a|o::l,c,m,h,i,x,a=>by
 refine QI l _ (λj r t=>?_) (λi x a=>?_) i x a;.have:=m (j+1) r (by simpa using t);simpa[gm,mN 1 j]using this
 by_cases u:i<c.length;.rw[az,cb u,<-az]at a;exact h i x a
 by_cases g:i=c.length;.subst g;(have p:d[c.length]?=some o:=by simpa using m 0 o A);simp only[az,bU (af _),fN,me,nN]at a;(have v:∀(es:List Edge)(s:List Nat),(∀e∈es,e∈o.after)->(∀x∈s,KY d c.length x)->∀x∈es.foldl (λs e=>match Region.binds .any e with|true=>merge (merge s [e.on]) (c.getD e.on [])|false=>s) s,KY d c.length x:=by intro es;induction es with|nil=>intro s _ f x a;exact f x a|cons e es w=>intro s k f x a;simp only[hW]at a;refine w _ (λz B=>k z (bA _ B)) ?_ x a;intro y b;split at b;(.rename_i q;rcases mem_merge b with b|b;(.rcases mem_merge b with b|b;(.exact f y b);simp only[qb]at b;subst b;exact .one p (k e aS) q);exact .step p (k e aS) q (h _ _ b));exact f y b);exact v o.after.toList [] (λe g=>by simpa using g) (λx a=>by simp at a) x a
 rw[az,bO aN]at a;simp at a
def KY.aaC{a:Array Oper}{i x:Nat}(h:x∈(aak a.toList []).getD i []):KY a i x:=QI a.toList [] (λj o b=>by simpa using b) (λi x c=>by simp at c) i x h
def ai6(a:Array Oper)(p:Nat->Bool):Prop:=∀(i:Nat)o e,p i=true->a[i]?=some o->e∈o.after->Region.binds .any e=true->p e.on=true
def KY.akm{d:Array Oper}{p:Nat->Bool}(e:ai6 d p){i x:Nat}(h:KY d i x)(f:p i=true):p x=true:=by induction h with|one a b c=>exact e _ _ _ f a b c|step a b c _ g=>exact g (e _ _ _ f a b c)
def KY.ready{b:Array Oper}{p:Nat->Bool}(j:ai6 b p){i x:Nat}{o:Oper}(h:KY b i x)(f:b[i]?=some o)(g:∀e∈o.after,Region.binds .any e=true->p e.on=true):p x=true:=by cases h with|one a c d=>rw[f]at a;cases a;exact g _ c d|step a c d h=>rw[f]at a;cases a;exact h.akm j (g _ c d)
section
variable{n:Nat}{es:List Bool}{an:List (List Nat)}
def pf{done E b:List Nat}{j i k:Nat}{l:List (Nat×Nat)}(h:wt n es an done E j b ((i,k)::l)=true):i<n/\i∉done/\(∀x∈an.getD i [],x∈done)/\(es.getD i false=true->(∀x∈b,x∈an.getD i [])/\(∀x∈E,x∈an.getD i [])/\wt n es an (i::done) (i::E) (j+1) [] l=true)/\(es.getD i false=false->aam E j k (an.getD i [])=true/\wt n es an (i::done) E j (i::b) l=true):=by simp only[wt,aA,gE,aU,jS]at h;obtain⟨⟨⟨d,e⟩,f⟩,a⟩:=h;refine⟨by simpa[eW]using d,by simpa using e,f,λc=>?_,λc=>?_⟩;(.rw[c]at a;simp only[aA,aU,jS]at a;exact⟨a.1.1,a.1.2,a.2⟩);rw[c]at a;simp only[aA]at a;exact a
def Wy{done E a:List Nat}{j:Nat}(h:wt n es an done E j a []=true):∀i,i<n->i∈done:=by intro i b;simp only[wt,aU,qc,jS]at h;exact h i b
def Oe(es:List Bool):List (Nat×Nat)->Nat|[]=>0|(i,_)::l=>if es.getD i false=true then Oe es l+1 else Oe es l
def vC:∀(c:List (Nat×Nat))(done E q:List Nat)(j:Nat)(l:List (Nat×Nat)),wt n es an done E j q (c++l)=true->∃o g p,wt n es an ((c.map (·.1)).reverse++done) o p g l=true/\(∃e,o=e++E/\(∀x∈e,x∈c.map (·.1)/\es.getD x false=true)/\p=j+e.length/\e.length=Oe es c/\∀x∈c.map (·.1),es.getD x false=true->x∈e)/\((∀x∈c.map (·.1),es.getD x false=false)->∀x∈c.map (·.1),x∈g)/\((∀x∈c.map (·.1),es.getD x false=false)->∀x∈q,x∈g)|[],done,E,q,j,l,h=>⟨E,q,j,h,⟨[],A,λx d=>by simp at d,A,A,λx d=>by simp at d⟩,λ_ x d=>by simp at d,λ_ x d=>d⟩|(i,k)::c,done,E,q,j,l,h=>by obtain⟨H,J,K,F,G⟩:=pf h;cases f:es.getD i false with|true=>obtain⟨_,_,t⟩:=F f;obtain⟨o,g,p,u,⟨e,v,w,y,z,B⟩,C,_⟩:=vC c _ _ _ _ _ t;refine⟨o,g,p,by simpa using u,⟨e++[i],by rw[v];simp,λx d=>?_,by rw[y];simp;omega,by rw[Oe,U f,aj,z];rfl,λx d r=>?_⟩,λm=>?_,λm=>?_⟩;(.simp only[aZ,qb]at d;rcases d with d|rfl;(.obtain⟨a,b⟩:=w x d;exact⟨bA _ a,b⟩);exact⟨by simp,f⟩);(.simp only[aw,aR]at d;rcases d with rfl|d;(.simp);exact eF _ (B x d r));(.have:=m i aS;rw[f]at this;cases this);have:=m i aS;rw[f]at this;cases this|false=>obtain⟨_,t⟩:=G f;obtain⟨o,g,p,u,⟨e,v,w,y,z,B⟩,C,D⟩:=vC c _ _ _ _ _ t;refine⟨o,g,p,by simpa using u,⟨e,v,λx d=>?_,y,by rw[Oe,I (by rw[f];simp),z],λx d r=>?_⟩,λm x d=>?_,λm x d=>?_⟩;(.obtain⟨a,b⟩:=w x d;exact⟨bA _ a,b⟩);(.simp only[aw,aR]at d;rcases d with rfl|d;(.rw[f]at r;cases r);exact B x d r);(.have s:∀x∈c.map (·.1),es.getD x false=false:=λx d=>m x (bA _ d);simp only[aw,aR]at d;rcases d with rfl|d;(.exact D s _ aS);exact C s x d);have s:∀x∈c.map (·.1),es.getD x false=false:=λx d=>m x (bA _ d);exact D s _ (by simp[d])
end
def Tv{E:List Nat}{j k:Nat}{a:List Nat}(h:aam E j k a=true):k=0\/(k<=j/\∃x,E[j-k]?=some x/\x∈a):=by cases k with|zero=>exact .inl A|succ k=>refine .inr ?_;simp only[aam]at h;split at h;(.rename_i x b c;exact⟨dE b,x,c,by simpa using h⟩);cases h
structure Rec where
 i:Nat
 k:Nat
 o:Oper
 v:V
 al:Option (Nat×Ob)
inductive DS(P:Program)(b:Array Oper)(o:Oper)(k:Nat)(s:St)(d:List Hp):V->Hp->Nat->Option (Nat×Ob)->Prop|skip(i:kV b s.t o.guard=false):DS P b o k s d sx s.h s.nx none|p{v:V}(i:kV b s.t o.guard=true)(m:kd P o.op=.p)(h:BT P s.t o.op=some v):DS P b o k s d v s.h s.nx none|a{q:Ob}{mk:Mk}(i:kV b s.t o.guard=true)(m:kd P o.op=.a)(h:Qt P s.t o.op=some (q,mk)):DS P b o k s d (mk.at s.nx) (s.h.set s.nx q) (s.nx+1) (some (s.nx,q))|r{v:V}(i:kV b s.t o.guard=true)(m:kd P o.op=.r)(h:∀x∈d.take (d.length-k),NR P s.t x o.op=some v):DS P b o k s d v s.h s.nx none|e{v:V}{j:Hp}{l:Nat}(i:kV b s.t o.guard=true)(m:kd P o.op=.e)(h:VA P s.t s.h s.nx o.op=some (v,j,l)):DS P b o k s d v j l none|c{f:Operand}{t:Array Operand}{y:Array TypeId}{u:V}{g:Nat}{w:List V}{v:V}{j:Hp}{l:Nat}(i:kV b s.t o.guard=true)(z:o.op=.call ⟨.value f,t,y⟩)(A:mV s.t f=some u)(B:pw u (oa s.t t.toList)=some (g,w))(C:FI P g)(D:RC P g w s.h s.nx v j l):DS P b o k s d v j l none
inductive Bj(P:Program)(b:Array Oper):List (Nat×Nat)->St->List Hp->List Rec->St->Prop|nil(s:St)(a:List Hp):Bj P b [] s a [] s|cons{i k:Nat}{l:List (Nat×Nat)}{s d fin:St}{a:List Hp}{o:Oper}{v:V}{c:Hp}{e:Nat}{f:Option (Nat×Ob)}{tr:List Rec}(g:b[i]?=some o)(h:DS P b o k s a v c e f)(j:s.put o.dst v c e=some d)(ht:Bj P b l d (if FQ (kd P o.op)=true then c::a else a) tr fin):Bj P b ((i,k)::l) s a (⟨i,k,o,v,f⟩::tr) fin
def FW(t:T V)(d:Option Nat)(v:V):T V:=match d with|some d=>t.set d v|none=>t
def tX(p:Nat->Bool):List Rec->T V->T V|[],t=>t|r::B,t=>tX p B (if p r.i=true then FW t r.o.dst r.v else t)
def Wz{s b:St}{d:Option Nat}{v:V}{c:Hp}{e:Nat}(a:s.put d v c e=some b):b.t=FW s.t d v:=by unfold St.put at a;cases d with|none=>cases a;rfl|some d=>simp only at a;split at a<;>cases a;rfl
def Gy(p:Nat->Bool):∀(B C:List Rec)(t:T V),tX p (B++C) t=tX p C (tX p B t)|[],C,t=>A|r::B,C,t=>by simp only[bE,tX];exact Gy p B C _
def yb{p:Nat->Bool}{d:Nat}:∀(B:List Rec)(t:T V),(∀r∈B,r.o.dst=some d->p r.i=false)->gA (tX p B t) d=gA t d|[],t,_=>A|r::B,t,h=>by simp only[tX];rw[yb B _ λr a=>h r (bA _ a)];split;(.rename_i b;cases c:r.o.dst with|none=>rfl|some f=>(have g:f≠d:=λe=>by have:=h r aS (by rw[c,e]);rw[b]at this;cases this);simp only[FW,gA,T.dI];rw[I (nY g)]);rfl
def IE{p q:Nat->Bool}{d:Nat}:∀(B:List Rec)(t u:T V),gA t d=gA u d->(∀r∈B,r.o.dst=some d->p r.i=q r.i)->gA (tX p B t) d=gA (tX q B u) d|[],t,u,h,_=>h|r::B,t,u,h,b=>by simp only[tX];refine IE B _ _ ?_ λr f=>b r (bA _ f);cases g:r.o.dst with|none=>simpa[FW]using h|some a=>by_cases c:a=d;(.subst c;rw[b r aS g];split;(.simp[FW,gA,T.dI]);exact h);(have e:∀(t:T V),gA (FW t (some a) r.v) d=gA t d:=λt=>by simp only[FW,gA,T.dI];rw[I (nY c)]);(have i:gA (if p r.i=true then FW t (some a) r.v else t) d=gA t d:=by split<;>first|exact e t|rfl);(have j:gA (if q r.i=true then FW u (some a) r.v else u) d=gA u d:=by split<;>first|exact e u|rfl);rw[i,j];exact h
def IF{p:Nat->Bool}{d:Nat}{r:Rec}(f:r.o.dst=some d)(g:p r.i=true):∀(B:List Rec)(t:T V),r∈B->(∀x∈B,x.o.dst=some d->x.v=r.v)->gA (tX p B t) d=r.v
|[],t,h,_=>by simp at h
|x::B,t,h,c=>by
 simp only[tX];by_cases i:r∈B;.exact IF f g B _ i λx e=>c x (bA _ e)
 have e:x=r:=by rcases aR.1 h with h|h;(.exact h.symm);exact absurd h i
 subst e;rw[U g];by_cases j:∃y∈B,y.o.dst=some d/\p y.i=true;.obtain⟨y,a,b,l⟩:=j;have k:=c y (bA _ a) b;rw[<-k];exact IF b l B _ a λz m o=>(c z (bA _ m) o).trans k.symm
 rw[yb B _ λy a b=>?_];.simp[FW,f,gA,T.dI]
 cases q:p y.i with|false=>rfl|true=>exact absurd ⟨y,a,b,q⟩ j
end
section
variable{P:Program}{ops:Array Oper}
def DS.nx{o:Oper}{k:Nat}{s:St}{j:List Hp}{v:V}{f:Hp}{d:Nat}{g:Option (Nat×Ob)}(h:DS P ops o k s j v f d g):s.nx<=d/\(∀b i,g=some (b,i)->b=s.nx/\d=s.nx+1/\f=s.h.set b i)/\(FQ (kd P o.op)=false->g=none->f=s.h/\d=s.nx)/\(FQ (kd P o.op)=true->g=none):=by
 cases h with
 |skip e=>exact⟨af _,λ_ _ h=>(by cases h),λ_ _=>⟨A,A⟩,λ_=>A⟩|p e c h=>exact⟨af _,λ_ _ h=>(by cases h),λ_ _=>⟨A,A⟩,λ_=>A⟩|a e c h=>exact⟨by omega,λ_ _ h=>(by cases h;exact⟨A,A,A⟩),λ_ h=>(by cases h),λh=>(by rw[c]at h;cases h)⟩
 |r e c h=>exact⟨af _,λ_ _ h=>(by cases h),λ_ _=>⟨A,A⟩,λ_=>A⟩|e e c h=>(have:ps P s.t s.h s.nx o.op=some (v,f,d):=by unfold ps;rw[c];exact h);exact⟨QG this,λ_ _ h=>(by cases h),λh=>(by rw[c]at h;cases h),λ_=>A⟩
 |c e l n q r m=>(have c:kd P o.op=.c:=by rw[l];rfl);exact⟨m.1,λ_ _ h=>(by cases h),λh=>(by rw[c]at h;cases h),λ_=>A⟩
def Bj.facts{l:List (Nat×Nat)}{s fin:St}{n:List Hp}{B:List Rec}(h:Bj P ops l s n B fin):s.nx<=fin.nx/\fin.z=s.z/\fin.ds=s.ds/\l=B.map (λr=>(r.i,r.k))/\(∀r∈B,ops[r.i]?=some r.o)/\(∀r∈B,∀b m,r.al=some (b,m)->s.nx<=b/\b<fin.nx)/\(∀r∈B,FQ (kd P r.o.op)=true->r.al=none)/\(∀e∈B,∀f∈B,∀b g j,e.al=some (b,g)->f.al=some (b,j)->e=f):=by
 induction h with
 |nil s n=>exact⟨af _,A,A,A,λr h=>by simp at h,λr h=>by simp at h,λr h=>by simp at h,λr h=>by simp at h⟩
 |@cons i k l s s1 fin n o v T U V W z C D ht E=>obtain⟨X,H,I,J,K,q,L,M⟩:=E;obtain⟨Y,Z,N,O⟩:=nq D;obtain⟨d1,t,d3,Q⟩:=C.nx;refine⟨by omega,by rw[H,O],by rw[I,N],by rw[J];rfl,λr c=>?_,λr c b m y=>?_,λr c=>?_,λe h1 f d b g j u x=>?_⟩;(.rcases aR.1 c with rfl|c;(.exact z);exact K r c);(.rcases aR.1 c with rfl|c;(.obtain⟨rfl,d,_⟩:=t b m y;exact⟨af _,G⟩);have:=q r c b m y;omega);(.rcases aR.1 c with rfl|c;(.exact Q);exact L r c);rcases aR.1 h1 with rfl|h1;(.rcases aR.1 d with rfl|d;(.rfl);have R:=t b g u;have S:=q f d b j x;omega);rcases aR.1 d with rfl|d;(.have R:=t b j x;have S:=q e h1 b g u;omega);exact M e h1 f d b g j u x
def Bj.split{es:List Bool}(n:∀(i:Nat)o,ops[i]?=some o->es.getD i false=FQ (kd P o.op)){r:Rec}{B:List Rec}:∀{d:List Rec}{l:List (Nat×Nat)}{s fin:St}{b:List Hp},Bj P ops l s b (d++r::B) fin->∃e f X g q,DS P ops r.o r.k e f r.v g q r.al/\e.t=tX (λ_=>true) d s.t/\f=X++b/\X.length=Oe es (d.map λr=>(r.i,r.k))/\s.nx<=e.nx
|[],l,s,fin,b,h=>by cases h with|cons t j m ht=>exact⟨s,b,[],_,_,j,A,A,A,af _⟩
|c::d,l,s,fin,b,h=>by cases h with|@cons i k l s s1 fin b o v g q H I t j m ht=>obtain⟨e,f,X,u,x,y,z,D,E,J⟩:=Bj.split n (d:=d) ht;have K:=(nq m).1;have L:=j.nx.1;refine⟨e,f,X++(if FQ (kd P o.op)=true then[g]else[]),u,x,y,?_,?_,?_,G⟩;(.rw[z];simp only[tX,fi,Wz m]);(.rw[D];split<;>simp);have:=n i o t;simp only[aw,Oe,this];split<;>simp[E]
structure ZY(w0:World)(Gz:Nat->Option (Nat×Nat))(F0:Nat->Prop)(s0:St)(w:World)(β:Nat->Option (Nat×Nat))(F:Nat->Prop)(h:Hp)(e:Nat):Prop where
 ext:Ext w0 Gz F0 w β F
 old:∀b,b<s0.nx\/e<=b->β b=Gz b
 keep:∀B,B<w0.heap.size->(∀b o d,s0.h.get b=some o->Gz b=some (B,d)->False)->w.heap[B]?=w0.heap[B]?
 mono:∀B,F0 B->F B
 tW:∀B,F B->F0 B\/(w0.heap.size<=B/\B<w.heap.size)
 kB:∀b o B d,h.get b=some o->β b=some (B,d)->w0.heap.size<=B\/∃c f g,s0.h.get c=some f/\Gz c=some (B,g)
structure agT(w0 w:World)(β:Nat->Option (Nat×Nat))(F:Nat->Prop)(h:Hp)(b:Nat)(d:Ob)(Bk:Nat):Prop where
 at_:β b=some (Bk,0)
 f:F Bk
 oc:OC w β F Bk 0 d
 new:w0.heap.size<=Bk
 no:∀c e g,h.get c=some e->β c=some (Bk,g)->False
structure Inv(w0:World)(p:Nat->Bool)(B:List Rec)(s fin:St)(h1:Hp)(w:World)(β:Nat->Option (Nat×Nat))(F:Nat->Prop)(a:Act):Prop where
 hr:HR w β F s.h
 ahg:HR w β F h1
 tr:∀d,R w β F (gA (tX p B s.t) d) (a.tmps.getD d undef)
 sz:a.tmps.size=s.z
 ds:DR w β F s.ds a.defers
 al:∀r∈B,p r.i=true->∀b c,r.al=some (b,c)->∃Bk,agT w0 w β F s.h b c Bk/\∀f∈B,p f.i=true->∀e g,f.al=some (e,g)->e≠b->∀h,β e=some (Bk,h)->False
 fr:∀b,s.nx<=b->b<fin.nx->(∀r∈B,p r.i=true->∀c,r.al≠some (b,c))->β b=none
variable{w0 w:World}{Gz β:Nat->Option (Nat×Nat)}{F0 F:Nat->Prop}{s0 s s1 fin:St}{h1:Hp}{a:Act}{p:Nat->Bool}
def agT.lt{h:Hp}{b Bk:Nat}{c:Ob}(e:agT w0 w β F h b c Bk):Bk<w.heap.size:=e.oc.lt
def Inv.akn{l:List (Nat×Nat)}{L:List Hp}{r:Rec}{B:List Rec}(I:Inv w0 p (r::B) s fin h1 w β F a)(m:ZY w0 Gz F0 s0 w β F s.h fin.nx)(D:p r.i=true)(M:FQ (kd P r.o.op)=false)(ht:Bj P ops l s L (r::B) fin):∃S s1,Bj P ops S s1 L B fin/\l=(r.i,r.k)::S/\Inv w0 p B s1 fin h1 w β F a/\ZY w0 Gz F0 s0 w β F s1.h fin.nx/\s.nx<=s1.nx:=by have a5:=ht.facts;cases ht with|@cons i k l s s1 fin L o v h' a6 al tr a7 hd V ht=>simp only at M D;rw[M]at ht;simp only[cy,dz]at ht;refine⟨l,s1,ht,A,?_⟩;obtain⟨W,X,Y,Z⟩:=nq V;obtain⟨d1,y,d3,_⟩:=hd.nx;(have a0:∀d,R w β F (gA (tX p B s1.t) d) (a.tmps.getD d undef):=λd=>by have:=I.tr d;simp only[tX]at this;rw[U D,<-Wz V]at this;exact this);cases al with|none=>obtain⟨q1,N⟩:=d3 M A;(have n:s1.h=s.h:=by rw[X,q1]);(have hn:s1.nx=s.nx:=by rw[W,N]);refine⟨⟨by rw[n];exact I.hr,I.ahg,a0,by rw[Z];exact I.sz,by rw[Y];exact I.ds,λr c t b j g=>?_,λb h1 C H=>?_⟩,by rw[n];exact m,G⟩;(.obtain⟨Bk,q,J⟩:=I.al r (bA _ c) t b j g;exact⟨Bk,by rw[n];exact q,λO Q=>J O (bA _ Q)⟩);refine I.fr b G C λr c t j g=>?_;rcases aR.1 c with rfl|c;(.cases g);exact H r c t j g|some x=>obtain⟨b0,u⟩:=x;obtain⟨rfl,N,q3⟩:=y b0 u A;obtain⟨Bk,E,a8⟩:=I.al ⟨i,k,o,v,some (s.nx,u)⟩ aS D s.nx u A;(have n:s1.h=s.h.set s.nx u:=by rw[X,q3]);(have hn:s1.nx=s.nx+1:=by rw[W,N]);(have a2:HR w β F s1.h:=by rw[n];refine I.hr.put (.refl w β F) I.hr.bd s.nx u E.at_ E.f E.oc (λK z B2 a3 f h=>?_) (λK z y a3 f h=>E.no K z y f h);obtain⟨d,h⟩:=h;obtain⟨B',d',h1,C,H⟩:=I.hr.kB f;rw[h]at h1;cases h1;exact⟨A,C⟩);refine⟨⟨a2,I.ahg,a0,by rw[Z];exact I.sz,by rw[Y];exact I.ds,λr c t b j g=>?_,λb h1 C H=>?_⟩,?_⟩;(.obtain⟨a4,q,J⟩:=I.al r (bA _ c) t b j g;have h:=ht.facts.2.2.2.2.2.1 r c b j g;refine⟨a4,⟨q.at_,q.f,q.oc,q.new,λK z y f a1=>?_⟩,λO Q=>J O (bA _ Q)⟩;rw[n,T.dI]at f;split at f;(.rename_i e;subst e;exact J ⟨i,k,o,v,some (s.nx,u)⟩ aS D s.nx u A G y a1);exact q.no K z y f a1);(.refine I.fr b G C λr c t j g=>?_;rcases aR.1 c with rfl|c;(.simp only[bB,cj]at g;omega);exact H r c t j g);refine⟨⟨m.ext,m.old,m.keep,m.mono,m.tW,λb z B2 d f h=>?_⟩,G⟩;rw[n,T.dI]at f;split at f;(.rename_i e;subst e;rw[E.at_]at h;cases h;exact .inl E.new);exact m.kB b z B2 d f h
def Inv.finish:∀{B:List Rec}{l:List (Nat×Nat)}{c:List Hp}{s:St},Inv w0 p B s fin h1 w β F a->ZY w0 Gz F0 s0 w β F s.h fin.nx->(∀r∈B,p r.i=true/\FQ (kd P r.o.op)=false)->s0.nx<=s.nx->Bj P ops l s c B fin->oT w0 Gz F0 s0 .norm fin .normal a w|[],l,c,s,I,b,_,f,ht=>by cases ht;exact .inr ⟨A,β,F,⟨I.hr,λd=>I.tr d,I.sz,I.ds⟩,⟨b.ext,I.hr,f,b.old,b.keep,b.mono,b.tW,b.kB⟩⟩|r::B,l,c,s,I,b,e,f,ht=>by obtain⟨k,s1,g,m,h,i,this⟩:=I.akn b (e r aS).1 (e r aS).2 ht;exact Inv.finish h i (λr j=>e r (bA _ j)) G g
end
end Go.Ev
