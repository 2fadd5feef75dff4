/- TopRewrites: a part of the proof. -/
import Derived.ChangeArms
import Derived.ChangeMaps5
import Derived.Deep.Slices
import Derived.OpenShut
import Derived.SizedLaws
import Derived.WideShapes
import Derived.Test.YtcimkkmkiedobaaGreatDoorM28
set_option maxRecDepth 100000
set_option maxHeartbeats 32000000
set_option linter.all false
namespace Go.Ev
section
open Go.Proofs Go.RowKit Go.ChangeShapes Go.WideShapes Go.Deep
mutual
def iJ{H:Type}:DataW H->Nat|.lit (.string s)=>s.length+1|.lit _=>1|.nil=>1|.ptr d=>iJ d+1|.slice l m=>mM l+mM m+1|.agg l=>mM l+1|.iface _ d=>iJ d+1|.map l=>ael l+1|.held _=>1
def mM{H:Type}:List (DataW H)->Nat|[]=>0|d::r=>iJ d+mM r
def ael{H:Type}:List (Lit×DataW H)->Nat|[]=>0|x::r=>aiX x+ael r
def aiX{H:Type}:Lit×DataW H->Nat|(.string s,d)=>s.length+iJ d+1|(_,d)=>iJ d+1
end
def B0:Nat->Option (Nat×Nat):=λ_=>none
def F0:Nat->Prop:=λ_=>False
def RL.c{w:World}{a:Nat->Option (Nat×Nat)}{F:Nat->Prop}{v:V}{u:Value}{l:List V}{b:List Value}(h:R w a F v u)(c:RL w a F l b):RL w a F (v::l) (u::b):=⟨by simp[c.1],λi x y d e=>by cases i with|zero=>cases d;cases e;exact h|succ i=>exact c.2 i x y (by simpa using d) (by simpa using e)⟩
def RL.o{w:World}{a:Nat->Option (Nat×Nat)}{F:Nat->Prop}{v:V}{u:Value}(h:RL w a F [v] [u]):R w a F v u:=h.2 0 v u A A
def RL.n{w:World}{a:Nat->Option (Nat×Nat)}{F:Nat->Prop}:RL w a F [] []:=⟨A,λi x y b=>by simp at b⟩
def ac9{c:Type}{n:Nat}{p:Nat->c->Prop}(h:∀i,i<n->∃a,p i a):∃l:List c,l.length=n/\∀i(b:i<l.length),p i l[i]:=by
 induction n with
 |zero=>exact⟨[],A,λi b=>by simp at b⟩
 |succ n f=>obtain⟨l,d,g⟩:=f λi b=>h i (by omega);obtain⟨a,j⟩:=h n (by omega);refine⟨l++[a],by simp[d],λi b=>?_⟩;by_cases e:i<l.length;(.rw[List.getElem_append_left e];exact g i e);(have:i=n:=by simp at b;omega);subst this;rw[List.getElem_append_right (by omega)];simp only[d,fN,jx];exact j
def Ij{H:Type}:∀{b:List (DataW H)}{a:Nat}(h:a<b.length),iJ b[a]<=mM b|d::r,0,_=>by simp only[mM,jx];omega|d::r,a+1,h=>by have:=Ij (b:=r) (a:=a) (by simpa using h);simp only[mM,tE];omega
def Vv{H:Type}(d:DataW H):1<=iJ d:=by cases d with|lit l=>cases l<;>simp[iJ]|_=>simp[iJ]
def Ik{H:Type}:∀l:List (DataW H),l.length<=mM l|[]=>au _|d::r=>by have:=Ik r;have:=Vv d;simp only[mM,aE];omega
def NG{c H:Type}{f:c->Nat}:∀(l:List c)(e:List (DataW H)),l.length=e.length->(∀i(h:i<l.length)(b:i<e.length),f l[i]<=iJ e[i])->(l.map f).sum<=mM e|[],e,_,_=>au _|a::l,[],h,_=>by cases h|a::l,d::e,h,b=>by have g:=b 0 (by simp) (by simp);have:=NG l e (by simpa using h) λi q j=>b (i+1) (by simpa using q) (by simpa using j);simp only[jx]at g;simp only[aw,bj,mM];omega
section
variable{H:Type}{enc:TypeId×Value->H}{P:Program}{w:World}{base:Nat}{spare:Nat->Bool}{held:Bool}
def Ch(enc:TypeId×Value->H)(P:Program)(w:World)(base:Nat)(spare:Nat->Bool)(held:Bool){b:Type}(t:TypeId)(f:b->List V)(e:b->Nat)(n:Nat):Prop:=∀c,c<=n->∀d y,DataW.trod enc P w base spare held c t d=some y->iJ y.1<=1048576->∃a,RL w B0 F0 (f a) d/\e a<=iJ y.1
def pX{t:TypeId}(ht:P.underlying t=some (.int .i64))(n:Nat):Ch enc P w base spare held t (λa:Int=>[.i .i64 a]) (λ_=>1) n:=λb _ c y h _=>by obtain⟨a,rfl,rfl,_⟩:=DataW.trod_int ht h;exact⟨a,.c (.i _ _) .n,by simp[iJ]⟩
def xF{t:TypeId}(ht:P.underlying t=some .string)(n:Nat):Ch enc P w base spare held t (λa:List Nat=>[.s a]) (λa=>a.length+1) n:=λb _ c y h _=>by obtain⟨s,rfl,rfl,_⟩:=DataW.trod_string ht h;exact⟨s.data.toList.map UInt8.toNat,.c (.s _ _ A) .n,by simp[iJ]⟩
def Kr{t:TypeId}(ht:P.underlying t=some .bool)(n:Nat):Ch enc P w base spare held t (λa:Bool=>[.b a]) (λ_=>1) n:=λb _ c y h _=>by obtain⟨a,rfl,rfl⟩:=DataW.trod_bool ht h;exact⟨a,.c (.b _) .n,by simp[iJ]⟩
def Td{l:Type}{f:l->List V}{z b:Nat}(m:∀a,(f a).length=z):∀(L:List (l×List Value))(d:Nat),(∀i(h:i<L.length),RL w B0 F0 (f L[i].1) L[i].2/\∀j u,L[i].2[j]?=some u->w.cell? ⟨b,d+i*z+j,none⟩=some u)->∃g,RL w B0 F0 (aM f (L.map (·.1))) g/\∀(j:Nat)u,g[j]?=some u->w.cell? ⟨b,d+j,none⟩=some u
|[],d,_=>⟨[],.n,λj u h=>by simp at h⟩|(a,c)::L,d,h=>by
 obtain⟨k,n⟩:=h 0 (by simp);simp only[jx]at k n;obtain⟨g,o,p⟩:=Td m L (d+z) λi q=>by have:=h (i+1) (by simpa using q);simp only[tE]at this;exact⟨this.1,λj u e=>by have:=this.2 j u e;rw[show d+z+i*z+j=d+(i+1)*z+j by rw[cc];omega];exact this⟩
 have s:c.length=z:=by rw[<-k.1,m]
 refine⟨c++g,k.append o,λj u e=>?_⟩;by_cases r:j<c.length;.rw[cb r]at e;have:=n j u e;rw[show d+0*z+j=d+j by omega]at this;exact this
 rw[bU (by omega)]at e;have:=p _ u e;rw[show d+z+(j-c.length)=d+j by omega]at this;exact this
def kv{g:Type}{t e:TypeId}{f:g->List V}{k:g->Nat}{z:Nat}(ht:P.underlying t=some (.slice e))(Q:P.cellsOf e=z)(b1:0<z)(R:∀a,(f a).length=z)(S:∀a,(f a).all V.one=true){n:Nat}(T:Ch enc P w base spare held e f k n):Ch enc P w base spare held t (λo:List g=>[.Q o.length (aM f o)]) (λo=>(o.map k).sum+1) (n+1):=λb2 b3 E y h U=>by
 rcases DataW.trod_slice ht h with⟨rfl,rfl⟩|⟨a,s,W,d,b4,m,hm,rfl,rfl,b5,X,b6,Y,F,_,_⟩;.exact⟨[],.c (.is0 _ _ (λ_=>A)) .n,by simp[iJ]⟩
 rw[Q]at F;simp only[iJ]at U|-;have Z:∀c,c<s->∃p:g×List Value,(RL w B0 F0 (f p.1) p.2/\w.cells? base (a.add (c*z)) z=some p.2)/\∀B:c<d.length,k p.1<=iJ d[c].1:=λc a0=>by (have B:c<d.length:=by omega);have G:=F c a0;rw[aa B]at G;obtain⟨I,hc,a1⟩:=Option.bind_eq_some_iff.1 G;have a2:=Ij (b:=d.map (·.1)) (a:=c) (by simpa using B);simp only[nQ]at a2;obtain⟨x,a3,a4⟩:=T m (by omega) I _ a1 (by omega);exact⟨(x,I),⟨a3,hc⟩,λ_=>a4⟩
 obtain⟨L,J,C⟩:=ac9 Z;have b7:((L.map (·.1)).map k).sum<=mM (d.map (·.1)):=NG _ _ (by simp[J,Y]) λc q D=>by simp only[nQ];exact(C c (by simpa using q)).2 (by simpa using D)
 by_cases h0:s=0;.have:L=[]:=ay (by omega);subst this;subst h0;exact⟨[],.c (.is0 _ _ (λh=>by cases h)) .n,by simp⟩
 have a5:=(C 0 (by omega)).1.2;obtain⟨_,b8,a6⟩:=World.cells?_some a5;have r:=a6 0 (by omega);rw[aa (by omega)]at r;have e0:(a.add (0*z)).add 0=a:=by simp[Addr.add]
 rw[e0]at r;have K:=World.cell?_spot r;have a7:=World.block_lt_of_cell? w a r;obtain⟨M,N,sp⟩:=a;simp only at K;subst K;obtain⟨E,O,D⟩:=Td (w:=w) (b:=M) R L N λc a8=>by obtain⟨r1,r2⟩:=(C c a8).1;refine⟨r1,λj u e=>?_⟩;obtain⟨_,b9,a9⟩:=World.cells?_some r2;(have a':j<z:=by have:=(ba.1 e).1;omega);have:=a9 j a';rw[Addr.add_lit,Addr.add_lit]at this;rw[this];exact e
 have b0:∀v∈aM f (L.map (·.1)),v.one=true:=aU.1 (bu S _);refine⟨L.map (·.1),.c ?_ .n,by omega⟩;rw[aF,J];exact .Q s _ W M N X (λh=>h) a7 E O.1 (λc u e=>D c u e) O.2 b0 (by have:=Ik (d.map (·.1));simp only[aF]at this;omega)
def tA(P:Program)(t:TypeId):List (TypeId×Nat):=match P.underlying t with|some (.struct a)=>a.toList.map λf=>(f.type,f.offset)|_=>[]
def lN{t:TypeId}{e:Nat}{d:List Value}{y:DataW H×List MemPlace}{L:List (TypeId×Nat)}(a:tA P t=L)(j:L≠[])(h:DataW.trod enc P w base spare held e t d=some y):d.length=P.cellsOf t/\∃(n:Nat)(b:List (DataW H×List MemPlace)),e=n+1/\y.1=.agg (b.map (·.1))/\b.length=L.length/\∀(i:Nat)(c:TypeId)(o:Nat)(x:DataW H×List MemPlace),L[i]?=some (c,o)->b[i]?=some x->DataW.trod enc P w base spare held n c ((d.drop o).take (P.cellsOf c))=some x:=by unfold tA at a;split at a;(.rename_i B k;obtain⟨b,n,l,m,p,q,r⟩:=DataW.trod_struct k h;refine⟨p,n,b,l,by rw[m],by rw[<-a,q];simp,λi c o x g s=>?_⟩;rw[<-a,ck]at g;obtain⟨f,u,v⟩:=gX.1 g;injection v with z A;subst z A;rw[r i f (by simpa using u)];exact s);exact(j a.symm).elim
end
def ZT:tA Tryz.prog 46=[(3,0),(3,1),(9,2)]:=by kernel_rfl
def agG:tA Tryz.prog 156=[(9,0),(9,1),(3,2)]:=by kernel_rfl
def aiY:tA Tryz.prog 242=[(3,0),(4,1)]:=by kernel_rfl
def ac':tA Tryz.prog 48=[(3,0),(46,1),(3,4),(3,5),(9,6),(24,7),(23,8),(3,9)]:=by kernel_rfl
def agH:tA Tryz.prog 50=[(9,0),(4,1),(24,2)]:=by kernel_rfl
def agI:tA Tryz.prog 29=[(3,0),(9,1),(22,2),(23,3),(24,4),(25,5),(26,6),(3,7),(3,8),(4,9),(27,10)]:=by kernel_rfl
def ada:tA Tryz.prog 39=[(9,0),(27,1)]:=by kernel_rfl
def Fy:Tryz.prog.cellsOf 46=3:=by kernel_rfl
def ZU:Tryz.prog.cellsOf 156=3:=by kernel_rfl
def aem:Tryz.prog.cellsOf 242=2:=by kernel_rfl
def CK:Tryz.prog.cellsOf 48=10:=by kernel_rfl
def ZV:Tryz.prog.cellsOf 50=3:=by kernel_rfl
def Ql:Tryz.prog.cellsOf 29=11:=by kernel_rfl
def Te:Tryz.prog.cellsOf 39=2:=by kernel_rfl
def pY:Tryz.prog.cellsOf 3=1:=by kernel_rfl
def xG:Tryz.prog.cellsOf 9=1:=by kernel_rfl
def Ks:Tryz.prog.cellsOf 4=1:=by kernel_rfl
def Fz:Tryz.prog.cellsOf 24=1:=by kernel_rfl
def Tf:Tryz.prog.cellsOf 23=1:=by kernel_rfl
def adb:Tryz.prog.cellsOf 22=1:=by kernel_rfl
def ade:Tryz.prog.cellsOf 25=1:=by kernel_rfl
def agJ:Tryz.prog.cellsOf 26=1:=by kernel_rfl
def Tg:Tryz.prog.cellsOf 27=1:=by kernel_rfl
def agK:Tryz.prog.cellsOf 41=1:=by kernel_rfl
section
variable{H:Type}{enc:TypeId×Value->H}{w:World}{base:Nat}{spare:Nat->Bool}{held:Bool}
def NH(n:Nat):Ch enc Tryz.prog w base spare held 46 eB Zr (n+1):=λs t g y h b=>by obtain⟨c,m,i,rfl,j,k,a⟩:=lN ZT (by simp) h;rw[Fy]at c;rw[j]at b|-;match i,k with|[u,v,x],_=>have d:=a 0 _ _ _ A A;rw[pY]at d;have e:=a 1 _ _ _ A A;rw[pY]at e;have f:=a 2 _ _ _ A A;rw[xG]at f;simp only[aw,bN,iJ,mM]at b|-;match g,c with|[z,c1,c2],_=>obtain⟨l,r0,B⟩:=pX Tryz.underlying3 m m (af _) _ _ d (by omega);obtain⟨o,p,C⟩:=pX Tryz.underlying3 m m (af _) _ _ e (by omega);obtain⟨q,r,D⟩:=xF Tryz.underlying9 m m (af _) _ _ f (by omega);exact⟨⟨l,o,q⟩,(.c r0.o (.c p.o (.c r.o .n))),by simp only[Zr]at*;omega⟩
def agL(n:Nat):Ch enc Tryz.prog w base spare held 156 wu aej (n+1):=λs t g y h b=>by obtain⟨c,m,i,rfl,j,k,a⟩:=lN agG (by simp) h;rw[ZU]at c;rw[j]at b|-;match i,k with|[u,v,x],_=>have d:=a 0 _ _ _ A A;rw[xG]at d;have e:=a 1 _ _ _ A A;rw[xG]at e;have f:=a 2 _ _ _ A A;rw[pY]at f;simp only[aw,bN,iJ,mM]at b|-;match g,c with|[z,c1,c2],_=>obtain⟨l,r0,B⟩:=xF Tryz.underlying9 m m (af _) _ _ d (by omega);obtain⟨o,p,C⟩:=xF Tryz.underlying9 m m (af _) _ _ e (by omega);obtain⟨q,r,D⟩:=pX Tryz.underlying3 m m (af _) _ _ f (by omega);exact⟨⟨l,o,q⟩,(.c r0.o (.c p.o (.c r.o .n))),by simp only[aej]at*;omega⟩
def ai0(n:Nat):Ch enc Tryz.prog w base spare held 242 Re (λ_=>3) (n+1):=λp q f y h a=>by obtain⟨b,m,g,rfl,i,j,c⟩:=lN aiY (by simp) h;rw[aem]at b;rw[i]at a|-;match g,j with|[r,s],_=>have d:=c 0 _ _ _ A A;rw[pY]at d;have e:=c 1 _ _ _ A A;rw[Ks]at e;simp only[aw,bN,iJ,mM]at a|-;match f,b with|[t,c1],_=>obtain⟨k,r0,u⟩:=pX Tryz.underlying3 m m (af _) _ _ d (by omega);obtain⟨l,o,v⟩:=Kr Tryz.underlying4 m m (af _) _ _ e (by omega);exact⟨⟨k,l⟩,(.c r0.o (.c o.o .n)),by simp only at*;omega⟩
def agM(n:Nat):Ch enc Tryz.prog w base spare held 41 (λx:W=>[bl x]) kX (n+2):=λa b c y h d=>by obtain⟨l,e,f⟩:=kv Tryz.underlying41 Fy (by decide) (λ_=>A) (λ_=>A) (NH n) a b c y h d;exact⟨l,e,by unfold kX;simp only at f;omega⟩
def Th(n:Nat):Ch enc Tryz.prog w base spare held 27 (λl:List W=>[bW l]) (λl=>(l.map kX).sum+1) (n+3):=λb c a y h d=>by obtain⟨l,f,g⟩:=kv Tryz.underlying27 agK (by decide) (λ_=>A) (λ_=>A) (agM n) b c a y h d;refine⟨l,?_,g⟩;(have e:bW l=.Q l.length (aM (λx=>[bl x]) l):=by unfold bW;rw[lu]);show RL w B0 F0 [bW l] a;rw[e];exact f
def Qm(t:J):(fD t).all V.one=true:=by rw[cX];rfl
def agN(t:Ag):(pg t).all V.one=true:=by rw[ld];rfl
def Qn(t:N):(iA t).all V.one=true:=by rw[ej];rfl
def ai1:∀l:List Ky,(l.map λ_=>3).sum=3*l.length|[]=>A|a::l=>by rw[aw,bj,ai1 l,aE];omega
def Qo(d:Dt):Nat:=3+(d.t.length+(d.rows.map kX).sum)
def adf(n:Nat)(o:Ch enc Tryz.prog w base spare held 48 fD kY n)(p:Ch enc Tryz.prog w base spare held 29 iA jc n):Ch enc Tryz.prog w base spare held 48 fD kY (n+1):=λS T q y h b=>by have r:=NH (enc:=enc) (w:=w) (base:=base) (spare:=spare) (held:=held) n;have s:=kv Tryz.underlying24 CK (by decide) cL Qm o;have t:=kv Tryz.underlying23 Ql (by decide) kG Qn p;obtain⟨c,m,u,rfl,v,x,a⟩:=lN ac' (by simp) h;rw[CK]at c;rw[v]at b|-;match u,x with|[U,V,W,X,Y,Z,x6,x7],_=>have d:=a 0 _ _ _ A A;rw[pY]at d;have e:=a 1 _ _ _ A A;rw[Fy]at e;have f:=a 2 _ _ _ A A;rw[pY]at f;have g:=a 3 _ _ _ A A;rw[pY]at g;have i:=a 4 _ _ _ A A;rw[xG]at i;have j:=a 5 _ _ _ A A;rw[Fz]at j;have k:=a 6 _ _ _ A A;rw[Tf]at k;have l:=a 7 _ _ _ A A;rw[pY]at l;simp only[aw,bN,iJ,mM]at b|-;match q,c with|[c0,c1,c2,c3,c4,c5,c6,c7,c8,c9],_=>obtain⟨z,r0,b0⟩:=pX Tryz.underlying3 m m (af _) _ _ d (by omega);obtain⟨B,C,b1⟩:=r m (by omega) _ _ e (by omega);obtain⟨D,E,b2⟩:=pX Tryz.underlying3 m m (af _) _ _ f (by omega);obtain⟨F,G,b3⟩:=pX Tryz.underlying3 m m (af _) _ _ g (by omega);obtain⟨I,K,b4⟩:=xF Tryz.underlying9 m m (af _) _ _ i (by omega);obtain⟨L,M,b5⟩:=s m (by omega) _ _ j (by omega);obtain⟨N,O,b6⟩:=t m (by omega) _ _ k (by omega);obtain⟨Q,R,b7⟩:=pX Tryz.underlying3 m m (af _) _ _ l (by omega);exact⟨.mk z B D F I L N Q,by rw[cX];exact(.c r0.o (C.append (.c E.o (.c G.o (.c K.o (.c M.o (.c O.o (.c R.o .n)))))))),by simp only[xC,Zr,J.v,J.name,J.K,J.sub]at*;omega⟩
def agO(n:Nat)(g:Ch enc Tryz.prog w base spare held 48 fD kY n)(u:Ch enc Tryz.prog w base spare held 29 iA jc n):Ch enc Tryz.prog w base spare held 50 pg Gp (n+1):=λv x i y h b=>by have j:=kv Tryz.underlying24 CK (by decide) cL Qm g;obtain⟨c,m,k,rfl,l,o,a⟩:=lN agH (by simp) h;rw[ZV]at c;rw[l]at b|-;match k,o with|[z,B,C],_=>have d:=a 0 _ _ _ A A;rw[xG]at d;have e:=a 1 _ _ _ A A;rw[Ks]at e;have f:=a 2 _ _ _ A A;rw[Fz]at f;simp only[aw,bN,iJ,mM]at b|-;match i,c with|[D,c1,c2],_=>obtain⟨p,r0,E⟩:=xF Tryz.underlying9 m m (af _) _ _ d (by omega);obtain⟨q,r,F⟩:=Kr Tryz.underlying4 m m (af _) _ _ e (by omega);obtain⟨s,t,G⟩:=j m (by omega) _ _ f (by omega);exact⟨.mk p q s,by rw[ld];exact(.c r0.o (.c r.o (.c t.o .n))),by simp only[tu,Ag.name,Ag.t]at*;omega⟩
def agP(n:Nat)(s:Ch enc Tryz.prog w base spare held 48 fD kY n)(t:Ch enc Tryz.prog w base spare held 29 iA jc n)(u:Ch enc Tryz.prog w base spare held 50 pg Gp n):Ch enc Tryz.prog w base spare held 29 iA jc (n+1):=λa2 a3 v y h b=>by have x:=kv Tryz.underlying24 CK (by decide) cL Qm s;have z:=kv Tryz.underlying23 Ql (by decide) kG Qn t;have B:=kv Tryz.underlying22 ZU (by decide) (λ_=>A) (λ_=>A) (agL (enc:=enc) (w:=w) (base:=base) (spare:=spare) (held:=held) n);have C:=kv Tryz.underlying26 aem (by decide) (λ_=>A) (λ_=>A) (ai0 (enc:=enc) (w:=w) (base:=base) (spare:=spare) (held:=held) n);have D:=kv Tryz.underlying25 ZV (by decide) kE agN u;have E:=Th (enc:=enc) (w:=w) (base:=base) (spare:=spare) (held:=held) n;obtain⟨c,m,F,rfl,G,I,a⟩:=lN agI (by simp) h;rw[Ql]at c;rw[G]at b|-;match F,I with|[x0,x1,x2,x3,x4,x5,x6,x7,x8,x9,a4],_=>have d:=a 0 _ _ _ A A;rw[pY]at d;have e:=a 1 _ _ _ A A;rw[xG]at e;have f:=a 2 _ _ _ A A;rw[adb]at f;have g:=a 3 _ _ _ A A;rw[Tf]at g;have i:=a 4 _ _ _ A A;rw[Fz]at i;have j:=a 5 _ _ _ A A;rw[ade]at j;have k:=a 6 _ _ _ A A;rw[agJ]at k;have l:=a 7 _ _ _ A A;rw[pY]at l;have o:=a 8 _ _ _ A A;rw[pY]at o;have p:=a 9 _ _ _ A A;rw[Ks]at p;have q:=a 10 _ _ _ A A;rw[Tg]at q;simp only[aw,bN,iJ,mM]at b|-;match v,c with|[c0,c1,c2,c3,c4,c5,c6,c7,c8,c9,a5],_=>obtain⟨J,r0,b0⟩:=pX Tryz.underlying3 m m (af _) _ _ d (by omega);obtain⟨K,L,b1⟩:=xF Tryz.underlying9 m m (af _) _ _ e (by omega);obtain⟨M,O,b2⟩:=B m (by omega) _ _ f (by omega);obtain⟨Q,R,b3⟩:=z m (by omega) _ _ g (by omega);obtain⟨S,T,b4⟩:=x m (by omega) _ _ i (by omega);obtain⟨U,V,b5⟩:=D m (by omega) _ _ j (by omega);obtain⟨r,W,b6⟩:=C m (by omega) _ _ k (by omega);obtain⟨X,Y,b7⟩:=pX Tryz.underlying3 m m (af _) _ _ l (by omega);obtain⟨Z,r8,b8⟩:=pX Tryz.underlying3 m m (af _) _ _ o (by omega);obtain⟨a9,r9,b9⟩:=Kr Tryz.underlying4 m m (af _) _ _ p (by omega);obtain⟨a0,a1,a6⟩:=E m (by omega) _ _ q (by omega);exact⟨.mk J K M Q S U r X Z a9 a0,by rw[ej];exact(.c r0.o (.c L.o (.c O.o (.c R.o (.c T.o (.c V.o (.c W.o (.c Y.o (.c r8.o (.c r9.o (.c a1.o .n))))))))))),by have:=ai1 r;simp only[nK,N.de,N.aP,N.K,N.ao,N.aJ,N.cq,N.rows]at*;omega⟩
def adg(n:Nat):Ch enc Tryz.prog w base spare held 39 afe Qo (n+1):=λq r f y h a=>by have g:=Th (enc:=enc) (w:=w) (base:=base) (spare:=spare) (held:=held) n;obtain⟨b,m,i,rfl,j,k,c⟩:=lN ada (by simp) h;rw[Te]at b;rw[j]at a|-;match i,k with|[s,t],_=>have d:=c 0 _ _ _ A A;rw[xG]at d;have e:=c 1 _ _ _ A A;rw[Tg]at e;simp only[aw,bN,iJ,mM]at a|-;match f,b with|[u,c1],_=>obtain⟨l,r0,v⟩:=xF Tryz.underlying9 m m (af _) _ _ d (by omega);obtain⟨o,p,x⟩:=g m (by omega) _ _ e (by omega);exact⟨⟨l,o⟩,(.c r0.o (.c p.o .n)),by simp only[Qo]at*;omega⟩
def ZW:∀n:Nat,Ch enc Tryz.prog w base spare held 48 fD kY n/\Ch enc Tryz.prog w base spare held 29 iA jc n/\Ch enc Tryz.prog w base spare held 50 pg Gp n
|0=>by refine⟨λa d e y h _=>?_,λa d e y h _=>?_,λa d e y h _=>?_⟩<;>. (obtain rfl:a=0:=by omega);simp[DataW.trod]at h
|n+1=>by obtain⟨b,c,f⟩:=ZW n;exact⟨adf n b c,agP n b c f,agO n b c⟩
def ZX(n:Nat):Ch enc Tryz.prog w base spare held 30 (λl:List Dt=>[jJ l]) (λl=>(l.map Qo).sum+1) (n+2):=kv Tryz.underlying30 Te (by decide) (λ_=>A) (λ_=>A) (adg n)
def ai2{r:Reach}{g:Nat}{v:Value}{d:DataW H}{p:List MemPlace}(j:Value.okWide Tryz.prog w r g 29 v)(h:DataW.Trod enc Tryz.prog w base spare held 29 v d p)(k:iJ d<=1048576):∃a:N,R w B0 F0 (dd a) v/\jc a<=iJ d:=by have c:∃e,Tryz.prog.underlying 29=some (.struct e):=⟨_,Tryz.underlying29⟩;obtain⟨e,c⟩:=c;obtain⟨l,rfl,t⟩:=okWide_struct c j;obtain⟨f,m⟩:=h;obtain⟨a,b,n⟩:=(ZW f).2.1 f (af _) _ _ m k;refine⟨a,?_,n⟩;rw[ej]at b;change RL w B0 F0 _ l.toList at b;refine .agg _ _ (by simpa using b.1) (λi x u o q=>b.2 i x u o (by simpa using q)) (λx s=>?_);have:=Qn a;rw[ej]at this;exact aU.1 this x s
def ajm{v:Value}{d:DataW H}{p:List MemPlace}(g:v.cells.toList=[v])(h:DataW.Trod enc Tryz.prog w base spare held 30 v d p)(i:iJ d<=1048576):∃b:List Dt,R w B0 F0 (jJ b) v/\Qh b/\kS b<=1000000000:=by
 obtain⟨c,j⟩:=h;obtain⟨a,e,k⟩:=ZX c c (by omega) _ _ j i;rw[g]at e;simp only at k;refine⟨a,e.o,λd m=>?_,?_⟩;.have s:=dx (f:=Qo) m;have n:Qo d=3+(d.t.length+(d.rows.map kX).sum):=A;have o:=hM (f:=kX) (λx=>by unfold kX;omega) d.rows;refine⟨by omega,λx q v r=>?_⟩;have t:=dx (f:=kX) q;have u:kX x=1+(x.map Zr).sum:=A;have y:=dx (f:=Zr) r;have z:Zr v=4+v.s.length:=A;omega
 have:∀l:List Dt,kS l<=(l.map Qo).sum:=λl=>by induction l with|nil=>exact af _|cons d l B=>have o:=hM (f:=kX) (λx=>by unfold kX;omega) d.rows;unfold kS at*;have n:Qo d=3+(d.t.length+(d.rows.map kX).sum):=A;simp only[aw,bj];omega
 have:=this a;omega
end
end
end Go.Ev
