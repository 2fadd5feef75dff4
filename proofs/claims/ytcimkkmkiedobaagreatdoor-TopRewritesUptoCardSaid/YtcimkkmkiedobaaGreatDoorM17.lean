/- TopRewrites: a part of the proof. -/
import Derived.Test.YtcimkkmkiedobaaGreatDoorM14
set_option maxRecDepth 100000
set_option maxHeartbeats 32000000
set_option linter.all false
namespace Go.Ev
structure Cm{e:Type}(c:e->e->Int):Prop where
 sw:∀a b,c b a=-c a b
 tr:∀a b d,c a b<=0->c b d<=0->c a d<=0
structure DQ{d:Type}(c:d->d->Int):Prop extends Cm c where
 eq:∀a b,c a b=0->a=b
def Cm.co{e g:Type}{c:e->e->Int}(h:Cm c)(f:g->e):Cm λa b=>c (f a) (f b):=⟨λa b=>h.sw _ _,λa b d=>h.tr _ _ _⟩
def Cm.neg{e:Type}{c:e->e->Int}(h:Cm c):Cm λa b=>-c a b:=⟨λa b=>by rw[h.sw a b],λa b d f g=>by have i:=h.sw a b;have j:=h.sw b d;have k:=h.sw a d;have:=h.tr d b a G G;omega⟩
def Cm.lex{e:Type}{c d:e->e->Int}(h:Cm c)(k:Cm d):Cm λa b=>if c a b≠0 then c a b else d a b:=by refine⟨λa b=>?_,λx y z f g=>?_⟩;(.have i:=h.sw a b;have j:=k.sw a b;by_cases q:c a b=0;(.have:c b a=0:=G;simp[q,this,j]);have:¬c b a=0:=G;simp[q,this,i]);have p:=h.sw x y;have r:=h.sw y z;have s:=h.sw x z;have t:=h.tr x y z;have u:=h.tr y z x;have v:=h.tr z x y;have l:=k.tr x y z;by_cases m:c x y=0<;>by_cases n:c y z=0<;>by_cases o:c x z=0<;>simp only[m,n,o,FD,zF,wU,fi,dz]at f g|-<;>first|exact l f g|omega
def Cy:DQ lg:=by
 refine⟨⟨λa b=>?_,λa b d=>?_⟩,λa b=>?_⟩;.unfold lg;split<;>(try split)<;>(try split)<;>omega
 .unfold lg;(repeat' split);all_goals omega
 unfold lg;repeat' split
 all_goals omega
def Rz:∀a b:List Nat,iM b a=-iM a b|[],[]=>A|[],_::_=>A|_::_,[]=>A|a::x,b::y=>by have:=Rz x y;simp only[iM];(repeat' split);all_goals omega
def RA:∀a b d:List Nat,iM a b<=0->iM b d<=0->iM a d<=0
|[],b,[]=>λ_ _=>by simp[iM]|[],_,_::_=>λ_ _=>by simp[iM]|_::_,[],_=>λh=>by simp[iM]at h
|_::_,_::_,[]=>λ_ h=>by simp[iM]at h
|a::x,b::y,d::z=>by have:=RA x y z;simp only[iM];(repeat' split);all_goals omega
def RB:∀a b:List Nat,iM a b=0->a=b
|[],[]=>λ_=>A|[],_::_=>λh=>by simp[iM]at h
|_::_,[]=>λh=>by simp[iM]at h
|a::x,b::y=>by
 have:=RB x y;simp only[iM];repeat' split
 .omega
 .omega
 intro h;have e:a=b:=G;rw[e,this h]
def RD:DQ iM:=⟨⟨Rz,RA⟩,RB⟩
def dm:DQ dR:=by refine⟨((Cy.toCm.co Vl.k).lex ((Cy.toCm.co Vl.n).lex (RD.toCm.co Vl.s))),λa b h=>?_⟩;unfold dR at h;by_cases c:lg a.k b.k=0;(.by_cases d:lg a.n b.n=0;(.simp only[c,d,FD,zF,dz]at h;have e:=Cy.eq _ _ c;have f:=Cy.eq _ _ d;have g:=RD.eq _ _ h;cases a;cases b;simp only at e f g;subst e f g;rfl);simp only[c,d,FD,zF,dz,wU,fi]at h);simp only[c,FD,wU,fi]at h
def DT:∀a b:W,cY b a=-cY a b|[],[]=>A|[],_::_=>A|_::_,[]=>A|a::x,b::y=>by have:=DT x y;have:=dm.sw a b;simp only[cY];(repeat' split);all_goals omega
def DU:∀a b d:W,cY a b<=0->cY b d<=0->cY a d<=0
|[],b,[]=>λ_ _=>by simp[cY]|[],_,_::_=>λ_ _=>by simp[cY]|_::_,[],_=>λh=>by simp[cY]at h
|_::_,_::_,[]=>λ_ h=>by simp[cY]at h
|a::x,b::y,d::z=>by have t0:=DU x y z;have c:=dm.sw a b;have e:=dm.sw b d;have f:=dm.sw a d;have g:=dm.tr a b d;have i:=dm.tr b d a;have j:=dm.tr d a b;simp only[cY];(repeat' split);all_goals omega
def pF:∀a b:W,cY a b=0->a=b
|[],[]=>λ_=>A|[],_::_=>λh=>by simp[cY]at h
|_::_,[]=>λh=>by simp[cY]at h
|a::x,b::y=>by have:=pF x y;have:=dm.eq a b;simp only[cY];split;(.intro h;omega);intro h;rename_i q;rw[dm.eq a b G,pF x y h]
def DW:DQ cY:=⟨⟨DT,DU⟩,pF⟩
def AA:∀cq:List Ky,DQ (nu cq)|[]=>DW|k::l=>by have c:=AA l;obtain⟨at_,d⟩:=k;cases d;(.refine⟨((dm.toCm.co λr=>cellS r at_).lex c.toCm),λa b h=>?_⟩;simp only[nu]at h;by_cases q:dR (cellS a at_) (cellS b at_)=0;(.simp only[q,cy,dz,FD,zF]at h;exact c.eq _ _ h);simp[q]at h);refine⟨((dm.toCm.co λr=>cellS r at_).neg.lex c.toCm),λa b h=>?_⟩;simp only[nu]at h;by_cases q:dR (cellS a at_) (cellS b at_)=0;(.simp only[q,fi,FD,Int.neg_zero,zF,dz]at h;exact c.eq _ _ h);simp[q]at h
def DQ.refl{b:Type}{c:b->b->Int}(h:DQ c)(a:b):c a a=0:=by have:=h.sw a a;omega
def eI{d:Type}(c:d->d->Int)(l:List d):List d:=l.mergeSort λa b=>decide (c a b<=0)
abbrev Bv{α:Type}(c:α->α->Int)(l:List α):Prop:=l.Pairwise λa b=>c a b<=0
def gN{a:Type}(c:a->a->Int)(l:List a):(eI c l).Perm l:=ln l _
def kM{e:Type}{c:e->e->Int}(h:Cm c)(l:List e):Bv c (eI c l):=by have:=List.pairwise_mergeSort (le:=λa b=>decide (c a b<=0)) (λa b d f g=>by simp only[bG]at f g|-;exact h.tr a b d f g) (λa b=>by have:=h.sw a b;simp only[dH,bG];omega) l;exact this.imp λh=>eZ h
def jg{d:Type}{c:d->d->Int}(h:DQ c){l m:List d}(e:Bv c l)(f:l.Perm m):eI c m=l:=List.Perm.eq_of_pairwise (le:=λa b=>c a b<=0) (λa b _ _ g i=>h.eq a b (by have:=h.sw a b;omega)) (kM h.toCm m) e ((gN c m).trans f.symm)
def LI{a:Type}{c:a->a->Int}(h:DQ c)(p:a->Bool)(l:List a):eI c (l.filter p)=(eI c l).filter p:=jg h ((kM h.toCm l).filter p) ((gN c l).filter p)
def rV{a:Type}(c:a->a->Int)(l:List a):(eI c l).length=l.length:=(gN c l).length_eq
def OU{a:Type}{c:a->a->Int}(h:DQ c){l m n:List a}(b:(l++m).Perm n)(d:∀x∈l,∀y∈m,c x y<=0):eI c l++eI c m=eI c n:=by exact(jg h (fw.2 ⟨kM h.toCm _,kM h.toCm _,λx e y f=>d x ((gN c l).mem_iff.1 e) y ((gN c m).mem_iff.1 f)⟩) (((gN c l).append (gN c m)).trans b)).symm
def Bv.get{a:Type}{c:a->a->Int}(h:DQ c){l:List a}(b:Bv c l){i j:Nat}(d:j<l.length)(e:i<=j):c (l[i]'G) l[j]<=0:=by rcases qe e with q|q;(.exact qn.1 b i j G d q);subst q;rw[h.refl];exact Int.le_refl 0
inductive Bk{a:Type}(c:a->a->Int)(k:Nat):List a->Prop|last{l:List a}:l.length<=k->Bv c l->Bk c k l|cons{l r:List a}:l.length=k->Bv c l->Bk c k r->Bk c k (l++r)
inductive Fk{a:Type}(c:a->a->Int)(k:Nat):List a->Prop|nil:Fk c k []|snoc{p l:List a}:Fk c k p->l.length=k->Bv c l->Fk c k (p++l)
def Fk.bk{a:Type}{c:a->a->Int}{k:Nat}{p:List a}(h:Fk c k p):∀{r:List a},Bk c k r->Bk c k (p++r):=by induction h with|nil=>intro r b;exact b|snoc _ d e f=>intro r b;rw[aI];exact f (.cons d e b)
def Bk.all{a:Type}{c:a->a->Int}{k:Nat}{l:List a}(h:Bk c k l)(b:l.length<=k):Bv c l:=by cases h with|last _ h=>exact h|cons e d f=>rename_i l r;(have:r=[]:=by rw[aj]at b;exact mf.1 G);subst this;simpa using d
def Bk.take{a:Type}{c:a->a->Int}{k:Nat}{l:List a}(h:Bk c k l)(g:k<=l.length):Bv c (l.take k)/\Bk c k (l.drop k):=by cases h with|last b h=>have e:l.length=k:=G;rw[<-e,hh,su];exact⟨h,.last aS .nil⟩|cons b d f=>rename_i l r;rw[<-b,gz,fQ];exact⟨d,b▸f⟩
end Go.Ev
