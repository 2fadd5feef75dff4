/- TopRewrites: a part of the proof. -/
import Derived.KernelRfl
import Derived.Test.YtcimkkmkiedobaaGreatDoorM7
import Derived.Test.YtcimkkmkiedobaaGreatDoorProg
set_option maxRecDepth 100000
set_option maxHeartbeats 32000000
set_option linter.all false
namespace Go.Ev
open Go.Proofs
def ai':List (Nat×TI):=[(3,⟨.int .i64,1,8,false,.i .i64 0⟩),(4,⟨.bool,1,1,false,.b false⟩),(5,⟨.int .u8,1,1,false,.i .u8 0⟩),(9,⟨.str,1,16,false,.s []⟩),(21,⟨.int .i32,1,4,false,.i .i32 0⟩),(22,⟨.Z 156 3,1,24,false,.E⟩),(23,⟨.Z 29 11,1,24,false,.E⟩),(24,⟨.Z 48 10,1,24,false,.E⟩),(25,⟨.Z 50 3,1,24,false,.E⟩),(26,⟨.Z 242 2,1,24,false,.E⟩),(27,⟨.Z 41 1,1,24,false,.E⟩),(29,⟨.st [(3,0,1,false),(9,1,1,false),(22,2,1,false),(23,3,1,false),(24,4,1,false),(25,5,1,false),(26,6,1,false),(3,7,1,false),(3,8,1,false),(4,9,1,false),(27,10,1,false)],11,192,true,.agg [.i .i64 0,.s [],.E,.E,.E,.E,.E,.i .i64 0,.i .i64 0,.b false,.E]⟩),(30,⟨.Z 39 2,1,24,false,.E⟩),(39,⟨.st [(9,0,1,false),(27,1,1,false)],2,40,true,.agg [.s [],.E]⟩),(40,⟨.Z 46 3,1,24,false,.E⟩),(41,⟨.Z 46 3,1,24,false,.E⟩),(44,⟨.fn,1,8,false,.nf⟩),(46,⟨.st [(3,0,1,false),(3,1,1,false),(9,2,1,false)],3,32,true,.agg [.i .i64 0,.i .i64 0,.s []]⟩),(48,⟨.st [(3,0,1,false),(46,1,3,true),(3,4,1,false),(3,5,1,false),(9,6,1,false),(24,7,1,false),(23,8,1,false),(3,9,1,false)],10,128,true,.agg [.i .i64 0,.i .i64 0,.i .i64 0,.s [],.i .i64 0,.i .i64 0,.s [],.E,.E,.i .i64 0]⟩),(50,⟨.st [(9,0,1,false),(4,1,1,false),(24,2,1,false)],3,48,true,.agg [.s [],.b false,.E]⟩),(66,⟨.int .i64,1,8,false,.i .i64 0⟩),(71,⟨.Z 3 1,1,24,false,.E⟩),(97,⟨.fn,1,8,false,.nf⟩),(99,⟨.Z 71 1,1,24,false,.E⟩),(138,⟨.st [(27,0,1,false),(30,1,1,false)],2,48,true,.agg [.E,.E]⟩),(147,⟨.fn,1,8,false,.nf⟩),(156,⟨.st [(9,0,1,false),(9,1,1,false),(3,2,1,false)],3,40,true,.agg [.s [],.s [],.i .i64 0]⟩),(160,⟨.fn,1,8,false,.nf⟩),(242,⟨.st [(3,0,1,false),(4,1,1,false)],2,16,true,.agg [.i .i64 0,.b false]⟩),(310,⟨.Z 27 1,1,24,false,.E⟩),(335,⟨.Z 338 2,1,24,false,.E⟩),(338,⟨.st [(41,0,1,false),(27,1,1,false)],2,48,true,.agg [.E,.E]⟩),(447,⟨.int .u64,1,8,false,.i .u64 0⟩),(454,⟨.st [(9,0,1,false),(4,1,1,false),(3,2,1,false),(3,3,1,false),(3,4,1,false),(46,5,3,true),(40,8,1,false)],9,104,true,.agg [.s [],.b false,.i .i64 0,.i .i64 0,.i .i64 0,.i .i64 0,.i .i64 0,.s [],.E]⟩),(471,⟨.Z 24 1,1,24,false,.E⟩),(477,⟨.Z 5 1,1,24,false,.E⟩),(547,⟨.int .u64,1,8,false,.i .u64 0⟩),(560,⟨.int .u32,1,4,false,.i .u32 0⟩),(570,⟨.mp true 160,1,8,false,.nm⟩),(571,⟨.mp true 71,1,8,false,.nm⟩),(572,⟨.Z 575 2,1,24,false,.E⟩),(575,⟨.st [(3,0,1,false),(5,1,1,false)],2,16,true,.agg [.i .i64 0,.i .u8 0]⟩),(648,⟨.int .i64,1,8,false,.i .i64 0⟩),(672,⟨.int .u64,1,8,false,.i .u64 0⟩)]
def yo:T TI:=.n (.n (.n (.n (.n (.n (.n (.e) none (.n (.n (.n (.e) (some ⟨.st [(3,0,1,false),(5,1,1,false)],2,16,true,.agg [.i .i64 0,.i .u8 0]⟩) (.e)) none (.e)) none (.n (.e) (some ⟨.int .u64,1,8,false,.i .u64 0⟩) (.e)))) none (.e)) none (.n (.n (.e) none (.n (.n (.e) (some ⟨.Z 338 2,1,24,false,.E⟩) (.e)) none (.e))) none (.e))) none (.n (.n (.n (.e) (some ⟨.Z 3 1,1,24,false,.E⟩) (.e)) (some ⟨.st [(9,0,1,false),(27,1,1,false)],2,40,true,.agg [.s [],.E]⟩) (.e)) (some ⟨.Z 29 11,1,24,false,.E⟩) (.n (.n (.e) none (.n (.e) none (.n (.e) (some ⟨.Z 24 1,1,24,false,.E⟩) (.e)))) none (.e)))) (some ⟨.int .i64,1,8,false,.i .i64 0⟩) (.n (.n (.n (.e) none (.n (.n (.n (.n (.e) (some ⟨.int .u64,1,8,false,.i .u64 0⟩) (.e)) none (.e)) none (.e)) (some ⟨.Z 71 1,1,24,false,.E⟩) (.e))) none (.n (.n (.n (.e) (some ⟨.fn,1,8,false,.nf⟩) (.e)) none (.e)) none (.e))) none (.n (.e) (some ⟨.Z 41 1,1,24,false,.E⟩) (.n (.e) none (.n (.n (.n (.n (.e) (some ⟨.mp true 71,1,8,false,.nm⟩) (.e)) none (.e)) none (.e)) none (.e)))))) none (.n (.n (.n (.n (.e) none (.n (.e) (some ⟨.fn,1,8,false,.nf⟩) (.e))) none (.e)) (some ⟨.str,1,16,false,.s []⟩) (.n (.n (.e) (some ⟨.Z 46 3,1,24,false,.E⟩) (.e)) (some ⟨.Z 50 3,1,24,false,.E⟩) (.e))) (some ⟨.int .u8,1,1,false,.i .u8 0⟩) (.n (.n (.e) (some ⟨.int .i32,1,4,false,.i .i32 0⟩) (.e)) none (.n (.e) (some ⟨.st [(3,0,1,false),(9,1,1,false),(22,2,1,false),(23,3,1,false),(24,4,1,false),(25,5,1,false),(26,6,1,false),(3,7,1,false),(3,8,1,false),(4,9,1,false),(27,10,1,false)],11,192,true,.agg [.i .i64 0,.s [],.E,.E,.E,.E,.E,.i .i64 0,.i .i64 0,.b false,.E]⟩) (.n (.n (.e) none (.n (.e) none (.n (.e) (some ⟨.Z 5 1,1,24,false,.E⟩) (.e)))) none (.e)))))) none (.n (.n (.n (.n (.n (.e) none (.n (.n (.e) (some ⟨.fn,1,8,false,.nf⟩) (.n (.n (.e) (some ⟨.int .u64,1,8,false,.i .u64 0⟩) (.e)) none (.e))) none (.e))) none (.n (.e) (some ⟨.st [(3,0,1,false),(46,1,3,true),(3,4,1,false),(3,5,1,false),(9,6,1,false),(24,7,1,false),(23,8,1,false),(3,9,1,false)],10,128,true,.agg [.i .i64 0,.i .i64 0,.i .i64 0,.s [],.i .i64 0,.i .i64 0,.s [],.E,.E,.i .i64 0]⟩) (.n (.n (.n (.n (.e) (some ⟨.int .u32,1,4,false,.i .u32 0⟩) (.e)) none (.e)) none (.e)) none (.e)))) none (.n (.n (.n (.n (.e) none (.n (.n (.e) (some ⟨.int .i64,1,8,false,.i .i64 0⟩) (.e)) none (.e))) none (.e)) (some ⟨.Z 46 3,1,24,false,.E⟩) (.e)) (some ⟨.Z 48 10,1,24,false,.E⟩) (.e))) (some ⟨.bool,1,1,false,.b false⟩) (.n (.e) none (.n (.n (.e) (some ⟨.fn,1,8,false,.nf⟩) (.e)) none (.n (.n (.n (.e) (some ⟨.st [(9,0,1,false),(9,1,1,false),(3,2,1,false)],3,40,true,.agg [.s [],.s [],.i .i64 0]⟩) (.e)) none (.e)) none (.n (.n (.n (.n (.e) (some ⟨.Z 575 2,1,24,false,.E⟩) (.e)) none (.e)) none (.e)) none (.e)))))) none (.n (.n (.n (.n (.n (.e) (some ⟨.int .i64,1,8,false,.i .i64 0⟩) (.e)) none (.e)) none (.n (.n (.e) none (.n (.n (.e) (some ⟨.st [(41,0,1,false),(27,1,1,false)],2,48,true,.agg [.E,.E]⟩) (.e)) none (.e))) (some ⟨.st [(9,0,1,false),(4,1,1,false),(24,2,1,false)],3,48,true,.agg [.s [],.b false,.E]⟩) (.n (.e) none (.n (.e) (some ⟨.st [(3,0,1,false),(4,1,1,false)],2,16,true,.agg [.i .i64 0,.b false]⟩) (.e))))) none (.n (.n (.n (.n (.e) (some ⟨.st [(27,0,1,false),(30,1,1,false)],2,48,true,.agg [.E,.E]⟩) (.e)) none (.e)) none (.e)) (some ⟨.Z 242 2,1,24,false,.E⟩) (.n (.e) none (.n (.n (.n (.n (.e) (some ⟨.mp true 160,1,8,false,.nm⟩) (.e)) none (.e)) none (.e)) none (.e))))) none (.n (.n (.n (.n (.e) none (.n (.e) none (.n (.e) (some ⟨.st [(9,0,1,false),(4,1,1,false),(3,2,1,false),(3,3,1,false),(3,4,1,false),(46,5,3,true),(40,8,1,false)],9,104,true,.agg [.s [],.b false,.i .i64 0,.i .i64 0,.i .i64 0,.i .i64 0,.i .i64 0,.s [],.E]⟩) (.e)))) none (.e)) (some ⟨.Z 156 3,1,24,false,.E⟩) (.n (.e) none (.n (.n (.n (.e) (some ⟨.Z 27 1,1,24,false,.E⟩) (.e)) none (.e)) none (.e)))) none (.n (.n (.e) (some ⟨.st [(3,0,1,false),(3,1,1,false),(9,2,1,false)],3,32,true,.agg [.i .i64 0,.i .i64 0,.s []]⟩) (.e)) (some ⟨.Z 39 2,1,24,false,.E⟩) (.e)))))
def afb:yo=ai'.foldl (λt p=>T.set t p.1 p.2) .e:=by kernel_rfl
def afc:ai'.map (λp=>Of Tryz.prog p.1)=ai'.map (λp=>some p.2):=by kernel_rfl
def afd:hZ Tryz.prog yo:=afa _ ai' _ afb afc
def mo:Tryz.prog.follows .mixedOrders=true:=by kernel_rfl
def lI:Bi Tryz.prog:=by (have h:Tryz.prog.funcs.toList.all (λa=>Option.isNone a.body||!(a.name== "runtime.NumGoroutine"))=true:=by kernel_rfl);intro f a e b;have:=aU.1 h a (bb (by simpa using e));cases d:a.body with|none=>rw[d]at b;cases b|some c=>rw[d]at this;simpa using this
def TB:VB Tryz.prog yo:=⟨afd,mo,lI⟩
abbrev Ct(g:Nat)(vs:List V)(v:V):Prop:=Pu Tryz.prog g vs v
def ct{g:Nat}{b:Func}{a:List V}{v:V}(c:Tryz.prog.funcs[g]?=some b)(z:Nat)(d:max a.length b.ntmps=z)(e:bp a=true)(f:ee v=true)(h:ra Tryz.prog yo .e .e 0 z b a (Fin v)):Ct g a v:=Pu.of TB c z d e f h
def ak3{g:Nat}{b:Func}{a:List V}{v:V}(d:Tryz.prog.funcs[g]?=some b)(z:Nat)(e:max a.length b.ntmps=z)(f:b.body.isSome=true)(h:bp a=true)(i:ee v=true)(j:IT a->ra Tryz.prog yo .e .e 0 z b a (Fin v)):Ct g a v:=by obtain⟨c,k⟩:=fe.1 f;exact Pu.ok (lI.ID d k) λl=>Pu.of TB d z e h i (j l)
def mi{a:Type}{A B C:List a}{b:a}{N:Nat}(h:A++b::B=C)(c:C.length<=N):A.length+1<=N:=by subst h;simp at c;omega
def fin{v:V}{a:T EO}{b:Nat}(h:ee v=true):Fin v v a b:=⟨.B v h⟩
def ca{r v:V}{a:T EO}{b:Nat}(e:r=v)(h:ee v=true):Fin v r a b:=⟨by rw[e];exact .B v h⟩
def TS{n:Int}(b:-9223372036854775808<=n)(c:n<=9223372036854775807):iR .i64 n=n:=by rw[hf];by_cases a:0<=n;(.exact wrap_small .i64 n a (by simp only[IntKind.bits];omega));exact KL n G G
def Ar.ok{n:Int}{K:Int->Prop}(a:-9223372036854775808<=n)(b:n<=9223372036854775807)(k:K n):Ar .i64 n K:=⟨by rw[TS a b];exact k⟩
def Ar.nx{i:Nat}{K:Int->Prop}(h:i<9223372036854775807)(k:K (.ofNat (i+1))):Ar .i64 (.ofNat i+1) K:=Ar.ok (by simp;omega) (by simp;omega) k
def aM{b:Type}(f:b->List V):List b->List V|[]=>[]|a::l=>f a++aM f l
def bf{c:Type}{f:c->List V}{z:Nat}(b:∀a,(f a).length=z):∀l,(aM f l).length=l.length*z|[]=>by simp[aM]|a::l=>by simp only[aM,aj,b,bf b l,aE,cc];omega
def bP{c:Type}{f:c->List V}:∀a b:List c,aM f (a++b)=aM f a++aM f b|[],b=>A|x::a,b=>by simp[aM,bP a b]
def Ds{b:Type}{f:b->List V}{z:Nat}(c:∀a,(f a).length=z)(x:b)(l:List b)(i:Nat):(f x++aM f l).drop ((i+1)*z)=(aM f l).drop (i*z):=by rw[fv,c,ae (by rw[c,cc];omega),bM];congr 1;rw[cc];omega
def hv{d:Type}{f:d->List V}{z:Nat}(b:∀a,(f a).length=z):∀(l:List d)(i:Nat)(a:d),l[i]?=some a->cM (aM f l) (i*z) z=some (f a)
|[],i,a,h=>by simp at h
|x::l,0,a,h=>by
 simp at h;subst h;have:Nat.ble (0*z+z) (f x++aM f l).length=true:=by rw[cf];simp[b]
 have ht:(f x++aM f l).take z=f x:=by rw[cu (by rw[b];exact af _),bq (by rw[b];exact af _)]
 simp only[cM,aM];rw[this];simp only[Nat.zero_mul,fM,ht]|x::l,i+1,a,h=>by have c:=hv b l i a (by simpa using h);unfold cM at c|-;split at c;(.rename_i e;have e:=jV e;(have g:Nat.ble ((i+1)*z+z) (aM f (x::l)).length=true:=by rw[cf];simp only[aM,aj,b,cc];omega);(have j:(aM f (x::l)).drop ((i+1)*z)=(aM f l).drop (i*z):=by exact Ds b x l i);rw[g,j];exact c);cases c
def GI{b:Type}{f:b->List V}{z:Nat}(c:∀a,(f a).length=z)(l:List b)(i:Nat):(aM f l).drop (i*z)=aM f (l.drop i):=by induction l generalizing i with|nil=>simp[aM]|cons a l d=>cases i with|zero=>simp|succ i=>simp only[List.drop_succ_cons,aM];rw[Ds c];exact d i
def GJ{b:Type}{f:b->List V}{z:Nat}(c:∀a,(f a).length=z)(l:List b)(i:Nat):(aM f l).take (i*z)=aM f (l.take i):=by induction l generalizing i with|nil=>simp[aM]|cons a l d=>cases i with|zero=>simp[aM]|succ i=>simp only[wC,aM,cc,mg];rw[mN,nO,c,bq (by rw[c];omega),ss,d]
def Du{c:Type}{f:c->List V}{z:Nat}(b:∀a,(f a).length=z)(l:List c)(i n:Nat)(h:i+n<=l.length):cM (aM f l) (i*z) (n*z)=some (aM f ((l.drop i).take n)):=by (have d:Nat.ble (i*z+n*z) (aM f l).length=true:=by rw[cf,bf b,<-cc];exact bZ _ h);simp only[cM,d];rw[GI b,GJ b]
def aT{c:Type}{f:c->List V}(b:∀a,bp (f a)=true):∀l,bp (aM f l)=true|[]=>A|a::l=>hg (b a) (aT b l)
def lu{b:Type}(f:b->V):∀l:List b,l.map f=aM (λa=>[f a]) l|[]=>A|a::l=>by simp[aM,lu f l]
def dc{b:Type}{c:b->V}{l:List b}{i:Nat}{a:b}(h:l[i]?=some a):cM (l.map c) (i*1) 1=some [c a]:=by rw[lu];exact hv (f:=λa=>[c a]) (z:=1) (λ_=>A) l i a h
structure Vl where
 k:Int
 n:Int
 s:List Nat deriving DecidableEq,Inhabited
def eB(a:Vl):List V:=[.i .i64 a.k,.i .i64 a.n,.s a.s]
def eS(a:Vl):V:=.agg [.i .i64 a.k,.i .i64 a.n,.s a.s]
abbrev W:=List Vl
def gI(r:W):List V:=aM eB r
def bl(r:W):V:=.Q r.length (gI r)
def bW(l:List W):V:=.Q l.length (l.map bl)
def du(l:List Int):V:=.Q l.length (l.map (V.i .i64))
def fb(a:Vl):(eB a).length=3:=rfl
def fk(a:Vl):bp (eB a)=true:=rfl
def br(a:Vl):ee (eS a)=true:=rfl
def ib(r:W):bp (gI r)=true:=aT fk r
def bt(r:W):ee (bl r)=true:=ib r
def bQ{b:Type}{f:b->V}(h:∀a,ee (f a)=true):∀l:List b,bp (l.map f)=true|[]=>A|a::l=>by simp only[aw,bp,h a,bQ h l,cQ]
def bn(l:List W):ee (bW l)=true:=bQ bt l
def cH(l:List Int):ee (du l)=true:=bQ (λ_=>A) l
def eC{r:W}{i:Nat}{a:Vl}(h:r[i]?=some a):cM (gI r) (i*3) 3=some (eB a):=hv fb r i a h
def null:Vl:=⟨0,0,[]⟩
def oj(b:Bool):Vl:=⟨1,if b then 1 else 0,[]⟩
def Dv(n:Int):Vl:=⟨2,n,[]⟩
def FY(s:List Nat):Vl:=⟨3,0,s⟩
def cE{h:T EO}{c:Nat->Option Nat}{Z:Nat->Prop}{l:List V}(d:bp l=true)(e:l.all V.one=true):Ow h c Z (.c l) (.c l):=.c _ _ l l false A A A (λi v g a b=>by rw[a]at b;cases b;exact .B _ (iT d _ (bb a))) (λv f=>aU.1 e v f)
def dQ{h:T EO}{d:Nat->Option Nat}{Z:Nat->Prop}{l a:List V}{mk:Bool}(e:l=a)(f:bp a=true)(g:a.all V.one=true):Ow h d Z (.y l mk) (.y a mk):=by subst e;exact .c _ _ l l mk A A A (λi v k b c=>by rw[b]at c;cases c;exact .B _ (iT f _ (bb b))) (λv j=>aU.1 g v j)
def bz{l:List V}{n:Nat}(h:l.length=n):cM l 0 n=some l:=by (have a:Nat.ble (0+n) l.length=true:=by rw[cf];omega);simp only[cM,a,fM];rw[bq G]
def cG{b:Type}{f:b->V}(h:∀a,(f a).one=true)(l:List b):(l.map f).all V.one=true:=by rw[aU];intro v c;obtain⟨a,_,rfl⟩:=aV.1 c;exact h a
def bu{b:Type}{f:b->List V}(h:∀a,(f a).all V.one=true):∀l:List b,(aM f l).all V.one=true|[]=>A|a::l=>by simp only[aM,fT,h a,bu h l,cQ]
def mB(a:Vl):(eB a).all V.one=true:=rfl
def Cv{h:T EO}{a:Nat->Option Nat}{Z:Nat->Prop}{b n c k:Nat}{x:Option Nat}{l:List V}{mk:Bool}(d:Z b)(e:h.get b=some (.y l mk))(f:l.length=k)(g:bp l=true):Vw h a Z (.Z b 0 n c x) (.Q n l):=.fz b 0 n c k x _ l l mk d e A (bz f) g
structure Cl where
 t:List Nat
 n:List Nat
 ty:Int
structure Ky where
 at_:Int
 down:Bool
mutual
inductive J where|mk(op:Int)(v:Vl)(depth at_:Int)(name:List Nat)(K:List J)(sub:List N)(ty:Int)
inductive Ag where|mk(name:List Nat)(dt:Bool)(t:List J)
inductive N where|mk(op:Int)(de:List Nat)(aP:List Cl)(K:List N)(ao:List J)(aJ:List Ag)(cq:List Ky)(bH skip:Int)(all:Bool)(rows:List W)
end
instance:Inhabited J:=⟨.mk 0 null 0 0 [] [] [] 0⟩
instance:Inhabited N:=⟨.mk 0 [] [] [] [] [] [] 0 0 false []⟩
namespace J
def op:J->Int|mk a _ _ _ _ _ _ _=>a
def v:J->Vl|mk _ a _ _ _ _ _ _=>a
def depth:J->Int|mk _ _ a _ _ _ _ _=>a
def at_:J->Int|mk _ _ _ a _ _ _ _=>a
def name:J->List Nat|mk _ _ _ _ a _ _ _=>a
def K:J->List J|mk _ _ _ _ _ a _ _=>a
def sub:J->List N|mk _ _ _ _ _ _ a _=>a
def ty:J->Int|mk _ _ _ _ _ _ _ a=>a
end J
namespace Ag
def name:Ag->List Nat|mk a _ _=>a
def dt:Ag->Bool|mk _ a _=>a
def t:Ag->List J|mk _ _ a=>a
end Ag
namespace N
def op:N->Int|mk a _ _ _ _ _ _ _ _ _ _=>a
def de:N->List Nat|mk _ a _ _ _ _ _ _ _ _ _=>a
def aP:N->List Cl|mk _ _ a _ _ _ _ _ _ _ _=>a
def K:N->List N|mk _ _ _ a _ _ _ _ _ _ _=>a
def ao:N->List J|mk _ _ _ _ a _ _ _ _ _ _=>a
def aJ:N->List Ag|mk _ _ _ _ _ a _ _ _ _ _=>a
def cq:N->List Ky|mk _ _ _ _ _ _ a _ _ _ _=>a
def bH:N->Int|mk _ _ _ _ _ _ _ a _ _ _=>a
def skip:N->Int|mk _ _ _ _ _ _ _ _ a _ _=>a
def all:N->Bool|mk _ _ _ _ _ _ _ _ _ a _=>a
def rows:N->List W|mk _ _ _ _ _ _ _ _ _ _ a=>a
end N
def wu(c:Cl):List V:=[.s c.t,.s c.n,.i .i64 c.ty]
def Re(k:Ky):List V:=[.i .i64 k.at_,.b k.down]
mutual
def fD:J->List V|.mk op v d a b K sub ty=>[.i .i64 op,.i .i64 v.k,.i .i64 v.n,.s v.s,.i .i64 d,.i .i64 a,.s b,.Q K.length (FZ K),.Q sub.length (IU sub),.i .i64 ty]
def FZ:List J->List V|[]=>[]|t::l=>fD t++FZ l
def pg:Ag->List V|.mk n d t=>[.s n,.b d,.Q t.length (FZ t)]
def Lk:List Ag->List V|[]=>[]|a::l=>pg a++Lk l
def iA:N->List V|.mk op a aP K ao aJ cq bH skip all rows=>[.i .i64 op,.s a,.Q aP.length (aM wu aP),.Q K.length (IU K),.Q ao.length (FZ ao),.Q aJ.length (Lk aJ),.Q cq.length (aM Re cq),.i .i64 bH,.i .i64 skip,.b all,.Q rows.length (rows.map bl)]
def IU:List N->List V|[]=>[]|r::l=>iA r++IU l
end
def fB(t:J):List V:=[.i .i64 t.op,.i .i64 t.v.k,.i .i64 t.v.n,.s t.v.s,.i .i64 t.depth,.i .i64 t.at_,.s t.name,.Q t.K.length (aM fD t.K),.Q t.sub.length (aM iA t.sub),.i .i64 t.ty]
def sy(a:Ag):List V:=[.s a.name,.b a.dt,.Q a.t.length (aM fD a.t)]
def fE(r:N):List V:=[.i .i64 r.op,.s r.de,.Q r.aP.length (aM wu r.aP),.Q r.K.length (aM iA r.K),.Q r.ao.length (aM fD r.ao),.Q r.aJ.length (aM pg r.aJ),.Q r.cq.length (aM Re r.cq),.i .i64 r.bH,.i .i64 r.skip,.b r.all,.Q r.rows.length (r.rows.map bl)]
def Cw:∀l:List J,FZ l=aM fD l|[]=>by simp[FZ,aM]|t::l=>by simp[FZ,aM,Cw l]
def Rf:∀l:List Ag,Lk l=aM pg l|[]=>by simp[Lk,aM]|t::l=>by simp[Lk,aM,Rf l]
def IV:∀l:List N,IU l=aM iA l|[]=>by simp[IU,aM]|t::l=>by simp[IU,aM,IV l]
def cX(t:J):fD t=fB t:=by cases t;simp only[fD,fB,Cw,IV];rfl
def ld(t:Ag):pg t=sy t:=by cases t;simp only[pg,sy,Cw];rfl
def ej(t:N):iA t=fE t:=by cases t;simp only[iA,fE,Cw,IV,Rf];rfl
def dr(t:J):V:=.agg (fB t)
def Rg(a:Ag):V:=.agg (sy a)
def dd(r:N):V:=.agg (fE r)
def cg(l:List J):V:=.Q l.length (aM fD l)
def gp(l:List Ag):V:=.Q l.length (aM pg l)
def kj(l:List N):V:=.Q l.length (aM iA l)
def cL(t:J):(fD t).length=10:=by rw[cX];rfl
def kE(t:Ag):(pg t).length=3:=by rw[ld];rfl
def kG(t:N):(iA t).length=11:=by rw[ej];rfl
def abo(t:Cl):(wu t).length=3:=rfl
def abp(t:Ky):(Re t).length=2:=rfl
mutual
def bT:∀t,bp (fD t)=true|.mk op v d a b K sub ty=>by simp[fD,bp,ee,yp K,Dw sub]
def yp:∀l,bp (FZ l)=true|[]=>by simp[FZ,bp]|t::l=>by rw[FZ];exact hg (bT t) (yp l)
def iN:∀t,bp (pg t)=true|.mk n d t=>by simp[pg,bp,ee,yp t]
def Ll:∀l,bp (Lk l)=true|[]=>by simp[Lk,bp]|t::l=>by rw[Lk];exact hg (iN t) (Ll l)
def eL:∀r,bp (iA r)=true|.mk op a aP K ao aJ cq bH skip all rows=>by simp[iA,bp,ee,yp ao,Dw K,Ll aJ,aT (f:=wu) (λ_=>A) aP,aT (f:=Re) (λ_=>A) cq,bQ bt rows]
def Dw:∀l,bp (IU l)=true|[]=>by simp[IU,bp]|t::l=>by rw[IU];exact hg (eL t) (Dw l)
end
def bg(t:J):ee (dr t)=true:=by have:=bT t;rw[cX]at this;exact this
def oU(t:Ag):ee (Rg t)=true:=by have:=iN t;rw[ld]at this;exact this
def bm(t:N):ee (dd t)=true:=by have:=eL t;rw[ej]at this;exact this
def bx(l:List J):ee (cg l)=true:=aT bT l
def dY(l:List Ag):ee (gp l)=true:=aT iN l
def fF(l:List N):ee (kj l)=true:=aT eL l
def cB{l:List J}{i:Nat}{t:J}(h:l[i]?=some t):cM (aM fD l) (i*10) 10=some (fB t):=by rw[<-cX];exact hv cL l i t h
def ep{l:List Ag}{i:Nat}{t:Ag}(h:l[i]?=some t):cM (aM pg l) (i*3) 3=some (sy t):=by rw[<-ld];exact hv kE l i t h
def cW{l:List N}{i:Nat}{t:N}(h:l[i]?=some t):cM (aM iA l) (i*11) 11=some (fE t):=by rw[<-ej];exact hv kG l i t h
def J.bK{t k:J}(h:k∈t.K):SizeOf.sizeOf k<SizeOf.sizeOf t:=by cases t;simp only[J.K]at h;have:=ew h;simp;omega
def J.sub_lt{t:J}{k:N}(h:k∈t.sub):SizeOf.sizeOf k<SizeOf.sizeOf t:=by cases t;simp only[J.sub]at h;have:=ew h;simp;omega
def Ag.qi{a:Ag}{k:J}(h:k∈a.t):SizeOf.sizeOf k<SizeOf.sizeOf a:=by cases a;simp only[Ag.t]at h;have:=ew h;simp;omega
def N.bK{r k:N}(h:k∈r.K):SizeOf.sizeOf k<SizeOf.sizeOf r:=by cases r;simp only[N.K]at h;have:=ew h;simp;omega
def N.eD{r:N}{k:J}(h:k∈r.ao):SizeOf.sizeOf k<SizeOf.sizeOf r:=by cases r;simp only[N.ao]at h;have:=ew h;simp;omega
def N.hQ{r:N}{k:Ag}(h:k∈r.aJ):SizeOf.sizeOf k<SizeOf.sizeOf r:=by cases r;simp only[N.aJ]at h;have:=ew h;simp;omega
structure Dt where
 t:List Nat
 rows:List W
def afe(d:Dt):List V:=[.s d.t,bW d.rows]
def jJ(l:List Dt):V:=.Q l.length (aM afe l)
def abq(d:Dt):(afe d).length=2:=rfl
def abr(d:Dt):bp (afe d)=true:=by simp[afe,bp,ee,bn]
def dS(l:List Dt):ee (jJ l)=true:=aT abr l
def sO{l:List Dt}{i:Nat}{t:Dt}(h:l[i]?=some t):cM (aM afe l) (i*2) 2=some (afe t):=hv abq l i t h
instance{a:Vl}:oi (eS a):=⟨A⟩
instance{r:W}:oi (bl r):=⟨bt r⟩
instance{l:List W}:oi (bW l):=⟨bn l⟩
instance{l:List Int}:oi (du l):=⟨cH l⟩
instance{r:W}:mz (gI r):=⟨ib r⟩
instance{l:List W}:mz (l.map bl):=⟨bQ bt l⟩
instance{l:List W}:rb (l.map bl):=⟨cG (λ_=>A) l⟩
instance{r:W}:rb (gI r):=⟨bu (λ_=>A) r⟩
instance{t:J}:oi (dr t):=⟨bg t⟩
instance{t:N}:oi (dd t):=⟨bm t⟩
instance{t:Ag}:oi (Rg t):=⟨oU t⟩
instance{l:List J}:oi (cg l):=⟨bx l⟩
instance{l:List N}:oi (kj l):=⟨fF l⟩
instance{l:List Ag}:oi (gp l):=⟨dY l⟩
instance{l:List Dt}:oi (jJ l):=⟨dS l⟩
instance{t:J}:mz (fD t):=⟨bT t⟩
instance{t:N}:mz (iA t):=⟨eL t⟩
instance{t:Ag}:mz (pg t):=⟨iN t⟩
instance{t:J}:mz (fB t):=⟨bg t⟩
instance{t:N}:mz (fE t):=⟨bm t⟩
instance{t:Ag}:mz (sy t):=⟨oU t⟩
instance{t:J}:rb (fB t):=⟨A⟩
instance{t:N}:rb (fE t):=⟨A⟩
instance{t:Ag}:rb (sy t):=⟨by cases t;rfl⟩
instance{t:J}:rb (fD t):=⟨by rw[cX];rfl⟩
instance{t:N}:rb (iA t):=⟨by rw[ej];rfl⟩
instance{t:Ag}:rb (pg t):=⟨by rw[ld];cases t;rfl⟩
instance{b:Type}{f:b->List V} [i:∀a,mz (f a)]{l:List b}:mz (aM f l):=⟨aT (λa=>(i a).h) l⟩
instance{b:Type}{f:b->List V} [i:∀a,rb (f a)]{l:List b}:rb (aM f l):=⟨bu (λa=>(i a).h) l⟩
instance{l:List Int}{k:IntKind}:mz (l.map (V.i k)):=⟨bQ (λ_=>A) l⟩
instance{l:List Int}{k:IntKind}:rb (l.map (V.i k)):=⟨cG (λ_=>A) l⟩
def Ar.n{i:Nat}{K:Int->Prop}(k:K (.ofNat (i+1)))(h:i<9223372036854775807:=by omega):Ar .i64 (.ofNat i+1) K:=Ar.nx h k
def Ar.k{n:Int}{K:Int->Prop}(k:K n)(a:-9223372036854775808<=n:=by first|omega|(simp;omega))(b:n<=9223372036854775807:=by first|omega|(simp;omega)):Ar .i64 n K:=Ar.ok a b k
def aQ{r v:V}{a:T EO}{b:Nat}(e:r=v)(h:ee v=true:=by first|exact Ot|fail):Fin v r a b:=ca e h
def ef{g:Nat}{b:Func}{a:List V}{v:V}(c:Tryz.prog.funcs[g]?=some b)(z:Nat)(d:ra Tryz.prog yo .e .e 0 z b a (Fin v))(e:max a.length b.ntmps=z:=by rfl)(f:bp a=true:=by first|exact Ot|fail)(h:ee v=true:=by first|exact Ot|fail):Ct g a v:=ct c z e f h d
def aff{g:Nat}{b:Func}{a:List V}{v:V}(c:Tryz.prog.funcs[g]?=some b)(z:Nat)(d:IT a->ra Tryz.prog yo .e .e 0 z b a (Fin v))(e:max a.length b.ntmps=z:=by rfl)(f:b.body.isSome=true:=by rfl)(h:bp a=true:=by first|exact Ot|fail)(i:ee v=true:=by first|exact Ot|fail):Ct g a v:=ak3 c z e f h i d
def cV.a{P:Program}{b:T TI}{z:Nat}{a:Array Oper}{s:ES}{K:ES->Prop}(l:List (Nat×Nat))(h:dK P b z a.toList l s [s.h] K)(c:NU P a=some l:=by kernel_rfl):cV P b z a s K:=⟨l,c,h⟩
end Go.Ev
