/- TopRewrites: a part of the proof. -/
import Derived.Laws.Append
import Derived.Laws.Cells
import Derived.Laws.IdiomCopy
import Derived.Laws.OwnMore
import Derived.Laws.Pointers
import Derived.Laws.Strings
import Derived.Laws.StructEq
import Derived.Laws.Tables
import Derived.RowKit3
import Derived.WalkLawsBesides
import GoSem.Step
import Derived.Test.YtcimkkmkiedobaaGreatDoorM1
set_option maxRecDepth 100000
set_option maxHeartbeats 32000000
set_option linter.all false
namespace Go.Ev
section
inductive T(α:Type)where|e|n(l:T α)(o:Option α)(r:T α)
namespace T
variable{α:Type}
def get:T α->Nat->Option α|.e,_=>none|.n l o r,k=>match k with|0=>o|k+1=>match Nat.beq (k%2) 0 with|true=>l.get (k/2)|false=>r.get (k/2)
def one:Nat->Nat->Option α->T α|0,_,_=>.e|f+1,k,x=>match k with|0=>.n .e x .e|k+1=>match Nat.beq (k%2) 0 with|true=>.n (one f (k/2) x) none .e|false=>.n .e none (one f (k/2) x)
def put:T α->Nat->Option α->T α|.e,k,x=>one (k+1) k x|.n l o r,k,x=>match k with|0=>.n l x r|k+1=>match Nat.beq (k%2) 0 with|true=>.n (l.put (k/2) x) o r|false=>.n l o (r.put (k/2) x)
def set(t:T α)(k:Nat)(x:α):T α:=t.put k (some x)
def del(t:T α)(k:Nat):T α:=t.put k none
end T
inductive V where|b(a:Bool)|i(k:IntKind)(n:Int)|s(a:List Nat)|p(d o:Nat)|np|Z(d o n c:Nat)(a:Option Nat)|E|m(r:Nat)|nm|f(e:Nat)(first g:List V)|nf|zK|agg(l:List V)|ey(l:List V)|ip(l:List V)|Q(n:Nat)(l:List V)|es|x|j deriving Inhabited
inductive Ob where|c(l:List V)(mk:Bool)|m(es:List (V×V))deriving Inhabited
abbrev Hp:=T Ob
def sx:V:=.ey []
def V.cells:V->List V|.agg l=>l|v=>[v]
def V.one:V->Bool|.agg _=>false|.ey _=>false|.x=>false|_=>true
def V.Vx:V->Bool|.ey _=>false|.x=>false|_=>true
mutual
def aep:Nat->Value->Option V
|0,_=>none|n+1,v=>match v with
|.bool b=>some (.b b)|.int k n=>some (.i k n)|.string s=>some (.s (s.data.toList.map λc=>c.toNat))|.pointer none=>some .np|.slice none 0 0=>some .E|.map none=>some .nm|.nilFunc=>some .nf|.nilIface=>some .zK|.func (.func f) a c=>match aag n a.toList,aag n c.toList with|some a,some c=>some (.f f a c)|_,_=>none
|.agg l=>match aag n l.toList with
 |some l=>match l.all V.one with|true=>some (.agg l)|false=>none
 |none=>none
|.tuple l=>match aag n l.toList with|some l=>some (.ey l)|none=>none
|_=>none
def aag:Nat->List Value->Option (List V)|0,_=>none|_+1,[]=>some []|n+1,v::l=>match aep n v,aag n l with|some v,some l=>some (v::l)|_,_=>none
end
def nZ:Nat:=100
def gA(t:T V)(k:Nat):V:=match t.get k with|some v=>v|none=>sx
def mV(t:T V):Operand->Option V|.tmp k=>some (gA t k)|.const v=>aep nZ v|.global _=>none|.func f=>some (.f f [] [])
def oa(t:T V):List Operand->Option (List V)|[]=>some []|x::l=>match mV t x,oa t l with|some v,some r=>some (v::r)|_,_=>none
def wH(t:T V):List (Nat×Operand)->Option (List (Nat×V))|[]=>some []|(i,x)::l=>match mV t x,wH t l with|some v,some r=>some ((i,v)::r)|_,_=>none
section
variable(P:Program)
def zeroOf(ty:TypeId):Option V:=match P.info? ty with
|some i=>match i.zero with
 |some z=>match aep nZ z with
  |some v=>match v.Vx with|true=>some v|false=>none
  |none=>none
 |none=>none
|none=>none
def od(ty:TypeId):Option Nat:=match P.info? ty with|some i=>some i.size|none=>none
def lb(ty:TypeId):Option Bool:=match P.underlying ty with|some (.struct _)=>some true|some (.array _ _)=>some true|some _=>some false|none=>none
def iy(ty:TypeId):Option (TypeId×Nat):=match P.underlying ty with
|some (.slice e)=>match od P e with|some z=>some (e,z)|none=>none
|_=>none
def CP(ty:TypeId):Option (Nat×TypeId×Nat):=match P.underlying ty with
|some (.array n e)=>match od P e with|some z=>some (n,e,z)|none=>none
|_=>none
def vv(ty:TypeId)(f:Nat):Option (TypeId×Nat×Nat):=match P.underlying ty with
|some (.struct a)=>match a[f]?with
 |some f=>match od P f.type with|some z=>some (f.type,f.offset,z)|none=>none
 |none=>none
|_=>none
end
def iR(k:IntKind)(n:Int):Int:=match k,n with
|.i64,.ofNat m=>match Nat.ble 9223372036854775808 m with|false=>.ofNat m|true=>k.wrap n
|.i64,.negSucc m=>match Nat.ble 9223372036854775808 m with|false=>.negSucc m|true=>k.wrap n
|.u8,.ofNat m=>match Nat.ble 256 m with|false=>.ofNat m|true=>k.wrap n
|.u64,.ofNat m=>match Nat.ble 18446744073709551616 m with|false=>.ofNat m|true=>k.wrap n
|.u32,.ofNat m=>match Nat.ble 4294967296 m with|false=>.ofNat m|true=>k.wrap n
|_,_=>k.wrap n
def Qp:Int->Int->Bool|.ofNat a,.ofNat b=>Nat.beq a b|.negSucc a,.negSucc b=>Nat.beq a b|_,_=>false
def Vy:Int->Int->Bool|.ofNat a,.ofNat b=>Nat.ble a b|.negSucc _,.ofNat _=>true|.ofNat _,.negSucc _=>false|.negSucc a,.negSucc b=>Nat.ble b a
def sC:List Nat->List Nat->Bool
|[],[]=>true|a::x,b::y=>match Nat.beq a b with|true=>sC x y|false=>false
|_,_=>false
def xO:List Nat->List Nat->Bool|_,[]=>false|[],_::_=>true|a::x,b::y=>match Nat.beq a b with|true=>xO x y|false=>Nat.blt a b
def cM(l:List V)(o n:Nat):Option (List V):=match Nat.ble (o+n) l.length with|true=>some ((l.drop o).take n)|false=>none
def setAt(l:List V)(o:Nat)(x:List V):Option (List V):=match Nat.ble (o+x.length) l.length with|true=>some (l.take o++(x++l.drop (o+x.length)))|false=>none
def rep:Nat->List V->List V|0,_=>[]|n+1,z=>z++rep n z
def iG(a:Option Bool)(z:Nat)(l:List V)(o:Nat):Option V:=match a with
|some true=>match cM l o z with|some l=>some (.agg l)|none=>none
|some false=>l[o]?|none=>none
def nat:V->Option Nat|.i _ (.ofNat n)=>some n|_=>none
def nd(op:BinOp)(k:IntKind)(a b:Int):Option V:=match op with
|.add=>some (.i k (iR k (a+b)))|.sub=>some (.i k (iR k (a-b)))|.mul=>some (.i k (iR k (a*b)))|.quo=>match Qp b 0 with|true=>none|false=>some (.i k (iR k (a.tdiv b)))
|.rem=>match Qp b 0 with|true=>none|false=>some (.i k (a.tmod b))
|.eql=>some (.b (Qp a b))|.neq=>some (.b (!Qp a b))|.leq=>some (.b (Vy a b))|.lss=>some (.b (!Vy b a))|.geq=>some (.b (Vy b a))|.gtr=>some (.b (!Vy a b))|.shl=>match b with
 |.ofNat n=>match Nat.ble n k.bits with|true=>some (.i k (iR k (a*.ofNat (2^n))))|false=>none
 |_=>none
|.shr=>match a,b with
 |.ofNat a,.ofNat n=>match Nat.ble n k.bits with|true=>some (.i k (.ofNat (a/2^n)))|false=>none
 |_,_=>none
|_=>none
def CQ(op:BinOp)(k:IntKind)(a b:Int):Option V:=let x:=BitVec.ofInt k.bits a;let y:=BitVec.ofInt k.bits b;match op with|.and=>some (.i k (k.wrap (x&&&y).toNat))|.or=>some (.i k (k.wrap (x|||y).toNat))|.xor=>some (.i k (k.wrap (x^^^y).toNat))|.andNot=>some (.i k (k.wrap (x&&&~~~y).toNat))|_=>none
def xP(op:BinOp)(a b:List Nat):Option V:=match op with
|.add=>match Nat.ble (a.length+b.length) 9223372036854775807 with|true=>some (.s (a++b))|false=>none
|.eql=>some (.b (sC a b))|.neq=>some (.b (!sC a b))|.lss=>some (.b (xO a b))|.leq=>some (.b (xO a b||sC a b))|.gtr=>some (.b (!(xO a b||sC a b)))|.geq=>some (.b (!xO a b))|_=>none
def zQ:V->V->Option Bool|.np,.np=>some true|.np,.p _ _=>some false|.np,.ip _=>some false|.p _ _,.np=>some false|.ip _,.np=>some false|_,_=>none
def CR:V->Option Bool|.Q (_+1) _=>some false|_=>none
def zS:V->V->Option Bool|.E,.E=>some true|.E,.Z _ _ _ _ _=>some false|.Z _ _ _ _ _,.E=>some false|.E,.es=>some false|.es,.E=>some false|x,.E=>CR x|_,_=>none
def zT:V->V->Option Bool|.nm,.nm=>some true|.nm,.m _=>some false|.m _,.nm=>some false|_,_=>none
def zU:V->V->Option Bool|.nf,.nf=>some true|.nf,.f _ _ _=>some false|.f _ _ _,.nf=>some false|_,_=>none
mutual
def BQ(P:Program):Nat->TypeId->V->V->Option Bool
|0,_,_,_=>none|n+1,t,x,y=>match P.underlying t with
|some .bool=>match x,y with|.b a,.b b=>some (a==b)|_,_=>none
|some (.int _)=>match x,y with
 |.i k a,.i c b=>match decide (k=c)with|true=>some (Qp a b)|false=>none
 |_,_=>none
|some .string=>match x,y with|.s a,.s b=>some (sC a b)|_,_=>none
|some (.struct d)=>match x,y,P.stoodInHeld t with|.agg a,.agg b,false=>agR P n d.toList a b|_,_,_=>none
|some (.pointer _)=>zQ x y|some (.slice _)=>zS x y|some (.map _ _)=>zT x y|some (.func _ _ _)=>zU x y|_=>none
def agR(P:Program):Nat->List Field->List V->List V->Option Bool
|0,_,_,_=>none|_+1,[],_,_=>some true|n+1,f::c,a,b=>match decide (f.name= "_"),od P f.type,lb P f.type with
|false,some z,g=>match iG g z a f.offset,iG g z b f.offset with
 |some x,some y=>match BQ P n f.type x y with|some true=>agR P n c a b|r=>r
 |_,_=>none
|_,_,_=>none
end
def Vz(kd:Bool)(x y:V):Option Bool:=match kd,x,y with
|true,.i k a,.i c b=>match decide (k=c)with|true=>some (Qp a b)|false=>none
|false,.s a,.s b=>some (sC a b)|_,_,_=>none
def isConst:Operand->Bool|.const _=>true|_=>false
def CS(P:Program)(ty:TypeId)(x y:Operand)(a b:V):Option Bool:=match a,b with
|.zK,.zK=>match isConst x||isConst y,P.underlying ty with|true,some (.interface _)=>some true|_,_=>none
|.agg _,.agg _=>match P.eqGuardType P.depth ty with|false=>BQ P nZ ty a b|true=>none
|_,_=>BQ P nZ ty a b
def KD(P:Program)(op:BinOp)(ty:TypeId)(x y:Operand)(a b:V):Option V:=match a,b with
|.i k a,.i c b=>match op with
 |.shl=>nd op k a b|.shr=>nd op k a b|_=>match decide (k=c)with
 |true=>match nd op k a b with|some v=>some v|none=>CQ op k a b
 |false=>none
|.s a,.s b=>xP op a b|a,b=>match op with
|.eql=>match CS P ty x y a b with|some r=>some (.b r)|none=>none
|.neq=>match CS P ty x y a b with|some r=>some (.b !r)|none=>none
|_=>none
def Qq(c a b:Option V):Option V:=match c with|some (.b true)=>a|some (.b false)=>b|_=>none
def uo(a:Nat->Option (Nat×Nat)):List V->List (Nat×V)->Option (List V)
|l,[]=>some l|l,(i,v)::r=>match a i,v.Vx with
|some (b,c),true=>match Nat.beq v.cells.length c,setAt l b v.cells with|true,some l=>uo a l r|_,_=>none
|_,_=>none
def CT(P:Program)(a:Array Field)(i:Nat):Option (Nat×Nat):=match a[i]?with
|some f=>match od P f.type with|some z=>some (f.offset,z)|none=>none
|none=>none
def Io(z:Nat)(i:Nat):Option (Nat×Nat):=some (i*z,z)
def sD(P:Program):List Field->Bool|[]=>true|f::a=>match od P f.type with|some _=>sD P a|none=>false
def zV(P:Program)(ty:TypeId)(a:Option (List (Nat×V))):Option V:=match zeroOf P ty,a,P.underlying ty with
|some z,some a,some (.struct b)=>match sD P b.toList,uo (CT P b) z.cells a with|true,some l=>some (.agg l)|_,_=>none
|some z,some a,some (.array _ e)=>match od P e with
 |some c=>match uo (Io c) z.cells a with|some l=>some (.agg l)|none=>none
 |none=>none
|_,_,_=>none
def VM:V->Option V|.np=>none|.nf=>none|.zK=>none|.x=>none|.j=>none|v=>some v
def ag9(op:UnOp)(x:V):Option V:=match op,x with|.not,.b b=>some (.b !b)|.neg,.i k n=>some (.i k (iR k (0-n)))|.xor,.i k n=>CQ .xor k (if k.signed then-1 else k.max) n|_,_=>none
def Gr(P:Program)(a:TypeId)(x:V):Option V:=match P.underlying a,x with|some (.int k),.i _ n=>some (.i k (iR k n))|some .string,.s s=>some (.s s)|_,_=>none
def qo(d:Nat):Option (Option V)->Option Nat|none=>some d|some (some v)=>nat v|some none=>none
def Ip(s:List Nat)(a b:Option Nat):Option V:=match a,b with
|some l,some h=>match Nat.ble l h&&Nat.ble h s.length with|true=>some (.s ((s.drop l).take (h-l)))|false=>none
|_,_=>none
def hH(z b o c:Nat)(x:Option Nat)(a d m:Option Nat):Option V:=match a,d,m with
|some l,some h,some m=>match Nat.ble l h&&(Nat.ble h m&&Nat.ble m c)with
 |true=>match Nat.beq m l,x with|false,x=>some (.Z b (o+l*z) (h-l) (m-l) x)|true,none=>some (.Z b o (h-l) (m-l) none)|true,some _=>some (.Q 0 [])
 |false=>none
|_,_,_=>none
def Ci(z n:Nat)(l:List V)(b c:Option Nat):Option V:=match b,c with
|some a,some h=>match Nat.ble a h&&Nat.ble h n with
 |true=>match cM l (a*z) ((h-a)*z)with|some l=>some (.Q (h-a) l)|none=>none
 |false=>none
|_,_=>none
def aah(a:Option (Option V))(x:Option Nat):Option Nat:=match a with|none=>x|some _=>none
def zW(x:Option Nat)(z:Nat):Bool:=match x with|none=>true|some y=>Nat.beq y z
def Qr(n:Nat)(l:List V)(a b m:Option Nat):Option V:=match a,b,m with
|some 0,some h,some m=>match Nat.beq h n&&Nat.beq m n with|true=>some (.Q n l)|false=>none
|_,_,_=>none
def pq(P:Program)(ty:TypeId)(x:V)(d e a:Option (Option V)):Option V:=match x with
|.s s=>match P.underlying ty,a with|some .string,none=>Ip s (qo 0 d) (qo s.length e)|_,_=>none
|.E=>match iy P ty,qo 0 d,qo 0 e,qo 0 a with|some _,some 0,some 0,some 0=>some .E|_,_,_,_=>none
|.es=>match iy P ty,qo 0 d,qo 0 e,qo 0 a with|some _,some 0,some 0,some 0=>some .es|_,_,_,_=>none
|.Z b o n c x=>match iy P ty with
 |some (_,z)=>match zW x z with|true=>hH z b o c (aah a x) (qo 0 d) (qo n e) (qo c a)|false=>none
 |none=>none
|.Q n l=>match iy P ty,a with|some (_,z),none=>Ci z n l (qo 0 d) (qo n e)|some _,some _=>Qr n l (qo 0 d) (qo n e) (qo n a)|none,_=>none
|.p b o=>match CP P ty,a with
 |some (n,_,z),none=>match Nat.ble n 1000000000000 with|true=>hH z b o n none (qo 0 d) (qo n e) (some n)|false=>none
 |_,_=>none
|_=>none
def nn(P:Program)(ty:TypeId)(x:V)(f:Nat):Option V:=match vv P ty f with
|some (_,a,z)=>match Nat.beq z 0,x with
 |false,.p b o=>some (.p b (o+a))|false,.ip l=>match Nat.ble (a+z) l.length with|true=>some (.ip (l.drop a))|false=>none
 |_,_=>none
|none=>none
def CU(P:Program)(ty:TypeId)(x:V)(f:Nat):Option V:=match vv P ty f,x with|some (t,a,z),.agg l=>iG (lb P t) z l a|_,_=>none
def km(P:Program)(ty:TypeId)(x a:V):Option V:=match nat a with
|some i=>match x with
 |.Z b o n _ _=>match iy P ty,Nat.blt i n with|some (_,z),true=>some (.p b (o+i*z))|_,_=>none
 |.Q n l=>match iy P ty,Nat.blt i n with
  |some (_,z),true=>match cM l (i*z) z,Nat.beq z 0 with|some l,false=>some (.ip l)|_,_=>none
  |_,_=>none
 |.p b o=>match CP P ty with
  |some (n,_,z)=>match Nat.blt i n with|true=>some (.p b (o+i*z))|false=>none
  |none=>none
 |_=>none
|none=>none
def CV(P:Program)(ty:TypeId)(x a:V):Option V:=match nat a with
|some i=>match x,P.underlying ty with
 |.s s,some .string=>match s[i]?with|some c=>some (.i .u8 (.ofNat c))|none=>none
 |.agg l,some (.array n e)=>match Nat.blt i n,od P e with|true,some z=>iG (lb P e) z l (i*z)|_,_=>none
 |_,_=>none
|none=>none
def xQ(x:V)(i:Nat):Option V:=match x with|.ey l=>l[i]?|_=>none
def CW(P:Program)(ty:TypeId)(x:V):Option V:=match P.underlying ty,x with|some .string,.s s=>some (.i .i64 (.ofNat s.length))|some (.array n _),_=>some (.i .i64 (.ofNat n))|some (.slice _),.E=>some (.i .i64 (.ofNat 0))|some (.slice _),.es=>some (.i .i64 (.ofNat 0))|some (.slice _),.Z _ _ n _ _=>some (.i .i64 (.ofNat n))|some (.slice _),.Q n _=>some (.i .i64 (.ofNat n))|some (.map _ _),.nm=>some (.i .i64 (.ofNat 0))|_,_=>none
def Tn(P:Program)(ty:TypeId)(x:V):Option V:=match P.underlying ty,x with|some (.slice _),.E=>some (.i .i64 (.ofNat 0))|some (.slice _),.Z _ _ _ c none=>some (.i .i64 (.ofNat c))|_,_=>none
def min2:V->V->Option V|.i k a,.i _ b=>some (.i k (match Vy a b with|true=>a|false=>b))|_,_=>none
def max2:V->V->Option V|.i k a,.i _ b=>some (.i k (match Vy b a with|true=>a|false=>b))|_,_=>none
def uq(f:V->V->Option V):V->List V->Option V|v,[]=>some v|v,x::l=>match f v x with|some v=>uq f v l|none=>none
def vx(f:V->V->Option V):List V->Option V|x::l=>uq f x l|[]=>none
def omap(t:T V):Option Operand->Option (Option V)|none=>none|some x=>some (mV t x)
def lS(x:Option V)(f:V->Option V):Option V:=match x with|some v=>f v|none=>none
def ur(x y:Option V)(f:V->V->Option V):Option V:=match x,y with|some v,some w=>f v w|_,_=>none
def ajp(l:List TypeId):Option TypeId:=match l with|t::_=>some t|[]=>none
def sE(P:Program)(a:List TypeId)(l:Option (List V))(f:Program->TypeId->V->Option V):Option V:=match a,l with|t::_,some [x]=>f P t x|_,_=>none
def kA(P:Program)(b:Builtin)(a:List TypeId)(l:Option (List V)):Option V:=match b with
|.len=>sE P a l CW|.cap=>sE P a l Tn|.min=>match l with|some l=>vx min2 l|none=>none
|.max=>match l with|some l=>vx max2 l|none=>none
|_=>none
def VN(b:Fn)(a c:Option (List V)):Option V:=match b,a,c with|.func f,some a,some c=>some (.f f a c)|_,_,_=>none
def BT(P:Program)(t:T V)(op:Op):Option V:=match op with
|.move x=>mV t x|.assign x=>mV t x|.pick c a b=>Qq (mV t c) (mV t a) (mV t b)|.build ty h=>zV P ty (wH t h.toList)|.nilCheck x=>lS (mV t x) VM|.binOp op ty x y _=>ur (mV t x) (mV t y) (KD P op ty x y)|.unOp op _ x=>lS (mV t x) (ag9 op)|.convert j k x=>match Option.isSome (P.underlying j)with|true=>lS (mV t x) (Gr P k)|false=>none
|.makeFunc l a c=>VN l (oa t a.toList) (oa t c.toList)|.slice ty x m e g=>match Option.isNone g||Option.isSome e with|true=>lS (mV t x) λv=>pq P ty v (omap t m) (omap t e) (omap t g)|false=>none
|.fieldAddr ty x f=>lS (mV t x) λv=>nn P ty v f|.field ty x f=>lS (mV t x) λv=>CU P ty v f|.indexAddr ty x d=>ur (mV t x) (mV t d) (km P ty)|.index ty x d=>ur (mV t x) (mV t d) (CV P ty)|.extract x i=>lS (mV t x) λv=>xQ v i|.call {callee:=.builtin b,args,argTypes}=>kA P b argTypes.toList (oa t args.toList)|_=>none
def qp(h:Hp)(b o n:Nat):Option (List V):=match h.get b with|some (.c l _)=>cM l o n|_=>none
def xS(P:Program)(h:Hp)(ty:TypeId)(x:V):Option V:=match x,od P ty with
|.p b o,some z=>match h.get b with|some (.c l _)=>iG (lb P ty) z l o|_=>none
|.ip l,some z=>iG (lb P ty) z l 0|_,_=>none
def xU(kd:Bool):List (V×V)->V->Option (Option V)|[],_=>some none|(k,v)::l,x=>match Vz kd x k with|some true=>some (some v)|some false=>xU kd l x|none=>none
def Qs(a:Bool)(v:V)(b:Bool):V:=match a with|true=>.ey [v,.b b]|false=>v
def tF(P:Program)(t:TypeId):Option Bool:=match P.underlying t with|some (.int _)=>some true|some .string=>some false|_=>none
def Iq(h:Hp)(x:V):Option (List (V×V)):=match x with
|.nm=>some []|.m r=>match h.get r with|some (.m es)=>some es|_=>none
|_=>none
def NQ(a:Bool)(z:V)(r:Option (Option V)):Option V:=match r with|some (some v)=>some (Qs a v true)|some none=>some (Qs a z false)|none=>none
def xV(P:Program)(h:Hp)(ty:TypeId)(a:Bool)(x k:V):Option V:=match P.underlying ty with
|some (.map b e)=>match tF P b,zeroOf P e,Iq h x with|some kd,some z,some es=>NQ a z (xU kd es k)|_,_,_=>none
|_=>none
def VO(P:Program)(h:Hp)(ty:TypeId)(x:V):Option V:=match P.underlying ty,x with
|some (.map _ _),.m r=>match h.get r with|some (.m es)=>some (.i .i64 (.ofNat es.length))|_=>none
|_,_=>none
def bytesOf:List V->Option (List Nat)
|[]=>some []|.i .u8 (.ofNat n)::l=>match Nat.blt n 256,bytesOf l with|true,some r=>some (n::r)|_,_=>none
|_=>none
def byteCells(h:Hp)(x:V):Option (List V):=match x with
|.E=>some []|.Z b o n _ _=>qp h b o n|.Q n l=>match Nat.beq l.length n with|true=>some l|false=>none
|_=>none
def aeq(l:Option (List V)):Option V:=match l with
|some l=>match bytesOf l with|some s=>some (.s s)|none=>none
|none=>none
def Ir(P:Program)(h:Hp)(a b:TypeId)(x:V):Option V:=match P.underlying b,P.underlying a with
|some .string,some (.slice e)=>match P.underlying e with|some (.int .u8)=>aeq (byteCells h x)|_=>none
|_,_=>none
def NR(P:Program)(t:T V)(h:Hp)(op:Op):Option V:=match op with|.load ty a=>lS (mV t a) (xS P h ty)|.lookup ty x b c=>ur (mV t x) (mV t b) (xV P h ty c)|.convert d e x=>lS (mV t x) (Ir P h d e)|.call {callee:=.builtin .len,args,argTypes}=>sE P argTypes.toList (oa t args.toList) (λP ty x=>VO P h ty x)|_=>none
inductive Mk where|p|Z(n c:Nat)(x:Option Nat)|m
def Mk.at(m:Mk)(b:Nat):V:=match m with|.p=>.p b 0|.Z n c x=>.Z b 0 n c x|.m=>.m b
def NS(x:Option V):Option (Ob×Mk):=match x with
|some v=>match v.Vx with|true=>some (.c v.cells false,.p)|false=>none
|none=>none
def Is(P:Program)(ty:TypeId):Option (Ob×Mk):=NS (zeroOf P ty)
def oe(P:Program)(ty:TypeId)(n:Nat)(a:Option (List (Nat×V))):Option (Ob×Mk):=match iy P ty,a with
|some (e,z),some a=>match zeroOf P e,Nat.ble (n*z) 16777216&&Nat.ble n 1000000000000 with
 |some b,true=>match Nat.beq b.cells.length z,uo (Io z) (rep n b.cells) a with|true,some l=>some (.c l false,.Z n n none)|_,_=>none
 |_,_=>none
|_,_=>none
def sF(P:Program)(ty:TypeId):Option Nat:=match P.info? ty with|some i=>some i.bytes|none=>none
def sG(P:Program)(ty:TypeId)(l c:V):Option (Ob×Mk):=match iy P ty,nat l,nat c with
|some (e,z),some l,some c=>match zeroOf P e,sF P e,Nat.ble l c with
 |some a,some b,true=>match Nat.beq a.cells.length z,Nat.ble (b*c) 281474976710656&&Nat.ble c 1000000000000 with|true,true=>some (.c (rep c a.cells) false,.Z l c none)|_,_=>none
 |_,_,_=>none
|_,_,_=>none
def vy(P:Program)(a:TypeId)(x:V):Option (Ob×Mk):=match P.underlying a,x with
|some (.slice e),.s s=>match P.underlying e,Nat.ble s.length 1000000000000 with|some (.int .u8),true=>some (.c (s.map λc=>.i .u8 (.ofNat c)) true,.Z s.length s.length (some 1))|_,_=>none
|_,_=>none
def Qt(P:Program)(t:T V)(op:Op):Option (Ob×Mk):=match op with
|.alloc ty=>Is P ty|.box _ x=>NS (mV t x)|.buildSlice ty n a=>oe P ty n (wH t a.toList)|.makeMap _ none=>some (.m [],.m)|.makeSlice ty l c=>match mV t l,mV t c with|some l,some c=>sG P ty l c|_,_=>none
|.convert b d x=>match mV t x with
 |some v=>match Option.isSome (P.underlying b)with|true=>vy P d v|false=>none
 |none=>none
|_=>none
abbrev KF:=Option (V×Hp×Nat)
def wW(P:Program)(h:Hp)(c:Nat)(ty:TypeId)(a v:V):KF:=match a,od P ty,v.Vx with
|.p b o,some z,true=>match h.get b with
 |some (.c l mk)=>match Nat.beq v.cells.length z,setAt l o v.cells with|true,some l=>some (sx,h.set b (.c l mk),c)|_,_=>none
 |_=>none
|_,_,_=>none
def Be(h:Hp)(z:Nat):V->Option (List V×Nat)
|.E=>some ([],0)|.es=>some ([],0)|.Z b o n _ _=>match qp h b o (n*z)with|some l=>some (l,n)|none=>none
|.Q n l=>match Nat.beq l.length (n*z)with|true=>some (l,n)|false=>none
|.s x=>match Nat.beq z 1 with|true=>some (x.map λc=>.i .u8 (.ofNat c),x.length)|false=>none
|_=>none
def ai4:V->Option Nat|.Z b _ _ _ _=>some b|_=>none
def inBlock(x:V)(b:Nat):Bool:=match x with|.Z a _ _ _ _=>Nat.beq b a|_=>false
def NT(w:Nat):Nat:=bif Nat.ble w 199 then 1000000000000 else 1073741824
def nT(B:Nat)(h:Hp)(a z:Nat)(x s:V)(d:List V)(k:Nat):KF:=match s with
|.E=>match k with|0=>some (.E,h,a)|k+1=>match Nat.ble (k+1) B with|true=>some (.Z a 0 (k+1) (k+1) (some z),h.set a (.c d false),a+1)|false=>none
|.Z b o n c e=>match h.get b with
 |some (.c l false)=>match Nat.ble (n+k) c with
  |true=>match setAt l (o+n*z) d with|some l=>some (.Z b o (n+k) c e,h.set b (.c l false),a)|none=>none
  |false=>match cM l o (n*z),inBlock x b,zW e z&&Nat.ble (n+k) B with|some f,false,true=>some (.Z a 0 (n+k) (n+k) (some z),(match e with|none=>h|some _=>h.del b).set a (.c (f++d) false),a+1)|_,_,_=>none
 |_=>none
|_=>none
def KG(P:Program)(ty:TypeId)(x:V):Bool:=match P.underlying ty,x with|some .string,.s _=>true|some (.slice _),.s _=>false|some (.slice _),_=>true|_,_=>false
def CX(P:Program)(h:Hp)(a:Nat)(e:TypeId)(z k:Nat)(s:V)(c:TypeId):KF:=match s,P.underlying c,zeroOf P e,sF P e with
|.E,some (.int _),some b,some d=>match Nat.beq b.cells.length z,Nat.ble (k*d) 281474976710656&&Nat.ble k 1000000000000,Nat.beq k 0 with|true,true,false=>some (.Z a 0 k k (some z),h.set a (.c (rep k b.cells) false),a+1)|_,_,_=>none
|_,_,_,_=>none
def rF(P:Program)(h:Hp)(b:Nat)(e:TypeId)(z:Nat)(x s:V)(c:TypeId):KF:=match Be h z x,sF P e,KG P c x,zeroOf P e with
|some (d,k),some (a+1),true,some f=>match Nat.beq f.cells.length z&&Nat.ble a 131071 with|true=>nT (NT a) h b z x s d k|false=>none
|_,_,_,_=>none
def lT(P:Program)(h:Hp)(a:Nat)(c:List TypeId)(l:Option (List V)):KF:=match c,l with
|[ty,b],some [s,x]=>match iy P ty with
 |some (e,z)=>match Nat.beq z 0,x with|false,.i _ (.ofNat k)=>CX P h a e z k s b|false,x=>rF P h a e z x s b|true,_=>none
 |none=>none
|_,_=>none
def CY(h:Hp)(a b o m z:Nat)(c:List V):KF:=match h.get b with
|some (.c l mk)=>match setAt l o (c.take (m*z))with|some l=>some (.i .i64 (.ofNat m),h.set b (.c l mk),a)|none=>none
|_=>none
def oS(P:Program)(h:Hp)(a:Nat)(c:List TypeId)(l:Option (List V)):KF:=match c,l with
|ty::_,some [d,x]=>match iy P ty with
 |some (e,z)=>match Nat.beq z 0,Be h z x,d with|false,some (f,k),.Z b o n _ _=>CY h a b o (min k n) z f|false,some _,.E=>some (.i .i64 (.ofNat 0),h,a)|_,_,_=>none
 |none=>none
|_,_=>none
def mq(P:Program)(h:Hp)(a:Nat)(c:List TypeId)(l:Option (List V)):KF:=match c,l with
|ty::_,some [x]=>match iy P ty,x with
 |some (e,z),.Z b o n _ _=>match n with
  |0=>some (sx,h,a)|n+1=>match h.get b,zeroOf P e with
  |some (.c l mk),some d=>match setAt l o (rep (n+1) d.cells)with|some l=>some (sx,h.set b (.c l mk),a)|none=>none
  |_,_=>none
 |some _,.E=>some (sx,h,a)|_,_=>none
|_,_=>none
def KH(kd:Bool):List (V×V)->V->V->Option (List (V×V))
|[],x,y=>some [(x,y)]|(k,v)::l,x,y=>match Vz kd x k with
|some true=>some ((k,y)::l)|some false=>match KH kd l x y with|some l=>some ((k,v)::l)|none=>none
|none=>none
def KI(P:Program)(h:Hp)(a:Nat)(ty:TypeId)(m k v:V):KF:=match m,P.underlying ty with
|.m r,some (.map b _)=>match tF P b,h.get r with
 |some kd,some (.m es)=>match KH kd es k v with|some es=>some (sx,h.set r (.m es),a)|none=>none
 |_,_=>none
|_,_=>none
def It(x y:Option V)(f:V->V->KF):KF:=match x,y with|some v,some w=>f v w|_,_=>none
def VA(P:Program)(t:T V)(h:Hp)(b:Nat)(op:Op):KF:=match op with
|.store ty a x=>It (mV t a) (mV t x) (wW P h b ty)|.mapUpdate ty m k v=>match mV t v with|some v=>It (mV t m) (mV t k) λm k=>KI P h b ty m k v|none=>none
|.insert ty m k v=>match mV t v with|some v=>It (mV t m) (mV t k) λm k=>KI P h b ty m k v|none=>none
|.call {callee:=.builtin .append,args,argTypes}=>lT P h b argTypes.toList (oa t args.toList)|.call {callee:=.builtin .copy,args,argTypes}=>oS P h b argTypes.toList (oa t args.toList)|.call {callee:=.builtin .clear,args,argTypes}=>mq P h b argTypes.toList (oa t args.toList)|_=>none
inductive Kd where|p|r|a|e|c|d|no
def zX(P:Program)(b:Builtin)(a:List TypeId):Kd:=match b with
|.len=>match a with
 |t::_=>match P.underlying t with|some (.map _ _)=>.r|_=>.p
 |[]=>.no
|.cap=>.p|.min=>.p|.max=>.p|.append=>.e|.copy=>.e|.clear=>.e|_=>.no
def CZ(P:Program)(a b:TypeId):Kd:=match P.underlying a,P.underlying b with|some (.slice _),some .string=>.r|some .string,some (.slice _)=>.a|some _,_=>.p|none,_=>.no
def kd(P:Program)(op:Op):Kd:=match op with|.move _=>.p|.assign _=>.p|.pick _ _ _=>.p|.build _ _=>.p|.nilCheck _=>.p|.binOp _ _ _ _ _=>.p|.unOp _ _ _=>.p|.convert a c _=>CZ P a c|.makeFunc _ _ _=>.p|.slice _ _ _ _ _=>.p|.fieldAddr _ _ _=>.p|.field _ _ _=>.p|.indexAddr _ _ _=>.p|.index _ _ _=>.p|.extract _ _=>.p|.load _ _=>.r|.lookup _ _ _ _=>.r|.alloc _=>.a|.box _ _=>.a|.buildSlice _ _ _=>.a|.makeMap _ _=>.a|.makeSlice _ _ _=>.a|.store _ _ _=>.e|.mapUpdate _ _ _ _=>.e|.insert _ _ _ _=>.e|.call {callee:=.builtin b,argTypes ..}=>zX P b argTypes.toList|.call {callee:=.value _,..}=>.c|_=>.no
def rP(v:Option V)(h:Hp)(a:Nat):KF:=match v with|some v=>some (v,h,a)|none=>none
def rA(v:Option (Ob×Mk))(h:Hp)(a:Nat):KF:=match v with|some (o,m)=>some (m.at a,h.set a o,a+1)|none=>none
def ps(P:Program)(t:T V)(h:Hp)(a:Nat)(op:Op):KF:=match kd P op with|.p=>rP (BT P t op) h a|.r=>rP (NR P t h op) h a|.a=>rA (Qt P t op) h a|.e=>VA P t h a op|_=>none
end
section
inductive X where|norm|exit(n:Nat)|goto(n:Nat)|ret
structure St where
 t:T V
 z:Nat
 h:Hp
 nx:Nat
 ds:List (V×List V)
def St.put(s:St)(d:Option Nat)(v:V)(h:Hp)(a:Nat):Option St:=match d with|none=>some ⟨s.t,s.z,h,a,s.ds⟩|some d=>match Nat.blt d s.z with|true=>some ⟨s.t.set d v,s.z,h,a,s.ds⟩|false=>none
inductive aai where|code(c:Code)(s:St)|pv(b c:Code)(s:St)|call(f:Nat)(a:List V)(h:Hp)(d:Nat)|ops(o:Array Oper)(l:List Nat)(s:St)|wX(o:Array Oper)(l:List (Nat×Nat))(s:St)(e:List Hp)
inductive Out where|code(x:X)(s:St)|call(v:V)(h:Hp)(a:Nat)|bad
structure tG where
 KJ:Nat->List V->Hp->Nat->Option (Option (V×Hp×Nat))
 idle:Nat->Bool
def Da(a:Array Oper)(j:Nat):Option Nat:=match a[j]?with|some o=>o.dst|none=>none
def adh(w:Bool):V->Bool|.b b=>b==w|_=>false
def kV(a:Array Oper)(t:T V)(g:Option (Nat×Bool)):Bool:=match g with|none=>true|some (j,w)=>match Da a j with|some d=>adh w (gA t d)|none=>false
def aaj:Option Nat->Option Nat->Bool|none,none=>true|some a,some b=>Nat.beq a b|_,_=>false
mutual
def qW:V->V->Bool|.b x,.b y=>x==y|.i k a,.i f b=>decide (k=f)&&Qp a b|.s a,.s b=>sC a b|.p a o,.p b d=>Nat.beq a b&&Nat.beq o d|.np,.np=>true|.Z a o n c x,.Z b d g h e=>Nat.beq a b&&(Nat.beq o d&&(Nat.beq n g&&(Nat.beq c h&&aaj x e)))|.E,.E=>true|.es,.es=>true|.m a,.m b=>Nat.beq a b|.nm,.nm=>true|.f a x y,.f b e i=>Nat.beq a b&&(tH x e&&tH y i)|.nf,.nf=>true|.zK,.zK=>true|.agg a,.agg b=>tH a b|.ey a,.ey b=>tH a b|.ip a,.ip b=>tH a b|.Q n a,.Q m b=>Nat.beq n m&&tH a b|_,_=>false
def tH:List V->List V->Bool|[],[]=>true|a::x,b::y=>qW a b&&tH x y|_,_=>false
end
def FQ:Kd->Bool|.e=>true|.c=>true|.d=>true|_=>false
def merge(a b:List Nat):List Nat:=a++b.filter λx=>!a.contains x
def aak:List Oper->List (List Nat)->List (List Nat)|[],a=>a|o::l,a=>aak l (a++[o.after.toList.foldl (λs e=>match Region.binds .any e with|true=>merge (merge s [e.on]) (a.getD e.on [])|false=>s) []])
def aal(es:List Bool)(a:List (List Nat))(n:Nat):List (Nat×Nat):=let e(i:Nat):Bool:=es.getD i false;let E:=(List.range n).filter e;let(done,l):=E.foldl (λ(done,l)x=>let b:=(List.range n).filter λi=>!e i&&(a.getD x []).contains i&&!done.contains i;(done++b++[x],l++b++[x])) ([],[]);let c:=(List.range n).filter λi=>!done.contains i;(l++c).map λi=>(i,((a.getD i []).filter e).length)
def chained(a:List (List Nat)):List Nat->Bool|[]=>true|x::l=>l.all (λy=>(a.getD y []).contains x)&&chained a l
def mr(o:Oper):List Nat:=o.dst.toList++o.op.operands.toList.filterMap λ|.tmp t=>some t|_=>none
def guardOf(a:Array Oper)(o:Oper):List Nat:=match o.guard with|some (j,_)=>(Da a j).toList|none=>[]
def aam(E:List Nat)(j k:Nat)(a:List Nat):Bool:=match k with|0=>true|k+1=>match Nat.ble (k+1) j,E[j-(k+1)]?with|true,some x=>a.contains x|_,_=>false
def wt(n:Nat)(es:List Bool)(a:List (List Nat)):List Nat->List Nat->Nat->List Nat->List (Nat×Nat)->Bool|done,_,_,_,[]=>(List.range n).all done.contains|done,E,j,b,(i,k)::l=>Nat.blt i n&&!done.contains i&&(a.getD i []).all done.contains&&(match es.getD i false with|true=>b.all (a.getD i []).contains&&E.all (a.getD i []).contains&&wt n es a (i::done) (i::E) (j+1) [] l|false=>aam E j k (a.getD i [])&&wt n es a (i::done) E j (i::b) l)
def VP(a:List (Oper×Nat×List Nat))(b:List (List Nat)):Bool:=a.all λ(o,i,_)=>match o.dst with|none=>true|some d=>a.all λ(c,j,E)=>i==j||(!(c.dst==some d)&&(!E.contains d||(b.getD j []).contains i||(b.getD i []).contains j))
def adi(a:List (Oper×Nat))(b:List (List Nat)):Bool:=a.all λ(o,i)=>o.after.toList.all λe=>!Region.binds .any e||(b.getD i []).contains e.on
def NU(P:Program)(a:Array Oper):Option (List (Nat×Nat)):=let n:=a.size;let b:=aak a.toList [];let es:=a.toList.map λo=>FQ (kd P o.op);let rows:=a.toList.zipIdx.map λ(o,i)=>(o,i,mr o++guardOf a o);let l:=aal es b n;match VP rows b&&adi a.toList.zipIdx b&&wt n es b [] [] 0 [] l with|true=>some l|false=>none
def steady(P:Program)(t:T V)(op:Op)(v:V):List Hp->Bool|[]=>true|h::l=>match NR P t h op with|some u=>qW v u&&steady P t op v l|none=>false
section
variable(P:Program)(pr:tG)(rec:aai->Out)
def tmpsOf:List V->Nat->T V->T V|[],_,t=>t|v::l,k,t=>tmpsOf l (k+1) (t.set k v)
def hT(t:T V)(h:Hp):List ResultVar->Option (List V)
|[]=>some []|.tmp k::l=>match hT t h l with|some r=>some (gA t k::r)|none=>none
|.cell k ty::l=>match xS P h ty (gA t k),hT t h l with|some v,some r=>some (v::r)|_,_=>none
def Db:List V->V|[v]=>v|l=>.ey l
def xW:List (V×List V)->Bool|[]=>true|(.f f _ _,_)::l=>pr.idle f&&xW l|_::_=>false
def ag'(r:Option (V×Hp×Nat)):Out:=match r with|some (v,h,a)=>.call v h a|none=>.bad
def aan(a:Func)(s:St):Out:=match xW pr s.ds,hT P s.t s.h a.results.toList with|true,some l=>.call (Db l) s.h s.nx|_,_=>.bad
def adj(a:Func)(b:List V)(h:Hp)(d:Nat):Out:=match a.body with
|some c=>match rec (.code c ⟨tmpsOf b 0 .e,max b.length a.ntmps,h,d,[]⟩)with|.code .norm s=>aan P pr a s|.code .ret s=>aan P pr a s|_=>.bad
|none=>.bad
def VQ(f:Nat)(a:List V)(h:Hp)(b:Nat):Out:=match pr.KJ f a h b with|some r=>ag' r|none=>match P.funcs[f]?with|some c=>adj P pr rec c a h b|none=>.bad
def pw(f:V)(b:Option (List V)):Option (Nat×List V):=match f,b with|.f f a c,some l=>some (f,a++(l++c))|_,_=>none
def wY(s:Option St)(k:St->Out):Out:=match s with|some s=>k s|none=>.bad
def Gs(s:St)(d:Option Nat)(k:St->Out)(o:Out):Out:=match o with|.call v h a=>wY (s.put d v h a) k|_=>.bad
def Iu(s:St)(d:Option Nat)(c:Call)(k:St->Out):Out:=match c.callee with
|.value f=>match mV s.t f with
 |some f=>match pw f (oa s.t c.args.toList)with|some (f,l)=>Gs s d k (rec (.call f l s.h s.nx))|none=>.bad
 |none=>.bad
|_=>.bad
def VR(s:St)(d:Option Nat)(c:Call)(k:St->Out):Out:=match c.callee with
|.value f=>match mV s.t f,oa s.t c.args.toList with|some (.f g x y),some l=>wY (St.put ⟨s.t,s.z,s.h,s.nx,(.f g x y,l)::s.ds⟩ d sx s.h s.nx) k|_,_=>.bad
|_=>.bad
def wZ(s:St)(d:Option Nat)(op:Op)(k:St->Out):Out:=match ps P s.t s.h s.nx op with|some (v,h,a)=>wY (s.put d v h a) k|none=>.bad
def ai5(s:St)(d:Option Nat)(op:Op)(k:St->Out):Out:=match op with|.call {callee:=.value f,args,argTypes}=>Iu rec s d ⟨.value f,args,argTypes⟩ k|.defer c=>VR s d c k|op=>wZ P s d op k
def VS(a:Array Oper)(l:List Nat)(s:St):Out:=match l with|[]=>.code .norm s|i::l=>match a[i]?with|none=>.bad|some o=>match kV a s.t o.guard with|true=>ai5 P rec s o.dst o.op λs=>rec (.ops a l s)|false=>wY (s.put o.dst sx s.h s.nx) λs=>rec (.ops a l s)
def adk(s:St)(d:Option Nat)(op:Op)(a:List Hp)(k:St->Out):Out:=match a with
|h::a=>match NR P s.t h op with
 |some v=>match steady P s.t op v a with|true=>wY (s.put d v s.h s.nx) k|false=>.bad
 |none=>.bad
|[]=>.bad
def aha(b:Array Oper)(l:List (Nat×Nat))(s:St)(a:List Hp)(o:Oper)(k:Nat):Out:=match kd P o.op with|.r=>adk P s o.dst o.op (a.take (a.length-k)) λs=>rec (.wX b l s a)|.p=>wZ P s o.dst o.op λs=>rec (.wX b l s a)|.a=>wZ P s o.dst o.op λs=>rec (.wX b l s a)|.e=>wZ P s o.dst o.op λs=>rec (.wX b l s (s.h::a))|.c=>ai5 P rec s o.dst o.op λs=>rec (.wX b l s (s.h::a))|_=>.bad
def KK(a:Array Oper)(l:List (Nat×Nat))(s:St)(b:List Hp):Out:=match l with|[]=>.code .norm s|(i,k)::l=>match a[i]?with|none=>.bad|some o=>match kV a s.t o.guard with|true=>aha P rec a l s b o k|false=>wY (s.put o.dst sx s.h s.nx) λs=>rec (.wX a l s (match FQ (kd P o.op)with|true=>s.h::b|false=>b))
def Qu(a:Array Oper)(b:Bool)(s:St):Out:=match b with|false=>rec (.ops a (List.range a.size) s)|true=>match NU P a with|some l=>rec (.wX a l s [s.h])|none=>.bad
def ahb(b:Code)(o:Out):Out:=match o with|.code .norm s=>rec (.code b s)|o=>o
def adl(c:Option V)(a b:Code)(s:St):Out:=match c with|some (.b true)=>rec (.code a s)|some (.b false)=>rec (.code b s)|_=>.bad
def VT(k:Nat)(o:Out):Out:=match o with
|.code (.exit j) s=>match Nat.beq j k with|true=>.code .norm s|false=>.code (.exit j) s
|o=>o
def adm(b:Code)(o:Out):Out:=match o with|.code .norm s=>rec (.code (.loop b) s)|o=>o
def NV(b:Code)(o:Out):Out:=match o with
|.code (.goto k) s=>match findLabel b k with|some c=>rec (.pv b c s)|none=>.code (.goto k) s
|o=>o
def Bf(c:Code)(s:St):Out:=match c with|.skip=>.code .norm s|.label _=>.code .norm s|.ret=>.code .ret s|.exit k=>.code (.exit k) s|.goto k=>.code (.goto k) s|.seq a b=>ahb rec b (rec (.code a s))|.cond c a b=>adl rec (mV s.t c) a b s|.block k b=>VT k (rec (.code b s))|.loop b=>adm rec b (rec (.code b s))|.scope b=>rec (.pv b b s)|.region _ d e=>Qu P rec d e s|_=>.bad
def body(j:aai):Out:=match j with|.code c s=>Bf P rec c s|.pv b c s=>NV rec b (rec (.code c s))|.call f a h d=>VQ P pr rec f a h d|.ops o l s=>VS P rec o l s|.wX o l s e=>KK P rec o l s e
end
def run(P:Program)(pr:tG):Nat->aai->Out|0,_=>.bad|n+1,j=>body P pr (run P pr n) j
end
section
namespace T
variable{α:Type}
def Qv{k:Nat}(h:Nat.beq (k%2) 0=true):k%2=0:=cm h
def Qw{k:Nat}(h:Nat.beq (k%2) 0=false):k%2=1:=by have:=cz h;omega
@[simp]def ahc(k:Nat):(T.e:T α).get k=none:=by cases k<;>rfl
def aao:∀(f k:Nat)(x:Option α)(j:Nat),k<f->(one f k x).get j=if j=k then x else none:=by
 intro f;induction f with
 |zero=>intro k x j h;omega|succ f c=>
  intro k x j h;cases k with
  |zero=>cases j with|zero=>simp[one,get]|succ j=>simp only[one,get];split<;>simp[get]
  |succ k=>simp only[one];cases a:Nat.beq (k%2) 0<;>simp only[]<;>cases j with|zero=>simp[get]|succ j=>simp only[get];cases b:Nat.beq (j%2) 0<;>simp only[];all_goals (first|(have d:=Qv a)|(have d:=Qw a));(first|(have e:=Qv b)|(have e:=Qw b));first|(rw[c _ _ _ G];congr 1;simp only[FC];constructor<;>intro<;>omega)|(rw[I G])
def sH:∀(t:T α)(k:Nat)(x:Option α)(j:Nat),(t.put k x).get j=if j=k then x else t.get j:=by
 intro t;induction t with
 |e=>intro k x j;rw[put,aao _ _ _ _ G];simp[get]|n l o r c d=>
  intro k x j;cases k with
  |zero=>cases j with|zero=>simp[put,get]|succ j=>simp[put,get]
  |succ k=>simp only[put];cases a:Nat.beq (k%2) 0<;>simp only[]<;>cases j with|zero=>simp[get]|succ j=>simp only[get];cases b:Nat.beq (j%2) 0<;>simp only[];all_goals (first|(have e:=Qv a)|(have e:=Qw a));(first|(have f:=Qv b)|(have f:=Qw b));first|(rw[c];congr 1;simp only[FC];constructor<;>intro<;>omega)|(rw[d];congr 1;simp only[FC];constructor<;>intro<;>omega)|(rw[I G])
def dI(t:T α)(k:Nat)(x:α)(j:Nat):(t.set k x).get j=if j=k then some x else t.get j:=sH t k _ j
def vz(t:T α)(k j:Nat):(t.del k).get j=if j=k then none else t.get j:=sH t k _ j
end T
inductive R(w:World)(g:Nat->Option (Nat×Nat))(F:Nat->Prop):V->Value->Prop|b(t:Bool):R w g F (.b t) (.bool t)|i(k:IntKind)(n:Int):R w g F (.i k n) (.int k n)|s(t:ByteArray)(l:List Nat)(h:t.data.toList.map UInt8.toNat=l):R w g F (.s l) (.string t)|p(A o B d:Nat)(h:g A=some (B,d)):R w g F (.p A o) (.pointer (some ⟨B,d+o,none⟩))|np:R w g F .np (.pointer none)|Z(A o n c:Nat)(t:Option Nat)(B d D:Nat)(h:g A=some (B,d))(M:n<=c)(J:c<=D)(T:t=none->D=c)(U:∀z,t=some z->∃K e N,w.heap[B]?=some (.cells K e N)/\d+o+D*z<=K.size)(O:D<=9223372036854775807/\c<=1000000000000):R w g F (.Z A o n c t) (.slice (some ⟨B,d+o,none⟩) n D)|E:R w g F .E (.slice none 0 0)|m(r B:Nat)(h:g r=some (B,0)):R w g F (.m r) (.map (some B))|nm:R w g F .nm (.map none)|f(L:Nat)(t y:List V)(a c:Array Value)(H:t.length=a.size)(G:∀(q:Nat)v u,t[q]?=some v->a[q]?=some u->R w g F v u)(I:y.length=c.size)(W:∀(q:Nat)v u,y[q]?=some v->c[q]?=some u->R w g F v u):R w g F (.f L t y) (.func (.func L) a c)|nf:R w g F .nf .nilFunc|zK:R w g F .zK .nilIface|agg(l:List V)(c:Array Value)(H:l.length=c.size)(G:∀(q:Nat)v u,l[q]?=some v->c[q]?=some u->R w g F v u)(I:∀v∈l,v.one=true):R w g F (.agg l) (.agg c)|ey(l:List V)(c:Array Value)(H:l.length=c.size)(G:∀(q:Nat)v u,l[q]?=some v->c[q]?=some u->R w g F v u):R w g F (.ey l) (.tuple c)|ip(l:List V)(B o:Nat)(P:¬F B)(S:B<w.heap.size)(C:List Value)(H:l.length=C.length)(J:∀(q:Nat)u,C[q]?=some u->w.cell? ⟨B,o+q,none⟩=some u)(G:∀(q:Nat)v u,l[q]?=some v->C[q]?=some u->R w g F v u)(I:∀v∈l,v.one=true):R w g F (.ip l) (.pointer (some ⟨B,o,none⟩))|is0(a:Option Addr)(c:Nat)(h:a=none->c=0):R w g F (.Q 0 []) (.slice a 0 c)|es(a:Addr)(c:Nat):R w g F .es (.slice (some a) 0 c)|x(u:Value)(h:∀A,u≠.bool A):R w g F .x u|j(u:Value)(h:∀A,u≠.bool A)(G:(∀c,u≠.agg c)/\∀c,u≠.tuple c):R w g F .j u|Q(n:Nat)(l:List V)(c B o:Nat)(M:n<=c)(P:¬F B)(S:B<w.heap.size)(C:List Value)(H:l.length=C.length)(J:∀(q:Nat)u,C[q]?=some u->w.cell? ⟨B,o+q,none⟩=some u)(G:∀(q:Nat)v u,l[q]?=some v->C[q]?=some u->R w g F v u)(I:∀v∈l,v.one=true)(O:n<=1000000000000):R w g F (.Q n l) (.slice (some ⟨B,o,none⟩) n c)
def RL(w:World)(b:Nat->Option (Nat×Nat))(F:Nat->Prop)(l:List V)(a:List Value):Prop:=l.length=a.length/\∀(i:Nat)v u,l[i]?=some v->a[i]?=some u->R w b F v u
structure Ext(w:World)(f:Nat->Option (Nat×Nat))(F:Nat->Prop)(a:World)(g:Nat->Option (Nat×Nat))(h:Nat->Prop):Prop where
 sub:∀b x,f b=some x->g b=some x
 out:∀B,¬F B->B<w.heap.size->¬h B
 keep:∀B,¬F B->B<w.heap.size->a.heap[B]?=w.heap[B]?
 size:w.heap.size<=a.heap.size
 os:a.os=w.os
 tape:a.tape=w.tape
 output:a.output=w.output
 FG:∀(B:Nat)(c:Array Value)(e:TypeId)(i:Nat×Nat),w.heap[B]?=some (.cells c e i)->∃(d:Array Value)(j:TypeId)(k:Nat×Nat),a.heap[B]?=some (.cells d j k)/\d.size=c.size
def NW{w:World}{B o:Nat}{u:Value}(h:w.cell? ⟨B,o,none⟩=some u):B<w.heap.size:=World.block_lt_of_cell? w ⟨B,o,none⟩ h
def zY{w a:World}{B o:Nat}(h:a.heap[B]?=w.heap[B]?):a.cell? ⟨B,o,none⟩=w.cell? ⟨B,o,none⟩:=by simp only[World.cell?,h]
def R.ext{w E:World}{β H:Nat->Option (Nat×Nat)}{F I:Nat->Prop}(j:Ext w β F E H I){v:V}{u:Value}(h:R w β F v u):R E H I v u:=by induction h with|b x=>exact .b x|i k n=>exact .i k n|s x l h=>exact .s x l h|p b o B d h=>exact .p b o B d (j.sub _ _ h)|np=>exact .np|Z b o n c x B d K h A s L M C=>refine .Z b o n c x B d K (j.sub _ _ h) A s L (λz N=>?_) C;obtain⟨U,e,W,g,J⟩:=M z N;obtain⟨O,P,Q,m,X⟩:=j.FG _ _ _ _ g;exact⟨O,P,Q,m,G⟩|E=>exact .E|m r B h=>exact .m r B (j.sub _ _ h)|nm=>exact .nm|f f x y a c g _ m _ S T=>exact .f f x y a c g S m T|nf=>exact .nf|zK=>exact .zK|agg l c g _ m p=>exact .agg l c g p m|ey l c g _ p=>exact .ey l c g p|ip l B o t q D g s _ m p=>exact .ip l B o (j.out B t q) (bS q j.size) D g (λi u h=>by rw[zY (j.keep B t q)];exact s i u h) p m|is0 a c h=>exact .is0 a c h|es a c=>exact .es a c|x u h=>exact .x u h|j u h J=>exact .j u h J|Q n l c B o A t q D g s _ m C p=>exact .Q n l c B o A (j.out B t q) (bS q j.size) D g (λi u h=>by rw[zY (j.keep B t q)];exact s i u h) p m C
def RL.ext{w a:World}{β b:Nat->Option (Nat×Nat)}{F c:Nat->Prop}(e:Ext w β F a b c){l:List V}{d:List Value}(h:RL w β F l d):RL a b c l d:=⟨h.1,λi v u f g=>(h.2 i v u f g).ext e⟩
def RL.nil{w:World}{a:Nat->Option (Nat×Nat)}{F:Nat->Prop}:RL w a F [] []:=⟨A,λi v u h=>by simp at h⟩
def RL.cons{w:World}{c:Nat->Option (Nat×Nat)}{F:Nat->Prop}{v:V}{u:Value}{l:List V}{d:List Value}(h:R w c F v u)(e:RL w c F l d):RL w c F (v::l) (u::d):=⟨by simp[e.1],λi x y a b=>by cases i with|zero=>simp at a b;subst a b;exact h|succ i=>simp at a b;exact e.2 i x y a b⟩
def RL.get{w:World}{b:Nat->Option (Nat×Nat)}{F:Nat->Prop}{l:List V}{a:List Value}(h:RL w b F l a){i:Nat}{v:V}(c:l[i]?=some v):∃u,a[i]?=some u/\R w b F v u:=by (have d:i<a.length:=by rw[<-h.1];exact(ba.1 c).1);exact⟨a[i],aa d,h.2 i v _ c (aa d)⟩
def RL.append{w:World}{c:Nat->Option (Nat×Nat)}{F:Nat->Prop}{l d:List V}{e f:List Value}(h:RL w c F l e)(g:RL w c F d f):RL w c F (l++d) (e++f):=by refine⟨by simp[h.1,g.1],λi v u a b=>?_⟩;by_cases j:i<l.length;(.rw[cb j]at a;rw[cb (h.1▸j)]at b;exact h.2 i v u a b);rw[bU G]at a;rw[bU (by have:=h.1;omega),<-h.1]at b;exact g.2 _ v u a b
def RL.take{w:World}{c:Nat->Option (Nat×Nat)}{F:Nat->Prop}{l:List V}{d:List Value}(h:RL w c F l d)(n:Nat):RL w c F (l.take n) (d.take n):=by refine⟨by simp[h.1],λi v u a b=>?_⟩;simp only[cT]at a b;split at a;(.rw[U (by assumption)]at b;exact h.2 i v u a b);cases a
def RL.drop{w:World}{a:Nat->Option (Nat×Nat)}{F:Nat->Prop}{l:List V}{b:List Value}(h:RL w a F l b)(n:Nat):RL w a F (l.drop n) (b.drop n):=by refine⟨by simp[h.1],λi v u c d=>?_⟩;simp only[dj]at c d;exact h.2 _ v u c d
def Gl(w:World)(F:Nat->Prop):Prop:=∃m,w.cell? ⟨2,0,none⟩=some (.int .i64 m)/\¬F 2
def Gl.ext{w a:World}{β f:Nat->Option (Nat×Nat)}{F b:Nat->Prop}(g:Gl w F)(c:Ext w β F a f b):Gl a b:=by obtain⟨m,h,d⟩:=g;have e:=NW h;exact⟨m,(zY (c.keep 2 d e)).trans h,c.out 2 d e⟩
def Gl.sub{w:World}{F a:Nat->Prop}(g:Gl w F)(h:∀B,a B->F B):Gl w a:=by obtain⟨m,q,b⟩:=g;exact⟨m,q,λz=>b (h _ z)⟩
structure HR(w:World)(a:Nat->Option (Nat×Nat))(F:Nat->Prop)(h:Hp):Prop where
 c:∀b l mk,h.get b=some (.c l mk)->∃(B d:Nat)(f:Array Value)(e:TypeId)(g:Nat×Nat),a b=some (B,d)/\F B/\w.heap[B]?=some (.cells f e g)/\RL w a F l ((f.toList.drop d).take l.length)/\d+l.length<=f.size/\(mk=false->g=(0,0))/\(mk=true->d+l.length<=g.1)/\∀v∈l,v.one=true
 m:∀b es,h.get b=some (.m es)->∃(B:Nat)(i:Array MapEntry)(k:Nat),a b=some (B,0)/\F B/\w.heap[B]?=some (.map i k)/\RL w a F (es.map (·.1)) (i.toList.map (·.key))/\RL w a F (es.map (·.2)) (i.toList.map (·.val))
 inj:∀b j o n B d p,h.get b=some o->h.get j=some n->a b=some (B,d)->a j=some (B,p)->b=j
 bd:∀B,F B->B<w.heap.size
 gl:Gl w F
def Ext.refl(w:World)(a:Nat->Option (Nat×Nat))(F:Nat->Prop):Ext w a F w a F:=⟨λ_ _ h=>h,λ_ h _=>h,λ_ _ _=>A,af _,A,A,A,λ_ b e c h=>⟨b,e,c,h,A⟩⟩
def Ext.trans{w d f:World}{g i j:Nat->Option (Nat×Nat)}{F l F2:Nat->Prop}(a:Ext w g F d i l)(b:Ext d i l f j F2):Ext w g F f j F2:=⟨λk x h=>b.sub _ _ (a.sub _ _ h),λB h c=>b.out B (a.out B h c) (bS c a.size),λB h c=>(b.keep B (a.out B h c) (bS c a.size)).trans (a.keep B h c),aL a.size b.size,b.os.trans a.os,b.tape.trans a.tape,b.output.trans a.output,λB m e n h=>by obtain⟨c1,o,p,q,r⟩:=a.FG B m e n h;obtain⟨c2,s,t,u,v⟩:=b.FG B c1 o p q;exact⟨c2,s,t,u,v.trans r⟩⟩
def ub(a:Nat->Option (Nat×Nat))(b:Nat)(x:Nat×Nat):Nat->Option (Nat×Nat):=λk=>if k=b then some x else a k
def uF(F:Nat->Prop)(B:Nat):Nat->Prop:=λk=>F k\/k=B
def gR(a:Nat->Option (Nat×Nat))(b:Nat)(x:Nat×Nat):ub a b x b=some x:=by simp[ub]
def Dc{a:Nat->Option (Nat×Nat)}{b:Nat}(h:a b=none)(x:Nat×Nat):∀k y,a k=some y->ub a b x k=some y:=by intro k y c;simp only[ub];split;(.subst_vars;rw[h]at c;cases c);exact c
def Fr(a:Nat->Option (Nat×Nat))(c:Nat):Prop:=∀b,c<=b->a b=none
def Fr.next{c:Nat->Option (Nat×Nat)}{a:Nat}(h:Fr c a)(x:Nat×Nat):Fr (ub c a x) (a+1):=λb d=>by simp only[ub];rw[I G];exact h b G
def mu(w:World)(o:Obj){k:Nat}(h:k<w.heap.size):(w.heap.push o)[k]?=w.heap[k]?:=by rw[Array.getElem?_push,I G]
def Ext.push{w a:World}{c d:Nat->Option (Nat×Nat)}{F:Nat->Prop}(o:Obj)(b:a.heap=w.heap.push o)(j:a.os=w.os)(ht:a.tape=w.tape)(l:a.output=w.output)(m:∀k y,c k=some y->d k=some y):Ext w c F a d (uF F w.heap.size):=⟨m,λB h f=>by simp only[uF];rintro(g|g)<;>first|exact h g|omega,λB _ f=>by rw[b,mu w o f],by rw[b];simp,j,ht,l,λB n e p h=>⟨n,e,p,by rw[b,mu w o (by by_cases i:B<w.heap.size;exact i;simp[tB (eO i)]at h)];exact h,A⟩⟩
def dX{w:World}{B:Nat}{o:Obj}(h:w.heap[B]?=some o):B<w.heap.size:=(dn.1 h).1
def HR.aki{w i:World}{s m:Nat->Option (Nat×Nat)}{F j:Nat->Prop}{h:Hp}(H:HR w s F h)(f:Ext w s F i m j)(a2:∀B,j B->B<i.heap.size)(b:Nat)(x:Option Ob)(W:∀a o B d,a≠b->h.get a=some o->s a=some (B,d)->i.heap[B]?=w.heap[B]?/\j B)(hc:∀l mk,x=some (.c l mk)->∃(B d:Nat)(t:Array Value)(e:TypeId)(u:Nat×Nat),m b=some (B,d)/\j B/\i.heap[B]?=some (.cells t e u)/\RL i m j l ((t.toList.drop d).take l.length)/\d+l.length<=t.size/\(mk=false->u=(0,0))/\(mk=true->d+l.length<=u.1)/\∀v∈l,v.one=true)(hm:∀es,x=some (.m es)->∃(B:Nat)(y:Array MapEntry)(M:Nat),m b=some (B,0)/\j B/\i.heap[B]?=some (.map y M)/\RL i m j (es.map (·.1)) (y.toList.map (·.key))/\RL i m j (es.map (·.2)) (y.toList.map (·.val)))(X:∀o B d,x=some o->m b=some (B,d)->∀a p z,a≠b->h.get a=some p->s a=some (B,z)->False):HR i m j (h.put b x):=by
 have g:∀a o,a≠b->(h.put b x).get a=some o->h.get a=some o:=λa o a3 c=>by rw[T.sH,I a3]at c;exact c
 have own:∀o,(h.put b x).get b=some o->x=some o:=λo c=>by rw[T.sH,U A]at c;exact c
 have L:∀a o,h.get a=some o->∃B d,s a=some (B,d):=λa o c=>by cases o with|c l mk=>obtain⟨B,d,_,_,_,k,_⟩:=H.c a l mk c;exact⟨B,d,k⟩|m es=>obtain⟨B,_,_,k,_⟩:=H.m a es c;exact⟨B,0,k⟩
 refine⟨λa l mk c=>?_,λa es c=>?_,λC a D p B N z E G O P=>?_,a2,H.gl.ext f⟩;.by_cases q:a=b;(.subst q;exact hc l mk (own _ c));have J:=g _ _ q c;obtain⟨B,d,t,e,u,k,h2,Q,R,S,h6,h7⟩:=H.c a l mk J;obtain⟨k1,V⟩:=W a _ B d q J k;exact⟨B,d,t,e,u,f.sub _ _ k,V,k1.trans Q,R.ext f,S,h6,h7⟩
 .by_cases q:a=b;(.subst q;exact hm es (own _ c));have J:=g _ _ q c;obtain⟨B,y,M,k,h2,Q,R,S⟩:=H.m a es J;obtain⟨k1,V⟩:=W a _ B 0 q J k;exact⟨B,y,M,f.sub _ _ k,V,k1.trans Q,R.ext f,S.ext f⟩
 by_cases r:C=b;.by_cases n:a=b;(.rw[r,n]);subst r;obtain⟨Y,Z,K⟩:=L a p (g _ _ n G);have:=f.sub _ _ K;rw[P]at this;cases this;exact(X D B N (own _ E) O a p z n (g _ _ n G) K).elim
 by_cases n:a=b;.subst n;obtain⟨Y,Z,K⟩:=L C D (g _ _ r E);have:=f.sub _ _ K;rw[O]at this;cases this;exact(X p B z (own _ G) P C D N r (g _ _ r E) K).elim
 obtain⟨Y,Z,a0⟩:=L C D (g _ _ r E);obtain⟨a4,a5,a1⟩:=L a p (g _ _ n G);have t1:=f.sub _ _ a0;have t2:=f.sub _ _ a1;rw[O]at t1;rw[P]at t2;cases t1;cases t2;exact H.inj C a D p B N z (g _ _ r E) (g _ _ n G) a0 a1
def HR.ext{w g:World}{β p:Nat->Option (Nat×Nat)}{F i:Nat->Prop}{h:Hp}(H:HR w β F h)(c:Ext w β F g p i)(E:∀B,i B->B<g.heap.size)(q:∀a o B d,h.get a=some o->β a=some (B,d)->g.heap[B]?=w.heap[B]?/\i B):HR g p i h:=by
 have r:∀a o,h.get a=some o->∃B d,β a=some (B,d):=λa o s=>by cases o with|c l mk=>obtain⟨B,d,_,_,_,b,_⟩:=H.c a l mk s;exact⟨B,d,b⟩|m es=>obtain⟨B,_,_,b,_⟩:=H.m a es s;exact⟨B,0,b⟩
 refine⟨λa l mk f=>?_,λa es f=>?_,λt a u v B G I x y J K=>?_,E,H.gl.ext c⟩;.obtain⟨B,d,L,e,M,b,N,j,k,m,O,P⟩:=H.c a l mk f;obtain⟨k1,n⟩:=q a _ B d f b;exact⟨B,d,L,e,M,c.sub _ _ b,n,k1.trans j,k.ext c,m,O,P⟩
 .obtain⟨B,Q,R,b,N,j,k,m⟩:=H.m a es f;obtain⟨k1,n⟩:=q a _ B 0 f b;exact⟨B,Q,R,c.sub _ _ b,n,k1.trans j,k.ext c,m.ext c⟩
 obtain⟨S,T,z⟩:=r t u x;obtain⟨U,V,A⟩:=r a v y;have C:=c.sub _ _ z;have D:=c.sub _ _ A;rw[J]at C;rw[K]at D;cases C;cases D;exact H.inj t a u v B G I x y z A
def adn{w a:World}{F:Nat->Prop}(b:∀B,F B->B<w.heap.size)(c:a.heap.size=w.heap.size+1):∀B,uF F w.heap.size B->B<a.heap.size:=by rintro B(h|h);(.have:=b B h;omega);omega
def HR.kB{w:World}{g:Nat->Option (Nat×Nat)}{F:Nat->Prop}{h:Hp}(H:HR w g F h){b:Nat}{o:Ob}(i:h.get b=some o):∃B d,g b=some (B,d)/\F B/\B<w.heap.size:=by cases o with|c l mk=>obtain⟨B,d,j,e,k,a,c,f,_⟩:=H.c b l mk i;exact⟨B,d,a,c,dX f⟩|m es=>obtain⟨B,m,n,a,c,f,_⟩:=H.m b es i;exact⟨B,0,a,c,dX f⟩
end
section
variable{P:Program}{w:World}{β:Nat->Option (Nat×Nat)}{F:Nat->Prop}
def TR(w:World)(β:Nat->Option (Nat×Nat))(F:Nat->Prop)(t:T V)(a:Array Value):Prop:=∀k,R w β F (gA t k) (a.getD k undef)
def R.sx:R w β F sx undef:=.ey [] #[] A (λi v u h=>by simp at h)
def RL.agg{l:List V}{c:Array Value}(h:RL w β F l c.toList)(a:∀v∈l,v.one=true):R w β F (.agg l) (.agg c):=.agg l c (by simpa using h.1) (λi v u b d=>h.2 i v u b (by simpa using d)) a
def RL.ey{l:List V}{c:Array Value}(h:RL w β F l c.toList):R w β F (.ey l) (.tuple c):=.ey l c (by simpa using h.1) λi v u a b=>h.2 i v u a (by simpa using b)
def R.vA{l:List V}{u:Value}(h:R w β F (.agg l) u):∃c:Array Value,u=.agg c/\RL w β F l c.toList/\∀v∈l,v.one=true:=by cases h with|agg l c a b d=>exact⟨c,A,⟨by simpa using a,λi v u e f=>b i v u e (by simpa using f)⟩,d⟩
def R.aap{l:List V}{u:Value}(h:R w β F (.ey l) u):∃c:Array Value,u=.tuple c/\RL w β F l c.toList:=by cases h with|ey l c a b=>exact⟨c,A,by simpa using a,λi v u d e=>b i v u d (by simpa using e)⟩
def aer:∀(n:Nat),(∀v x,aep n v=some x->R w β F x v)/\(∀l x,aag n l=some x->RL w β F x l):=by
 intro n;induction n with
 |zero=>exact⟨λv x h=>by simp[aep]at h,λl x h=>by simp[aag]at h⟩
 |succ n d=>refine⟨λv x h=>?_,λl x h=>?_⟩;(.simp only[aep]at h;split at h;(case h_1=>cases h;exact .b _);(case h_2=>cases h;exact .i _ _);(case h_3=>cases h;exact .s _ _ A);(case h_4=>cases h;exact .np);(case h_5=>cases h;exact .E);(case h_6=>cases h;exact .nm);(case h_7=>cases h;exact .nf);(case h_8=>cases h;exact .zK);(case h_9=>rename_i f a c;split at h;(.rename_i x y b e;cases h;have k:=d.2 _ _ b;have m:=d.2 _ _ e;exact .f f x y a c (by simpa using k.1) (λi v u g j=>k.2 i v u g (by simpa using j)) (by simpa using m.1) (λi v u g j=>m.2 i v u g (by simpa using j)));.cases h);(case h_10=>split at h;(.rename_i x b;split at h;(.rename_i o;cases h;exact RL.agg (d.2 _ _ b) (by simpa using o));cases h);.cases h);(case h_11=>split at h;(.rename_i x b;cases h;exact RL.ey (d.2 _ _ b));.cases h);case h_12=>cases h);cases l with|nil=>simp[aag]at h;subst h;exact RL.nil|cons v l=>simp only[aag]at h;split at h;(.rename_i x y b e;cases h;exact(d.2 _ _ e).cons (d.1 _ _ b));cases h
def Gt{t:T V}{a:Act}(ht:TR w β F t a.tmps){x:Operand}{v:V}(h:mV t x=some v):R w β F v (a.eval x):=by
 cases x with
 |tmp k=>simp only[mV,bB]at h;subst h;exact ht k|const c=>exact(aer nZ).1 _ _ h|global g=>simp[mV]at h
 |func f=>simp only[mV,bB]at h;subst h;exact .f f [] [] #[] #[] A (λi v u h=>by simp at h) A (λi v u h=>by simp at h)
def OR(w:World)(β:Nat->Option (Nat×Nat))(F:Nat->Prop)(t:T V)(a:Operand->Value)(l:List Operand):Prop:=∀x∈l,∀v,mV t x=some v->R w β F v (a x)
def TR.ops{t:T V}{a:Act}(ht:TR w β F t a.tmps)(l:List Operand):OR w β F t a.eval l:=λx _ v h=>Gt ht h
def OR.sub{t:T V}{a:Operand->Value}{l b:List Operand}(h:OR w β F t a l)(c:∀x∈b,x∈l):OR w β F t a b:=λx d v e=>h x (c x d) v e
def px{t:T V}{b:Operand->Value}:∀{l:List Operand}{a:List V},OR w β F t b l->oa t l=some a->RL w β F a (l.map b)|[],a,ht,h=>by simp[oa]at h;subst h;exact RL.nil|x::l,a,ht,h=>by simp only[oa]at h;split at h;(.rename_i v r c d;cases h;exact(px (ht.sub λy e=>bA _ e) d).cons (ht x aS v c));cases h
def RP(w:World)(β:Nat->Option (Nat×Nat))(F:Nat->Prop):List (Nat×V)->List (Nat×Value)->Prop|[],[]=>True|(i,v)::l,(j,u)::r=>i=j/\R w β F v u/\RP w β F l r|_,_=>False
def Iv{t:T V}{b:Operand->Value}:∀{l:List (Nat×Operand)}{a:List (Nat×V)},OR w β F t b (l.map (·.2))->wH t l=some a->RP w β F a (l.map λ(i,x)=>(i,b x))|[],a,ht,h=>by simp[wH]at h;subst h;exact True.intro|(i,x)::l,a,ht,h=>by simp only[wH]at h;split at h;(.rename_i v r c d;cases h;exact⟨A,ht x aS v c,Iv (ht.sub λy e=>by simp only[aw];exact bA _ e) d⟩);cases h
def R.mv{v:V}{u:Value}(h:R w β F v u)(g:v.Vx=true):RL w β F v.cells u.cells.toList:=by
 cases h with
 |x u h=>cases g|j u h d=>(have f:u.cells=#[u]:=by cases u<;>first|rfl|exact absurd A (d.1 _));refine⟨by rw[f];rfl,λi v x a e=>?_⟩;rw[f]at e;cases i with|zero=>simp[V.cells]at a e;subst a e;exact .j _ h d|succ i=>simp[V.cells]at a
 |agg l c j d k=>exact⟨by simpa[V.cells,Value.cells]using j,λi v u a b=>d i v u (by simpa[V.cells]using a) (by simpa[Value.cells]using b)⟩|_=>refine⟨A,λi v u a b=>?_⟩;cases i with|zero=>simp only[V.cells,Value.cells]at a b;simp at a b;subst a b;constructor<;>assumption|succ i=>simp[V.cells]at a
def R.one{v:V}{u:Value}(h:R w β F v u)(b:v.one=true):u.oneCell'=true:=by
 cases h with
 |j u h a=>cases u<;>first|rfl|exact absurd A (a.1 _)|exact absurd A (a.2 _)|exact absurd A (h _)
 |_=>simp_all[Value.oneCell',V.one]
def RL.VU{l:List V}{a:List Value}(h:RL w β F l a)(d:∀v∈l,v.one=true):∀u∈a,u.oneCell'=true:=by intro u e;obtain⟨i,b,rfl⟩:=oO e;(have c:i<l.length:=by rw[h.1];exact b);exact(h.2 i l[i] _ (aa c) (aa b)).one (d _ (aq c))
end
section
variable{P:Program}{w:World}{β:Nat->Option (Nat×Nat)}{F:Nat->Prop}
def sI(a b:Int):Qp a b=(a==b):=by cases a<;>cases b<;>rw[dW]<;>simp[Qp]<;>omega
def xa(a b:Int):Vy a b=decide (a<=b):=by
 rw[dW,bG];cases a with
 |ofNat a=>cases b with|ofNat b=>simp only[Vy,cf,bY];omega|negSucc b=>simp only[Vy,bY];constructor<;>intro h<;>first|cases h|omega
 |negSucc a=>
  cases b with
  |ofNat b=>simp only[Vy,bY];constructor<;>intro h<;>first|omega|trivial
  |negSucc b=>simp only[Vy,cf];omega
def dE{a b:Nat}(h:Nat.ble a b=true):a<=b:=by simpa using h
def pd{a b:Nat}(h:Nat.ble a b=false):b<a:=by refine nM λc=>?_;(have:Nat.ble a b=true:=by simpa using c);rw[this]at h;cases h
def wrap_small(k:IntKind)(n:Int)(a:0<=n)(h:n<2^(k.bits-1)):k.wrap n=n:=by (have b:n<2^k.bits:=by refine Int.lt_of_lt_of_le h ?_;cases k<;>decide);simp only[IntKind.wrap,zD a b];rw[I];simp only[aA,bG,not_and];intro _;omega
def nU(k:IntKind)(n:Int)(a:k.signed=false)(b:0<=n)(h:n<2^k.bits):k.wrap n=n:=by simp only[IntKind.wrap,zD b h,a];simp
def KL(n:Int)(a:n<0)(h:-(2^63)<=n):IntKind.i64.wrap n=n:=by (have e:IntKind.i64.wrap n=if n%18446744073709551616>=9223372036854775808 then n%18446744073709551616-18446744073709551616 else n%18446744073709551616:=by simp[IntKind.wrap,IntKind.bits,IntKind.signed]);rw[e];split<;>omega
def hf(k:IntKind)(n:Int):iR k n=k.wrap n:=by
 unfold iR;split;.rename_i m;split;(.rename_i h;have:=pd h;rw[wrap_small .i64 _ aS (by simp[IntKind.bits];omega)]);rfl
 .rename_i m;split;(.rename_i h;have:=pd h;rw[KL _ G G]);rfl
 .rename_i m;split;(.rename_i h;have:=pd h;rw[nU .u8 _ A aS (by simp[IntKind.bits];omega)]);rfl
 .rename_i m;split;(.rename_i h;have:=pd h;rw[nU .u64 _ A aS (by simp[IntKind.bits];omega)]);rfl
 .rename_i m;split;(.rename_i h;have:=pd h;rw[nU .u32 _ A aS (by simp[IntKind.bits];omega)]);rfl
 rfl
def Iw{op:BinOp}{k:IntKind}{a b:Int}{ty:TypeId}{v:V}(h:nd op k a b=some v):∃u,(binOp op ty (.int k a) (.int k b)).run P w=.ok u w/\R w β F v u:=by
 cases op<;>simp only[nd]at h;case add=>cases h;exact⟨_,by simp[binOp,Op.intArith];rfl,by rw[hf];exact .i _ _⟩
 case sub=>cases h;exact⟨_,by simp[binOp,Op.intArith];rfl,by rw[hf];exact .i _ _⟩
 case mul=>cases h;exact⟨_,by simp[binOp,Op.intArith];rfl,by rw[hf];exact .i _ _⟩
 case quo=>rw[sI]at h;split at h;(.cases h);.rename_i c;cases h;(have d:b≠0:=by simpa using c);exact⟨.int k (k.wrap (a.tdiv b)),by simp[binOp,Op.intDiv,d],by rw[hf];exact .i _ _⟩
 case rem=>rw[sI]at h;split at h;(.cases h);.rename_i c;cases h;(have d:b≠0:=by simpa using c);exact⟨.int k (a.tmod b),by simp[binOp,Op.intDiv,d],.i _ _⟩
 case eql=>cases h;exact⟨.bool (a==b),by simp[binOp,Op.intCmp],by rw[sI];exact .b _⟩
 case neq=>cases h;exact⟨.bool (a !=b),by simp[binOp,Op.intCmp],by rw[sI];exact .b _⟩
 case lss=>cases h;exact⟨.bool (decide (a<b)),by simp[binOp,Op.intCmp],by rw[xa,show(!decide (b<=a))=decide (a<b)by rw[dW];simp];exact .b _⟩
 case leq=>cases h;exact⟨.bool (decide (a<=b)),by simp[binOp,Op.intCmp],by rw[xa];exact .b _⟩
 case gtr=>cases h;exact⟨.bool (decide (b<a)),by simp[binOp,Op.intCmp],by rw[xa,show(!decide (a<=b))=decide (b<a)by rw[dW];simp];exact .b _⟩
 case geq=>cases h;exact⟨.bool (decide (b<=a)),by simp[binOp,Op.intCmp],by rw[xa];exact .b _⟩
 case shl=>split at h;(.rename_i n;split at h;(.rename_i e;cases h;have f:=dE e;have g:¬((n:Int)<0):=G;refine⟨.int k (k.wrap (a*2^n)),by simp[binOp,Op.shift,cR f,g],?_⟩;rw[hf];have:(Int.ofNat (2^n))=(2:Int)^n:=aS;rw[this];exact .i _ _);cases h);.cases h
 case shr=>split at h;(.rename_i a n;split at h;(.rename_i e;cases h;have f:=dE e;refine⟨.int k (Int.ofNat (a/2^n)),?_,.i _ _⟩;(have:(Int.ofNat a).fdiv (2^n)=Int.ofNat (a/2^n):=by rw[show((2:Int)^n)=Int.ofNat (2^n)by simp];exact Int.fdiv_eq_ediv_of_nonneg _ (lO _));have g:¬((n:Int)<0):=G;simp only[binOp,Op.shift,bY,ir,cR f,g,dz];simp only[bY]at this;simp[this]);cases h);.cases h
 all_goals cases h
def aaq{op:BinOp}{k:IntKind}{a b:Int}{ty:TypeId}{v:V}(h:CQ op k a b=some v):∃u,(binOp op ty (.int k a) (.int k b)).run P w=.ok u w/\R w β F v u:=by cases op<;>simp only[CQ]at h<;>cases h<;>exact⟨_,by simp[binOp,Op.intBits],.i _ _⟩
def xX:∀(x y:List UInt8),sC (x.map UInt8.toNat) (y.map UInt8.toNat)=(x==y)|[],[]=>A|[],b::y=>by simp[sC]|a::x,[]=>by simp[sC]|a::x,b::y=>by simp only[aw,sC];have d:=xX x y;cases h:Nat.beq a.toNat b.toNat;(.have:=cz h;simp only[];symm;rw[iu];intro c;simp at c;exact this (by rw[c.1]));have:=cm h;have e:a=b:=tR.1 this;subst e;simp only[d];rw[dW];simp
def KM:∀(x y:List UInt8),xO (x.map UInt8.toNat) (y.map UInt8.toNat)=Op.bytesLess x y|[],[]=>A|[],b::y=>A|a::x,[]=>A|a::x,b::y=>by simp only[aw,xO,Op.bytesLess];have c:=KM x y;cases h:Nat.beq a.toNat b.toNat;(.have d:=cz h;(have:(a==b)=false:=by rw[beq_eq_false_iff_ne];intro e;exact d (by rw[e]));simp only[this,pZ,Bool.or_false];rw[dW];simp[uf]);have f:a=b:=tR.1 (cm h);subst f;simp[c,UInt8.lt_irrefl]
def aar{op:BinOp}{a b:List Nat}{x y:ByteArray}{ty:TypeId}{v:V}(c:x.data.toList.map UInt8.toNat=a)(d:y.data.toList.map UInt8.toNat=b)(h:xP op a b=some v):∃u,(binOp op ty (.string x) (.string y)).run P w=.ok u w/\R w β F v u:=by
 subst c d;have e:=xX x.data.toList y.data.toList;have l:=KM x.data.toList y.data.toList;cases op<;>simp only[xP,e,l]at h;case add=>split at h;(.rename_i f;cases h;(have i:x.size+y.size<=9223372036854775807:=by have:=dE f;rw[aF,aF,dV,dV]at this;exact this);(have g:¬(((x.size+y.size:Nat):Int)>IntKind.i64.max):=by (have:IntKind.i64.max=9223372036854775807:=by decide);omega);refine⟨.string (x++y),by simp only[binOp,Op.stringOp,g,dz];rfl,.s _ _ aS⟩);.cases h
 case eql=>cases h;exact⟨.bool (x.data.toList==y.data.toList),by simp[binOp,Op.stringOp,ByteArray.toList_eq],.b _⟩
 case neq=>cases h;exact⟨.bool (!(x.data.toList==y.data.toList)),by simp[binOp,Op.stringOp,ByteArray.toList_eq],.b _⟩
 case lss=>cases h;exact⟨_,by simp[binOp,Op.stringOp,ByteArray.toList_eq],.b _⟩
 case leq=>cases h;exact⟨.bool (Op.bytesLess x.data.toList y.data.toList||x.data.toList==y.data.toList),by simp[binOp,Op.stringOp,ByteArray.toList_eq],.b _⟩
 case gtr=>cases h;exact⟨.bool (!(Op.bytesLess x.data.toList y.data.toList||x.data.toList==y.data.toList)),by simp[binOp,Op.stringOp,ByteArray.toList_eq],.b _⟩
 case geq=>cases h;exact⟨_,by simp[binOp,Op.stringOp,ByteArray.toList_eq],.b _⟩
 all_goals cases h
end
section
variable{P:Program}{w:World}{β:Nat->Option (Nat×Nat)}{F:Nat->Prop}
def run_isAgg{t:TypeId}{g:Bool}(h:lb P t=some g):(isAgg t).run P w=.ok g w:=by
 unfold lb at h;cases a:P.underlying t with
 |none=>simp[a]at h
 |some d=>simp only[a]at h;simp only[isAgg,Sem.run_bind,run_underlying a,Result.andThen_ok];cases d<;>simp at h<;>subst h<;>rfl
def lU{t:TypeId}{z:Nat}(h:od P t=some z):∃i,P.info? t=some i/\i.size=z:=by unfold od at h;split at h;(.rename_i i a;exact⟨i,a,by simpa using h⟩);cases h
def run_sizeOf{t:TypeId}{z:Nat}(h:od P t=some z):(sizeOf t).run P w=.ok z w:=by obtain⟨i,a,rfl⟩:=lU h;simp[sizeOf,typeInfo,a]
def iz{l:List V}{o n:Nat}{x:List V}(h:cM l o n=some x):x=(l.drop o).take n/\o+n<=l.length:=by unfold cM at h;split at h;(.rename_i a;exact⟨by simpa using h.symm,dE a⟩);cases h
def Dd{l:List V}{o:Nat}{x y:List V}(h:setAt l o x=some y):y=l.take o++(x++l.drop (o+x.length))/\o+x.length<=l.length:=by unfold setAt at h;split at h;(.rename_i a;exact⟨by simpa using h.symm,dE a⟩);cases h
def xY{a:Type}{l:List a}{o n:Nat}{x:a}(h:x∈(l.drop o).take n):x∈l:=dN (ft h)
def extract_toList(a:Array Value)(o n:Nat):(a.extract o (o+n)).toList=(a.toList.drop o).take n:=by rw[vo,qm];congr 1;omega
def Qx{t:TypeId}{g:Option Bool}{z o:Nat}{l:List V}{a:List Value}{v:V}(h:iG g z l o=some v)(b:RL w β F l a)(c:∀v∈l,v.one=true):(g=some true/\o+z<=l.length/\R w β F v (.agg ((a.drop o).take z).toArray))\/(g=some false/\∃u,a[o]?=some u/\R w β F v u):=by
 unfold iG at h;split at h;.split at h;(.rename_i x d;obtain⟨rfl,e⟩:=iz d;cases h;exact .inl ⟨A,e,RL.agg (by simpa using(b.drop o).take z) λv f=>c v (xY f)⟩);cases h
 .obtain⟨u,i,j⟩:=b.get h;exact .inr ⟨A,u,i,j⟩
 cases h
def Ix{t:TypeId}{z o:Nat}{l:List V}{a:Array Value}{v:V}(d:od P t=some z)(h:iG (lb P t) z l o=some v)(e:RL w β F l a.toList)(f:∀v∈l,v.one=true):∃u,(part t a o).run P w=.ok u w/\R w β F v u:=by
 rcases Qx (t:=t) h e f with⟨b,i,c⟩|⟨b,u,g,c⟩;.refine⟨_,?_,c⟩;simp only[part,Sem.run_bind,run_isAgg b,Result.andThen_ok,fi,run_sizeOf d];rw[<-extract_toList];rfl
 refine⟨u,?_,c⟩;simp only[part,Sem.run_bind,run_isAgg b,Result.andThen_ok];have:a[o]?=some u:=by simpa using g
 simp[this]
def VV{t e:TypeId}{x y:V}{r:Bool}{u a:Value}{d:Nat}(h:zQ x y=some r)(b:R w β F x u)(c:R w β F y a)(f:P.underlying t=some (.pointer e)):(Op.equalIn (d+1) t u a).run P w=.ok r w:=by cases b<;>cases c<;>simp[zQ]at h<;>subst h<;>simp[Op.equalIn,run_underlying f]
def VW{t e:TypeId}{x y:V}{r:Bool}{u f:Value}{d:Nat}(h:zS x y=some r)(a:R w β F x u)(b:R w β F y f)(c:P.underlying t=some (.slice e)):(Op.equalIn (d+1) t u f).run P w=.ok r w:=by
 unfold zS at h;split at h;.cases a;cases b;cases h;simp[Op.equalIn,run_underlying c]
 .cases a;cases b;cases h;simp[Op.equalIn,run_underlying c]
 .cases a;cases b;cases h;simp[Op.equalIn,run_underlying c]
 .cases a;cases b;cases h;simp[Op.equalIn,run_underlying c]
 .cases a;cases b;cases h;simp[Op.equalIn,run_underlying c]
 .unfold CR at h;split at h;(.cases h;cases a;cases b;simp[Op.equalIn,run_underlying c]);cases h
 cases h
def VX{t e k:TypeId}{x y:V}{r:Bool}{u a:Value}{d:Nat}(h:zT x y=some r)(b:R w β F x u)(c:R w β F y a)(f:P.underlying t=some (.map k e)):(Op.equalIn (d+1) t u a).run P w=.ok r w:=by cases b<;>cases c<;>simp[zT]at h<;>subst h<;>simp[Op.equalIn,run_underlying f]
def VY{t:TypeId}{a b:Array TypeId}{c:Bool}{x y:V}{r:Bool}{u e:Value}{d:Nat}(h:zU x y=some r)(f:R w β F x u)(g:R w β F y e)(i:P.underlying t=some (.func a b c)):(Op.equalIn (d+1) t u e).run P w=.ok r w:=by cases f<;>cases g<;>simp[zU]at h<;>subst h<;>simp[Op.equalIn,run_underlying i]
def KN{t:TypeId}{a:Array Field}(h:P.underlying t=some (.struct a)):P.fieldsOf t=a:=by simp[Program.fieldsOf,h]
def ado:∀n,(∀t x y r,BQ P n t x y=some r->∀u o,R w β F x u->R w β F y o->∀d,n<=d->(Op.equalIn d t u o).run P w=.ok r w)/\(∀i l j r,agR P n i l j=some r->∀c m:Array Value,RL w β F l c.toList->RL w β F j m.toList->(∀v∈l,v.one=true)->(∀v∈j,v.one=true)->∀d,n<=d->(Op.eqFields d c m i).run P w=.ok r w):=by
 intro n;induction n with
 |zero=>exact⟨λt x y r h=>by simp[BQ]at h,λi l j r h=>by simp[agR]at h⟩
 |succ n p=>refine⟨λt x y r h u o a b d H=>?_,λi l j r h c m q s A B d H=>?_⟩;(.obtain⟨d,rfl⟩:∃k,d=k+1:=⟨d-1,G⟩;simp only[BQ]at h;split at h;(.rename_i ht;split at h;(.cases a;cases b;cases h;exact run_equalIn_bool' w d t _ _ ht);cases h);(.rename_i ht;split at h;(.split at h;(.rename_i I;cases a;cases b;cases h;rw[sI];have:=eZ I;subst this;exact run_equalIn_int w d t _ _ _ _ ht);cases h);cases h);(.rename_i ht;split at h;(.cases a with|s x l a=>cases b with|s y j b=>cases h;subst a b;rw[xX,run_equalIn_string w d t _ _ ht,ByteArray.toList_eq,ByteArray.toList_eq]);cases h);(.rename_i i ht;split at h;(.rename_i l j J;obtain⟨c,rfl,q,A⟩:=a.vA;obtain⟨m,rfl,s,B⟩:=b.vA;have e:=KN ht;rw[run_equalIn_struct w d t c m (by rw[e];exact ht) J,e];exact p.2 _ _ _ _ h c m q s A B d G);cases h);(.rename_i ht;exact VV h a b ht);(.rename_i ht;exact VW h a b ht);(.rename_i ht;exact VX h a b ht);(.rename_i ht;exact VY h a b ht);cases h);cases i with|nil=>simp only[agR,bB]at h;subst h;rfl|cons f i=>simp only[agR]at h;split at h;(.rename_i z g K C;have L:=of_decide_eq_false K;split at h;(.rename_i x y a b;obtain⟨u,M,D⟩:=Ix C a q A;obtain⟨o,N,E⟩:=Ix C b s B;simp only[Op.eqFields,FD,L,not_false_eq_true,fi,Sem.run_bind,M,N,Result.andThen_ok];split at h;(.rename_i ht;rw[p.1 _ _ _ _ ht _ _ D E d G];simp only[Result.andThen_ok,ru,cy,dz];exact p.2 _ _ _ _ h c m q s A B d G);rename_i Q O;rw[p.1 _ _ _ _ h _ _ D E d G];cases r with|true=>exact absurd h O|false=>rfl);cases h);cases h
def KO(d:Nat){t:TypeId}{a:Array (String×TypeId)}(h:P.underlying t=some (.interface a)):(Op.equalIn (d+1) t .nilIface .nilIface).run P w=.ok true w:=by simp[Op.equalIn,run_underlying h]
def NX{x:Operand}(h:isConst x=true):∃v,x=.const v:=by cases x<;>simp[isConst]at h;exact⟨_,A⟩
def VZ(n:Nat)(ty:TypeId)(b:V):BQ P n ty .x b=none:=by cases n with|zero=>simp[BQ]|succ n=>simp only[BQ];split<;>(try rfl)<;>(try split)<;>first|rfl|simp_all|(cases b<;>rfl)
def Wa(n:Nat)(ty:TypeId)(a:V):BQ P n ty a .x=none:=by cases n with|zero=>simp[BQ]|succ n=>simp only[BQ];split<;>(try rfl)<;>(try split)<;>first|rfl|simp_all|(cases a<;>rfl)
def aas(ty:TypeId)(x y:Operand)(b:V):CS P ty x y .x b=none:=VZ _ _ _
def aat(ty:TypeId)(x y:Operand)(a:V):CS P ty x y a .x=none:=by cases a<;>exact Wa _ _ _
def Wb(n:Nat)(ty:TypeId)(b:V):BQ P n ty .j b=none:=by cases n with|zero=>simp[BQ]|succ n=>simp only[BQ];split<;>(try rfl)<;>(try split)<;>first|rfl|simp_all|(cases b<;>rfl)
def Wc(n:Nat)(ty:TypeId)(a:V):BQ P n ty a .j=none:=by cases n with|zero=>simp[BQ]|succ n=>simp only[BQ];split<;>(try rfl)<;>(try split)<;>first|rfl|simp_all|(cases a<;>rfl)
def aau(ty:TypeId)(x y:Operand)(b:V):CS P ty x y .j b=none:=Wb _ _ _
def aav(ty:TypeId)(x y:Operand)(a:V):CS P ty x y a .j=none:=by cases a<;>exact Wc _ _ _
def Wd{op:BinOp}{ty:TypeId}{x y:Operand}{a b:V}{r:Bool}{u i:Value}(h:CS P ty x y a b=some r)(d:R w β F a u)(f:R w β F b i)(k:op=.eql\/op=.neq):(eqGuard op ty x y u i).run P w=.ok () w/\(Op.equal ty u i).run P w=.ok r w:=by
 unfold CS at h;split at h;.split at h;(.rename_i e g l;cases d;cases f;cases h;refine⟨?_,KO 9999 l⟩;rw[dH]at g;rcases g with g|g<;>obtain⟨c,rfl⟩:=NX g<;>rcases k with rfl|rfl<;>simp[eqGuard];all_goals split<;>rfl);cases h
 .split at h;(.rename_i m;have j:=(ado (P:=P) (w:=w) (β:=β) (F:=F) nZ).1 _ _ _ _ h _ _ d f Op.maxDepth aD;obtain⟨c,rfl,_⟩:=d.vA;obtain⟨n,rfl,_⟩:=f.vA;exact⟨run_eqGuard_agg w op ty x y c n m,j⟩);cases h
 rename_i o p;have j:=(ado (P:=P) (w:=w) (β:=β) (F:=F) nZ).1 _ _ _ _ h _ _ d f Op.maxDepth aD;refine⟨?_,j⟩;cases d<;>cases f<;>first
 |(exfalso;rw[VZ]at h;cases h;done)
 |(exfalso;rw[Wa]at h;cases h;done)
 |(exfalso;rw[Wb]at h;cases h;done)
 |(exfalso;rw[Wc]at h;cases h;done)
 |(exfalso;exact o A A)|(exfalso;exact p _ _ A A)|(rcases k with rfl|rfl<;>simp[eqGuard])
def To{op:BinOp}{ty:TypeId}{x y:Operand}{k c:IntKind}{a b:Int}:(eqGuard op ty x y (.int k a) (.int c b)).run P w=.ok () w:=by cases op<;>simp[eqGuard]
def Tp{op:BinOp}{ty:TypeId}{x y:Operand}{a b:ByteArray}:(eqGuard op ty x y (.string a) (.string b)).run P w=.ok () w:=by cases op<;>simp[eqGuard]
def aes{op:BinOp}{ty:TypeId}{x y:Operand}{a b v:V}{u d:Value}(h:KD P op ty x y a b=some v)(f:R w β F a u)(g:R w β F b d):∃r,((do eqGuard op ty x y u d;binOp op ty u d):Sem Value).run P w=.ok r w/\R w β F v r:=by
 unfold KD at h;split at h;.cases f;cases g;simp only[Sem.run_bind,To,Result.andThen_ok];split at h;(.rename_i k a o b;obtain⟨r,c,i⟩:=Iw (P:=P) (w:=w) (β:=β) (F:=F) (ty:=ty) h;exact⟨r,c,i⟩);(.rename_i k a o b;obtain⟨r,c,i⟩:=Iw (P:=P) (w:=w) (β:=β) (F:=F) (ty:=ty) h;exact⟨r,c,i⟩);split at h;(.rename_i p;have:=eZ p;subst this;split at h;(.rename_i q;cases h;exact Iw q);exact aaq h);cases h
 .cases f with|s x l s=>cases g with|s y C t=>simp only[Sem.run_bind,Tp,Result.andThen_ok];exact aar s t h
 rename_i z B;have n:∀r,CS P ty x y a b=some r->(op=.eql->binOp op ty u d=do pure (.bool (<-Op.equal ty u d)))/\(op=.neq->binOp op ty u d=do pure (.bool (!(<-Op.equal ty u d)))):=by
  intro r c;cases f<;>cases g<;>first
  |(exfalso;rw[aas]at c;cases c;done)
  |(exfalso;rw[aat]at c;cases c;done)
  |(exfalso;rw[aau]at c;cases c;done)
  |(exfalso;rw[aav]at c;cases c;done)
  |(exfalso;exact z _ _ _ _ A A)|(exfalso;exact B _ _ A A)|(refine⟨λe=>?_,λe=>?_⟩<;>subst e<;>rfl)
 split at h;.split at h;(.rename_i r c;cases h;obtain⟨j,m⟩:=Wd (op:=.eql) c f g (.inl A);refine⟨.bool r,?_,.b _⟩;simp only[Sem.run_bind,j,Result.andThen_ok,(n r c).1 A,m];rfl);cases h
 .split at h;(.rename_i r c;cases h;obtain⟨j,m⟩:=Wd (op:=.neq) c f g (.inr A);refine⟨.bool (!r),?_,.b _⟩;simp only[Sem.run_bind,j,Result.andThen_ok,(n r c).2 A,m];rfl);cases h
 cases h
end
section
variable{P:Program}{w:World}{β:Nat->Option (Nat×Nat)}{F:Nat->Prop}
def ji{v:V}{u:Value}(h:R w β F v u)(a:v.Vx=true):∀x∈v.cells,x.one=true:=by
 cases h with
 |agg l c d e b=>exact b|ey l c=>simp[V.Vx]at a
 |x u h=>simp[V.Vx]at a
 |_=>simp[V.cells,V.one]
def hX{ty:TypeId}{v:V}(h:zeroOf P ty=some v):∃i z,P.info? ty=some i/\i.zero=some z/\R w β F v z/\v.Vx=true:=by unfold zeroOf at h;split at h;(.rename_i i a;split at h;(.rename_i z b;split at h;(.rename_i x c;split at h;(.rename_i d;cases h;exact⟨i,z,a,b,(aer nZ).1 _ _ c,d⟩);cases h);cases h);cases h);cases h
def run_zero{ty:TypeId}{i:TypeInfo}{z:Value}(a:P.info? ty=some i)(b:i.zero=some z):(zeroValue ty).run P w=.ok z w:=by simp[zeroValue,typeInfo,a,b]
def Gu:∀(d:List Value)(k a:Nat)(b:Array Value),a+k+d.length<=b.size->((d.zipIdx k).foldl (λg(c,j)=>g.setIfInBounds (a+j) c) b).toList=b.toList.take (a+k)++(d++b.toList.drop (a+k+d.length))|[],k,a,b,h=>by simp|v::d,k,a,b,h=>by simp only[aE]at h;simp only[List.zipIdx_cons,hW];rw[Gu d (k+1) a _ aN];simp only[qa];(have i:a+k<b.toList.length:=by simp;omega);rw[mm,U i];rw[show a+(k+1)=(a+k)+1 by omega];(have ht:(b.toList.take (a+k)).length=a+k:=by simp;omega);have e:=gY (l₁:=b.toList.take (a+k)) (l₂:=v::b.toList.drop (a+k+1)) 1;have f:=List.drop_length_add_append (l₁:=b.toList.take (a+k)) (l₂:=v::b.toList.drop (a+k+1)) (1+d.length);rw[ht]at e f;rw[e,show a+k+1+d.length=a+k+(1+d.length)by omega,f,mN 1 d.length];simp[fK];congr 1;omega
def Nat.hY{a b:Nat}(h:Nat.beq a b=true):a=b:=cm h
def Cj{r s:Nat->Option (Nat×Nat)}(t:∀i p,r i=some p->s i=some p):∀(m:List (Nat×V))(b:List (Nat×Value))(l e:List V)(a:Array Value),uo r l m=some e->RP w β F m b->RL w β F l a.toList->(∀v∈l,v.one=true)->∃n,Instr.fill s a b=some n/\RL w β F e n.toList/\(∀v∈e,v.one=true)/\e.length=l.length
|[],b,l,e,a,h,g,k,o=>by cases b with|nil=>simp only[uo,bB]at h;subst h;exact⟨a,A,k,o,A⟩|cons u b=>exact g.elim
|(i,v)::m,b,l,e,a,h,g,k,o=>by cases b with|nil=>exact g.elim|cons B b=>obtain⟨j,u⟩:=B;obtain⟨rfl,y,g⟩:=g;simp only[uo]at h;split at h;(.rename_i f C D z;split at h;(.rename_i Q E G;obtain⟨rfl,R⟩:=Dd G;have q:=y.mv z;have H:=ji y z;(have S:u.cells.size=C:=by have:=Nat.hY E;have:=q.1;simp at this;omega);(have T:l.length=a.size:=by simpa using k.1);(have U:f+u.cells.size<=a.size:=by have:=q.1;simp at this;omega);(have J:(u.cells.zipIdx.foldl (λa(c,j)=>a.setIfInBounds (f+j) c) a).toList=a.toList.take f++(u.cells.toList++a.toList.drop (f+u.cells.size)):=by rw[<-Array.foldl_toList,Array.toList_zipIdx];have:=Gu u.cells.toList 0 f a aN;simpa using this);(have K:v.cells.length=u.cells.size:=by simpa using q.1);obtain⟨n,L,M,N,O⟩:=Cj t m b _ e (u.cells.zipIdx.foldl (λa(c,j)=>a.setIfInBounds (f+j) c) a) h g (by rw[J,K];exact(k.take f).append (q.append (k.drop _))) (by intro x d;simp only[aZ]at d;rcases d with d|d|d;(.exact o x (ft d));(.exact H x d);exact o x (dN d));refine⟨n,?_,M,N,by rw[O];simp;omega⟩;simp only[Instr.fill,t _ _ D];rw[I aN];exact L);cases h);cases h
def uu:∀(a:List Field),sD P a=true->∃c,a.mapM (λf=>(P.info? f.type).map λi=>(f.offset,i.size))=some c/\c.length=a.length/\∀(i:Nat)f z,a[i]?=some f->od P f.type=some z->c[i]?=some (f.offset,z)|[],_=>⟨[],A,A,λi f z h=>by simp at h⟩|f::a,h=>by simp only[sD]at h;split at h;(.rename_i z e;obtain⟨j,l,m,n⟩:=uu a h;obtain⟨i,o,rfl⟩:=lU e;refine⟨(f.offset,i.size)::j,by simp[vp,o,l],by simp[m],λk g z b d=>?_⟩;cases k with|zero=>simp at b;subst b;rw[e]at d;cases d;rfl|succ k=>simp at b|-;exact n k g z b d);cases h
def We{ty:TypeId}{g:List (Nat×V)}{b:Array (Nat×Value)}{v:V}(h:zV P ty (some g)=some v)(B:RP w β F g b.toList):∃u,(Instr.build ty b).run P w=.ok u w/\R w β F v u:=by
 unfold zV at h;split at h;.rename_i z D O j k m;cases k;split at h;(.rename_i l E o;cases h;obtain⟨i,q,r,s,c,d⟩:=hX (w:=w) (β:=β) (F:=F) j;obtain⟨G,H,Q,I⟩:=uu _ E;obtain⟨t,x,y,A,_⟩:=Cj (s:=(G.toArray[·]?)) (by intro i p a;unfold CT at a;split at a;(.rename_i f J;split at a;(.rename_i K L;cases a;simpa using I i f K (by simpa using J) L);cases a);cases a) g b.toList _ l q.cells o B (c.mv d) (ji c d);exact⟨_,run_build w ty b t (by simp only[Program.built,r,m,s,H];exact x),RL.agg y A⟩);cases h
 .rename_i z D n e j k m;cases k;split at h;(.rename_i S M;split at h;(.rename_i l o;cases h;obtain⟨i,q,r,s,c,d⟩:=hX (w:=w) (β:=β) (F:=F) j;obtain⟨C,N,rfl⟩:=lU M;obtain⟨t,x,y,A,_⟩:=Cj (s:=λi=>some (i*C.size,C.size)) (by intro i p a;exact a) g b.toList _ l q.cells o B (c.mv d) (ji c d);exact⟨_,run_build w ty b t (by simp[Program.built,r,m,s,N,x]),RL.agg y A⟩);cases h);cases h
 cases h
end
section
variable{P:Program}{w:World}{β:Nat->Option (Nat×Nat)}{F:Nat->Prop}
def Wg{v:V}{k:Nat}(h:nat v=some k):∃kd,v=.i kd (.ofNat k):=by (cases v<;>simp only[nat]at h<;>try cases h);rename_i kd n;cases n<;>simp at h;subst h;exact⟨kd,A⟩
def KP{v:V}{k:Nat}{u:Value}(h:nat v=some k)(a:R w β F v u):∃kd,u=.int kd (k:Int):=by obtain⟨kd,rfl⟩:=Wg h;cases a;exact⟨kd,A⟩
def run_bound{v:V}{k y:Nat}{u:Value}{a:BoundsCode}(h:nat v=some k)(b:R w β F v u)(d:k<=y):(Instr.sliceBound u y a).run P w=.ok k w:=by obtain⟨kd,rfl⟩:=KP h b;have c:(0:Int)<=(k:Int)/\(k:Int)<=(y:Int):=G;simp[Instr.sliceBound,asIntOf,c]
def BR(w:World)(β:Nat->Option (Nat×Nat))(F:Nat->Prop)(x:Option (Option V))(y:Option Value):Prop:=match x,y with|none,none=>True|some (some v),some u=>R w β F v u|some none,_=>True|_,_=>False
def NY{t:T V}{a:Operand->Value}(x:Option Operand)(ht:OR w β F t a x.toList):BR w β F (omap t x) (x.map a):=by cases x with|none=>trivial|some x=>simp only[omap,BR,eG];cases h:mV t x with|none=>trivial|some v=>exact ht x aS v h
def run_bounds{Z:Bool}{k g l h o p:Nat}{i d:Option (Option V)}{j e:Option Value}(b:qo 0 i=some l)(a:qo k d=some h)(f:BR w β F i j)(c:BR w β F d e)(m:l<=h)(n:h<=g):(Instr.sliceBounds Z k g j e none).run P w=.ok (l,h,g) w:=by
 match i,j,b,f with
 |none,none,b,_=>simp only[qo,bB]at b;subst b;match d,e,a,c with|none,none,a,_=>simp only[qo,bB]at a;subst a;simp[Instr.sliceBounds]|some (some v),some u,a,c=>simp[Instr.sliceBounds,run_bound (P:=P) a c n]|some none,_,a,_=>simp[qo]at a
 |some (some v),some u,b,f=>match d,e,a,c with|none,none,a,_=>simp only[qo,bB]at a;subst a;simp[Instr.sliceBounds,run_bound (P:=P) b f m]|some (some v),some u,a,c=>simp[Instr.sliceBounds,run_bound (P:=P) a c n,run_bound (P:=P) b f m]|some none,_,a,_=>simp[qo]at a
 |some none,_,b,_=>simp[qo]at b
def run_bounds3{Z:Bool}{k n l h m d:Nat}{g f:Option (Option V)}{o:V}{p:Value}{i e:Option Value}(b:qo 0 g=some l)(a:qo k f=some h)(q:nat o=some m)(j:BR w β F g i)(c:BR w β F f e)(r:R w β F o p)(y:l<=h)(s:h<=m)(t:m<=n)(x:e.isSome=true):(Instr.sliceBounds Z k n i e (some p)).run P w=.ok (l,h,m) w:=by
 match g,i,b,j with
 |none,none,b,_=>
  simp only[qo,bB]at b;subst b;match f,e,a,c with
  |none,none,a,_=>simp at x
  |some (some v),some u,a,c=>simp[Instr.sliceBounds,run_bound (P:=P) a c s,run_bound (P:=P) q r t]|some none,_,a,_=>simp[qo]at a
 |some (some v),some u,b,j=>
  match f,e,a,c with
  |none,none,a,_=>simp at x
  |some (some v),some u,a,c=>simp[Instr.sliceBounds,run_bound (P:=P) a c s,run_bound (P:=P) b j y,run_bound (P:=P) q r t]|some none,_,a,_=>simp[qo]at a
 |some none,_,b,_=>simp[qo]at b
def ho(B o n:Nat):(⟨B,o,none⟩:Addr).add n=⟨B,o+n,none⟩:=by unfold Addr.add;split<;>simp_all
def dJ{ty e:TypeId}{z:Nat}(h:iy P ty=some (e,z)):P.underlying ty=some (.slice e)/\od P e=some z:=by unfold iy at h;split at h;(.split at h;(.rename_i a _ c b;cases h;exact⟨a,b⟩);cases h);cases h
def De{ty e:TypeId}{n z:Nat}(h:CP P ty=some (n,e,z)):P.underlying ty=some (.array n e)/\od P e=some z:=by unfold CP at h;split at h;(.split at h;(.rename_i a _ c b;cases h;exact⟨a,b⟩);cases h);cases h
def xb{a b:Bool}(h:(a&&b)=true):a=true/\b=true:=by simpa using h
def zZ{z b o c C:Nat}{y:Option Nat}{s t m:Option Nat}{l h a:Nat}{v:V}{B d:Nat}(f:hH z b o c y s t m=some v)(D:s=some l)(E:t=some h)(H:m=some a)(u:β b=some (B,d))(Q:c<=C)(M:Nat)(S:M<=9223372036854775807/\c<=1000000000000)(T:a<=M)(x:y=none->M=a)(J:∀q,y=some q->q=z/\∃i e j,w.heap[B]?=some (.cells i e j)/\d+o+M*z<=i.size):(l<=h/\h<=a/\a<=c)/\R w β F v (.slice (some (if M=l then⟨B,d+o,none⟩else(⟨B,d+o,none⟩:Addr).add (l*z))) (h-l) (M-l)):=by subst D E H;simp only[hH]at f;split at f;(.rename_i K;obtain⟨k,g⟩:=xb K;obtain⟨g,n⟩:=xb g;have k:=dE k;have g:=dE g;have n:=dE n;refine⟨⟨k,g,n⟩,?_⟩;split at f;(.rename_i L;have W:a≠l:=cz L;cases f;have:M≠l:=G;rw[I this,ho,gm];refine .Z b _ _ _ _ B d _ u G G (λe=>by rw[x e]) (λq p=>?_) G;obtain⟨rfl,i,e,j,N,X⟩:=J q p;refine⟨i,e,j,N,?_⟩;(have:l*q+(M-l)*q=M*q:=by rw[<-cc];congr 1;omega);omega);(.rename_i r;have O:a=l:=Nat.hY r;cases f;have:=x A;rw[U G];exact .Z b _ _ _ none B d _ u G G (λe=>by rw[this]) (λq p=>by cases p) G);rename_i r;have O:a=l:=Nat.hY r;cases f;have:h-l=0:=G;rw[this];exact .is0 _ _ (λh=>by cases h));cases f
def Wh{ty:TypeId}{x:V}{u:Value}{lo hi mx:Option (Option V)}{a1 a0 K:Option Value}{v:V}(h:pq P ty x lo hi mx=some v)(hx:R w β F x u)(N:BR w β F lo a1)(O:BR w β F hi a0)(S:BR w β F mx K)(D:K.isSome=true->a0.isSome=true):∃r,(Instr.sliceAt ty u a1 a0 K).run P w=.ok r w/\R w β F v r:=by
 cases hx<;>simp only[pq]at h<;>try cases h
 case s x L hx=>split at h;(.rename_i f;cases K with|some _=>exact S.elim|none=>unfold Ip at h;split at h;(.rename_i l H j t;split at h;(.rename_i T;obtain⟨h1,h2⟩:=xb T;have h1:=dE h1;have h2:=dE h2;cases h;(have C:x.size=L.length:=by rw[<-hx,aF,dV];rfl);refine⟨.string (x.extract l H),?_,.s _ _ ?_⟩;(.simp only[Instr.sliceAt,Sem.run_bind,run_underlying f,Result.andThen_ok,Instr.slice];rw[C];simp[run_bounds (P:=P) (Z:=false) (k:=L.length) (g:=L.length) (o:=0) (p:=0) j t N O h1 h2]);rw[<-hx,tC,vo,qm,rv,lA]);cases h);cases h);.cases h
 case Z b o n c y B d c' hb hn hc hx hz aaw=>
  split at h
  .rename_i e z J;obtain⟨f,C⟩:=dJ J;split at h
   .rename_i a7;(have a6:∀q,y=some q->q=z:=λq W=>by subst W;exact Nat.hY (by simpa[zW]using a7));(have a2:∀l H M,(Instr.sliceBounds true n c' a1 a0 K).run P w=.ok (l,H,M) w->(Instr.sliceAt ty (.slice (some ⟨B,d+o,none⟩) n c') a1 a0 K).run P w=.ok (.slice (some (if M=l then⟨B,d+o,none⟩else(⟨B,d+o,none⟩:Addr).add (l*z))) (H-l) (M-l)) w:=by intro l H M hb;simp only[Instr.sliceAt,Sem.run_bind,run_underlying f,Result.andThen_ok,Instr.slice,hb,run_sizeOf C];split<;>rfl);cases j:qo 0 lo with
    |none=>simp[j,hH]at h
    |some l=>
     cases t:qo n hi with
     |none=>simp[j,t,hH]at h
     |some H=>
      cases g:qo c mx with
      |none=>simp[j,t,g,hH]at h
      |some m=>rw[j,t,g]at h;match mx,K,g,S,D with|none,none,g,_,_=>simp only[qo,bB]at g;subst g;obtain⟨⟨h1,h2,_⟩,hr⟩:=zZ (C:=c') h A A A hb hc c' aaw hc (λe=>hx e) (λq W=>⟨a6 q W,by obtain rfl:=a6 q W;exact hz q W⟩);exact⟨_,a2 _ _ _ (run_bounds (o:=0) (p:=0) j t N O h1 G),hr⟩|some (some Y),some a4,g,X,D=>obtain⟨⟨h1,h2,h4⟩,hr⟩:=zZ (C:=c') h A A A hb hc m (by have:=dE (xb (xb (by unfold hH at h;simp only at h;split at h<;>first|assumption|cases h)).2).2;omega) (af _) (λe=>A) (λq W=>by cases W);exact⟨_,a2 _ _ _ (run_bounds3 (d:=0) j t g N O X h1 h2 G (D A)),hr⟩|some none,_,g,_,_=>simp[qo]at g
   cases h
  .cases h
 case E=>split at h;(.rename_i e J h0 h1 h2;obtain⟨e,z⟩:=e;obtain⟨f,C⟩:=dJ J;cases h;refine⟨.slice none 0 0,?_,.E⟩;match mx,K,h2,S,D with|none,none,h2,_,_=>simp only[Instr.sliceAt,Sem.run_bind,run_underlying f,Result.andThen_ok,Instr.slice,run_bounds (P:=P) (Z:=true) (k:=0) (g:=0) (o:=0) (p:=0) h0 h1 N O (af _) (af _),run_sizeOf C];rfl|some (some Y),some a4,h2,X,D=>simp only[Instr.sliceAt,Sem.run_bind,run_underlying f,Result.andThen_ok,Instr.slice,run_bounds3 (P:=P) (Z:=true) (k:=0) (n:=0) (d:=0) h0 h1 h2 N O X (af _) (af _) (af _) (D A),run_sizeOf C];rfl|some none,_,h2,_,_=>simp[qo]at h2);.cases h
 case es a c=>split at h;(.rename_i e J h0 h1 h2;obtain⟨e,z⟩:=e;obtain⟨f,C⟩:=dJ J;cases h;match mx,K,h2,S,D with|none,none,h2,_,_=>refine⟨_,?_,.es (if c=0 then a else a.add (0*z)) c⟩;simp only[Instr.sliceAt,Sem.run_bind,run_underlying f,Result.andThen_ok,Instr.slice,run_bounds (P:=P) (Z:=true) (k:=0) (g:=c) (o:=0) (p:=0) h0 h1 N O (af _) (au _),run_sizeOf C];split<;>simp_all|some (some Y),some a4,h2,X,D=>refine⟨_,?_,.es a 0⟩;simp only[Instr.sliceAt,Sem.run_bind,run_underlying f,Result.andThen_ok,Instr.slice,run_bounds3 (P:=P) (Z:=true) (k:=0) (n:=c) (d:=0) h0 h1 h2 N O X (af _) (af _) (au _) (D A),run_sizeOf C];rfl|some none,_,h2,_,_=>simp[qo]at h2);.cases h
 case p b o B d hb=>
  split at h
  .rename_i n e z J;obtain⟨f,C⟩:=De J;cases K with
   |some _=>exact S.elim|none=>
    split at h
    .rename_i a5;have a5:=dE a5;cases j:qo 0 lo with
     |none=>simp[j,hH]at h
     |some l=>
      cases t:qo n hi with
      |none=>simp[j,t,hH]at h
      |some H=>rw[j,t]at h;obtain⟨⟨h1,h2,_⟩,hr⟩:=zZ (C:=n) h A A A hb (af _) n ⟨by omega,a5⟩ (af _) (λe=>A) (λq W=>by cases W);refine⟨_,?_,hr⟩;simp only[Instr.sliceAt,Sem.run_bind,run_underlying f,Result.andThen_ok,Instr.sureAddr,Sem.run_pure,run_bounds (P:=P) (Z:=false) (k:=n) (g:=n) (o:=0) (p:=0) j t N O h1 h2,run_sizeOf C]
    cases h
  .cases h
 case is0 a c akj=>split at h;(.rename_i e z J;obtain⟨f,C⟩:=dJ J;cases K with|some _=>exact S.elim|none=>unfold Ci at h;split at h;(.rename_i l H j t;split at h;(.rename_i T;obtain⟨h1,h2⟩:=xb T;have h1:=dE h1;have h2:=dE h2;have a8:l=0:=G;have a9:H=0:=G;subst a8 a9;simp[cM]at h;subst h;refine⟨_,?_,.is0 (if c=0 then a else a.map (·.add (0*z))) c (λe=>by by_cases h0:c=0;(.exact h0);rw[I h0]at e;cases a with|none=>exact akj A|some _=>cases e)⟩;simp only[Instr.sliceAt,Sem.run_bind,run_underlying f,Result.andThen_ok,Instr.slice,run_bounds (P:=P) (Z:=true) (k:=0) (g:=c) (o:=0) (p:=0) j t N O (af _) (au _),run_sizeOf C];split<;>rfl);cases h);cases h);(.rename_i p Y J;obtain⟨e,z⟩:=p;obtain⟨f,C⟩:=dJ J;unfold Qr at h;split at h;(.rename_i H m j t g;split at h;(.rename_i T;obtain⟨h1,h2⟩:=xb T;have h1:=Nat.hY h1;have h2:=Nat.hY h2;subst h1 h2;cases h;match Y,K,g,S,D with|some Y,some a4,g,X,D=>refine⟨_,?_,.is0 a 0 (λ_=>A)⟩;simp only[Instr.sliceAt,Sem.run_bind,run_underlying f,Result.andThen_ok,Instr.slice,run_bounds3 (P:=P) (Z:=true) (k:=0) (n:=c) (d:=0) j t g N O X (af _) (af _) (au _) (D A),run_sizeOf C];rfl|none,_,g,_,_=>simp[qo]at g);cases h);cases h);.cases h
 case Q n l c B o hn hF hB cs h1 hc h2 akk aaw=>split at h;(.rename_i e z J;obtain⟨f,C⟩:=dJ J;cases K with|some _=>exact S.elim|none=>unfold Ci at h;split at h;(.rename_i i H j t;split at h;(.rename_i T;obtain⟨g1,g2⟩:=xb T;have g1:=dE g1;have g2:=dE g2;split at h;(.rename_i l' a';obtain⟨rfl,b0⟩:=iz a';cases h;(have a2:(Instr.sliceAt ty (.slice (some ⟨B,o,none⟩) n c) a1 a0 none).run P w=.ok (.slice (some (if c=i then⟨B,o,none⟩else(⟨B,o,none⟩:Addr).add (i*z))) (H-i) (c-i)) w:=by simp only[Instr.sliceAt,Sem.run_bind,run_underlying f,Result.andThen_ok,Instr.slice,run_bounds (P:=P) (Z:=true) (k:=n) (g:=c) (o:=0) (p:=0) j t N O g1 G,run_sizeOf C];split<;>rfl);refine⟨_,a2,?_⟩;by_cases hz:H-i=0;(.rw[hz];simp;exact .is0 _ _ (λh=>by cases h));rw[I G,ho];refine .Q _ _ _ B _ G hF hB ((cs.drop (i*z)).take ((H-i)*z)) (by simp[h1]) (λk u hk=>?_) (λk v u a3 f=>?_) (λv a3=>akk v (xY a3)) G;(.simp only[cT,dj]at hk;split at hk;(.have:=hc _ _ hk;rw[show o+i*z+k=o+(i*z+k)by omega];exact this);cases hk);simp only[cT,dj]at a3 f;split at a3;(.rw[U (by assumption)]at f;exact h2 _ v u a3 f);cases a3);cases h);cases h);cases h);(.rename_i p Y J;obtain⟨e,z⟩:=p;obtain⟨f,C⟩:=dJ J;unfold Qr at h;split at h;(.rename_i H m j t g;split at h;(.rename_i T;obtain⟨g1,g2⟩:=xb T;have g1:=Nat.hY g1;have g2:=Nat.hY g2;subst g1 g2;cases h;match Y,K,g,S,D with|some Y,some a4,g,X,D=>(have a2:(Instr.sliceAt ty (.slice (some ⟨B,o,none⟩) m c) a1 a0 (some a4)).run P w=.ok (.slice (some ⟨B,o,none⟩) m m) w:=by simp only[Instr.sliceAt,Sem.run_bind,run_underlying f,Result.andThen_ok,Instr.slice,run_bounds3 (P:=P) (Z:=true) (k:=m) (n:=c) (d:=m) j t g N O X (au _) (af _) G (D A),run_sizeOf C];split;(.rfl);simp[ho]);exact⟨_,a2,.Q _ _ _ B _ G hF hB cs h1 hc h2 akk G⟩|none,_,g,_,_=>simp[qo]at g);cases h);cases h);.cases h
end
section
variable{P:Program}{w:World}{β:Nat->Option (Nat×Nat)}{F:Nat->Prop}
def xZ{ty t:TypeId}{f c z:Nat}(h:vv P ty f=some (t,c,z)):∃b a,P.underlying ty=some (.struct b)/\b[f]?=some a/\a.type=t/\a.offset=c/\od P t=some z:=by unfold vv at h;split at h;(.rename_i _ b d;split at h;(.rename_i _ a e;split at h;(.rename_i _ i g;cases h;exact⟨b,a,d,e,A,A,g⟩);cases h);cases h);cases h
def R.Qy{l:List V}{B o:Nat}(h:R w β F (.ip l) (.pointer (some ⟨B,o,none⟩)))(k:Nat):R w β F (.ip (l.drop k)) (.pointer (some ⟨B,o+k,none⟩)):=by cases h with|ip l B o c d e f g j m=>refine .ip _ B _ c d (e.drop k) (by simp[f]) (λi u a=>?_) (λi v u b a=>?_) (λv b=>m v (dN b));(.rw[dj]at a;have:=g _ _ a;rw[gm];exact this);rw[dj]at b a;exact j _ v u b a
def R.aax{l:List V}{B o:Nat}(h:R w β F (.ip l) (.pointer (some ⟨B,o,none⟩)))(k:Nat):R w β F (.ip (l.take k)) (.pointer (some ⟨B,o,none⟩)):=by cases h with|ip l B o c d e f g j m=>refine .ip _ B _ c d (e.take k) (by simp[f]) (λi u a=>?_) (λi v u b a=>?_) (λv b=>m v (ft b));(.rw[cT]at a;split at a;(.exact g _ _ a);cases a);rw[cT]at b a;split at b;(.rw[U (by assumption)]at a;exact j _ v u b a);cases b
def Iy{ty:TypeId}{x v:V}{f:Nat}{u:Value}(h:nn P ty x f=some v)(e:R w β F x u):∃r,(Instr.fieldAt ty u f).run P w=.ok r w/\R w β F v r:=by unfold nn at h;split at h;(.rename_i t E z m;obtain⟨G,g,i,j,rfl,rfl,k⟩:=xZ m;split at h;(.rename_i b o a;have c:=cz a;cases h;cases e with|p b o B d n=>refine⟨.pointer (some ⟨B,d+(o+g.offset),none⟩),?_,.p _ _ _ _ n⟩;simp[Instr.fieldAt,run_underlying i,j,Instr.sureAddr,fieldPlace,run_sizeOf k,c,ho,gm]);(.rename_i l a;have c:=cz a;split at h;(.cases h;cases e with|ip l B o p q s y A C D=>refine⟨.pointer (some ⟨B,o+g.offset,none⟩),?_,R.Qy (.ip l B o p q s y A C D) _⟩;simp[Instr.fieldAt,run_underlying i,j,Instr.sureAddr,fieldPlace,run_sizeOf k,c,ho,gm]);cases h);cases h);cases h
def Wi{ty:TypeId}{x v:V}{f:Nat}{u:Value}(h:CU P ty x f=some v)(a:R w β F x u):∃r,(Instr.field ty u f).run P w=.ok r w/\R w β F v r:=by unfold CU at h;split at h;(.rename_i t n z l b;obtain⟨o,p,d,e,rfl,rfl,g⟩:=xZ b;obtain⟨c,rfl,i,j⟩:=a.vA;obtain⟨r,k,m⟩:=Ix g h i j;exact⟨r,by simp[Instr.field,run_underlying d,e,asAgg,k],m⟩);cases h
def Iz{ty:TypeId}{x m v:V}{u t:Value}(h:km P ty x m=some v)(y:R w β F x u)(A:R w β F m t):∃r,(Instr.indexAt ty u t).run P w=.ok r w/\R w β F v r:=by
 cases q:nat m with
 |none=>simp[km,q]at h
 |some i=>
  obtain⟨kd,rfl⟩:=KP q A;have E:∀n:Nat,i<n->(0:Int)<=(i:Int)/\(i:Int)<(n:Int):=λn h=>G;cases y<;>simp only[km,q]at h<;>try cases h
  case Z b o n c x B d c' hb akT hc alC alD aaw=>
   cases g:iy P ty with
   |none=>simp[g]at h
   |some s=>obtain⟨e,z⟩:=s;obtain⟨j,k⟩:=dJ g;cases f:Nat.blt i n<;>simp only[g,f]at h<;>cases h;(have f:i<n:=by simpa[eW]using f);refine⟨.pointer (some ⟨B,d+(o+i*z),none⟩),?_,.p _ _ _ _ hb⟩;simp[Instr.indexAt,asIntOf,run_underlying j,f,run_sizeOf k,ho,gm]
  case is0 a c akj=>cases g:iy P ty<;>simp[g]at h
  case Q n l c B o akT hF hB cs h1 hc h2 h3 aaw=>
   cases g:iy P ty with
   |none=>simp[g]at h
   |some s=>obtain⟨e,z⟩:=s;obtain⟨j,k⟩:=dJ g;cases f:Nat.blt i n<;>simp only[g,f]at h;(.cases h);(have f:i<n:=by simpa[eW]using f);split at h;(.rename_i H C _;obtain⟨rfl,I⟩:=iz C;cases h;refine⟨.pointer (some ⟨B,o+i*z,none⟩),?_,R.aax (R.Qy (.ip l B o hF hB cs h1 hc h2 h3) _) _⟩;simp[Instr.indexAt,asIntOf,run_underlying j,f,run_sizeOf k,ho]);cases h
  case p b o B d hb=>
   cases g:CP P ty with
   |none=>simp[g]at h
   |some D=>obtain⟨n,e,z⟩:=D;obtain⟨j,k⟩:=De g;cases f:Nat.blt i n<;>simp only[g,f]at h<;>cases h;(have f:i<n:=by simpa[eW]using f);refine⟨.pointer (some ⟨B,d+(o+i*z),none⟩),?_,.p _ _ _ _ hb⟩;simp[Instr.indexAt,asIntOf,run_underlying j,f,run_sizeOf k,ho,gm,Instr.sureAddr]
def Wj{ty:TypeId}{x m v:V}{u o:Value}(h:CV P ty x m=some v)(d:R w β F x u)(q:R w β F m o):∃r,(Instr.index ty u o).run P w=.ok r w/\R w β F v r:=by unfold CV at h;split at h;(.rename_i i t;obtain⟨kd,rfl⟩:=KP t q;split at h;(.rename_i s j;split at h;(.rename_i c f;cases h;cases d with|s x l d=>rw[<-d,ck]at f;obtain⟨b,k,rfl⟩:=gX.1 f;refine⟨.int .u8 b.toNat,?_,.i _ _⟩;have a:i<x.data.toList.length:=(ba.1 k).1;(have y:x[i]?=some b:=by (have g:i<x.size:=by simpa using a);rw[getElem?_pos x i g];rw[aa a]at k;exact k);simp[Instr.index,asIntOf,run_underlying j,y]);cases h);(.rename_i l n e j;split at h;(.rename_i z a p;(have a:i<n:=by simpa[eW]using a);obtain⟨c,rfl,f,g⟩:=d.vA;obtain⟨r,A,B⟩:=Ix p h f g;have g:(0:Int)<=(i:Int)/\(i:Int)<(n:Int):=G;exact⟨r,by simp[Instr.index,asIntOf,run_underlying j,a,run_sizeOf p,A],B⟩);cases h);cases h);cases h
def NZ{x v:V}{i:Nat}{u:Value}(h:xQ x i=some v)(a:R w β F x u):∃r,(Instr.extract u i).run P w=.ok r w/\R w β F v r:=by unfold xQ at h;split at h;(.obtain⟨c,rfl,b⟩:=a.aap;obtain⟨r,d,e⟩:=b.get h;(have:c[i]?=some r:=by simpa using d);exact⟨r,by simp[Instr.extract,this],e⟩);cases h
def aet{x v:V}{u:Value}(h:VM x=some v)(c:R w β F x u):v=x/\u≠.pointer none/\u≠.nilIface/\u≠.nilFunc/\∀n a b,u≠.func (.method n) a b:=by unfold VM at h;cases c<;>simp_all
def ahd{op:UnOp}{x v:V}{u:Value}(h:ag9 op x=some v)(a:R w β F x u):∃r,(Op.unary op u).run P w=.ok r w/\R w β F v r:=by
 unfold ag9 at h;split at h;.cases a;cases h;exact⟨_,A,.b _⟩
 .rename_i k n;cases a;cases h;exact⟨.int k (k.wrap (0-n)),A,by rw[hf];exact .i _ _⟩
 .cases a;simp only[CQ]at h;cases h;exact⟨_,by simp[Op.unary,Op.intBits],.i _ _⟩
 cases h
def aay{c d:TypeId}{x v:V}{u:Value}(h:Gr P d x=some v)(g:(P.underlying c).isSome=true)(a:R w β F x u):∃r,(convert c d u).run P w=.ok r w/\R w β F v r:=by
 obtain⟨e,f⟩:=fe.1 g;unfold Gr at h;split at h;.rename_i b;cases a;cases h;refine⟨_,?_,by rw[hf];exact .i _ _⟩;simp only[convert,Sem.run_bind,run_underlying f,run_underlying b,Result.andThen_ok];cases e<;>rfl
 .rename_i b;cases a with|s x l a=>cases h;refine⟨.string x,?_,.s _ _ a⟩;simp only[convert,Sem.run_bind,run_underlying f,run_underlying b,Result.andThen_ok];cases e<;>rfl
 cases h
end
section
variable{P:Program}{w:World}{β:Nat->Option (Nat×Nat)}{F:Nat->Prop}
def aeu{ty g:TypeId}{f:Array TypeId}{x v:V}{u:Value}(h:CW P ty x=some v)(d:R w β F x u)(ht:f[0]?=some ty):∃r,(Builtin.len_ f g #[u]).run P w=.ok r w/\R w β F v r:=by
 unfold CW at h;split at h;.rename_i s a;cases d with|s x l d=>cases h;refine⟨.int .i64 (x.size:Int),by simp[Builtin.len_,ht,run_underlying a,goInt],?_⟩;(have:s.length=x.size:=by rw[<-d,aF,dV];rfl);rw[this];exact .i _ _
 .rename_i n e a;cases h;exact⟨.int .i64 (n:Int),by simp[Builtin.len_,ht,run_underlying a,goInt],.i _ _⟩
 .rename_i e a;cases d;cases h;exact⟨.int .i64 0,by simp[Builtin.len_,ht,run_underlying a,goInt],.i _ _⟩
 .rename_i e a;cases d;cases h;exact⟨.int .i64 0,by simp[Builtin.len_,ht,run_underlying a,goInt],.i _ _⟩
 .rename_i e b o n c y a;cases d;cases h;exact⟨.int .i64 (n:Int),by simp[Builtin.len_,ht,run_underlying a,goInt],.i _ _⟩
 .rename_i e n l a;cases d<;>cases h<;>exact⟨_,by simp[Builtin.len_,ht,run_underlying a,goInt],.i _ _⟩
 .rename_i e k a;cases d;cases h;exact⟨.int .i64 0,by simp[Builtin.len_,ht,run_underlying a,goInt],.i _ _⟩
 cases h
def aev{ty i:TypeId}{g:Array TypeId}{x v:V}{u:Value}(h:Tn P ty x=some v)(a:R w β F x u)(ht:g[0]?=some ty):∃r,(Builtin.cap_ g i #[u]).run P w=.ok r w/\R w β F v r:=by
 unfold Tn at h;split at h;.rename_i e f;cases a;cases h;exact⟨.int .i64 0,by simp[Builtin.cap_,ht,run_underlying f,goInt],.i _ _⟩
 .rename_i e b o n c f;cases a with|Z b o n c x B d j k l m a p=>have:=a A;subst this;cases h;exact⟨.int .i64 (j:Int),by simp[Builtin.cap_,ht,run_underlying f,goInt],.i _ _⟩
 cases h
def aew{x y v:V}{u c:Value}(h:min2 x y=some v)(e:R w β F x u)(f:R w β F y c):∃r,(Builtin.min2 u c).run P w=.ok r w/\R w β F v r:=by unfold min2 at h;split at h;(.rename_i k a g b;cases e;cases f;cases h;refine⟨_,A,?_⟩;rw[xa];by_cases d:a<=b;(.rw[I G];simp only[d,BN];exact .i _ _);rw[U G];simp only[d,zE];exact .i _ _);cases h
def aex{x y v:V}{u c:Value}(h:max2 x y=some v)(e:R w β F x u)(f:R w β F y c):∃r,(Builtin.max2 u c).run P w=.ok r w/\R w β F v r:=by unfold max2 at h;split at h;(.rename_i k a g b;cases e;cases f;cases h;refine⟨_,A,?_⟩;rw[xa];by_cases d:b<=a;(.rw[I G];simp only[d,BN];exact .i _ _);rw[U G];simp only[d,zE];exact .i _ _);cases h
def IA{f:V->V->Option V}{g:Value->Value->Sem Value}(k:∀x y v u e,f x y=some v->R w β F x u->R w β F y e->∃r,(g u e).run P w=.ok r w/\R w β F v r):∀(l:List V)(c:List Value)(x v:V)(u:Value),uq f x l=some v->R w β F x u->RL w β F l c->∃r,(c.foldlM g u).run P w=.ok r w/\R w β F v r
|[],c,x,v,u,h,j,d=>by (have:c=[]:=by have:=d.1;simpa using this.symm);subst this;simp only[uq,bB]at h;subst h;exact⟨u,A,j⟩|y::l,c,x,v,u,h,j,d=>by
 cases c with
 |nil=>have:=d.1;simp at this
 |cons e c=>simp only[uq]at h;split at h;(.rename_i z m;obtain⟨r,n,o⟩:=k x y z u e m j (d.2 0 y e A A);obtain⟨p,q,s⟩:=IA k l c z v r h o ⟨by have:=d.1;simpa using this,λi a b t B=>d.2 (i+1) a b (by simpa using t) (by simpa using B)⟩;exact⟨p,by simp only[List.foldlM_cons,Sem.run_bind,n,Result.andThen_ok,q],s⟩);cases h
def KQ{b:Builtin}{m:Array TypeId}{o:TypeId}{B:Array Bool}{l:List V}{k:Array Value}{v:V}(h:kA P b m.toList (some l)=some v)(d:RL w β F l k.toList):∃r,(builtin b m o B k).run P w=.ok (.value r) w/\R w β F v r:=by
 have one:∀(f:Program->TypeId->V->Option V),sE P m.toList (some l) f=some v->∃ty x u,m[0]?=some ty/\l=[x]/\k=#[u]/\R w β F x u/\f P ty x=some v:=by intro f n;unfold sE at n;split at n;(.rename_i ty r x C D;cases D;have E:=d.1;simp at E;(have:k.toList.length=1:=by simp;omega);obtain⟨u,z⟩:=fL.1 this;refine⟨ty,x,u,?_,A,?_,d.2 0 x u A (by rw[z];rfl),n⟩;(.rw[<-ev,C];rfl);apply lP;rw[z]);cases n
 unfold kA at h;split at h;.obtain⟨ty,x,u,ht,rfl,rfl,p,q⟩:=one _ h;obtain⟨r,e,g⟩:=aeu (P:=P) (g:=o) q p ht;exact⟨r,by simp[builtin,e],g⟩
 .obtain⟨ty,x,u,ht,rfl,rfl,p,q⟩:=one _ h;obtain⟨r,e,g⟩:=aev (P:=P) (i:=o) q p ht;exact⟨r,by simp[builtin,e],g⟩
 .simp only[]at h;unfold vx at h;split at h
  .rename_i x l;cases j:k.toList with
   |nil=>rw[j]at d;have:=d.1;simp at this
   |cons u s=>rw[j]at d;obtain⟨r,e,g⟩:=IA (P:=P) (λ_ _ _ _ _ a b c=>aew a b c) l s x v u h (d.2 0 x u A A) ⟨by have:=d.1;simpa using this,λi a b t y=>d.2 (i+1) a b (by simpa using t) (by simpa using y)⟩;exact⟨r,by simp[builtin,Builtin.min_,j,e],g⟩
  cases h
 .simp only[]at h;unfold vx at h;split at h
  .rename_i x l;cases j:k.toList with
   |nil=>rw[j]at d;have:=d.1;simp at this
   |cons u s=>rw[j]at d;obtain⟨r,e,g⟩:=IA (P:=P) (λ_ _ _ _ _ a b c=>aex a b c) l s x v u h (d.2 0 x u A A) ⟨by have:=d.1;simpa using this,λi a b t y=>d.2 (i+1) a b (by simpa using t) (by simpa using y)⟩;exact⟨r,by simp[builtin,Builtin.max_,j,e],g⟩
  cases h
 cases h
def jj{x:Option V}{f:V->Option V}{v:V}(h:lS x f=some v):∃a,x=some a/\f a=some v:=by
 cases x with
 |none=>simp[lS]at h
 |some a=>exact⟨a,A,h⟩
def sJ{x y:Option V}{f:V->V->Option V}{v:V}(h:ur x y f=some v):∃a b,x=some a/\y=some b/\f a b=some v:=by
 cases x with
 |none=>simp[ur]at h
 |some a=>
  cases y with
  |none=>simp[ur]at h
  |some b=>exact⟨a,b,A,A,h⟩
def adp{t:T V}{a:Act}{o:Oper}{v:V}(ht:OR w β F t a.eval o.op.operands.toList)(h:BT P t o.op=some v):∃u,(execOp a.eval o).run P w=.ok (.value u) w/\R w β F v u:=by
 obtain⟨K,op,L,pos,U,guard⟩:=o;simp only at h;unfold BT at h;split at h;.exact⟨_,A,(ht _ (by simp[Op.operands]) _ h)⟩
 .exact⟨_,A,(ht _ (by simp[Op.operands]) _ h)⟩
 .rename_i c x y;unfold Qq at h;split at h;(.rename_i s;have:=(ht _ (by simp[Op.operands]) _ s);refine⟨a.eval x,?_,(ht _ (by simp[Op.operands]) _ h)⟩;generalize z:a.eval c=q at this;cases this;simp[execOp,z,asBool]);(.rename_i s;have:=(ht _ (by simp[Op.operands]) _ s);refine⟨a.eval y,?_,(ht _ (by simp[Op.operands]) _ h)⟩;generalize z:a.eval c=q at this;cases this;simp[execOp,z,asBool]);cases h
 .rename_i ty G;cases B:wH t G.toList with
  |none=>rw[B]at h;unfold zV at h;split at h<;>simp_all
  |some l=>rw[B]at h;obtain⟨u,n,d⟩:=We (b:=G.map λ(i,x)=>(i,a.eval x)) h (by simpa using Iv (ht.sub λy e=>by simpa[Op.operands]using e) B);exact⟨u,by simp only[execOp,Sem.run_bind,n,Result.andThen_ok];rfl,d⟩
 .obtain⟨x,j,d⟩:=jj h;have g:=(ht _ (by simp[Op.operands]) _ j);obtain⟨rfl,C,D,W,X⟩:=aet d g;rename_i y;refine⟨a.eval y,?_,g⟩;simp only[execOp];rfl
 .rename_i op ty x y Y;obtain⟨m,H,j,e,d⟩:=sJ h;obtain⟨r,g,k⟩:=aes d ((ht _ (by simp[Op.operands]) _ j)) ((ht _ (by simp[Op.operands]) _ e));refine⟨r,?_,k⟩;simp only[execOp];rw[Sem.run_bind,g];rfl
 .rename_i op ty x;obtain⟨m,j,d⟩:=jj h;obtain⟨r,g,k⟩:=ahd (P:=P) d ((ht _ (by simp[Op.operands]) _ j));exact⟨r,by simp[execOp,g],k⟩
 .rename_i Z K x;split at h;(.rename_i M;obtain⟨m,j,d⟩:=jj h;obtain⟨r,g,k⟩:=aay d M ((ht _ (by simp[Op.operands]) _ j));exact⟨r,by simp[execOp,g],k⟩);cases h
 .rename_i fn x y;unfold VN at h;split at h;(.rename_i f l N p O;cases h;have C:=px (ht.sub λy e=>by simp[Op.operands];exact .inl (by simpa using e)) p;have D:=px (ht.sub λy e=>by simp[Op.operands];exact .inr (by simpa using e)) O;refine⟨.func (.func f) (x.map a.eval) (y.map a.eval),by simp[execOp,Instr.makeFunc],.f f l N _ _ (by have:=C.1;simpa using this) (λi v u d n=>C.2 i v u d (by simpa using n)) (by have:=D.1;simpa using this) (λi v u d n=>D.2 i v u d (by simpa using n))⟩);cases h
 .rename_i ty x Q I J;split at h;(.rename_i s;obtain⟨m,j,d⟩:=jj h;obtain⟨r,g,k⟩:=Wh d ((ht _ (by simp[Op.operands]) _ j)) (NY Q (ht.sub λy e=>by simp[Op.operands]at e|-;simp[e])) (NY I (ht.sub λy e=>by simp[Op.operands]at e|-;simp[e])) (NY J (ht.sub λy e=>by simp[Op.operands]at e|-;simp[e])) (by cases J<;>cases I<;>simp_all);exact⟨r,by simp[execOp,g],k⟩);cases h
 .rename_i ty x f;obtain⟨m,j,d⟩:=jj h;obtain⟨r,g,k⟩:=Iy d ((ht _ (by simp[Op.operands]) _ j));exact⟨r,by simp[execOp,g],k⟩
 .rename_i ty x f;obtain⟨m,j,d⟩:=jj h;obtain⟨r,g,k⟩:=Wi d ((ht _ (by simp[Op.operands]) _ j));exact⟨r,by simp[execOp,g],k⟩
 .rename_i ty x S;obtain⟨m,H,j,e,d⟩:=sJ h;obtain⟨r,g,k⟩:=Iz d ((ht _ (by simp[Op.operands]) _ j)) ((ht _ (by simp[Op.operands]) _ e));exact⟨r,by simp[execOp,g],k⟩
 .rename_i ty x S;obtain⟨m,H,j,e,d⟩:=sJ h;obtain⟨r,g,k⟩:=Wj d ((ht _ (by simp[Op.operands]) _ j)) ((ht _ (by simp[Op.operands]) _ e));exact⟨r,by simp[execOp,g],k⟩
 .rename_i x i;obtain⟨m,j,d⟩:=jj h;obtain⟨r,g,k⟩:=NZ (P:=P) d ((ht _ (by simp[Op.operands]) _ j));exact⟨r,by simp[execOp,g],k⟩
 .rename_i b E a0;cases p:oa t E.toList with
  |none=>
   rw[p]at h;exfalso;unfold kA at h;split at h<;>first
   |(unfold sE at h;split at h<;>simp_all;done)
   |simp at h
  |some l=>rw[p]at h;obtain⟨r,g,k⟩:=KQ (o:=L) (B:=E.map λ|.const _=>true|_=>false) (k:=E.map a.eval) h (by simpa using px (ht.sub λy e=>by simp[Op.operands,Call.operands];simpa using e) p);exact⟨r,by simp only[execOp,resolve,Sem.run_bind,Sem.run_pure,Result.andThen_ok,invoke];exact g,k⟩
 cases h
end
end Go.Ev
