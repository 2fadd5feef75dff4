/- TopRewrites: a part of the proof. -/
import Derived.Test.YtcimkkmkiedobaaGreatDoorM13
set_option maxRecDepth 100000
set_option maxHeartbeats 32000000
set_option linter.all false
namespace Go.Ev
def afo(n:Int):Bool:=Qp (IntKind.wrap .i64 (BitVec.ofInt 64 n&&&~~~BitVec.ofInt 64 1).toNat) 0
def lJ(v:Vl):Bool:=if v.k=3 then decide (v.n=0)&&decide (v.s.length<=100)&&decide (abv v.s<0)else if v.s≠[]then false else if v.k=0 then decide (v.n=0)else if v.k=1 then afo v.n else decide (v.k=2)&&qx v.n
def eb:List Nat:=[99,111,117,110,116]
def iW:List Nat:=[115,117,109]
def ng:List Nat:=[109,105,110]
def nh:List Nat:=[109,97,120]
def nt:List Nat:=[114,111,119,115]
structure Acc where
 name:List Nat
 dt:Bool
 n:Int
 hi:Int
 lo:Int
 v:Vl
 l:List Vl
def gd(a:List Nat)(d:Bool)(t:Bool):Acc:=if a=eb then(if t then⟨a,d,0,0,0,null,[]⟩else⟨nt,false,0,0,0,null,[]⟩)else if a=iW\/a=ng\/a=nh then⟨a,d,0,0,0,null,[]⟩else⟨[],d,0,0,0,null,[]⟩
def lD(x:Acc)(v:Vl):Bool:=if x.name=nt then true else decide (v.k≠0)&&lJ v&&(decide (x.name≠iW)||decide (v.k=2))
def eT(x:Acc)(v:Vl):Acc:=if x.name=iW then{x with n:=x.n+1,hi:=x.hi+(x.lo+v.n).tdiv 1000000000000000,lo:=(x.lo+v.n).tmod 1000000000000000}else if x.name=ng then(if x.n+1=1\/dR v x.v<0 then{x with n:=x.n+1,v:=v}else{x with n:=x.n+1})else if x.name=nh then(if x.n+1=1\/0<dR v x.v then{x with n:=x.n+1,v:=v}else{x with n:=x.n+1})else{x with n:=x.n+1}
def iO(v:Vl):List Vl->List Vl|[]=>[v]|x::l=>if dR x v<0 then x::iO v l else if dR x v=0 then x::l else v::x::l
def jZ(x:Acc)(v:Vl):Acc:=if lD x v then(if x.dt then{x with l:=iO v x.l}else eT x v)else x
def sS(x:Acc):Vl:=if x.n=0\/x.hi< -1\/1<x.hi then null else if qx (x.hi*1000000000000000+x.lo)then Dv (x.hi*1000000000000000+x.lo)else null
def DE(x:Acc):Vl:=if x.name=eb\/x.name=nt then Dv x.n else if x.name=iW then sS x else if x.name=ng\/x.name=nh then x.v else null
def DF(x:Acc):Vl:=DE (x.l.foldl eT x)
def wv(a:List Nat)(d:Bool)(t:Bool)(l:List Vl):Vl:=DF (l.foldl jZ (gd a d t))
def uG(v:Vl):List W->Int->Int|[],m=>m|[]::l,m=>uG v l m|(x::_)::l,m=>uG v l (if(gq v x).2 then Ri m (adQ (decide ((gq v x).1=0)))else Ri m 1)
def DG(v:Vl)(l:List W):Vl:=sP (uG v l 0)
def jM:List Dt->List Nat->List W|[],_=>[]|d::l,a=>if d.t=a then d.rows else jM l a
def mE(r x:W):Bool:=decide (cY x r=0)
def ma:List W->List W->List W|a,[]=>a|a,r::l=>ma (if a.any (mE r)then a else a++[r]) l
def kp(l:List W):List W:=ma [] l
def rf(r:W):List W->List W|[]=>[]|x::l=>if mE r x then l else x::rf r l
def hy(a:Bool):List W->List W->List W|[],_=>[]|x::l,left=>if left.any (mE x)==a then x::hy a l (rf x left)else hy a l (rf x left)
def qk(op:Int)(all:Bool)(a b:List W):List W:=let a:=if op=9 then a++b else a;let a:=if all then a else kp a;if op=9 then a else hy (decide (op=10)) a b
def cellS(r:W)(a:Int):Vl:=if 0<=a/\a<Int.ofNat r.length then r.getD a.toNat null else null
def nu:List Ky->W->W->Int|[],a,b=>cY a b|k::l,a,b=>let c:=dR (cellS a k.at_) (cellS b k.at_);let c:=if k.down then-c else c;if c≠0 then c else nu l a b
def kq(cq:List Ky)(l:List W):List W:=l.mergeSort λa b=>decide (nu cq a b<=0)
def eg(bH skip:Int)(l:List W):List W:=let l:=l.drop (if skip<=l.length then skip.toNat else l.length);if 0<=bH/\bH<l.length then l.take bH.toNat else l
def nv(a:W)(x:W):List (W×List W)->List (W×List W)|[]=>[(a,[x])]|(k,l)::g=>if cY k a=0 then(k,l++[x])::g else(k,l)::nv a x g
def dM(b:W->W):List (W×List W)->List W->List (W×List W)|a,[]=>a|a,x::l=>dM b (nv (b x) x a) l
def gr(c:W->Bool)(left:Bool)(d:W)(right:List W):List W->List W|[]=>[]|a::l=>(let m:=(right.filter λb=>c (a++b)).map (a++·);if m.isEmpty&&left then[a++d]else m)++gr c left d right l
mutual
def cN(c:List Dt):J->List W->Vl|.mk op v d a e K sub ty,b=>if op=1 then v else if op=2 then oD b d a else if op=26 then(match cO c sub b with|[x::_]=>x|_=>null)else if op=27 then oj (decide (0<(cO c sub b).length))else if op=28 then(match cF c K b with|[]=>null|x::_=>DG x (cO c sub b))else ko op e (cF c K b)
def cF(a:List Dt):List J->List W->W|[],_=>[]|t::l,b=>cN a t b::cF a l b
def sA(a:List Dt):List J->List W->Bool|[],_=>true|t::l,b=>decide (fj (cN a t b)=2)&&sA a l b
def cO(a:List Dt):List N->List W->List W|[],_=>[]|r::_,b=>er a r b
def fc(a:List Dt):List N->List W->List W|[],_=>[]|_::l,b=>cO a l b
def Uf(a:List Dt):Ag->List W->List W->Vl|.mk b d t,rows,c=>wv b d (!t.isEmpty) (match t with|[]=>rows.map λ_=>null|t::_=>rows.map λx=>cN a t (x::c))
def iX(b:List Dt):List Ag->List W->List W->W|[],_,_=>[]|a::l,rows,c=>Uf b a rows c::iX b l rows c
def er(a:List Dt):N->List W->List W|.mk op d aP K ao aJ cq bH skip all rows,c=>if op=1 then jM a d else if op=2 then rows else if op=3 then(cO a K c).filter λx=>sA a ao (x::c)else if op=4 then(cO a K c).map λx=>cF a ao (x::c)else if op=5\/op=6 then(match K with|_::b::_=>gr (λx=>sA a ao (x::c)) (decide (op=6)) (List.replicate b.aP.length null) (fc a K c) (cO a K c)|_=>[])else if op=7 then(dM (λx=>cF a ao (x::c)) (if ao.isEmpty then[([],[])]else[]) (cO a K c)).map λb=>b.1++iX a aJ b.2 c else if op=8 then kp (cO a K c)else if op=9\/op=10\/op=11 then qk op all (cO a K c) (fc a K c)else if op=12 then kq cq (cO a K c)else if op=13 then eg bH skip (cO a K c)else[]
end
end Go.Ev
