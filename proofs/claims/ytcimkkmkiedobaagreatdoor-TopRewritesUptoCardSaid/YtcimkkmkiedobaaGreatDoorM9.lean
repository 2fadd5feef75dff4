/- TopRewrites: a part of the proof. -/
import Derived.WalkKit
import Derived.Test.YtcimkkmkiedobaaGreatDoorM2
import Derived.Test.YtcimkkmkiedobaaGreatDoorM8
set_option maxRecDepth 100000
set_option maxHeartbeats 32000000
set_option linter.all false
namespace Go.Ev
section
open Go.Proofs Go.RowKit
def Pu.flat{P:Program}{g:Nat}{n:List V}{v:V}(r:FI P g)(s:∀(w:World)c F(i:Array Value),RL w c F n i.toList->∃u,(∀t x F2,R t x F2 v u)/\Calls P g i w λe j=>e=.returned u/\Below w.heap.size w j):Pu P g n v:=by refine⟨r,λh J=>⟨af _,λw c F i k y K=>?_⟩⟩;obtain⟨u,z,C⟩:=s w c F i y;refine Calls.mono C λe j D=>?_;obtain⟨rfl,a⟩:=D;have p:Ext w c F j c F:=⟨λ_ _ h=>h,λ_ h _=>h,λB _ f=>a.block B f,a.size,a.os,a.tape,a.output,λB E e G h=>⟨E,e,G,by rw[a.block B (dX h)];exact h,A⟩⟩;refine⟨c,F,z _ _ _,p,k.ext p (λB f=>bS (k.bd B f) a.size) (λL o B d l m=>?_),af _,λ_ _=>A,λB f _=>a.block B f,λ_ h=>h,λ_ h=>.inl h,λb o B d l m=>.inr ⟨b,o,d,l,m⟩⟩;obtain⟨M,N,q,H,I⟩:=k.kB l;rw[m]at q;cases q;exact⟨a.block _ I,H⟩
def Ai(l:List Nat):ByteArray:=⟨(l.map UInt8.ofNat).toArray⟩
def R.ady{w:World}{a:Nat->Option (Nat×Nat)}{F:Nat->Prop}{l:List Nat}{u:Value}(h:R w a F (.s l) u):u=.string (Ai l):=by cases h with|s x l h=>subst h;congr 1;unfold Ai;rw[cI];(have:(UInt8.ofNat∘UInt8.toNat)=id:=by funext c;simp);rw[this];simp
def R.IW{w:World}{a:Nat->Option (Nat×Nat)}{F:Nat->Prop}{l:List Nat}{u:Value}(h:R w a F (.s l) u):∃x:ByteArray,u=.string x/\x.data.toList.map UInt8.toNat=l:=by cases h with|s x l h=>exact⟨x,A,h⟩
def R.Xd{w:World}{a:Nat->Option (Nat×Nat)}{F:Nat->Prop}{k:IntKind}{n:Int}{u:Value}(h:R w a F (.i k n) u):u=.int k n:=by cases h;rfl
def RL.ahx{w:World}{c:Nat->Option (Nat×Nat)}{F:Nat->Prop}{a:V}{b:Array Value}(h:RL w c F [a] b.toList):∃x,b=#[x]/\R w c F a x:=by match b,h with|⟨[x]⟩,h=>exact⟨x,A,h.2 0 a x A A⟩|⟨[]⟩,h=>exact absurd h.1 aS|⟨_::_::_⟩,h=>exact absurd h.1 aS
def RL.abt{w:World}{c:Nat->Option (Nat×Nat)}{F:Nat->Prop}{a b:V}{d:Array Value}(h:RL w c F [a,b] d.toList):∃x y,d=#[x,y]/\R w c F a x/\R w c F b y:=by match d,h with|⟨[x,y]⟩,h=>exact⟨x,y,A,h.2 0 a x A A,h.2 1 b y A A⟩|⟨[]⟩,h=>exact absurd h.1 aS|⟨[_]⟩,h=>exact absurd h.1 aS|⟨_::_::_::_⟩,h=>exact absurd h.1 aS
def iM:List Nat->List Nat->Int|[],[]=>0|[],_::_=>-1|_::_,[]=>1|a::x,b::y=>if a<b then-1 else if b<a then 1 else iM x y
def Dx:∀x y:List UInt8,Lib.compareBytes x y=iM (x.map UInt8.toNat) (y.map UInt8.toNat)|[],[]=>A|[],_::_=>A|_::_,[]=>A|a::x,b::y=>by simp only[Lib.compareBytes,iM,aw,Dx x y,uf]
def adz(a b:List Nat):Ct 407 [.s a,.s b] (.i .i64 (iM a b)):=by refine Pu.flat (lI.ID (f:=407) Tryz.func407 A) λw i F j h=>?_;obtain⟨x,y,rfl,c,d⟩:=h.abt;obtain⟨x,rfl,rfl⟩:=c.IW;obtain⟨y,rfl,rfl⟩:=d.IW;refine⟨.int .i64 (Lib.compareBytes x.data.toList y.data.toList),λ_ _ _=>by rw[<-Dx];exact .i _ _,Calls.mono (Tryz.strings_Compare x y w) λe k g=>?_⟩;obtain⟨rfl,rfl⟩:=g;exact⟨A,.refl _ _⟩
def Xe(s:List Nat)(c:Int):Int:=Lib.indexByte (Ai s).data.toList c.toNat.toUInt8
def ahy(s:List Nat)(c:Int):Ct 465 [.s s,.i .u8 c] (.i .i64 (Xe s c)):=by refine Pu.flat (lI.ID (f:=465) Tryz.func465 A) λw g F i h=>?_;obtain⟨x,y,rfl,a,b⟩:=h.abt;rw[a.ady,b.Xd];refine⟨_,λ_ _ _=>.i _ _,Calls.mono (Tryz.strings_IndexByte (Ai s) c w) λe j d=>?_⟩;obtain⟨rfl,rfl⟩:=d;exact⟨A,.refl _ _⟩
def afg(c:Nat):Bool:=decide ((c:Int)<32)||decide (126<(c:Int))
def abu(c:Int)(w:World)(b:Bool)(a:b=(decide (c<32)||decide (126<c))):Calls Tryz.prog 477 #[.int .i32 c] w λe d=>e=.returned (.bool b)/\w=d:=by
 by_cases f:c<32;.go_enter Tryz.func477,Tryz.ntmps477;go_wp2;go_ret;exact⟨by subst a;simp<;>omega,A⟩
 by_cases g:126<c;.go_enter Tryz.func477,Tryz.ntmps477;go_wp2;go_ret;exact⟨by subst a;simp<;>omega,A⟩
 go_enter Tryz.func477,Tryz.ntmps477;go_wp2;go_ret;exact⟨by subst a;simp<;>omega,A⟩
def abv(s:List Nat):Int:=Lib.idxFunc afg true (Ai s)
def ahz(s:List Nat):Ct 476 [.s s,.f 477 [] []] (.i .i64 (abv s)):=by refine Pu.flat (lI.ID (f:=476) Tryz.func476 A) λw m F n h=>?_;obtain⟨x,y,rfl,b,d⟩:=h.abt;rw[b.ady];(have:y=.func (.func 477) #[] #[]:=by cases d with|f o x y a c g p i q=>have j:a=#[]:=nP (by simpa using g.symm);have k:c=#[]:=nP (by simpa using i.symm);rw[j,k]);subst this;refine⟨_,λ_ _ _=>.i _ _,Tryz.strings_IndexFunc 477 #[] (lI.ID (f:=477) Tryz.func477 A) afg (Ai s) w λW c r=>Calls.mono (abu (c:Int) W (afg c) A) λe t l=>?_⟩;obtain⟨rfl,rfl⟩:=l;exact⟨A,0,A⟩
end
end Go.Ev
