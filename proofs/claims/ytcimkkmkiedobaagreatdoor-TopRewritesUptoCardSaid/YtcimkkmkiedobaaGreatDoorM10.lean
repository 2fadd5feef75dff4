/- TopRewrites: a part of the proof. -/
import Derived.Recover
import Derived.Test.YtcimkkmkiedobaaGreatDoorM3
import Derived.Test.YtcimkkmkiedobaaGreatDoorM9
set_option maxRecDepth 100000
set_option maxHeartbeats 32000000
set_option linter.all false
namespace Go.Ev
section
open Go.Proofs Go.RowKit
def Pu.ahA{P:Program}{g:Nat}{k:List V}{v:V}(r:FI P g)(s:∀(w:World)c F(i:Array Value),Gl w F->RL w c F k i.toList->∃u,(∀t x F2,R t x F2 v u)/\Calls P g i w λe l=>e=.returned u/\Below w.heap.size w l):Pu P g k v:=by refine⟨r,λh J=>⟨af _,λw c F i j y K=>?_⟩⟩;obtain⟨u,z,C⟩:=s w c F i j.gl y;have L:Pu P g k v->True:=λ_=>M;refine Calls.mono C λe l D=>?_;obtain⟨rfl,a⟩:=D;have p:Ext w c F l c F:=⟨λ_ _ h=>h,λ_ h _=>h,λB _ f=>a.block B f,a.size,a.os,a.tape,a.output,λB E e G h=>⟨E,e,G,by rw[a.block B (dX h)];exact h,A⟩⟩;refine⟨c,F,z _ _ _,p,j.ext p (λB f=>bS (j.bd B f) a.size) (λN o B d m n=>?_),af _,λ_ _=>A,λB f _=>a.block B f,λ_ h=>h,λ_ h=>.inl h,λb o B d m n=>.inr ⟨b,o,d,m,n⟩⟩;obtain⟨O,Q,q,H,I⟩:=j.kB m;rw[n]at q;cases q;exact⟨a.block _ I,H⟩
def aks(p:Lx.Pc)(a:Nat):V:=.ey [.agg [.i .i64 p.k,.i .i64 (.ofNat a),.i .i64 (.ofNat p.z),.i .i64 p.n,.s (p.s.map UInt8.toNat)],.i .i64 p.e]
def Xf(l:List Nat)(a:Nat):V:=aks (Lx.Kz ((l.map UInt8.ofNat).drop a)) a
def ajE(p:Lx.Pc)(a:Nat)(w:World)(e:Nat->Option (Nat×Nat))(F:Nat->Prop):R w e F (aks p a) (.tuple #[.agg #[.int .i64 p.k,.int .i64 (a:Int),.int .i64 (p.z:Int),.int .i64 p.n,.string (Lx.S p.s)],.int .i64 p.e]):=by refine .ey _ _ A λi v u b c=>?_;match i,b,c with|0,b,c=>cases b;cases c;refine .agg _ _ A (λi v u b c=>?_) (λv d=>?_);(.match i,b,c with|0,b,c=>cases b;cases c;exact .i _ _|1,b,c=>cases b;cases c;exact .i _ _|2,b,c=>cases b;cases c;exact .i _ _|3,b,c=>cases b;cases c;exact .i _ _|4,b,c=>cases b;cases c;exact .s _ _ (by simp[Lx.S])|i+5,b,c=>simp at b);simp only[aR,cJ,fO]at d;rcases d with rfl|rfl|rfl|rfl|rfl<;>rfl|1,b,c=>cases b;cases c;exact .i _ _|i+2,b,c=>simp at b
def ahB(l:List Nat)(a:Nat)(d:a<=l.length)(g:l.length<=100000):Ct 325 [.s l,.i .i64 (.ofNat a)] (Xf l a):=by
 refine Pu.ahA (lI.ID (f:=325) Tryz.func325 A) λw p F q i h=>?_;obtain⟨m,j,_⟩:=i;obtain⟨x,y,rfl,k,n⟩:=h.abt;obtain⟨x,rfl,rfl⟩:=k.IW;rw[n.Xd];have e:(x.data.toList.map UInt8.toNat).map UInt8.ofNat=x.data.toList:=by rw[cI,show(UInt8.ofNat∘UInt8.toNat)=id by funext c;simp,vr]
 have es:Lx.S x.data.toList=x:=by simp[Lx.S]
 have b:=Lx.VL x.data.toList a m w j (by simpa using d) (by simpa using g);rw[es]at b;refine⟨_,λr s F2=>by unfold Xf;rw[e];exact ajE _ _ _ _ _,Calls.mono b λe t o=>o⟩
def ahC:Idle Tryz.prog 173:=by
 refine⟨lI.ID (f:=173) Tryz.func173 A,λa w=>?_⟩;refine CallsD.mono (R:=λe j d=>e=.returned (.tuple #[])/\j=.returning/\d=w) ?_ (λe u d h=>.inr ⟨⟨_,h.1⟩,h.2.1,h.2.2⟩);refine callsD_of_wpS Tryz.func173 A λk n l=>?_;rw[Tryz.ntmps173];have m:23<=(a++Array.replicate (23-a.size) undef).size:=by simp;omega
 generalize a++Array.replicate (23-a.size) undef=tm at m|-;have b:7<tm.size:=by omega
 have c:3<tm.size:=by omega
 have g:8<tm.size:=by omega
 have i:9<tm.size:=by omega
 apply wpS_seq;apply wpS_region;simp[wpOpsS,go_sem,recoverD,l,Exit.thenS,b,c];apply wpS_seq;apply wpS_seq;apply wpS_region;simp[wpOpsS,go_sem,Exit.thenS,b,c,g,i];refine wpS_cond (t:=true) (by simp[Act.eval,b,c,g,i]) ?_;simp only[fi];refine wpS_of_wp (wp_ret ?_);cases k;simp_all[bodyPostS,results,Tryz.results173,Exit.thenS]
def ahD:Idle Tryz.prog 113:=by
 refine⟨lI.ID (f:=113) Tryz.func113 A,λa w=>?_⟩;refine CallsD.mono (R:=λe j d=>e=.returned (.tuple #[])/\j=.returning/\d=w) ?_ (λe u d h=>.inr ⟨⟨_,h.1⟩,h.2.1,h.2.2⟩);refine callsD_of_wpS Tryz.func113 A λk n l=>?_;rw[Tryz.ntmps113];have m:23<=(a++Array.replicate (23-a.size) undef).size:=by simp;omega
 generalize a++Array.replicate (23-a.size) undef=tm at m|-;have b:7<tm.size:=by omega
 have c:3<tm.size:=by omega
 have g:8<tm.size:=by omega
 have i:9<tm.size:=by omega
 apply wpS_seq;apply wpS_region;simp[wpOpsS,go_sem,recoverD,l,Exit.thenS,b,c];apply wpS_seq;apply wpS_seq;apply wpS_region;simp[wpOpsS,go_sem,Exit.thenS,b,c,g,i];refine wpS_cond (t:=true) (by simp[Act.eval,b,c,g,i]) ?_;simp only[fi];refine wpS_of_wp (wp_ret ?_);cases k;simp_all[bodyPostS,results,Tryz.results113,Exit.thenS]
end
end Go.Ev
