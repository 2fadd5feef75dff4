/- TopRewrites: a part of the proof. -/
import Derived.Test.YtcimkkmkiedobaaGreatDoorM10
set_option maxRecDepth 100000
set_option maxHeartbeats 32000000
set_option linter.all false
namespace Go.Ev
open Go.Proofs
mutual
def ahE:Nat->Hp->V->Option V
|0,_,_=>none|n+1,h,v=>match v with
|.Z b 0 k _ _=>match h.get b with
 |some (.c l _)=>match adA n h l with
  |some l=>match l.all V.one with|true=>some (.Q k l)|false=>none
  |none=>none
 |_=>none
|.agg l=>match adA n h l with
 |some l=>match l.all V.one with|true=>some (.agg l)|false=>none
 |none=>none
|.ey l=>match adA n h l with|some l=>some (.ey l)|none=>none
|v=>match ee v with|true=>some v|false=>none
def adA:Nat->Hp->List V->Option (List V)|0,_,_=>none|_+1,_,[]=>some []|n+1,h,v::l=>match ahE n h v,adA n h l with|some v,some l=>some (v::l)|_,_=>none
end
def akt(o:Out)(v:V):Bool:=match o with
|.call u h _=>match ahE 100 h u with|some u=>qW u v|none=>false
|_=>false
def TT:Ob->EO|.c l mk=>.y l mk|.m es=>.m es
def abw(o:Ob):(TT o).ob=o:=by cases o<;>rfl
def adB{j:T EO}{h:Hp}(s:∀b o,h.get b=some o->j.get b=some (TT o)):∀n:Nat,(∀u v,ahE n h u=some v->Vw j (λ_=>none) (mw j) u v)/\(∀l m,adA n h l=some m->l.length=m.length/\∀(i:Nat)v r,l[i]?=some v->m[i]?=some r->Vw j (λ_=>none) (mw j) v r)
|0=>⟨λu v h=>by simp[ahE]at h,λl m h=>by simp[adA]at h⟩|n+1=>by
 obtain⟨z,iL⟩:=adB s n;refine⟨λu v d=>?_,λl m d=>?_⟩;.rw[ahE.eq_def]at d;simp only at d;split at d;(.rename_i b k c x;split at d;(.rename_i l mk B;split at d;(.rename_i q p;split at d;(.rename_i e;cases d;obtain⟨f,g⟩:=iL _ _ p;have t:=s _ _ B;exact .ae9 b 0 k c l.length x _ l l q mk ⟨_,t⟩ t A (bz A) f g (aU.1 e));cases d);cases d);cases d);(.rename_i l;split at d;(.rename_i q p;split at d;(.rename_i e;cases d;obtain⟨f,g⟩:=iL _ _ p;exact .agg _ _ f g (aU.1 e));cases d);cases d);(.rename_i l;split at d;(.rename_i q p;cases d;obtain⟨f,g⟩:=iL _ _ p;exact .ey _ _ f g);cases d);split at d;(.rename_i e;cases d;exact .B _ e);cases d
 cases l with
 |nil=>rw[adA]at d;cases d;exact⟨A,λi v r h=>by simp at h⟩
 |cons a l=>rw[adA]at d;split at d;(.rename_i v q e C;cases d;obtain⟨f,g⟩:=iL _ _ C;refine⟨by simp[f],λi x D w y=>?_⟩;cases i with|zero=>cases w;cases y;exact z _ _ e|succ i=>exact g i x D (by simpa using w) (by simpa using y));cases d
def Pu.oI{P:Program}{r:tG}(H:Bi P)(I:P.follows .mixedOrders=true)(J:qs P r){n f:Nat}{k:List V}{v:V}(K:bp k=true)(L:ee v=true)(h:akt (run P r n (.call f k .e 0)) v=true):Pu P f k v:=by have z:=run_says H I J n (.call f k .e 0);generalize run P r n (.call f k .e 0)=o at h z;cases o with|bad=>cases h|code x s=>cases h|call u i a0=>simp only[akt]at h;split at h;(.rename_i u2 M;have:=Ac _ _ h;subst this;obtain⟨N,a1,O⟩:=z;refine⟨N,λh0 a2=>⟨af _,λw t F Q l R a3=>Calls.mono (O w (λ_=>none) F Q l.empty (R.free (λ_ q=>q) K) (λ_ _ _=>A)) λe C g=>?_⟩⟩;match e,g with|.returned u',g=>obtain⟨S,U,W,a⟩:=g;(have X:∀b o,i.get b=some o->(i.mp TT).get b=some (TT o):=λb o q=>by rw[T.hq,q];rfl);(have D:fV (i.mp TT) i:=λb o q=>by rw[T.hq]at q;cases j:i.get b with|none=>rw[j]at q;cases q|some ob=>rw[j]at q;cases q;rw[abw]);have p:=xc a.hr D ((adB X 100).1 u _ M) W;(have y:∀B,B<w.heap.size->C.heap[B]?=w.heap[B]?:=λB c=>a.keep B c λb o d m _=>by simp at m);have E:Ext w t F C t F:=⟨λ_ _ h=>h,λ_ h _=>h,λB _ c=>y B c,a.ext.size,a.ext.os,a.ext.tape,a.ext.output,a.ext.FG⟩;have Y:∀B,F B->less U S (mw (i.mp TT)) B:=λB c=>⟨a.mono B c,by rintro⟨b,d,⟨o,Z⟩,z2⟩;rcases a.kB b _ B d (D _ _ Z) z2 with p|⟨b0,o0,d0,p,_⟩;(.have:=l.bd B c;omega);simp at p⟩;refine⟨t,F,p.free Y L,E,l.ext E (λB c=>bS (l.bd B c) a.ext.size) (λb2 o B d m j=>?_),af _,λ_ _=>A,λB c _=>y B c,λ_ h=>h,λ_ h=>.inl h,λb o B d m j=>.inr ⟨b,o,d,m,j⟩⟩;obtain⟨B',d',G,q2,q3⟩:=l.kB m;rw[j]at G;cases G;exact⟨y _ q3,q2⟩|.panicked _,g=>exact g.elim|.outgrown,g=>exact g.elim);cases h
def Rh:List (Nat×List V×V)->Nat->List V->Option V|[],_,_=>none|(g,a,v)::l,f,b=>match Nat.beq g f&&tH a b with|true=>some v|false=>Rh l f b
def ahF(L:List (Nat×List V×V))(p:tG):tG:={KJ:=λf a h b=>match Rh L f a with|some v=>some (some (v,h,b))|none=>p.KJ f a h b,idle:=p.idle}
def Lm{P:Program}:∀{L:List (Nat×List V×V)}{f:Nat}{b:List V}{v:V},(∀e∈L,Pu P e.1 e.2.1 e.2.2)->Rh L f b=some v->Pu P f b v|[],f,b,v,_,h=>by cases h|(g,a,u)::l,f,b,v,c,h=>by simp only[Rh]at h;split at h;(.rename_i q;simp only[aA]at q;cases h;rw[<-cm q.1,<-kn _ _ q.2];exact c _ (js ..));exact Lm (λe d=>c e (bA _ d)) h
def abx{P:Program}{L:List (Nat×List V×V)}{p:tG}(b:∀e∈L,Pu P e.1 e.2.1 e.2.2)(a:qs P p):qs P (ahF L p):=by refine⟨λf c h d v g i q=>?_,a.idle⟩;simp only[ahF]at q;split at q;(.rename_i u j;cases q;have:=Lm b j;exact⟨this.1,this.2 _ _⟩);exact a.KJ f c h d v g i q
def adC(b:List V)(h:Hp)(c:Nat):Option (V×Hp×Nat):=match b with
|[.s l,.i .i64 (.ofNat a)]=>match Nat.ble a l.length&&Nat.ble l.length 100000 with|true=>some (Xf l a,h,c)|false=>none
|_=>none
def PW:tG:={KJ:=λf a h b=>match Nat.beq f 325 with|true=>some (adC a h b)|false=>none,idle:=λf=>Nat.beq f 173||Nat.beq f 113}
def oJ:qs Tryz.prog PW:=by
 refine⟨λf d h e v g i q=>?_,λf q=>?_⟩;.simp only[PW]at q;split at q;(.rename_i b;have b:=cm b;subst b;simp only[bB]at q;unfold adC at q;split at q;(.rename_i l a;split at q;(.rename_i c;simp only[aA]at c;cases q;have:=ahB l a (jV c.1) (jV c.2);exact⟨this.1,this.2 _ _⟩);cases q);cases q);cases q
 simp only[PW,dH]at q;rcases q with q|q;.rw[cm q];exact ahC
 rw[cm q];exact ahD
def ahG:List V:=[.s [99,114,101,97,116,101,32,116,97,98,108,101,32,116,32,40,97,32,105,110,116,44,32,98,32,105,110,116,41]]
def ahH:V:=.ey [.agg [.i .i64 1,.s [116],.s [],.Q 2 [.s [97],.i .i64 2,.b false,.s [98],.i .i64 2,.b false],.E,.b false,.E,.E,.E,.E,.E,.E,.E],.i .i64 0,.i .i64 0]
def ak5:Ct 55 ahG ahH:=Pu.oI lI mo oJ (n:=100000) A A (by kernel_rfl)
def ahI:List V:=[.agg [.E,.E,.i .i64 1],.agg [.i .i64 1,.s [116],.s [],.Q 2 [.s [97],.i .i64 2,.b false,.s [98],.i .i64 2,.b false],.E,.b false,.E,.E,.E,.E,.E,.E,.E]]
def ahJ:V:=.ey [.agg [.Q 1 [.s [116],.i .i64 1,.Q 2 [.s [97],.i .i64 2,.b false,.s [98],.i .i64 2,.b false],.E,.E,.E],.E,.i .i64 2],.i .i64 0]
def ak6:Ct 56 ahI ahJ:=Pu.oI lI mo oJ (n:=100000) A A (by kernel_rfl)
def ahK:List V:=[.s [99,114,101,97,116,101,32,116,97,98,108,101,32,117,32,40,97,32,105,110,116,44,32,98,32,116,101,120,116,41]]
def ahL:V:=.ey [.agg [.i .i64 1,.s [117],.s [],.Q 2 [.s [97],.i .i64 2,.b false,.s [98],.i .i64 3,.b false],.E,.b false,.E,.E,.E,.E,.E,.E,.E],.i .i64 0,.i .i64 0]
def ak7:Ct 55 ahK ahL:=Pu.oI lI mo oJ (n:=100000) A A (by kernel_rfl)
def ahM:List V:=[.agg [.Q 1 [.s [116],.i .i64 1,.Q 2 [.s [97],.i .i64 2,.b false,.s [98],.i .i64 2,.b false],.E,.E,.E],.E,.i .i64 2],.agg [.i .i64 1,.s [117],.s [],.Q 2 [.s [97],.i .i64 2,.b false,.s [98],.i .i64 3,.b false],.E,.b false,.E,.E,.E,.E,.E,.E,.E]]
def ahN:V:=.ey [.agg [.Q 2 [.s [116],.i .i64 1,.Q 2 [.s [97],.i .i64 2,.b false,.s [98],.i .i64 2,.b false],.E,.E,.E,.s [117],.i .i64 2,.Q 2 [.s [97],.i .i64 2,.b false,.s [98],.i .i64 3,.b false],.E,.E,.E],.E,.i .i64 3],.i .i64 0]
def ak8:Ct 56 ahM ahN:=Pu.oI lI mo oJ (n:=100000) A A (by kernel_rfl)
def ahO:List V:=[.s [99,114,101,97,116,101,32,116,97,98,108,101,32,118,32,40,97,32,98,111,111,108,44,32,98,32,105,110,116,44,32,99,32,116,101,120,116,41]]
def ahP:V:=.ey [.agg [.i .i64 1,.s [118],.s [],.Q 3 [.s [97],.i .i64 1,.b false,.s [98],.i .i64 2,.b false,.s [99],.i .i64 3,.b false],.E,.b false,.E,.E,.E,.E,.E,.E,.E],.i .i64 0,.i .i64 0]
def ak9:Ct 55 ahO ahP:=Pu.oI lI mo oJ (n:=100000) A A (by kernel_rfl)
def ahQ:List V:=[.agg [.Q 2 [.s [116],.i .i64 1,.Q 2 [.s [97],.i .i64 2,.b false,.s [98],.i .i64 2,.b false],.E,.E,.E,.s [117],.i .i64 2,.Q 2 [.s [97],.i .i64 2,.b false,.s [98],.i .i64 3,.b false],.E,.E,.E],.E,.i .i64 3],.agg [.i .i64 1,.s [118],.s [],.Q 3 [.s [97],.i .i64 1,.b false,.s [98],.i .i64 2,.b false,.s [99],.i .i64 3,.b false],.E,.b false,.E,.E,.E,.E,.E,.E,.E]]
def ahR:V:=.ey [.agg [.Q 3 [.s [116],.i .i64 1,.Q 2 [.s [97],.i .i64 2,.b false,.s [98],.i .i64 2,.b false],.E,.E,.E,.s [117],.i .i64 2,.Q 2 [.s [97],.i .i64 2,.b false,.s [98],.i .i64 3,.b false],.E,.E,.E,.s [118],.i .i64 3,.Q 3 [.s [97],.i .i64 1,.b false,.s [98],.i .i64 2,.b false,.s [99],.i .i64 3,.b false],.E,.E,.E],.E,.i .i64 4],.i .i64 0]
def ak':Ct 56 ahQ ahR:=Pu.oI lI mo oJ (n:=100000) A A (by kernel_rfl)
def ahS:List V:=[.s [99,114,101,97,116,101,32,105,110,100,101,120,32,116,105,32,111,110,32,116,32,40,98,44,32,97,41]]
def ahT:V:=.ey [.agg [.i .i64 2,.s [116],.s [116,105],.E,.Q 2 [.s [98],.s [97]],.b false,.E,.E,.E,.E,.E,.E,.E],.i .i64 0,.i .i64 0]
def ala:Ct 55 ahS ahT:=Pu.oI lI mo oJ (n:=100000) A A (by kernel_rfl)
def ahU:List V:=[.agg [.Q 3 [.s [116],.i .i64 1,.Q 2 [.s [97],.i .i64 2,.b false,.s [98],.i .i64 2,.b false],.E,.E,.E,.s [117],.i .i64 2,.Q 2 [.s [97],.i .i64 2,.b false,.s [98],.i .i64 3,.b false],.E,.E,.E,.s [118],.i .i64 3,.Q 3 [.s [97],.i .i64 1,.b false,.s [98],.i .i64 2,.b false,.s [99],.i .i64 3,.b false],.E,.E,.E],.E,.i .i64 4],.agg [.i .i64 2,.s [116],.s [116,105],.E,.Q 2 [.s [98],.s [97]],.b false,.E,.E,.E,.E,.E,.E,.E]]
def ahV:V:=.ey [.agg [.Q 3 [.s [116],.i .i64 1,.Q 2 [.s [97],.i .i64 2,.b false,.s [98],.i .i64 2,.b false],.E,.E,.E,.s [117],.i .i64 2,.Q 2 [.s [97],.i .i64 2,.b false,.s [98],.i .i64 3,.b false],.E,.E,.E,.s [118],.i .i64 3,.Q 3 [.s [97],.i .i64 1,.b false,.s [98],.i .i64 2,.b false,.s [99],.i .i64 3,.b false],.E,.E,.E],.Q 1 [.s [116,105],.i .i64 4,.s [116],.Q 2 [.i .i64 1,.i .i64 0],.b false],.i .i64 5],.i .i64 0]
def alb:Ct 57 ahU ahV:=Pu.oI lI mo oJ (n:=100000) A A (by kernel_rfl)
end Go.Ev
