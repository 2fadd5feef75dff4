/- TopRewrites: a part of the proof. -/
import Derived.Ground.GgwProg
import Derived.Ground.Names2Prog
import Derived.Shelf.Bits.Mul64
import Derived.Shelf.GgClosure.StringsIndexFunc
import Derived.Shelf.GgClosure.StringsIndexFuncTop
import Derived.Shelf.LaysM
import Derived.Shelf.Slices.Cells
import Derived.Shelf.Slices.CompactI
import Derived.Shelf.Slices.In.SortNone
import Derived.Shelf.Small.Bits
import Derived.Shelf.Small.Strs
import Derived.Shelf.Sort.Plain
import Derived.Shelf.Strconv.Itoa0
import Derived.Shelf.Strings.Search1
import Derived.Shelf.Strings.Search2
import Derived.Shelf.Strings.Search3
import Derived.Shelf.Strings.Shaped
import Derived.Test.YtcimkkmkiedobaaGreatDoorM1
import Derived.Test.YtcimkkmkiedobaaGreatDoorProg
set_option maxRecDepth 100000
set_option maxHeartbeats 32000000
set_option linter.all false
open Go.Ev
namespace Go.Proofs
open Go.Shelf
def Tryz.lays106_ren:Go.Shelf.Ren:=⟨λ|106=>407|213=>540|265=>624|n=>n,λ|9=>9|3=>3|n=>n,λ|n=>n⟩
def Tryz.lays106:Go.Proofs.Lays.n106 Tryz.prog Tryz.lays106_ren:={mixed:=by kernel_rfl,f106:=Tryz.func407.trans (aY some (by kernel_rfl)),f213:=Tryz.func540.trans (aY some (by kernel_rfl)),f265:=Tryz.func624.trans (aY some (by kernel_rfl)),t3:=Tryz.underlying3,a3:=Tryz.isAgg3,z3:=Tryz.sizeOf3,v3:=Tryz.zeroValue3,t9:=Tryz.underlying9,a9:=Tryz.isAgg9,z9:=Tryz.sizeOf9,v9:=Tryz.zeroValue9}
open Go.RowKit in
def Tryz.strings_Compare(a b:ByteArray)(w:World):Calls Tryz.prog 407 #[.string a,.string b] w λe c=>e=.returned (.int .i64 (Lib.compareBytes a.data.toList b.data.toList))/\c=w:=Any.strings_Compare Tryz.lays106 a b w
def Tryz.lays137_ren:Go.Shelf.Ren:=⟨λ|137=>465|217=>574|266=>638|n=>n,λ|9=>9|5=>5|3=>3|n=>n,λ|n=>n⟩
def Tryz.lays137:Go.Proofs.Lays.n137 Tryz.prog Tryz.lays137_ren:={mixed:=by kernel_rfl,f137:=Tryz.func465.trans (aY some (by kernel_rfl)),f217:=Tryz.func574.trans (aY some (by kernel_rfl)),f266:=Tryz.func638.trans (aY some (by kernel_rfl)),t3:=Tryz.underlying3,a3:=Tryz.isAgg3,z3:=Tryz.sizeOf3,v3:=Tryz.zeroValue3,t5:=Tryz.underlying5,a5:=Tryz.isAgg5,z5:=Tryz.sizeOf5,v5:=Tryz.zeroValue5,t9:=Tryz.underlying9,a9:=Tryz.isAgg9,z9:=Tryz.sizeOf9,v9:=Tryz.zeroValue9}
open Go.RowKit in
def Tryz.strings_IndexByte(s:ByteArray)(c:Int)(w:World):Calls Tryz.prog 465 #[.string s,.int .u8 c] w λe a=>e=.returned (.int .i64 (Lib.indexByte s.data.toList c.toNat.toUInt8))/\a=w:=Any.strings_IndexByte Tryz.lays137 s c w
def Tryz.laysGw15_ren:Go.Shelf.Ren:=⟨λ|15=>476|20=>579|n=>n,λ|9=>9|23=>513|3=>3|4=>4|0=>0|21=>21|n=>n,λ|n=>n⟩
def Tryz.laysGw15:Go.Proofs.LaysGw.n15 Tryz.prog Tryz.laysGw15_ren:={mixed:=by kernel_rfl,f15:=Tryz.func476.trans (aY some (by kernel_rfl)),f20:=Tryz.func579.trans (aY some (by kernel_rfl)),t0:=Tryz.underlying0,a0:=Tryz.isAgg0,z0:=Tryz.sizeOf0,v0:=Tryz.zeroValue0,i0:=by kernel_rfl,t3:=Tryz.underlying3,a3:=Tryz.isAgg3,z3:=Tryz.sizeOf3,v3:=Tryz.zeroValue3,i3:=by kernel_rfl,t4:=Tryz.underlying4,a4:=Tryz.isAgg4,z4:=Tryz.sizeOf4,v4:=Tryz.zeroValue4,i4:=by kernel_rfl,t9:=Tryz.underlying9,a9:=Tryz.isAgg9,z9:=Tryz.sizeOf9,v9:=Tryz.zeroValue9,i9:=by kernel_rfl,t21:=Tryz.underlying21,a21:=Tryz.isAgg21,z21:=Tryz.sizeOf21,v21:=Tryz.zeroValue21,i21:=by kernel_rfl,t23:=Tryz.underlying513,a23:=Tryz.isAgg513,z23:=Tryz.sizeOf513,v23:=Tryz.zeroValue513,i23:=by kernel_rfl}
open Go.RowKit Go.Lib in
def Tryz.strings_IndexFunc(g:Nat)(a:Array Value)(c:∀b w,(callFunc g b).run Tryz.prog w=.ok (.enter g b) w)(p:Nat->Bool)(s:ByteArray)(w:World)(d:PredAt Tryz.prog g a encR p w):Calls Tryz.prog 476 #[.string s,.func (.func g) #[] a] w λe f=>e=.returned (.int .i64 (Lib.idxFunc p true s))/\Below w.heap.size w f:=Any.strings_IndexFunc Tryz.laysGw15 g a c p s w d
def Tryz.laysNm220_ren:Go.Shelf.Ren:=⟨λ|20=>558|n=>n,λ|22=>71|3=>3|4=>4|0=>0|n=>n,λ|n=>n⟩
def Tryz.laysNm220:Go.Proofs.Lays2.n20 Tryz.prog Tryz.laysNm220_ren:={mixed:=by kernel_rfl,f20:=Tryz.func558.trans (aY some (by kernel_rfl)),t0:=Tryz.underlying0,a0:=Tryz.isAgg0,z0:=Tryz.sizeOf0,v0:=Tryz.zeroValue0,t3:=Tryz.underlying3,a3:=Tryz.isAgg3,z3:=Tryz.sizeOf3,v3:=Tryz.zeroValue3,t4:=Tryz.underlying4,a4:=Tryz.isAgg4,z4:=Tryz.sizeOf4,v4:=Tryz.zeroValue4,t22:=Tryz.underlying71,a22:=Tryz.isAgg71,z22:=Tryz.sizeOf71,v22:=Tryz.zeroValue71,i3:=by kernel_rfl}
open Go.RowKit Go.Lib Go.Sort in
def Tryz.slices_Compact_int(b c d:Nat)(a:List Int)(w:World)(f:Holds (Value.int .i64) w b c a.toArray)(g:a.length<=9223372036854775807)(h:a.length<=d):Calls Tryz.prog 558 #[.slice (some ⟨b,c,none⟩) a.length d] w λe i=>e=.returned (.slice (some ⟨b,c,none⟩) (Lib.compact a).length d)/\∃q,i=putRow (Value.int .i64) (Sort.ahead w q) b c (Lib.compact a++List.replicate (a.length-(Lib.compact a).length) 0).toArray:=Any.slices_Compact_int Tryz.laysNm220 b c d a w f g h
def Tryz.lays189_ren:Go.Shelf.Ren:=⟨λ|189=>557|125=>390|257=>629|128=>528|129=>529|294=>659|295=>660|296=>661|297=>662|298=>663|299=>664|216=>509|300=>665|301=>666|328=>693|329=>694|330=>695|331=>696|332=>697|215=>539|343=>719|n=>n,λ|28=>71|3=>3|46=>447|0=>0|51=>560|53=>547|4=>4|183=>649|182=>648|131=>159|5=>5|9=>9|218=>672|222=>676|228=>685|229=>107|n=>n,λ|n=>n⟩
def Tryz.lays189:Go.Proofs.Lays.n189 Tryz.prog Tryz.lays189_ren:={mixed:=by kernel_rfl,f125:=Tryz.func390.trans (aY some (by kernel_rfl)),f128:=Tryz.func528.trans (aY some (by kernel_rfl)),f129:=Tryz.func529.trans (aY some (by kernel_rfl)),f189:=Tryz.func557.trans (aY some (by kernel_rfl)),f215:=Tryz.func539.trans (aY some (by kernel_rfl)),f216:=Tryz.func509.trans (aY some (by kernel_rfl)),f257:=Tryz.func629.trans (aY some (by kernel_rfl)),f294:=Tryz.func659.trans (aY some (by kernel_rfl)),f295:=Tryz.func660.trans (aY some (by kernel_rfl)),f296:=Tryz.func661.trans (aY some (by kernel_rfl)),f297:=Tryz.func662.trans (aY some (by kernel_rfl)),f298:=Tryz.func663.trans (aY some (by kernel_rfl)),f299:=Tryz.func664.trans (aY some (by kernel_rfl)),f300:=Tryz.func665.trans (aY some (by kernel_rfl)),f301:=Tryz.func666.trans (aY some (by kernel_rfl)),f328:=Tryz.func693.trans (aY some (by kernel_rfl)),f329:=Tryz.func694.trans (aY some (by kernel_rfl)),f330:=Tryz.func695.trans (aY some (by kernel_rfl)),f331:=Tryz.func696.trans (aY some (by kernel_rfl)),f332:=Tryz.func697.trans (aY some (by kernel_rfl)),f343:=Tryz.func719.trans (aY some (by kernel_rfl)),t0:=Tryz.underlying0,a0:=Tryz.isAgg0,z0:=Tryz.sizeOf0,v0:=Tryz.zeroValue0,t3:=Tryz.underlying3,a3:=Tryz.isAgg3,z3:=Tryz.sizeOf3,v3:=Tryz.zeroValue3,t4:=Tryz.underlying4,a4:=Tryz.isAgg4,z4:=Tryz.sizeOf4,v4:=Tryz.zeroValue4,t5:=Tryz.underlying5,a5:=Tryz.isAgg5,z5:=Tryz.sizeOf5,v5:=Tryz.zeroValue5,t9:=Tryz.underlying9,a9:=Tryz.isAgg9,z9:=Tryz.sizeOf9,v9:=Tryz.zeroValue9,t28:=Tryz.underlying71,a28:=Tryz.isAgg71,z28:=Tryz.sizeOf71,v28:=Tryz.zeroValue71,t46:=Tryz.underlying447,a46:=Tryz.isAgg447,z46:=Tryz.sizeOf447,v46:=Tryz.zeroValue447,t51:=Tryz.underlying560,a51:=Tryz.isAgg560,z51:=Tryz.sizeOf560,v51:=Tryz.zeroValue560,t53:=Tryz.underlying547,a53:=Tryz.isAgg547,z53:=Tryz.sizeOf547,v53:=Tryz.zeroValue547,t131:=Tryz.underlying159,a131:=Tryz.isAgg159,z131:=Tryz.sizeOf159,v131:=Tryz.zeroValue159,t182:=Tryz.underlying648,a182:=Tryz.isAgg648,z182:=Tryz.sizeOf648,v182:=Tryz.zeroValue648,t183:=Tryz.underlying649,a183:=Tryz.isAgg649,z183:=Tryz.sizeOf649,v183:=Tryz.zeroValue649,t218:=Tryz.underlying672,a218:=Tryz.isAgg672,z218:=Tryz.sizeOf672,v218:=Tryz.zeroValue672,t222:=Tryz.underlying676,a222:=Tryz.isAgg676,z222:=Tryz.sizeOf676,v222:=Tryz.zeroValue676,t228:=Tryz.underlying685,a228:=Tryz.isAgg685,z228:=Tryz.sizeOf685,v228:=Tryz.zeroValue685,t229:=Tryz.underlying107,a229:=Tryz.isAgg107,z229:=Tryz.sizeOf107,v229:=Tryz.zeroValue107}
open Go.Sort Go.RowKit in
def Tryz.slices_Sort_int(a c d:Nat)(b:List Int)(w:World)(f:Holds (Value.int .i64) w a c b.toArray)(g:a<w.heap.size)(h:b.length<4611686018427387904):Calls Tryz.prog 557 #[.slice (some ⟨a,c,none⟩) b.length d] w λe i=>e=.returned (.tuple #[])/\∃n j,i=grow (putRow (Value.int .i64) (Sort.ahead w n) a c (b.mergeSort λx y=>decide (x<=y)).toArray) j:=Any.slices_Sort_int Tryz.lays189 a c d b w f g h
open Go.RowKit Go.Lib Go.Sort in
def Tryz.slices_Compact_int_empty(a:Option Addr)(b:Nat)(w:World):Calls Tryz.prog 558 #[.slice a 0 b] w λe c=>e=.returned (.slice a 0 b)/\c=w:=Any.slices_Compact_int_empty Tryz.laysNm220 a b w
open Go.RowKit Go.Sort in
def Tryz.slices_Sort_int_none(p:Option Addr)(a:Nat)(w:World):Calls Tryz.prog 557 #[.slice p 0 a] w λe b=>e=.returned (.tuple #[])/\b=w:=Any.slices_Sort_int_none Tryz.lays189 p a w
end Go.Proofs
