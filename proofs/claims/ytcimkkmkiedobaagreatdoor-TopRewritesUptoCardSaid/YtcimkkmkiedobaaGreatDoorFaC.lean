/- TopRewrites: a part of the proof. -/
import Derived.Test.YtcimkkmkiedobaaGreatDoorRows
import Derived.KernelRfl
import Derived.JoinedOf
namespace Go.Proofs.YtcimkkmkiedobaaGreatDoor
set_option maxRecDepth 100000
set_option linter.all false
theorem tsz:Tryz.prog.types.size=712:=by kernel_rfl
theorem r0:(List.range' 0 120).all (rowFine Tryz.prog)=true:=by kernel_rfl
theorem r1:(List.range' 120 120).all (rowFine Tryz.prog)=true:=by kernel_rfl
theorem r2:(List.range' 240 120).all (rowFine Tryz.prog)=true:=by kernel_rfl
theorem r3:(List.range' 360 120).all (rowFine Tryz.prog)=true:=by kernel_rfl
theorem r4:(List.range' 480 120).all (rowFine Tryz.prog)=true:=by kernel_rfl
theorem r5:(List.range' 600 112).all (rowFine Tryz.prog)=true:=by kernel_rfl
theorem gl:Tryz.prog.globals.all (fun g=>decide (g.type<712))=true:=by kernel_rfl
theorem fn:Tryz.prog.funcs.all (fun f=>f.params.all fun t=>decide (t<712))=true:=by kernel_rfl
theorem in_chunk {p:Nat->Bool} {a n t:Nat} (h:(List.range' a n).all p=true) (h1:a<=t) (h2:t<a+n):p t=true:=List.all_eq_true.1 h t (List.mem_range'_1.2 ⟨h1,h2⟩)
theorem laidOut:laidOutB Tryz.prog=true:=by
 unfold laidOutB
 rw[tsz,gl,fn,Bool.and_true,Bool.and_true,List.all_eq_true]
 intro t ht
 have ht:=List.mem_range.1 ht
 rcases Nat.lt_or_ge t 120 with h|h
 ·exact in_chunk r0 (by omega) (by omega)
 rcases Nat.lt_or_ge t 240 with h|h
 ·exact in_chunk r1 (by omega) (by omega)
 rcases Nat.lt_or_ge t 360 with h|h
 ·exact in_chunk r2 (by omega) (by omega)
 rcases Nat.lt_or_ge t 480 with h|h
 ·exact in_chunk r3 (by omega) (by omega)
 rcases Nat.lt_or_ge t 600 with h|h
 ·exact in_chunk r4 (by omega) (by omega)
 exact in_chunk r5 (by omega) (by omega)
end Go.Proofs.YtcimkkmkiedobaaGreatDoor
