/- rec: the reader's lists: the loops' states. -/
import Derived.Test.YtloengjcniefgaaRecJ
import Derived.Deep.AppendLies
namespace Go.Proofs.Ytloengjcniefgaa.Rec
set_option linter.unusedVariables false
set_option linter.unusedSimpArgs false
open Go.RowKit Go.Sort
open Oct (S beN putL U I getI sumN S_size S_data)
theorem info_tx : (Try.prog.info? 67).map (fun i => (i.zero, i.size, i.bytes)) = some (some (.agg #[.int .i64 0, .int .i64 0, .int .i64 0, .bool false]), 4, 32) := by kernel_rfl
theorem info_dy : (Try.prog.info? 71).map (fun i => (i.zero, i.size, i.bytes)) = some (some (.agg #[.int .i64 0, .int .i64 0]), 2, 16) := by kernel_rfl
theorem numF_two (l : List UInt8) (p : Rd) : ∃ r : Nat, (numF l p 2).1 = (r : Int) ∧ r < 65536 := by
  simp only [numF, getR]
  split
  · have h := beN_two l p.1
    refine ⟨_, ?_, h⟩
    simp only [getI, Int.toNat_natCast]
    rw [Oct.I_small _ (by omega)]
  · exact ⟨0, rfl, by omega⟩
theorem row_slice {w : World} {B e k n : Nat} {v : Value} {xs : List Value} (h : w.ownsRow B e k v n xs) : ∃ ao m cap, v = .slice ao m cap := by
  rcases h.2 with ⟨hv, _⟩ | ⟨g, cap, cur, hv, _⟩
  · exact ⟨_, _, _, hv⟩
  · exact ⟨_, _, _, hv⟩
variable {w W : World} {g gr gx gf m : Nat} {l : List UInt8} {s : ByteArray} {p : Rd} {xs fs : Array Value}
theorem RS.far (h : RS w W g gr gx gf l s p m xs fs) {w' : World} {r : Option Nat} (h2 : W.grownBy w' r) (h3 : ∀ k, r = some k → gf < k) : RS w w' g gr gx gf l s p m xs fs := by
  have hg := h.hg; have e1 := h.h1; have e2 := h.h2; have e3 := h.h3
  refine ⟨h.rd.grown h2 (fun e => by have := h3 _ e.symm; omega), h.res.grown h2 (fun e => by have := h3 _ e.symm; omega), h.x.grown h2 (fun e => by have := h3 _ e.symm; omega), h.f.grown h2 (fun e => by have := h3 _ e.symm; omega), ?_, h.hg, h.h1, h.h2, h.h3, h.le, h.hsl, h.hl⟩
  refine ⟨h2.os.trans h.fr.os, h2.tape.trans h.fr.tape, h2.output.trans h.fr.output, Nat.le_trans h.fr.size h2.size, fun k hk hne => ?_⟩
  rw [h2.block k (Nat.lt_of_lt_of_le hk h.fr.size) (fun e => by have := h3 _ e.symm; omega)]
  exact h.fr.block k hk hne
structure LT (w W : World) (g gr gx gf : Nat) (l : List UInt8) (s : ByteArray) (p : Rd) (m : Nat) (xs fs : Array Value) (B : Nat) (v : Value) (acc : List Tx) : Prop where
  r : RS w W g gr gx gf l s p m xs fs
  own : W.ownsRow B 67 4 v acc.length (txC acc).flatten
  hq : gf < B
  hB : B ≤ W.heap.size
theorem LT.num {B : Nat} {v : Value} {acc : List Tx} (h : LT w W g gr gx gf l s p m xs fs B v acc) (hm : m ≤ 4000000) (k : Nat) (sz : Int) (hk : sz = k) (h8 : k ≤ 8) (q : Int × Rd) (hq : numF l p k = q) :
    Calls Try.prog 56 #[.pointer (some ⟨g, 0, none⟩), .int .i64 sz] W fun e w' => e = .returned (.int .i64 q.1) ∧ LT w w' g gr gx gf l s q.2 (m + 8) xs fs B v acc := by
  refine (h.r.num hm k sz hk h8 q hq).mono ?_
  rintro e w' ⟨he, h1, h2⟩
  have a1 := h.hq; have a2 := h.r.hg; have a3 := h.r.h1; have a4 := h.r.h2; have a5 := h.r.h3
  refine ⟨he, h1, h.own.kept h2 (.inr fun e => ?_), h.hq, Nat.le_trans h.hB h2.size⟩
  have := (h.own.lt _ e).1
  omega
theorem LT.drew {B : Nat} {v : Value} {acc : List Tx} (h : LT w W g gr gx gf l s p m xs fs B v acc) : LT w W.drew g gr gx gf l s p m xs fs B v acc :=
  ⟨h.r.drew, h.own.kept (row := none) (grownBy_drewN W 1 none) (by cases v.ownBlock <;> simp), h.hq, h.hB⟩
theorem LT.alloc {B : Nat} {v : Value} {acc : List Tx} (h : LT w W g gr gx gf l s p m xs fs B v acc) (o : Obj) : LT w (W.alloc o) g gr gx gf l s p m xs fs B v acc :=
  ⟨h.r.alloc o, h.own.alloc o, h.hq, Nat.le_trans h.hB (by simp)⟩
theorem LT.lower {B : Nat} {v : Value} {acc : List Tx} (h : LT w W g gr gx gf l s p m xs fs B v acc) {m2 : Nat} (hm : p.1 ≤ m2) : LT w W g gr gx gf l s p m2 xs fs B v acc := ⟨h.r.lower hm, h.own, h.hq, h.hB⟩
theorem LT.app {B : Nat} {v : Value} {acc : List Tx} (h : LT w W g gr gx gf l s p m xs fs B v acc) (t : Tx) {w6 : World} {gg cap : Nat} (hown : w6.ownsRow B 67 4 (.slice (some ⟨gg, 0, none⟩) (acc.length + 1) cap) (acc.length + 1) ((txC acc).flatten ++ t.cells)) (hg : W.grownBy w6 v.ownBlock) :
    Blk w6 gx xs 31 ∧ LT w (w6.setCell ⟨gx, 16, none⟩ (.slice (some ⟨gg, 0, none⟩) (acc.length + 1) cap)) g gr gx gf l s p m (xs.setIfInBounds 16 (.slice (some ⟨gg, 0, none⟩) (acc.length + 1) cap)) fs B (.slice (some ⟨gg, 0, none⟩) (acc.length + 1) cap) (acc ++ [t]) := by
  have a1 := h.hq; have a2 := h.r.hg; have a3 := h.r.h1; have a4 := h.r.h2; have a5 := h.r.h3
  have hr := h.r.far hg (fun k e => by have := (h.own.lt _ e).1; omega)
  refine ⟨hr.x, hr.setX 16 _, ?_, h.hq, Nat.le_trans h.hB (Nat.le_trans hg.size (by simp))⟩
  have hgg := (hown.lt gg rfl).1
  have := ownsRow_setCell_other hown (a := ⟨gx, 16, none⟩) (fun e => absurd (show gg = gx from by injection e) (by omega)) (.slice (some ⟨gg, 0, none⟩) (acc.length + 1) cap)
  rw [txC_snoc, flatten_snoc, List.length_append]
  exact this
structure LD (w W : World) (g gr gx gf : Nat) (l : List UInt8) (s : ByteArray) (p : Rd) (m : Nat) (xs fs : Array Value) (B0 : Nat) (v0 : Value) (ts : List Tx) (B : Nat) (v : Value) (acc : List Dy) : Prop where
  r : RS w W g gr gx gf l s p m xs fs
  own0 : W.ownsRow B0 67 4 v0 ts.length (txC ts).flatten
  hq0 : gf < B0
  lt0 : ∀ k, v0.ownBlock = some k → k < B
  own : W.ownsRow B 71 2 v acc.length (dyC acc).flatten
  hq : gf < B
  hB : B ≤ W.heap.size
theorem LD.num {B0 B : Nat} {v0 v : Value} {ts : List Tx} {acc : List Dy} (h : LD w W g gr gx gf l s p m xs fs B0 v0 ts B v acc) (hm : m ≤ 4000000) (k : Nat) (sz : Int) (hk : sz = k) (h8 : k ≤ 8) (q : Int × Rd) (hq : numF l p k = q) :
    Calls Try.prog 56 #[.pointer (some ⟨g, 0, none⟩), .int .i64 sz] W fun e w' => e = .returned (.int .i64 q.1) ∧ LD w w' g gr gx gf l s q.2 (m + 8) xs fs B0 v0 ts B v acc := by
  refine (h.r.num hm k sz hk h8 q hq).mono ?_
  rintro e w' ⟨he, h1, h2⟩
  have a0 := h.hq0; have a1 := h.hq; have a2 := h.r.hg; have a3 := h.r.h1; have a4 := h.r.h2; have a5 := h.r.h3
  refine ⟨he, h1, h.own0.kept h2 (.inr fun e => ?_), h.hq0, h.lt0, h.own.kept h2 (.inr fun e => ?_), h.hq, Nat.le_trans h.hB h2.size⟩
  · have := (h.own0.lt _ e).1
    omega
  · have := (h.own.lt _ e).1
    omega
theorem LD.drew {B0 B : Nat} {v0 v : Value} {ts : List Tx} {acc : List Dy} (h : LD w W g gr gx gf l s p m xs fs B0 v0 ts B v acc) : LD w W.drew g gr gx gf l s p m xs fs B0 v0 ts B v acc :=
  ⟨h.r.drew, h.own0.kept (row := none) (grownBy_drewN W 1 none) (by cases v0.ownBlock <;> simp), h.hq0, h.lt0, h.own.kept (row := none) (grownBy_drewN W 1 none) (by cases v.ownBlock <;> simp), h.hq, h.hB⟩
theorem LD.alloc {B0 B : Nat} {v0 v : Value} {ts : List Tx} {acc : List Dy} (h : LD w W g gr gx gf l s p m xs fs B0 v0 ts B v acc) (o : Obj) : LD w (W.alloc o) g gr gx gf l s p m xs fs B0 v0 ts B v acc :=
  ⟨h.r.alloc o, h.own0.alloc o, h.hq0, h.lt0, h.own.alloc o, h.hq, Nat.le_trans h.hB (by simp)⟩
theorem LD.lower {B0 B : Nat} {v0 v : Value} {ts : List Tx} {acc : List Dy} (h : LD w W g gr gx gf l s p m xs fs B0 v0 ts B v acc) {m2 : Nat} (hm : p.1 ≤ m2) : LD w W g gr gx gf l s p m2 xs fs B0 v0 ts B v acc := ⟨h.r.lower hm, h.own0, h.hq0, h.lt0, h.own, h.hq, h.hB⟩
theorem LD.app {B0 B : Nat} {v0 v : Value} {ts : List Tx} {acc : List Dy} (h : LD w W g gr gx gf l s p m xs fs B0 v0 ts B v acc) (t : Dy) {w6 : World} {gg cap : Nat} (hown : w6.ownsRow B 71 2 (.slice (some ⟨gg, 0, none⟩) (acc.length + 1) cap) (acc.length + 1) ((dyC acc).flatten ++ t.cells)) (hg : W.grownBy w6 v.ownBlock) :
    Blk w6 gx xs 31 ∧ LD w (w6.setCell ⟨gx, 17, none⟩ (.slice (some ⟨gg, 0, none⟩) (acc.length + 1) cap)) g gr gx gf l s p m (xs.setIfInBounds 17 (.slice (some ⟨gg, 0, none⟩) (acc.length + 1) cap)) fs B0 v0 ts B (.slice (some ⟨gg, 0, none⟩) (acc.length + 1) cap) (acc ++ [t]) := by
  have a0 := h.hq0; have a1 := h.hq; have a2 := h.r.hg; have a3 := h.r.h1; have a4 := h.r.h2; have a5 := h.r.h3
  have hr := h.r.far hg (fun k e => by have := (h.own.lt _ e).1; omega)
  have h0 := h.own0.kept hg (by
    cases e : v0.ownBlock with
    | none => exact .inl rfl
    | some k =>
      refine .inr fun e2 => ?_
      have := h.lt0 k e
      have := (h.own.lt k (by rw [← e2])).1
      omega)
  refine ⟨hr.x, hr.setX 17 _, ownsRow_setCell_other h0 (a := ⟨gx, 17, none⟩) (fun e => by have h9 := (h0.lt _ e).1; change B0 ≤ gx at h9; omega) _, h.hq0, h.lt0, ?_, h.hq, Nat.le_trans h.hB (Nat.le_trans hg.size (by simp))⟩
  have hgg := (hown.lt gg rfl).1
  have := ownsRow_setCell_other hown (a := ⟨gx, 17, none⟩) (fun e => absurd (show gg = gx from by injection e) (by omega)) (.slice (some ⟨gg, 0, none⟩) (acc.length + 1) cap)
  rw [dyC_snoc, flatten_snoc, List.length_append]
  exact this
end Go.Proofs.Ytloengjcniefgaa.Rec
