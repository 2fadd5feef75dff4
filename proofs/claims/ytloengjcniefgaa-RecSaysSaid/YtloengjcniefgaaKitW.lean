/- Blocks whose cells are known; what becomes of them. Over any program. -/
import Derived.Test.YtloengjcniefgaaKit
import Derived.Maps.AppendAt
namespace Go.Proofs.Ytloengjcniefgaa
set_option linter.unusedVariables false
set_option linter.unusedSimpArgs false
open Go.RowKit
/-- Block g: these cells, of this type, none of them marked. -/
def Blk (w : World) (g : Nat) (cs : Array Value) (T : TypeId) : Prop := w.heap[g]? = some (.cells cs T (0, 0))
theorem Blk.cell {w : World} {g : Nat} {cs : Array Value} {T : TypeId} (h : Blk w g cs T) (j : Nat) {v : Value} (hj : cs[j]? = some v) : w.cell? ⟨g, j, none⟩ = some v := by
  unfold Blk at h; simp [World.cell?, h, hj]
theorem Blk.free {w : World} {g : Nat} {cs : Array Value} {T : TypeId} (h : Blk w g cs T) (j : Nat) : w.frozen? ⟨g, j, none⟩ = false := by
  unfold Blk at h; simp [World.frozen?, h]
theorem Blk.lt {w : World} {g : Nat} {cs : Array Value} {T : TypeId} (h : Blk w g cs T) : g < w.heap.size := (Array.getElem?_eq_some_iff.1 h).1
theorem Blk.new (w : World) (cs : Array Value) (T : TypeId) : Blk (w.alloc (.cells cs T)) w.heap.size cs T := by
  show (w.heap.push _)[w.heap.size]? = _
  simp
theorem Blk.below {w w1 : World} {g : Nat} {cs : Array Value} {T : TypeId} (h : Blk w g cs T) (hb : Below w.heap.size w w1) : Blk w1 g cs T := (hb.block g h.lt).trans h
theorem Blk.belowB {w w1 : World} {B g : Nat} {cs : Array Value} {T : TypeId} (h : Blk w g cs T) (hb : Below B w w1) (hg : g < B) : Blk w1 g cs T := (hb.block g hg).trans h
theorem Blk.alloc {w : World} {g : Nat} {cs : Array Value} {T : TypeId} (h : Blk w g cs T) (o : Obj) : Blk (w.alloc o) g cs T := h.below ((Below.refl _ _).alloc (Nat.le_refl _) o)
theorem Blk.drew {w : World} {g : Nat} {cs : Array Value} {T : TypeId} (h : Blk w g cs T) : Blk w.drew g cs T := h
theorem Blk.grown {w w1 : World} {g : Nat} {cs : Array Value} {T : TypeId} {r : Option Nat} (h : Blk w g cs T) (hg : w.grownBy w1 r) (hne : some g ≠ r) : Blk w1 g cs T := (hg.block g h.lt hne).trans h
theorem Blk.set {w : World} {g : Nat} {cs : Array Value} {T : TypeId} (h : Blk w g cs T) (o : Nat) (v : Value) : Blk (w.setCell ⟨g, o, none⟩ v) g (cs.setIfInBounds o v) T := by
  unfold Blk at *; simp [World.setCell, Array.getElem?_modify, h]
theorem Blk.other {w : World} {g : Nat} {cs : Array Value} {T : TypeId} (h : Blk w g cs T) {a : Addr} (ha : g ≠ a.block) (v : Value) : Blk (w.setCell a v) g cs T := (Below.heap_setCell w a v g ha).trans h
theorem Blk.val {w : World} {R T : Nat} {k n : Int} {s : ByteArray} (h : Blk w R #[.int .i64 k, .int .i64 n, .string s] T) :
    w.cell? ⟨R, 0, none⟩ = some (.int .i64 k) ∧ w.cell? ⟨R, 1, none⟩ = some (.int .i64 n) ∧ w.cell? ⟨R, 2, none⟩ = some (.string s) ∧ w.frozen? ⟨R, 0, none⟩ = false ∧ w.frozen? ⟨R, 1, none⟩ = false ∧ w.frozen? ⟨R, 2, none⟩ = false :=
  ⟨h.cell 0 rfl, h.cell 1 rfl, h.cell 2 rfl, h.free 0, h.free 1, h.free 2⟩
theorem grownBy_below' {w w1 : World} (h : Below w.heap.size w w1) : w.grownBy w1 none := ⟨h.os, h.tape, h.output, h.size, fun k hk _ => h.block k hk⟩
theorem cell_alloc {w : World} {a : Addr} {v : Value} (h : w.cell? a = some v) (o : Obj) : (w.alloc o).cell? a = some v :=
  (World.grownBy_alloc w o none).cell h (by simp)
theorem cell_below {w w1 : World} {a : Addr} {v : Value} (h : w.cell? a = some v) (hb : Below w.heap.size w w1) : w1.cell? a = some v :=
  (grownBy_below' hb).cell h (by simp)
theorem grownBy_set (w : World) (g o : Nat) (v : Value) : w.grownBy (w.setCell ⟨g, o, none⟩ v) (some g) :=
  ⟨rfl, rfl, rfl, by simp [World.setCell], fun k hk hne => Below.heap_setCell _ _ _ _ (fun e => hne (by rw [e]))⟩
theorem grownBy_drewN (w : World) (n : Nat) (r : Option Nat) : w.grownBy (w.drewN n) r := ⟨rfl, rfl, rfl, Nat.le_refl _, fun _ _ _ => rfl⟩
theorem grownBy_below {w w1 : World} (h : Below w.heap.size w w1) (r : Option Nat) : w.grownBy w1 r := ⟨h.os, h.tape, h.output, h.size, fun k hk _ => h.block k hk⟩
theorem grownBy_next {w w1 w2 : World} {r : Option Nat} {B : Nat} (h : w.grownBy w1 r) (hb : Below B w1 w2) (hB : w.heap.size ≤ B) : w.grownBy w2 r :=
  ⟨hb.os.trans h.os, hb.tape.trans h.tape, hb.output.trans h.output, Nat.le_trans h.size hb.size, fun k hk hne => (hb.block k (by omega)).trans (h.block k hk hne)⟩
theorem grownBy_new {w w1 : World} {r : Option Nat} (h : w.grownBy w1 r) (o : Obj) : w.grownBy (w1.alloc o) r := h.trans (World.grownBy_alloc _ _ _)
theorem grownBy_setNew {w w1 : World} {r : Option Nat} (h : w.grownBy w1 r) {a : Addr} (ha : w.heap.size ≤ a.block) (v : Value) : w.grownBy (w1.setCell a v) r :=
  grownBy_next (B := a.block) h ((Below.refl _ _).setCell (Nat.le_refl _) v) ha
theorem Below.ofGrown {w w1 w2 : World} {B : Nat} {g : Nat} (h : Below B w w1) (hg : w1.grownBy w2 (some g)) (hB : B ≤ g) (hs : B ≤ w1.heap.size) : Below B w w2 := h.grown hg hs (fun k hk => by injection hk with hk; omega)
end Go.Proofs.Ytloengjcniefgaa
