/- rec: Right: may a record be? -/
import Derived.Test.YtloengjcniefgaaRecS
import Derived.Test.YtloengjcniefgaaRecC
import Derived.BigRegion
namespace Go.Proofs.Ytloengjcniefgaa.Rec
set_option linter.unusedVariables false
set_option linter.unusedSimpArgs false
open Go.RowKit
open Oct (S beN putL U I getI sumN S_size S_data)
theorem Blk18 {W : World} {g : Nat} {T : TypeId} {x0 x1 x2 x3 x4 x5 x6 x7 x8 x9 x10 x11 x12 x13 x14 x15 x16 x17 : Value} (h : Blk W g #[x0, x1, x2, x3, x4, x5, x6, x7, x8, x9, x10, x11, x12, x13, x14, x15, x16, x17] T) :
    W.cell? ⟨g, 0, none⟩ = some x0 ∧ W.cell? ⟨g, 1, none⟩ = some x1 ∧ W.cell? ⟨g, 2, none⟩ = some x2 ∧ W.cell? ⟨g, 3, none⟩ = some x3 ∧ W.cell? ⟨g, 4, none⟩ = some x4 ∧ W.cell? ⟨g, 5, none⟩ = some x5 ∧ W.cell? ⟨g, 6, none⟩ = some x6 ∧ W.cell? ⟨g, 7, none⟩ = some x7 ∧ W.cell? ⟨g, 8, none⟩ = some x8 ∧ W.cell? ⟨g, 9, none⟩ = some x9 ∧ W.cell? ⟨g, 10, none⟩ = some x10 ∧ W.cell? ⟨g, 11, none⟩ = some x11 ∧ W.cell? ⟨g, 12, none⟩ = some x12 ∧ W.cell? ⟨g, 13, none⟩ = some x13 ∧ W.cell? ⟨g, 14, none⟩ = some x14 ∧ W.cell? ⟨g, 15, none⟩ = some x15 ∧ W.cell? ⟨g, 16, none⟩ = some x16 ∧ W.cell? ⟨g, 17, none⟩ = some x17 :=
  ⟨h.cell 0 rfl, h.cell 1 rfl, h.cell 2 rfl, h.cell 3 rfl, h.cell 4 rfl, h.cell 5 rfl, h.cell 6 rfl, h.cell 7 rfl, h.cell 8 rfl, h.cell 9 rfl, h.cell 10 rfl, h.cell 11 rfl, h.cell 12 rfl, h.cell 13 rfl, h.cell 14 rfl, h.cell 15 rfl, h.cell 16 rfl, h.cell 17 rfl⟩
theorem size_rec : (Try.prog.info? 31).map (·.size) = some 18 := by kernel_rfl
/-- A whole record is loaded, in one step. -/
theorem wpList_load18 {ops : Array Oper} {rest : List Oper} {op : Oper} {a : Act} {W : World} {Q : Exit → Act → World → Prop} {g : Nat} {T : TypeId} {x0 x1 x2 x3 x4 x5 x6 x7 x8 x9 x10 x11 x12 x13 x14 x15 x16 x17 : Value} (h : Blk W g #[x0, x1, x2, x3, x4, x5, x6, x7, x8, x9, x10, x11, x12, x13, x14, x15, x16, x17] T)
    (hw : Region.wanted op (yielded ops a.tmps) = true) (x : Operand) (ho : op.op = .load 31 x) (hx : a.eval x = .pointer (some ⟨g, 0, none⟩))
    (hn : wpList Try.prog ops Q rest (a.put op.dst (.agg #[x0, x1, x2, x3, x4, x5, x6, x7, x8, x9, x10, x11, x12, x13, x14, x15, x16, x17])) W) : wpList Try.prog ops Q (op :: rest) a W := by
  refine wpList_step fun K hK => ?_
  rw [if_pos hw]
  exact wp_load_mid 31 x ho g 0 hx [x0, x1, x2, x3, x4, x5, x6, x7, x8, x9, x10, x11, x12, x13, x14, x15, x16, x17] _ (fun j v hj => by
    rw [Nat.zero_add]
    exact h.cell j (by simpa using hj)) Try.underlying31 rfl size_rec (hK _ _ hn)
theorem Free18 {W : World} {g : Nat} {T : TypeId} {cs : Array Value} (h : Blk W g cs T) :
    W.frozen? ⟨g, 0, none⟩ = false ∧ W.frozen? ⟨g, 1, none⟩ = false ∧ W.frozen? ⟨g, 2, none⟩ = false ∧ W.frozen? ⟨g, 3, none⟩ = false ∧ W.frozen? ⟨g, 4, none⟩ = false ∧ W.frozen? ⟨g, 5, none⟩ = false ∧ W.frozen? ⟨g, 6, none⟩ = false ∧ W.frozen? ⟨g, 7, none⟩ = false ∧ W.frozen? ⟨g, 8, none⟩ = false ∧ W.frozen? ⟨g, 9, none⟩ = false ∧ W.frozen? ⟨g, 10, none⟩ = false ∧ W.frozen? ⟨g, 11, none⟩ = false ∧ W.frozen? ⟨g, 12, none⟩ = false ∧ W.frozen? ⟨g, 13, none⟩ = false ∧ W.frozen? ⟨g, 14, none⟩ = false ∧ W.frozen? ⟨g, 15, none⟩ = false ∧ W.frozen? ⟨g, 16, none⟩ = false ∧ W.frozen? ⟨g, 17, none⟩ = false :=
  ⟨h.free 0, h.free 1, h.free 2, h.free 3, h.free 4, h.free 5, h.free 6, h.free 7, h.free 8, h.free 9, h.free 10, h.free 11, h.free 12, h.free 13, h.free 14, h.free 15, h.free 16, h.free 17⟩
theorem Blk5 {W : World} {g : Nat} {T : TypeId} {x0 x1 x2 x3 x4 : Value} (h : Blk W g #[x0, x1, x2, x3, x4] T) :
    W.cell? ⟨g, 0, none⟩ = some x0 ∧ W.cell? ⟨g, 1, none⟩ = some x1 ∧ W.cell? ⟨g, 2, none⟩ = some x2 ∧ W.cell? ⟨g, 3, none⟩ = some x3 ∧ W.cell? ⟨g, 4, none⟩ = some x4 :=
  ⟨h.cell 0 rfl, h.cell 1 rfl, h.cell 2 rfl, h.cell 3 rfl, h.cell 4 rfl⟩
theorem right_eq (r : Rc) (h : isF r.kind = true) : rightR r = ((numB r.lsn && numB r.prev && numB r.txn) && ((!chF r.kind || (pageB r.page && opB r.ok r.os r.old r.new)) && (!hoF r.kind || treeB r.how r.root r.key r.rp r.rs)
    && (!neF r.kind || numB r.next) && (!liF r.kind || listsB r)) && decide (bareR r = r)) := by
  rw [rightR, h]
  simp only [Bool.true_and, Bool.and_assoc]

end Go.Proofs.Ytloengjcniefgaa.Rec
