/- rec: forms, of: what they answer. -/
import Derived.Test.YtloengjcniefgaaRecW
import Derived.Deep.CutRange
import Derived.Deep.CutBlock
import Derived.Deep.MidRow
namespace Go.Proofs.Ytloengjcniefgaa.Rec
set_option linter.unusedVariables false
set_option linter.unusedSimpArgs false
open Go.RowKit
open Oct (S beN putL U I getI sumN S_size S_data)
def formV (k : Int) : Value := .agg #[.bool (chF k), .bool (hoF k), .bool (neF k), .bool (liF k), .bool (isF k)]
theorem form_out (k : Int) (h : k < 0 ∨ 9 < k) : chF k = false ∧ hoF k = false ∧ neF k = false ∧ liF k = false ∧ isF k = false := by
  refine ⟨?_, ?_, ?_, ?_, ?_⟩ <;> simp [chF, hoF, neF, liF, isF] <;> omega
theorem formV_out (k : Int) (h : k < 0 ∨ 9 < k) : formV k = .agg #[.bool false, .bool false, .bool false, .bool false, .bool false] ∧ isF k = false := by
  obtain ⟨a, b, c, d, e⟩ := form_out k h
  rw [formV, a, b, c, d, e]
  exact ⟨rfl, rfl⟩
set_option maxHeartbeats 1000000 in
set_option maxRecDepth 100000 in
theorem of_out (k : Int) (w : World) (h : k < 0 ∨ 9 < k) : Calls Try.prog 28 #[.int .i64 k] w (Ret (.tuple #[formV k, .bool (isF k)]) w) := by
  rw [(formV_out k h).1, (formV_out k h).2]
  by_cases h0 : k < 0
  · clear h
    go_enter Try.func28, Try.ntmps28
    go_wp2_with fail
    exact bodyPost_ret (v := .tuple #[.agg #[.bool false, .bool false, .bool false, .bool false, .bool false], .bool false]) (by simp [results, Try.results28, go_sem]) rfl ⟨rfl, (Below.refl _ _).alloc (Nat.le_refl _) _⟩
  · have h1 : 9 < k := by omega
    clear h
    go_enter Try.func28, Try.ntmps28
    go_wp2_with fail
    exact bodyPost_ret (v := .tuple #[.agg #[.bool false, .bool false, .bool false, .bool false, .bool false], .bool false]) (by simp [results, Try.results28, go_sem]) rfl ⟨rfl, (Below.refl _ _).alloc (Nat.le_refl _) _⟩
def formsA : Array Value := #[.bool false, .bool false, .bool false, .bool false, .bool false, .bool false, .bool false, .bool false, .bool false, .bool true, .bool true, .bool true, .bool false, .bool false, .bool true, .bool true, .bool false, .bool true, .bool false, .bool true, .bool false, .bool false, .bool true, .bool false, .bool true, .bool false, .bool false, .bool false, .bool false, .bool true, .bool false, .bool false, .bool false, .bool false, .bool true, .bool false, .bool false, .bool false, .bool false, .bool true, .bool true, .bool false, .bool false, .bool false, .bool true, .bool false, .bool false, .bool false, .bool true, .bool true]
theorem wpList_buildC {P : Program} {ops : Array Oper} {rest : List Oper} {o : Oper} {a : Act} {w : World} {Q : Exit → Act → World → Prop} (hg : o.guard = none) (t : TypeId) (parts : Array (Nat × Operand)) (ho : o.op = .build t parts) (cells : Array Value)
    (hc : P.built t (parts.map fun (i, x) => (i, a.eval x)).toList = some cells) (h : wpList P ops Q rest (a.put o.dst (.agg cells)) w) : wpList P ops Q (o :: rest) a w :=
  wpList_build hg t parts ho (by rw [hc]; rfl) (by rw [hc]; exact h)
def formsZ : Array Value := Array.replicate 50 (.bool false)
theorem formsZ_eq : #[.bool false, .bool false, .bool false, .bool false, .bool false, .bool false, .bool false, .bool false, .bool false, .bool false, .bool false, .bool false, .bool false, .bool false, .bool false, .bool false, .bool false, .bool false, .bool false, .bool false, .bool false, .bool false, .bool false, .bool false, .bool false, .bool false, .bool false, .bool false, .bool false, .bool false, .bool false, .bool false, .bool false, .bool false, .bool false, .bool false, .bool false, .bool false, .bool false, .bool false, .bool false, .bool false, .bool false, .bool false, .bool false, .bool false, .bool false, .bool false, .bool false, .bool false] = formsZ := by kernel_rfl
theorem forms_size : (Try.prog.info? 97).map (·.size) = some 50 := by kernel_rfl
theorem formsA_size : formsA.size = 50 := by kernel_rfl
theorem formsA_one : formsA.all (·.oneCell') = true := by kernel_rfl
theorem forms_store (w : World) : ∃ W, (storeCells ⟨w.heap.size, 0, none⟩ formsA.toList 0).run Try.prog (w.alloc (.cells formsZ 97)) = .ok () W ∧ Below w.heap.size w W ∧ Blk W w.heap.size formsA 97 := by
  have hsz := formsA_size
  refine ⟨_, run_storeCells_from w.heap.size 97 formsA.toList 0 formsZ _ (Blk.new w formsZ 97) (by rw [Nat.zero_add, Array.length_toList, hsz]; simp [formsZ]) ?_, ?_, ?_⟩
  · intro v hv
    have := formsA_one
    rw [Array.all_eq_true_iff_forall_mem] at this
    exact this v (by simpa using hv)
  · simp only [List.take_zero, List.nil_append, Array.toArray_toList]
    refine ⟨rfl, rfl, rfl, by simp, fun k hk => ?_⟩
    rw [setRow_other _ _ _ _ (by omega)]
    exact ((Below.refl w.heap.size w).alloc (Nat.le_refl _) _).block k hk
  · simp only [List.take_zero, List.nil_append, Array.toArray_toList]
    exact setRow_heap _ _ formsZ _ _ _ (Blk.new w formsZ 97)
theorem forms_load {W : World} {g : Nat} (h : Blk W g formsA 97) : (loadVar 97 ⟨g, 0, none⟩).run Try.prog W = .ok (.agg formsA) W := by
  have hl : formsA.toList.length = 50 := by kernel_rfl
  have := run_loadVar_mid (P := Try.prog) W g 0 97 formsA.toList _ (fun j v hj => by
    rw [Nat.zero_add]
    exact h.cell j (by simpa using hj)) Try.underlying97 rfl (by rw [hl]; exact forms_size)
  simpa using this
set_option maxHeartbeats 4000000 in
set_option maxRecDepth 100000 in
theorem forms_any (w : World) : Calls Try.prog 63 #[] w (Ret (.agg formsA) w) := by
  obtain ⟨W, hst, hb, hblk⟩ := forms_store w
  have HST := Lib.hid hst
  have hfs := formsA_size
  clear hst
  go_enter Try.func63, Try.ntmps63
  go_upto_region 1 with fail
  rw [formsZ_eq]
  go_wp2_with (with_reducible refine wpList_buildC rfl 97 _ rfl formsA (by kernel_rfl) ?_)
  rw [HST.out]
  simp only [Result.andThen]
  rw [Oper.upon_skip]
  go_wp2_with fail
  have HLD := forms_load hblk
  refine bodyPost_ret (v := .agg formsA) ?_ rfl ⟨rfl, hb⟩
  simp [results, Try.results63, asAddr, Act.put, HLD]
theorem forms_at0 (W : World) : (Instr.index 97 (.agg formsA) (.int .i64 0)).run Try.prog W = .ok (formV 0) W := by kernel_rfl
theorem forms_at1 (W : World) : (Instr.index 97 (.agg formsA) (.int .i64 1)).run Try.prog W = .ok (formV 1) W := by kernel_rfl
theorem forms_at2 (W : World) : (Instr.index 97 (.agg formsA) (.int .i64 2)).run Try.prog W = .ok (formV 2) W := by kernel_rfl
theorem forms_at3 (W : World) : (Instr.index 97 (.agg formsA) (.int .i64 3)).run Try.prog W = .ok (formV 3) W := by kernel_rfl
theorem forms_at4 (W : World) : (Instr.index 97 (.agg formsA) (.int .i64 4)).run Try.prog W = .ok (formV 4) W := by kernel_rfl
theorem forms_at5 (W : World) : (Instr.index 97 (.agg formsA) (.int .i64 5)).run Try.prog W = .ok (formV 5) W := by kernel_rfl
theorem forms_at6 (W : World) : (Instr.index 97 (.agg formsA) (.int .i64 6)).run Try.prog W = .ok (formV 6) W := by kernel_rfl
theorem forms_at7 (W : World) : (Instr.index 97 (.agg formsA) (.int .i64 7)).run Try.prog W = .ok (formV 7) W := by kernel_rfl
theorem forms_at8 (W : World) : (Instr.index 97 (.agg formsA) (.int .i64 8)).run Try.prog W = .ok (formV 8) W := by kernel_rfl
theorem forms_at9 (W : World) : (Instr.index 97 (.agg formsA) (.int .i64 9)).run Try.prog W = .ok (formV 9) W := by kernel_rfl
set_option maxHeartbeats 1000000 in
set_option maxRecDepth 100000 in
theorem of_in (k : Int) (b0 b1 b2 b3 b4 : Bool) (w : World) (h0 : 0 ≤ k) (h9 : k ≤ 9) (HI : ∀ W : World, (Instr.index 97 (.agg formsA) (.int .i64 k)).run Try.prog W = .ok (.agg #[.bool b0, .bool b1, .bool b2, .bool b3, .bool b4]) W) :
    Calls Try.prog 28 #[.int .i64 k] w (Ret (.tuple #[.agg #[.bool b0, .bool b1, .bool b2, .bool b3, .bool b4], .bool b4]) w) := by
  have hB := (Below.refl w.heap.size w).alloc (Nat.le_refl _) (.cells #[.bool false, .bool false, .bool false, .bool false, .bool false] 60)
  have hN := Blk.new w #[.bool false, .bool false, .bool false, .bool false, .bool false] 60
  go_enter Try.func28, Try.ntmps28
  go_wp2_with fail
  refine (forms_any _).mono ?_
  rintro e w1 ⟨rfl, hb1⟩
  have hN1 := (hN.below hb1).alloc (.cells #[.bool b0, .bool b1, .bool b2, .bool b3, .bool b4] 60)
  have hM := Blk.new w1 #[.bool b0, .bool b1, .bool b2, .bool b3, .bool b4] 60
  have hb2 : Below w.heap.size w w1 := hB.trans (hb1.mono (by simp))
  have hb3 := hb2.alloc hb2.size (.cells #[.bool b0, .bool b1, .bool b2, .bool b3, .bool b4] 60)
  have hlt : w.heap.size < w1.heap.size := by have := hb1.size; simp at this; omega
  clear hN hB hb1 hb2
  go_wp2_with fail
  generalize (w1.alloc (.cells #[.bool b0, .bool b1, .bool b2, .bool b3, .bool b4] 60)) = W at *
  have f0 := hN1.free 0
  have f1 := hN1.free 1
  have f2 := hN1.free 2
  have f3 := hN1.free 3
  have f4 := hN1.free 4
  have d0 : W.cell? ⟨w.heap.size, 0, none⟩ = some (.bool false) := hN1.cell 0 rfl
  have d1 : W.cell? ⟨w.heap.size, 1, none⟩ = some (.bool false) := hN1.cell 1 rfl
  have d2 : W.cell? ⟨w.heap.size, 2, none⟩ = some (.bool false) := hN1.cell 2 rfl
  have d3 : W.cell? ⟨w.heap.size, 3, none⟩ = some (.bool false) := hN1.cell 3 rfl
  have d4 : W.cell? ⟨w.heap.size, 4, none⟩ = some (.bool false) := hN1.cell 4 rfl
  have c0 : W.cell? ⟨w1.heap.size, 0, none⟩ = some (.bool b0) := hM.cell 0 rfl
  have c1 : W.cell? ⟨w1.heap.size, 1, none⟩ = some (.bool b1) := hM.cell 1 rfl
  have c2 : W.cell? ⟨w1.heap.size, 2, none⟩ = some (.bool b2) := hM.cell 2 rfl
  have c3 : W.cell? ⟨w1.heap.size, 3, none⟩ = some (.bool b3) := hM.cell 3 rfl
  have c4 : W.cell? ⟨w1.heap.size, 4, none⟩ = some (.bool b4) := hM.cell 4 rfl
  have hne : w.heap.size ≠ w1.heap.size := by omega
  have hne2 : w1.heap.size ≠ w.heap.size := by omega
  go_region
  all_goals (try go_wp2)
  have hZ := (((((hN1.set 0 (.bool b0)).set 1 (.bool b1)).set 2 (.bool b2)).set 3 (.bool b3)).set 4 (.bool b4)).drew
  have z0 := hZ.cell 0 (v := .bool b0) rfl
  have z1 := hZ.cell 1 (v := .bool b1) rfl
  have z2 := hZ.cell 2 (v := .bool b2) rfl
  have z3 := hZ.cell 3 (v := .bool b3) rfl
  have z4 := hZ.cell 4 (v := .bool b4) rfl
  have hbz := (((((hb3.setCell (p := ⟨w.heap.size, 0, none⟩) (Nat.le_refl _) (.bool b0)).setCell (p := ⟨w.heap.size, 1, none⟩) (Nat.le_refl _) (.bool b1)).setCell (p := ⟨w.heap.size, 2, none⟩) (Nat.le_refl _) (.bool b2)).setCell (p := ⟨w.heap.size, 3, none⟩) (Nat.le_refl _) (.bool b3)).setCell (p := ⟨w.heap.size, 4, none⟩) (Nat.le_refl _) (.bool b4)).drew
  exact bodyPost_ret (v := .tuple #[.agg #[.bool b0, .bool b1, .bool b2, .bool b3, .bool b4], .bool b4]) (by simp [results, Try.results28, go_sem, z0, z1, z2, z3, z4]) rfl ⟨rfl, hbz⟩
theorem of_any (k : Int) (w : World) : Calls Try.prog 28 #[.int .i64 k] w (Ret (.tuple #[formV k, .bool (isF k)]) w) := by
  by_cases h : k < 0 ∨ 9 < k
  · exact of_out k w h
  · refine of_in k _ _ _ _ _ w (by omega) (by omega) ?_
    obtain rfl | rfl | rfl | rfl | rfl | rfl | rfl | rfl | rfl | rfl : k = 0 ∨ k = 1 ∨ k = 2 ∨ k = 3 ∨ k = 4 ∨ k = 5 ∨ k = 6 ∨ k = 7 ∨ k = 8 ∨ k = 9 := by omega
    · exact forms_at0
    · exact forms_at1
    · exact forms_at2
    · exact forms_at3
    · exact forms_at4
    · exact forms_at5
    · exact forms_at6
    · exact forms_at7
    · exact forms_at8
    · exact forms_at9
end Go.Proofs.Ytloengjcniefgaa.Rec
