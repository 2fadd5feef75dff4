/- The order of values and of rows: plain. -/
import Derived.Test.YtljdiakodpjkpaaRow
import Derived.Lib.Bytealg
namespace Go.Proofs.Ytljdiakodpjkpaa
set_option linter.unusedVariables false
set_option linter.unusedSimpArgs false
open Go.RowKit
def cmpI (a b : Int) : Int := if a < b then -1 else if b < a then 1 else 0
def orI (a b c : Int) : Int := if a = 0 then (if b = 0 then c else b) else a
/-- The order of two values. -/
def ordV (u v : Vl) : Int := orI (cmpI u.k v.k) (cmpI u.n v.n) (Lib.compareBytes u.s.data.toList v.s.data.toList)
def ordL : List Vl → List Vl → Int
  | [], [] => 0
  | [], _ :: _ => -1
  | _ :: _, [] => 1
  | u :: a, v :: b => if ordV u v = 0 then ordL a b else ordV u v
theorem ordL_skip {a b : List Vl} {k : Nat} (h1 : k < a.length) (h2 : k < b.length) (h : ordV a[k] b[k] = 0) : ordL (a.drop k) (b.drop k) = ordL (a.drop (k + 1)) (b.drop (k + 1)) := by
  rw [List.drop_eq_getElem_cons h1, List.drop_eq_getElem_cons h2, ordL, if_pos h]
theorem ordL_here {a b : List Vl} {k : Nat} (h1 : k < a.length) (h2 : k < b.length) (h : ordV a[k] b[k] ≠ 0) : ordL (a.drop k) (b.drop k) = ordV a[k] b[k] := by
  rw [List.drop_eq_getElem_cons h1, List.drop_eq_getElem_cons h2, ordL, if_neg h]
theorem ordL_more {a b : List Vl} {k : Nat} (h1 : k < a.length) (h2 : ¬ k < b.length) : ordL (a.drop k) (b.drop k) = 1 := by
  have e2 : b.drop k = [] := List.drop_of_length_le (by omega)
  rw [List.drop_eq_getElem_cons h1, e2, ordL]
theorem ordL_less {a b : List Vl} {k : Nat} (h1 : ¬ k < a.length) (h2 : k < b.length) : ordL (a.drop k) (b.drop k) = -1 := by
  have e1 : a.drop k = [] := List.drop_of_length_le (by omega)
  rw [List.drop_eq_getElem_cons h2, e1, ordL]
theorem ordL_both {a b : List Vl} {k : Nat} (h1 : ¬ k < a.length) (h2 : ¬ k < b.length) : ordL (a.drop k) (b.drop k) = 0 := by
  have e1 : a.drop k = [] := List.drop_of_length_le (by omega)
  have e2 : b.drop k = [] := List.drop_of_length_le (by omega)
  rw [e1, e2, ordL]
/-- Alike just if of order 0. -/
theorem cmpI_zero (a b : Int) : cmpI a b = 0 ↔ a = b := by
  unfold cmpI
  split
  · omega
  · split <;> omega
theorem orI_zero (a b c : Int) : orI a b c = 0 ↔ a = 0 ∧ b = 0 ∧ c = 0 := by
  unfold orI
  split
  · split <;> omega
  · omega
theorem compareBytes_zero (a b : List UInt8) : Lib.compareBytes a b = 0 ↔ a = b := by
  induction a generalizing b with
  | nil => cases b <;> simp [Lib.compareBytes]
  | cons x a ih =>
    cases b with
    | nil => simp [Lib.compareBytes]
    | cons y b =>
      rw [Lib.compareBytes]
      by_cases h1 : x < y
      · rw [if_pos h1]
        simp only [List.cons.injEq]
        exact ⟨fun h => by omega, fun h => by rw [h.1] at h1; exact (UInt8.lt_irrefl _ h1).elim⟩
      · rw [if_neg h1]
        by_cases h2 : y < x
        · rw [if_pos h2]
          simp only [List.cons.injEq]
          exact ⟨fun h => by omega, fun h => by rw [h.1] at h2; exact (UInt8.lt_irrefl _ h2).elim⟩
        · rw [if_neg h2, ih]
          have : x = y := UInt8.le_antisymm (UInt8.not_lt.1 h2) (UInt8.not_lt.1 h1)
          simp [this]
theorem ordV_zero (u v : Vl) : ordV u v = 0 ↔ u = v := by
  obtain ⟨uk, un, us⟩ := u
  obtain ⟨vk, vn, vs⟩ := v
  rw [ordV, orI_zero, cmpI_zero, cmpI_zero, compareBytes_zero]
  simp only [Vl.mk.injEq]
  constructor
  · rintro ⟨h1, h2, h3⟩
    exact ⟨h1, h2, by apply ByteArray.ext; exact Array.toList_inj.1 h3⟩
  · rintro ⟨h1, h2, h3⟩
    exact ⟨h1, h2, by rw [h3]⟩
theorem ordL_zero (a b : List Vl) : ordL a b = 0 ↔ a = b := by
  induction a generalizing b with
  | nil => cases b <;> simp [ordL]
  | cons u a ih =>
    cases b with
    | nil => simp [ordL]
    | cons v b =>
      rw [ordL]
      by_cases h : ordV u v = 0
      · rw [if_pos h, ih, (ordV_zero u v).1 h]; simp
      · rw [if_neg h]
        refine ⟨fun h2 => (h h2).elim, fun h2 => ?_⟩
        injection h2 with h3 h4
        exact (h ((ordV_zero u v).2 h3)).elim
theorem ordL_self (l : List Vl) : ordL l l = 0 := (ordL_zero l l).2 rfl
end Go.Proofs.Ytljdiakodpjkpaa
