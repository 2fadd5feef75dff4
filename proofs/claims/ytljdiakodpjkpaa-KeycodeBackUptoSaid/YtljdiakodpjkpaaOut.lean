/- A row of values that the call itself gathers. -/
import Derived.Test.YtljdiakodpjkpaaRow
import Derived.Test.YtljdiakodpjkpaaKitW
import Derived.WalkArith
namespace Go.Proofs.Ytljdiakodpjkpaa
set_option linter.unusedVariables false
set_option linter.unusedSimpArgs false
open Go.RowKit
def rowCells (l : List Vl) : List Value := l.flatMap Vl.cells
theorem rowCells_snoc (l : List Vl) (v : Vl) : rowCells (l ++ [v]) = rowCells l ++ v.cells := by simp [rowCells]
theorem rowCells_len (l : List Vl) : (rowCells l).length = l.length * 3 := by
  induction l with
  | nil => rfl
  | cons v l ih => simp only [rowCells, List.flatMap_cons, List.length_append, List.length_cons] at *; rw [ih]; simp [Vl.cells]; omega
theorem rowCells_get (l : List Vl) (j : Nat) (hj : j < l.length) (i : Nat) (u : Value) (h : (l[j].cells)[i]? = some u) : (rowCells l)[j * 3 + i]? = some u := by
  have hi : i < 3 := (List.getElem?_eq_some_iff.1 h).1
  induction l generalizing j with
  | nil => simp at hj
  | cons v l ih =>
    simp only [rowCells, List.flatMap_cons]
    cases j with
    | zero =>
      rw [List.getElem?_append_left (by simp [Vl.cells]; omega)]
      simpa using h
    | succ j =>
      have e : v.cells.length = 3 := rfl
      rw [List.getElem?_append_right (by rw [e]; omega), e, show (j + 1) * 3 + i - 3 = j * 3 + i from by omega]
      exact ih j (by simpa using hj) (by simpa using h)
theorem RowAt.owned {w : World} {B : Nat} {v : Value} {l : List Vl} (h : w.ownsRow B 41 3 v l.length (rowCells l)) (hs : l.length ≤ 140737488351232) : RowAt w v l := by
  obtain ⟨ao, cap, hv, _, hr⟩ := ownsRow_shape h
  refine ⟨hs, ao, cap, hv, fun h0 => ?_⟩
  obtain ⟨g, ha, hg, hc⟩ := hr h0
  exact ⟨g, 0, ha, hg, fun j hj i u hu => by rw [Nat.zero_add]; exact hc _ _ (rowCells_get l j hj i u hu)⟩
theorem info_value : (Try.prog.info? 41).map (fun i => (i.zero, i.size, i.bytes)) = some (some (.agg #[.int .i64 0, .int .i64 0, .string ⟨#[]⟩]), 3, 32) := by kernel_rfl
theorem right_ok {v : Vl} (h : rightV v = true) : v.ok := by
  obtain ⟨k, n, s⟩ := v
  have wf : ∀ x : Int, -9223372036854775808 ≤ x → x ≤ 9223372036854775807 → (Lit.int .i64 x).wf = true := fun x h1 h2 => Go.WalkArith.wf_i64 ⟨h1, h2⟩
  by_cases h3 : k = 3
  · subst h3
    rw [rightV, if_pos rfl] at h
    simp only [Bool.and_eq_true, beq_iff_eq, decide_eq_true_eq] at h
    obtain ⟨⟨hn, h1⟩, h2⟩ := h
    exact ⟨wf 3 (by decide) (by decide), wf _ (by show _ ≤ n; omega) (by show n ≤ _; omega), by show s.size ≤ _; unfold maxLen; omega⟩
  · rw [rightV, if_neg h3] at h
    by_cases h0 : 0 < s.size
    · rw [if_pos h0] at h; cases h
    · rw [if_neg h0] at h
      have hs : s.size ≤ maxLen := by omega
      by_cases k0 : k = 0
      · rw [if_pos k0] at h
        have hn : n = 0 := by simpa using h
        exact ⟨wf _ (by show _ ≤ k; omega) (by show k ≤ _; omega), wf _ (by show _ ≤ n; omega) (by show n ≤ _; omega), hs⟩
      · rw [if_neg k0] at h
        by_cases k1 : k = 1
        · rw [if_pos k1] at h
          have hn : n = 0 ∨ n = 1 := by simpa using h
          exact ⟨wf _ (by show _ ≤ k; omega) (by show k ≤ _; omega), wf _ (by show _ ≤ n; omega) (by show n ≤ _; omega), hs⟩
        · rw [if_neg k1] at h
          simp only [Bool.and_eq_true, beq_iff_eq] at h
          obtain ⟨hk, hi⟩ := h
          simp only [inB, Bool.and_eq_true, decide_eq_true_eq] at hi
          exact ⟨wf _ (by show _ ≤ k; omega) (by show k ≤ _; omega), wf _ (by show _ ≤ n; omega) (by show n ≤ _; omega), hs⟩
theorem rights_oks {l : List Vl} (h : rightsL l = true) : Oks l := fun v hv => right_ok (List.all_eq_true.1 h v hv)
theorem RowAt.blk {w : World} {g cap : Nat} {l : List Vl} (h : Blk w g (rowCells l).toArray 41) (hs : l.length ≤ 140737488351232) : RowAt w (.slice (some ⟨g, 0, none⟩) l.length cap) l :=
  ⟨hs, _, cap, rfl, fun _ => ⟨g, 0, rfl, h.lt, fun j hj i u hu => by rw [Nat.zero_add]; exact h.cell _ (by simpa using rowCells_get l j hj i u hu)⟩⟩
theorem RowAt.void (w : World) : RowAt w (.slice none 0 0) [] := ⟨by simp, _, 0, rfl, fun h => by simp at h⟩
end Go.Proofs.Ytljdiakodpjkpaa
