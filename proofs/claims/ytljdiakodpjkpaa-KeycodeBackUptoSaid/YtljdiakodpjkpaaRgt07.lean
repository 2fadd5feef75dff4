/- A value that may be: one of four. -/
import Derived.Test.YtljdiakodpjkpaaRefV
namespace Go.Proofs.Ytljdiakodpjkpaa
set_option linter.unusedVariables false
set_option linter.unusedSimpArgs false
open Go.RowKit
/-- A value that may be: one of four. -/
theorem right_cases (v : Vl) (h : rightV v = true) : v = ⟨0, 0, ⟨#[]⟩⟩ ∨ v = ⟨1, 0, ⟨#[]⟩⟩ ∨ v = ⟨1, 1, ⟨#[]⟩⟩ ∨ (∃ n, inB n = true ∧ v = ⟨2, n, ⟨#[]⟩⟩) ∨ (∃ s, s.size ≤ 100 ∧ plainB s = true ∧ v = ⟨3, 0, s⟩) := by
  obtain ⟨k, n, s⟩ := v
  by_cases h3 : k = 3
  · subst h3
    rw [rightV, if_pos rfl] at h
    simp only [Bool.and_eq_true, beq_iff_eq, decide_eq_true_eq] at h
    obtain ⟨⟨rfl, h1⟩, h2⟩ := h
    exact .inr (.inr (.inr (.inr ⟨s, h1, h2, rfl⟩)))
  · rw [rightV, if_neg h3] at h
    by_cases h0 : 0 < s.size
    · rw [if_pos h0] at h; cases h
    · rw [if_neg h0] at h
      have hs := empty_of s h0
      subst hs
      by_cases k0 : k = 0
      · subst k0
        rw [if_pos rfl] at h
        have : n = 0 := by simpa using h
        subst this
        exact .inl rfl
      · rw [if_neg k0] at h
        by_cases k1 : k = 1
        · subst k1
          rw [if_pos rfl] at h
          have : n = 0 ∨ n = 1 := by simpa using h
          rcases this with rfl | rfl
          · exact .inr (.inl rfl)
          · exact .inr (.inr (.inl rfl))
        · rw [if_neg k1] at h
          simp only [Bool.and_eq_true, beq_iff_eq] at h
          obtain ⟨rfl, hi⟩ := h
          exact .inr (.inr (.inr (.inl ⟨n, hi, rfl⟩)))
end Go.Proofs.Ytljdiakodpjkpaa
