/- A row that came in, of bounded bulk. -/
import Derived.Test.YtljdiakodpjkpaaOpenR
namespace Go.Proofs.Ytljdiakodpjkpaa
set_option linter.unusedVariables false
set_option linter.unusedSimpArgs false
open Go.RowKit Go.ChangeShapes Go.WideShapes Go.Deep
theorem bulk_one {H : Type} (d : DataW H) : 1 ≤ Rows.uptoBulk d := by
  cases d with
  | lit l => cases l <;> simp [Rows.uptoBulk]
  | nil => simp [Rows.uptoBulk]
  | ptr d => simp [Rows.uptoBulk]
  | slice elems spare => simp [Rows.uptoBulk]
  | agg parts => simp [Rows.uptoBulk]
  | iface t d => simp [Rows.uptoBulk]
  | map entries => simp [Rows.uptoBulk]
  | held h => simp [Rows.uptoBulk]
theorem bulk_length {H : Type} (l : List (DataW H)) : l.length ≤ Rows.uptoBulkAll l := by
  induction l with
  | nil => simp [Rows.uptoBulkAll]
  | cons x r ih => have := bulk_one x; simp only [Rows.uptoBulkAll, List.length_cons]; omega
section
variable {H : Type} {enc : TypeId × Value → H} {w : World} {base : Nat} {spare : Nat → Bool} {held : Bool}
theorem open_row_upto {v : Value} {d : DataW H} {p : List MemPlace} (hu : Rows.uptoBulk d ≤ 1048576)
    (hc : v.cells.toList = [v]) (h : DataW.Trod enc Try.prog w base spare held 28 v d p) : ∃ l, RowAt w v l ∧ Oks l ∧ l.length ≤ 1048576 := by
  obtain ⟨fuel, hf⟩ := h
  obtain ⟨v', l, hv, hok, hr, hz⟩ := trod_row hf
  rw [hc] at hv
  injection hv with hv _
  subst hv
  have hl : l.length ≤ 1048576 := by
    rcases hz with h0 | ⟨elems, rest, hx, hl⟩
    · omega
    · simp only at hx
      subst hx
      have h1 := bulk_length elems
      simp only [Rows.uptoBulk] at hu
      omega
  exact ⟨l, hr (by omega), hok, hl⟩
theorem row_cap {v : Value} {d : DataW H} {p : List MemPlace} (hc : v.cells.toList = [v]) (h : DataW.Trod enc Try.prog w base spare held 28 v d p) : ∀ ao n cap, v = .slice ao n cap → n ≤ cap := by
  intro ao n cap e
  obtain ⟨fuel, hf⟩ := h
  rw [hc] at hf
  obtain ⟨ao2, len, cap2, e2, hlc, _⟩ := trod_elems Try.underlying28 (by rw [cells_value]; decide) hf
  injection e2 with e2 _
  subst e2
  injection e with _ e4 e5
  subst e4 e5
  exact hlc
end
end Go.Proofs.Ytljdiakodpjkpaa
