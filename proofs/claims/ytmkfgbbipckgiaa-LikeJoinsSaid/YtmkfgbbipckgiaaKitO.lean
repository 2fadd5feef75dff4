/- Arguments by value that are arrays of strings, opened. Over any program. -/
import Derived.Test.YtmkfgbbipckgiaaKit
import Derived.OpenShut
import Derived.ChangeMaps5
import Derived.WideShapes
namespace Go.Proofs.Ytmkfgbbipckgiaa
set_option linter.unusedVariables false
set_option linter.unusedSimpArgs false
open Go.RowKit
theorem okWide_arr {P : Program} {w : World} {r : Reach} {base : Nat} {t e : TypeId} {n : Nat} {v : Value} (ht : P.underlying t = some (.array n e)) (h : Value.okWide P w r base t v) : ∃ cs, v = .agg cs ∧ cs.size = P.cellsOf t := by
  unfold Value.okWide at h
  rw [ht] at h
  obtain ⟨cs, h1, h2, _⟩ := h
  exact ⟨cs, h1, h2⟩
theorem two_of {α : Type} (l : List α) (h : (⟨l⟩ : Array α).size = 2) : ∃ a b, l = [a, b] := by
  match l, h with
  | [a, b], _ => exact ⟨a, b, rfl⟩
theorem open_strings2 {H : Type} {enc : TypeId × Value → H} {P : Program} {w : World} {base : Nat} {sp : Nat → Bool} {held : Bool} {r : Reach} {b0 : Nat} {t e : TypeId} {v : Value} {d : DataW H} {ps : List MemPlace}
    (ht : P.underlying t = some (.array 2 e)) (he : P.underlying e = some .string) (hct : P.cellsOf t = 2) (hce : P.cellsOf e = 1) (hval : Value.okWide P w r b0 t v) (hd : DataW.Trod enc P w base sp held t v d ps) :
    ∃ a b : ByteArray, v = .agg #[.string a, .string b] ∧ a.size ≤ maxLen ∧ b.size ≤ maxLen := by
  obtain ⟨cs, rfl, hsz⟩ := okWide_arr ht hval
  rw [hct] at hsz
  obtain ⟨l⟩ := cs
  obtain ⟨x, y, rfl⟩ := two_of l hsz
  obtain ⟨fuel, hf⟩ := hd
  obtain ⟨xs, m, _, hx, _, hl, hget⟩ := DataW.trod_array ht hf
  have h0 := hget 0 (by omega)
  have h1 := hget 1 (by omega)
  obtain ⟨p0, p1, rfl⟩ := two_of xs (by simpa using hl)
  simp only [hce] at h0 h1
  simp [Value.cells] at h0 h1
  obtain ⟨a, ha, _, hza⟩ := DataW.trod_string he h0
  obtain ⟨b, hb, _, hzb⟩ := DataW.trod_string he h1
  simp at ha hb
  subst ha hb
  exact ⟨a, b, rfl, hza, hzb⟩
end Go.Proofs.Ytmkfgbbipckgiaa
