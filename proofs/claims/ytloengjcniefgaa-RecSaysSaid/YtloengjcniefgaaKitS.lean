/- Structs and slices of structs that came in: their cells. Over any program. -/
import Derived.Test.YtloengjcniefgaaKit
import Derived.OpenShut
import Derived.ChangeMaps5
import Derived.WideShapes
import Derived.Deep.Slices
import Derived.SizedLaws
namespace Go.Proofs.Ytloengjcniefgaa
set_option linter.unusedVariables false
set_option linter.unusedSimpArgs false
open Go.RowKit Go.ChangeShapes Go.WideShapes Go.Deep
/-- A struct's fields: each one's type and its first cell. -/
def fieldsOf (P : Program) (t : TypeId) : List (TypeId × Nat) :=
  match P.underlying t with
  | some (.struct fs) => fs.toList.map fun f => (f.type, f.offset)
  | _ => []
theorem list_of {α : Type} {n : Nat} {p : Nat → α → Prop} (h : ∀ i, i < n → ∃ a, p i a) : ∃ l : List α, l.length = n ∧ ∀ i (hi : i < l.length), p i l[i] := by
  induction n with
  | zero => exact ⟨[], rfl, fun i hi => by simp at hi⟩
  | succ n ih =>
    obtain ⟨l, hl, hp⟩ := ih fun i hi => h i (by omega)
    obtain ⟨a, ha⟩ := h n (by omega)
    refine ⟨l ++ [a], by simp [hl], fun i hi => ?_⟩
    by_cases e : i < l.length
    · rw [List.getElem_append_left e]; exact hp i e
    · have : i = n := by simp at hi; omega
      subst this
      rw [List.getElem_append_right (by omega)]
      simp only [hl, Nat.sub_self, List.getElem_cons_zero]; exact ha
section
variable {H : Type} {enc : TypeId × Value → H} {P : Program} {w : World} {base : Nat} {spare : Nat → Bool} {held : Bool}
theorem fields_struct {t : TypeId} {L : List (TypeId × Nat)} (hL : fieldsOf P t = L) (hne : L ≠ []) : ∃ fs, P.underlying t = some (.struct fs) ∧ ∀ (i : Nat) (tf : TypeId) (o : Nat), L[i]? = some (tf, o) → ∃ f : Field, fs[i]? = some f ∧ f.type = tf ∧ f.offset = o := by
  unfold fieldsOf at hL
  split at hL
  · rename_i fs hu
    refine ⟨fs, hu, fun i tf o hi => ?_⟩
    rw [← hL, List.getElem?_map] at hi
    obtain ⟨f, hf, he⟩ := Option.map_eq_some_iff.1 hi
    injection he with h1 h2
    exact ⟨f, by simpa using hf, h1, h2⟩
  · exact (hne hL.symm).elim
theorem trod_fields {t : TypeId} {fuel : Nat} {cs : List Value} {x : DataW H × List MemPlace} {L : List (TypeId × Nat)} (hL : fieldsOf P t = L) (hne : L ≠ []) (h : DataW.trod enc P w base spare held fuel t cs = some x) :
    cs.length = P.cellsOf t ∧ ∀ (i : Nat) (tf : TypeId) (o : Nat), L[i]? = some (tf, o) → ∃ n y, DataW.trod enc P w base spare held n tf ((cs.drop o).take (P.cellsOf tf)) = some y := by
  obtain ⟨fs, hu, hf⟩ := fields_struct hL hne
  obtain ⟨xs, n, _, _, hlen, hxl, hg⟩ := DataW.trod_struct hu h
  refine ⟨hlen, fun i tf o hi => ?_⟩
  obtain ⟨f, hfi, rfl, rfl⟩ := hf i tf o hi
  have hi2 : i < xs.length := by rw [hxl]; exact (Array.getElem?_eq_some_iff.1 hfi).1
  exact ⟨n, xs[i], (hg i f hfi).trans (List.getElem?_eq_getElem hi2)⟩
/-- A struct that came in by value. -/
theorem open_struct {r : Reach} {b0 : Nat} {t : TypeId} {v : Value} {d : DataW H} {p : List MemPlace} {L : List (TypeId × Nat)} (hL : fieldsOf P t = L) (hne : L ≠ []) (hC : 1 < P.cellsOf t) (hv : Value.okWide P w r b0 t v) (h : DataW.Trod enc P w base spare held t v d p) :
    ∃ cs : List Value, v = .agg cs.toArray ∧ cs.length = P.cellsOf t ∧ ∀ (i : Nat) (tf : TypeId) (o : Nat), L[i]? = some (tf, o) → ∃ n y, DataW.trod enc P w base spare held n tf ((cs.drop o).take (P.cellsOf tf)) = some y := by
  obtain ⟨fs, hu, hf⟩ := fields_struct hL hne
  obtain ⟨cs, rfl, hsz⟩ := okWide_struct hu hv
  obtain ⟨fuel, hfu⟩ := h
  have := trod_fields (cs := cs.toList) hL hne hfu
  exact ⟨cs.toList, by simp, this.1, this.2⟩
theorem trod_elems {t e : TypeId} {fuel : Nat} {cs : List Value} {x : DataW H × List MemPlace} (ht : P.underlying t = some (.slice e)) (hC : 0 < P.cellsOf e) (h : DataW.trod enc P w base spare held fuel t cs = some x) :
    ∃ ao len cap, cs = [.slice ao len cap] ∧ len ≤ cap ∧ cap ≤ maxLen ∧ (len = 0 ∨ ∃ elems rest : List (DataW H), x.1 = .slice elems rest ∧ elems.length = len) ∧
      (0 < len → ∃ b off, ao = some ⟨b, off, none⟩ ∧ b < w.heap.size ∧ ∀ i, i < len → ∃ cs' n y, cs'.length = P.cellsOf e ∧ (∀ j, j < P.cellsOf e → w.cell? ⟨b, off + i * P.cellsOf e + j, none⟩ = cs'[j]?) ∧ DataW.trod enc P w base spare held n e cs' = some y) := by
  rcases open_slice ht h with ⟨rfl, hx⟩ | ⟨a, len, cap, m, n, D, Pl, rfl, hb, hl, hm, hmm, hx, hi⟩
  · exact ⟨none, 0, 0, rfl, Nat.le_refl _, by decide, .inl rfl, fun h0 => by omega⟩
  · refine ⟨some a, len, cap, rfl, hl, hm, .inr ⟨_, _, by rw [hx], by simp⟩, fun h0 => ?_⟩
    have hlm : len ≤ m := by rw [hmm]; split <;> omega
    obtain ⟨cs0, hc0, _⟩ := hi 0 (by omega)
    obtain ⟨_, hl0, hg0⟩ := World.cells?_some hc0
    have h00 := hg0 0 (by omega)
    rw [List.getElem?_eq_getElem (by omega)] at h00
    have e0 : (a.add (0 * P.cellsOf e)).add 0 = a := by simp [Addr.add]
    rw [e0] at h00
    have hs := World.cell?_spot h00
    have hlt := World.block_lt_of_cell? w a h00
    obtain ⟨b, off, sp⟩ := a
    simp only at hs
    subst hs
    refine ⟨b, off, rfl, hlt, fun i hil => ?_⟩
    obtain ⟨cs', hc, ht'⟩ := hi i (by omega)
    obtain ⟨_, hl', hg'⟩ := World.cells?_some hc
    refine ⟨cs', n, _, hl', fun j hj => ?_, ht'⟩
    rw [← hg' j hj, Addr.add_lit, Addr.add_lit]
end
end Go.Proofs.Ytloengjcniefgaa
