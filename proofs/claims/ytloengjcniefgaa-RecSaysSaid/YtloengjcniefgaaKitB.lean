/- Values that came in, opened with their sizes: structs, slices, strings. Over any program. -/
import Derived.Test.YtloengjcniefgaaKitS
namespace Go.Proofs.Ytloengjcniefgaa
set_option linter.unusedVariables false
set_option linter.unusedSimpArgs false
open Go.RowKit Go.ChangeShapes Go.WideShapes Go.Deep
/-- Nothing in it is greater than a machine can hold. -/
def Bd {H : Type} (P : Program) (t : TypeId) (d : DataW H) : Prop := ∀ n ∈ d.weights P t, n ≤ reachBytes
section
variable {H : Type} {enc : TypeId × Value → H} {P : Program} {w : World} {base : Nat} {spare : Nat → Bool} {held : Bool}
theorem Bd.arg {ts : List TypeId} {ds : List (DataW H)} (h : (DataW.weightsEach P ts ds).all (· ≤ reachBytes) = true) {j : Nat} {t : TypeId} {d : DataW H} (ht : ts[j]? = some t) (hd : ds[j]? = some d) : Bd P t d := fun n hn => by
  have := List.all_eq_true.1 h n (DataW.weights_mem_each ht hd n hn)
  simpa using this
theorem Bd.part {t : TypeId} {fs : Array Field} {parts : List (DataW H)} (hu : P.underlying t = some (.struct fs)) (h : Bd P t (.agg parts)) {i : Nat} {f : Field} {d : DataW H} (hf : fs[i]? = some f) (hd : parts[i]? = some d) : Bd P f.type d := fun n hn => by
  refine h n ?_
  simp only [DataW.weights, hu]
  exact DataW.weights_mem_each (j := i) (by simp [hf]) hd n hn
theorem weights_mem_all {e : TypeId} {ds : List (DataW H)} {d : DataW H} (hd : d ∈ ds) : ∀ n ∈ d.weights P e, n ∈ DataW.weightsAll P e ds := by
  intro n hn
  induction ds with
  | nil => cases hd
  | cons x ds ih =>
    simp only [DataW.weightsAll, List.mem_append]
    rcases List.mem_cons.1 hd with rfl | hd
    · exact .inl hn
    · exact .inr (ih hd)
theorem Bd.elem {t e : TypeId} {elems rest : List (DataW H)} (hu : P.underlying t = some (.slice e)) (h : Bd P t (.slice elems rest)) : elems.length * P.bytesOf e ≤ reachBytes ∧ ∀ d ∈ elems, Bd P e d := by
  constructor
  · have := h ((elems.length + rest.length) * P.bytesOf e) (by simp [DataW.weights, hu])
    exact Nat.le_trans (Nat.mul_le_mul_right _ (by omega)) this
  · intro d hd n hn
    refine h n ?_
    simp only [DataW.weights, hu, List.mem_cons, List.mem_append]
    exact .inr (.inl (weights_mem_all hd n hn))
theorem Bd.string {t : TypeId} {l : List UInt8} (h : Bd (H := H) P t (.lit (.string l))) : l.length ≤ reachBytes := h _ (by simp [DataW.weights])
/-- A struct's fields. -/
theorem trod_fieldsB {t : TypeId} {fuel : Nat} {cs : List Value} {x : DataW H × List MemPlace} {L : List (TypeId × Nat)} (hL : fieldsOf P t = L) (hne : L ≠ []) (h : DataW.trod enc P w base spare held fuel t cs = some x) (hB : Bd P t x.1) :
    cs.length = P.cellsOf t ∧ ∀ (i : Nat) (tf : TypeId) (o : Nat), L[i]? = some (tf, o) → ∃ n y, DataW.trod enc P w base spare held n tf ((cs.drop o).take (P.cellsOf tf)) = some y ∧ Bd P tf y.1 := by
  obtain ⟨fs, hu, hf⟩ := fields_struct hL hne
  obtain ⟨xs, n, _, hx, hlen, hxl, hg⟩ := DataW.trod_struct hu h
  refine ⟨hlen, fun i tf o hi => ?_⟩
  obtain ⟨f, hfi, rfl, rfl⟩ := hf i tf o hi
  have hi2 : i < xs.length := by rw [hxl]; exact (Array.getElem?_eq_some_iff.1 hfi).1
  refine ⟨n, xs[i], (hg i f hfi).trans (List.getElem?_eq_getElem hi2), ?_⟩
  rw [hx] at hB
  exact Bd.part hu hB hfi (by simp [hi2])
/-- A slice's elements. -/
theorem trod_elemsB {t e : TypeId} {fuel : Nat} {cs : List Value} {x : DataW H × List MemPlace} (ht : P.underlying t = some (.slice e)) (hC : 0 < P.cellsOf e) (h : DataW.trod enc P w base spare held fuel t cs = some x) (hB : Bd P t x.1) :
    ∃ ao len cap, cs = [.slice ao len cap] ∧ len ≤ cap ∧ cap ≤ maxLen ∧ len * P.bytesOf e ≤ reachBytes ∧
      (0 < len → ∃ b off, ao = some ⟨b, off, none⟩ ∧ b < w.heap.size ∧ ∀ i, i < len → ∃ cs' n y, cs'.length = P.cellsOf e ∧ (∀ j, j < P.cellsOf e → w.cell? ⟨b, off + i * P.cellsOf e + j, none⟩ = cs'[j]?) ∧ DataW.trod enc P w base spare held n e cs' = some y ∧ Bd P e y.1) := by
  rcases open_slice ht h with ⟨rfl, hx⟩ | ⟨a, len, cap, m, n, D, Pl, rfl, hb, hl, hm, hmm, hx, hi⟩
  · exact ⟨none, 0, 0, rfl, Nat.le_refl _, by decide, by simp, fun h0 => by omega⟩
  · rw [hx] at hB
    obtain ⟨hlen, hall⟩ := Bd.elem ht hB
    refine ⟨some a, len, cap, rfl, hl, hm, by simpa using hlen, fun h0 => ?_⟩
    have hlm : len ≤ m := by rw [hmm]; split <;> omega
    obtain ⟨cs0, hc0, _⟩ := hi 0 (by omega)
    obtain ⟨_, hl0, hg0⟩ := World.cells?_some hc0
    have h00 := hg0 0 (by omega)
    rw [List.getElem?_eq_getElem (by omega)] at h00
    have e0 : (a.add (0 * P.cellsOf e)).add 0 = a := by simp [Addr.add]
    rw [e0] at h00
    have hs := World.cell?_spot h00
    have hlt := World.block_lt_of_cell? w a h00
    obtain ⟨b, off, sp⟩ := a
    simp only at hs
    subst hs
    refine ⟨b, off, rfl, hlt, fun i hil => ?_⟩
    obtain ⟨cs', hc, ht'⟩ := hi i (by omega)
    obtain ⟨_, hl', hg'⟩ := World.cells?_some hc
    refine ⟨cs', n, _, hl', fun j hj => ?_, ht', hall _ ?_⟩
    · rw [← hg' j hj, Addr.add_lit, Addr.add_lit]
    · exact List.mem_map.2 ⟨i, by simpa using hil, rfl⟩
/-- A struct that came in by value. -/
theorem open_structB {r : Reach} {b0 : Nat} {t : TypeId} {v : Value} {d : DataW H} {p : List MemPlace} {L : List (TypeId × Nat)} (hL : fieldsOf P t = L) (hne : L ≠ []) (hv : Value.okWide P w r b0 t v) (h : DataW.Trod enc P w base spare held t v d p) (hB : Bd P t d) :
    ∃ cs : List Value, v = .agg cs.toArray ∧ cs.length = P.cellsOf t ∧ ∀ (i : Nat) (tf : TypeId) (o : Nat), L[i]? = some (tf, o) → ∃ n y, DataW.trod enc P w base spare held n tf ((cs.drop o).take (P.cellsOf tf)) = some y ∧ Bd P tf y.1 := by
  obtain ⟨fs, hu, hf⟩ := fields_struct hL hne
  obtain ⟨cs, rfl, hsz⟩ := okWide_struct hu hv
  obtain ⟨fuel, hfu⟩ := h
  have := trod_fieldsB (cs := cs.toList) hL hne hfu hB
  exact ⟨cs.toList, by simp, this.1, this.2⟩
end
end Go.Proofs.Ytloengjcniefgaa
