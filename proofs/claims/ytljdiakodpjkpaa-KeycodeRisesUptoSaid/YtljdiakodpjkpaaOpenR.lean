/- A row of values that came in. -/
import Derived.Test.YtljdiakodpjkpaaRow
import Derived.Test.YtljdiakodpjkpaaKitS
namespace Go.Proofs.Ytljdiakodpjkpaa
set_option linter.unusedVariables false
set_option linter.unusedSimpArgs false
open Go.RowKit Go.ChangeShapes Go.WideShapes Go.Deep
theorem fields_value : fieldsOf Try.prog 41 = [(3, 0), (3, 1), (9, 2)] := by kernel_rfl
theorem cells_int : Try.prog.cellsOf 3 = 1 := by kernel_rfl
theorem cells_string : Try.prog.cellsOf 9 = 1 := by kernel_rfl
theorem cells_value : Try.prog.cellsOf 41 = 3 := by kernel_rfl
theorem bytes_value : Try.prog.bytesOf 41 = 32 := by kernel_rfl
section
variable {H : Type} {enc : TypeId × Value → H} {w : World} {base : Nat} {spare : Nat → Bool} {held : Bool}
theorem trod_vl {n : Nat} {cs : List Value} {y : DataW H × List MemPlace} (h : DataW.trod enc Try.prog w base spare held n 41 cs = some y) : ∃ v : Vl, v.ok ∧ cs = v.cells := by
  obtain ⟨hl, hf⟩ := trod_fields fields_value (by simp) h
  rw [cells_value] at hl
  obtain ⟨n0, y0, h0⟩ := hf 0 _ _ rfl
  obtain ⟨n1, y1, h1⟩ := hf 1 _ _ rfl
  obtain ⟨n2, y2, h2⟩ := hf 2 _ _ rfl
  rw [cells_int] at h0 h1
  rw [cells_string] at h2
  obtain ⟨a, ha, _, hwa⟩ := DataW.trod_int Try.underlying3 h0
  obtain ⟨b, hb, _, hwb⟩ := DataW.trod_int Try.underlying3 h1
  obtain ⟨s, hs, _, hws⟩ := DataW.trod_string Try.underlying9 h2
  match cs, hl with
  | [x0, x1, x2], _ =>
    simp at ha hb hs
    subst ha hb hs
    exact ⟨⟨a, b, s⟩, ⟨hwa, hwb, hws⟩, rfl⟩
/-- The cells of a row. -/
theorem trod_row {n : Nat} {cs : List Value} {y : DataW H × List MemPlace} (h : DataW.trod enc Try.prog w base spare held n 28 cs = some y) :
    ∃ v l, cs = [v] ∧ Oks l ∧ (l.length ≤ 140737488351232 → RowAt w v l) ∧ (l.length = 0 ∨ ∃ elems rest : List (DataW H), y.1 = .slice elems rest ∧ elems.length = l.length) := by
  obtain ⟨ao, len, cap, rfl, hlc, hcm, hsz, hel⟩ := trod_elems Try.underlying28 (by rw [cells_value]; decide) h
  by_cases h0 : 0 < len
  · obtain ⟨b, off, rfl, hlt, hi⟩ := hel h0
    rw [cells_value] at hi
    obtain ⟨l, hll, hp⟩ := list_of (p := fun i (v : Vl) => v.ok ∧ ∀ j u, v.cells[j]? = some u → w.cell? ⟨b, off + i * 3 + j, none⟩ = some u) fun i hi2 => by
      obtain ⟨cs', n, y, hl', hg, ht⟩ := hi i hi2
      obtain ⟨v, hok, rfl⟩ := trod_vl ht
      refine ⟨v, hok, fun j u hu => ?_⟩
      have hj : j < 3 := (List.getElem?_eq_some_iff.1 hu).1
      exact (hg j hj).trans hu
    subst hll
    refine ⟨_, l, rfl, fun v hv => ?_, fun hs => ⟨hs, _, cap, rfl, fun _ => ⟨b, off, rfl, hlt, fun j hj i u hu => (hp j hj).2 i u hu⟩⟩, hsz⟩
    obtain ⟨k, hk, rfl⟩ := List.getElem_of_mem hv
    exact (hp k hk).1
  · have : len = 0 := by omega
    subst this
    exact ⟨_, [], rfl, fun v hv => by simp at hv, fun _ => ⟨by simp, ao, cap, rfl, fun h0 => by simp at h0⟩, .inl rfl⟩
/-- A row that came in. -/
theorem open_row {ts : List TypeId} {ds : List (DataW H)} {j : Nat} {v : Value} {d : DataW H} {p : List MemPlace} (hsz : (DataW.weightsEach Try.prog ts ds).all (· ≤ reachBytes) = true) (ht : ts[j]? = some 28) (hd : ds[j]? = some d)
    (hc : v.cells.toList = [v]) (h : DataW.Trod enc Try.prog w base spare held 28 v d p) : ∃ l, RowAt w v l ∧ Oks l := by
  obtain ⟨fuel, hf⟩ := h
  obtain ⟨v', l, hv, hok, hr, hz⟩ := trod_row hf
  rw [hc] at hv
  injection hv with hv _
  subst hv
  refine ⟨l, hr ?_, hok⟩
  rcases hz with h0 | ⟨elems, rest, hx, hl⟩
  · omega
  · simp only at hx
    subst hx
    have := sized_slice hsz ht hd Try.underlying28
    rw [bytes_value, hl] at this
    unfold reachBytes at this
    omega
end
end Go.Proofs.Ytljdiakodpjkpaa
