/- Slices of elements of k cells each: to be read, to be gathered. Over any program. -/
import Derived.Test.YtloengjcniefgaaKitA
import Derived.Test.YtloengjcniefgaaKitW
import Derived.Test.YtloengjcniefgaaKitS
namespace Go.Proofs.Ytloengjcniefgaa
set_option linter.unusedVariables false
set_option linter.unusedSimpArgs false
open Go.RowKit
structure ElAt (w : World) (k : Nat) (v : Value) (ls : List (List Value)) : Prop where
  small : ls.length ≤ 140737488351232
  each : ∀ c ∈ ls, c.length = k
  sh : ∃ ao cap, v = .slice ao ls.length cap ∧ (0 < ls.length → ∃ b off, ao = some ⟨b, off, none⟩ ∧ b < w.heap.size ∧
    ∀ j (hj : j < ls.length) i u, (ls[j])[i]? = some u → w.cell? ⟨b, off + j * k + i, none⟩ = some u)
theorem ElAt.below {w w1 : World} {k : Nat} {v : Value} {ls : List (List Value)} (h : ElAt w k v ls) (hb : Below w.heap.size w w1) : ElAt w1 k v ls := by
  obtain ⟨hs, he, ao, cap, hv, hc⟩ := h
  refine ⟨hs, he, ao, cap, hv, fun h0 => ?_⟩
  obtain ⟨b, off, ha, hlt, hcell⟩ := hc h0
  exact ⟨b, off, ha, Nat.lt_of_lt_of_le hlt hb.size, fun j hj i u hu => (hb.cell (p := ⟨b, off + j * k + i, none⟩) hlt).trans (hcell j hj i u hu)⟩
theorem ElAt.nil {w : World} {k : Nat} {v : Value} {ls : List (List Value)} (h : ElAt w k v ls) : ∃ ao cap, v = .slice ao ls.length cap := let ⟨_, _, ao, cap, hv, _⟩ := h; ⟨ao, cap, hv⟩
/-- The j-th element's cells. -/
theorem ElAt.get {w : World} {k : Nat} {v : Value} {ls : List (List Value)} (h : ElAt w k v ls) (j : Nat) (hj : j < ls.length) :
    ∃ b off cap, v = .slice (some ⟨b, off, none⟩) ls.length cap ∧ b < w.heap.size ∧ ∀ i u, (ls[j])[i]? = some u → w.cell? ⟨b, off + j * k + i, none⟩ = some u := by
  obtain ⟨hs, he, ao, cap, hv, hc⟩ := h
  obtain ⟨b, off, ha, hlt, hcell⟩ := hc (by omega)
  subst ha
  exact ⟨b, off, cap, hv, hlt, fun i u hu => hcell j hj i u hu⟩
theorem ElAt.empty (w : World) (k : Nat) : ElAt w k (.slice none 0 0) [] := ⟨by simp, fun c h => by simp at h, _, 0, rfl, fun h => by simp at h⟩
theorem flatten_get (k : Nat) (ls : List (List Value)) (he : ∀ c ∈ ls, c.length = k) (j : Nat) (hj : j < ls.length) (i : Nat) (u : Value) (h : (ls[j])[i]? = some u) : (ls.flatten)[j * k + i]? = some u := by
  induction ls generalizing j with
  | nil => simp at hj
  | cons c ls ih =>
    have hc := he c (List.mem_cons_self ..)
    rw [List.flatten_cons]
    cases j with
    | zero =>
      have hi : i < c.length := (List.getElem?_eq_some_iff.1 h).1
      rw [List.getElem?_append_left (by omega)]
      simpa using h
    | succ j =>
      rw [List.getElem?_append_right (by rw [hc, Nat.succ_mul]; omega), hc, show (j + 1) * k + i - k = j * k + i from by rw [Nat.succ_mul]; omega]
      exact ih (fun c hc => he c (List.mem_cons_of_mem _ hc)) j (by simpa using hj) (by simpa using h)
theorem flatten_len (k : Nat) (ls : List (List Value)) (he : ∀ c ∈ ls, c.length = k) : ls.flatten.length = ls.length * k := by
  induction ls with
  | nil => simp
  | cons c ls ih =>
    rw [List.flatten_cons, List.length_append, ih fun c hc => he c (List.mem_cons_of_mem _ hc), he c (List.mem_cons_self ..), List.length_cons, Nat.succ_mul]; omega
theorem flatten_snoc (ls : List (List Value)) (c : List Value) : (ls ++ [c]).flatten = ls.flatten ++ c := by simp
theorem ElAt.owned {w : World} {B e k : Nat} {v : Value} {ls : List (List Value)} (he : ∀ c ∈ ls, c.length = k) (h : w.ownsRow B e k v ls.length ls.flatten) (hs : ls.length ≤ 140737488351232) : ElAt w k v ls := by
  obtain ⟨ao, cap, hv, _, hr⟩ := ownsRow_shape h
  refine ⟨hs, he, ao, cap, hv, fun h0 => ?_⟩
  obtain ⟨g, ha, hg, hc⟩ := hr h0
  exact ⟨g, 0, ha, hg, fun j hj i u hu => by rw [Nat.zero_add]; exact hc _ _ (flatten_get k ls he j hj i u hu)⟩
theorem ElAt.blk {w : World} {g cap k T : Nat} {ls : List (List Value)} (he : ∀ c ∈ ls, c.length = k) (h : Blk w g ls.flatten.toArray T) (hs : ls.length ≤ 140737488351232) : ElAt w k (.slice (some ⟨g, 0, none⟩) ls.length cap) ls :=
  ⟨hs, he, _, cap, rfl, fun _ => ⟨g, 0, rfl, h.lt, fun j hj i u hu => by rw [Nat.zero_add]; exact h.cell _ (by simpa using flatten_get k ls he j hj i u hu)⟩⟩
theorem new_cells_at (w : World) (e : TypeId) (cs : List Value) (g : Nat) (hg : g = w.heap.size) : ∀ j u, cs[j]? = some u → (w.alloc (.cells cs.toArray e)).cell? ⟨g, j, none⟩ = some u := by
  subst hg; exact new_cells w e cs
end Go.Proofs.Ytloengjcniefgaa
