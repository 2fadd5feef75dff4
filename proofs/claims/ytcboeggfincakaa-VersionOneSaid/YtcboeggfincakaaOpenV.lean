/- Versions and lists of held versions that came in. -/
import Derived.Test.YtcboeggfincakaaOpenR
import Derived.Test.YtcboeggfincakaaKitB
import Derived.Test.YtcboeggfincakaaHeld
namespace Go.Proofs.Ytcboeggfincakaa
set_option linter.unusedVariables false
set_option linter.unusedSimpArgs false
open Go.RowKit Go.ChangeShapes Go.WideShapes Go.Deep
theorem fields_version : fieldsOf Try.prog 25 = [(3, 0), (3, 1), (3, 2), (23, 3)] := by kernel_rfl
theorem fields_held : fieldsOf Try.prog 40 = [(25, 0), (38, 4)] := by kernel_rfl
theorem fields_rid : fieldsOf Try.prog 38 = [(3, 0), (3, 1)] := by kernel_rfl
theorem cells_row : Try.prog.cellsOf 23 = 1 := by kernel_rfl
theorem cells_version : Try.prog.cellsOf 25 = 4 := by kernel_rfl
theorem cells_held : Try.prog.cellsOf 40 = 6 := by kernel_rfl
theorem cells_rid : Try.prog.cellsOf 38 = 2 := by kernel_rfl
theorem bytes_held : Try.prog.bytesOf 40 = 64 := by kernel_rfl
section
variable {H : Type} {enc : TypeId × Value → H} {w : World} {base : Nat} {spare : Nat → Bool} {held : Bool}
theorem trod_rowB {n : Nat} {cs : List Value} {y : DataW H × List MemPlace} (h : DataW.trod enc Try.prog w base spare held n 23 cs = some y) (hB : Bd Try.prog 23 y.1) : ∃ v l, cs = [v] ∧ Oks l ∧ RowAt w v l := by
  obtain ⟨v, l, hc, hok, hr, hz⟩ := trod_row h
  refine ⟨v, l, hc, hok, hr ?_⟩
  rcases hz with h0 | ⟨elems, rest, hx, hl⟩
  · omega
  · rw [hx] at hB
    have := (Bd.elem Try.underlying23 hB).1
    rw [bytes_value, hl] at this
    unfold reachBytes at this
    omega
theorem trod_versionB {n : Nat} {cs : List Value} {y : DataW H × List MemPlace} (h : DataW.trod enc Try.prog w base spare held n 25 cs = some y) (hB : Bd Try.prog 25 y.1) :
    ∃ (x : Vn) (v : Value), cs = [.int .i64 x.r, .int .i64 x.f, .int .i64 x.t, v] ∧ RowAt w v x.d ∧ Oks x.d := by
  obtain ⟨hl, hf⟩ := trod_fieldsB fields_version (by simp) h hB
  rw [cells_version] at hl
  obtain ⟨n0, y0, h0, _⟩ := hf 0 _ _ rfl
  obtain ⟨n1, y1, h1, _⟩ := hf 1 _ _ rfl
  obtain ⟨n2, y2, h2, _⟩ := hf 2 _ _ rfl
  obtain ⟨n3, y3, h3, hb3⟩ := hf 3 _ _ rfl
  rw [cells_int] at h0 h1 h2
  rw [cells_row] at h3
  obtain ⟨a, ha, _, _⟩ := DataW.trod_int Try.underlying3 h0
  obtain ⟨b, hb, _, _⟩ := DataW.trod_int Try.underlying3 h1
  obtain ⟨c, hc, _, _⟩ := DataW.trod_int Try.underlying3 h2
  obtain ⟨v, l, hv, hok, hr⟩ := trod_rowB h3 hb3
  match cs, hl with
  | [x0, x1, x2, x3], _ =>
    simp at ha hb hc hv
    subst ha hb hc hv
    exact ⟨⟨a, b, c, l⟩, _, rfl, hr, hok⟩
theorem open_version {ts : List TypeId} {ds : List (DataW H)} {j : Nat} {r : Reach} {b0 : Nat} {v : Value} {d : DataW H} {p : List MemPlace} (hsz : (DataW.weightsEach Try.prog ts ds).all (· ≤ reachBytes) = true) (ht : ts[j]? = some 25) (hd : ds[j]? = some d)
    (hv : Value.okWide Try.prog w r b0 25 v) (h : DataW.Trod enc Try.prog w base spare held 25 v d p) : ∃ (a b c : Int) (l : List Vl) (u : Value), v = .agg #[.int .i64 a, .int .i64 b, .int .i64 c, u] ∧ RowAt w u l ∧ Oks l := by
  obtain ⟨fs, hu, _⟩ := fields_struct fields_version (by simp)
  obtain ⟨cs, rfl, hs⟩ := okWide_struct hu hv
  obtain ⟨fuel, hf⟩ := h
  obtain ⟨x, u, hc, hr, hok⟩ := trod_versionB hf (Bd.arg hsz ht hd)
  refine ⟨x.r, x.f, x.t, x.d, u, ?_, hr, hok⟩
  congr 1
  apply Array.toList_inj.1
  exact hc
theorem trod_heldB {n : Nat} {cs : List Value} {y : DataW H × List MemPlace} (h : DataW.trod enc Try.prog w base spare held n 40 cs = some y) (hB : Bd Try.prog 40 y.1) :
    ∃ x : Hd, cs = x.cells ∧ RowAt w x.v x.x.d ∧ Oks x.x.d := by
  obtain ⟨hl, hf⟩ := trod_fieldsB fields_held (by simp) h hB
  rw [cells_held] at hl
  obtain ⟨n0, y0, h0, hb0⟩ := hf 0 _ _ rfl
  obtain ⟨n1, y1, h1, hb1⟩ := hf 1 _ _ rfl
  rw [cells_version] at h0
  rw [cells_rid] at h1
  obtain ⟨x, v, hx, hr, hok⟩ := trod_versionB h0 hb0
  obtain ⟨hl2, hf2⟩ := trod_fieldsB fields_rid (by simp) h1 hb1
  obtain ⟨n2, y2, h2, _⟩ := hf2 0 _ _ rfl
  obtain ⟨n3, y3, h3, _⟩ := hf2 1 _ _ rfl
  rw [cells_int] at h2 h3
  obtain ⟨a, ha, _, _⟩ := DataW.trod_int Try.underlying3 h2
  obtain ⟨b, hb, _, _⟩ := DataW.trod_int Try.underlying3 h3
  match cs, hl with
  | [x0, x1, x2, x3, x4, x5], _ =>
    simp at hx ha hb
    obtain ⟨rfl, rfl, rfl, rfl⟩ := hx
    subst ha hb
    exact ⟨⟨x, _, a, b⟩, rfl, hr, hok⟩
theorem open_helds {ts : List TypeId} {ds : List (DataW H)} {j : Nat} {v : Value} {d : DataW H} {p : List MemPlace} (hsz : (DataW.weightsEach Try.prog ts ds).all (· ≤ reachBytes) = true) (ht : ts[j]? = some 35) (hd : ds[j]? = some d)
    (hc : v.cells.toList = [v]) (h : DataW.Trod enc Try.prog w base spare held 35 v d p) : ∃ l, HdAt w v l := by
  obtain ⟨fuel, hf⟩ := h
  obtain ⟨ao, len, cap, hcs, hlc, hcm, hby, hel⟩ := trod_elemsB Try.underlying35 (by rw [cells_held]; decide) hf (Bd.arg hsz ht hd)
  rw [hc] at hcs
  injection hcs with hcs _
  subst hcs
  rw [bytes_held] at hby
  unfold reachBytes at hby
  by_cases h0 : 0 < len
  · obtain ⟨b, off, rfl, hlt, hi⟩ := hel h0
    rw [cells_held] at hi
    obtain ⟨l, hll, hp⟩ := list_of (p := fun i (x : Hd) => (RowAt w x.v x.x.d ∧ Oks x.x.d) ∧ ∀ j u, x.cells[j]? = some u → w.cell? ⟨b, off + i * 6 + j, none⟩ = some u) fun i hi2 => by
      obtain ⟨cs', n, y, hl', hg, ht', hB⟩ := hi i hi2
      obtain ⟨x, rfl, hr, hok⟩ := trod_heldB ht' hB
      refine ⟨x, ⟨hr, hok⟩, fun j u hu => ?_⟩
      have hj : j < 6 := (List.getElem?_eq_some_iff.1 hu).1
      exact (hg j hj).trans hu
    subst hll
    refine ⟨l, ⟨by rw [List.length_map]; omega, held6 l, _, cap, by rw [List.length_map], fun _ => ⟨b, off, rfl, hlt, fun j hj i u hu => ?_⟩⟩, fun x hx => ?_⟩
    · rw [List.length_map] at hj
      refine (hp j hj).2 i u ?_
      simpa using hu
    · obtain ⟨k, hk, rfl⟩ := List.getElem_of_mem hx
      exact (hp k hk).1
  · have : len = 0 := by omega
    subst this
    exact ⟨[], ⟨by simp, fun c h => by simp at h, ao, cap, rfl, fun h => by simp at h⟩, fun x hx => by simp at hx⟩
theorem open_ints4 {r : Reach} {b0 : Nat} {v : Value} {d : DataW H} {p : List MemPlace} (hv : Value.okWide Try.prog w r b0 45 v) (h : DataW.Trod enc Try.prog w base spare held 45 v d p) :
    ∃ a b c e : Int, v = .agg #[.int .i64 a, .int .i64 b, .int .i64 c, .int .i64 e] ∧ -9223372036854775808 ≤ e ∧ e ≤ 9223372036854775807 := by
  obtain ⟨cs, rfl, hsz⟩ : ∃ cs, v = .agg cs ∧ cs.size = Try.prog.cellsOf 45 := by
    unfold Value.okWide at hv
    rw [Try.underlying45] at hv
    obtain ⟨cs, h1, h2, _⟩ := hv
    exact ⟨cs, h1, h2⟩
  rw [show Try.prog.cellsOf 45 = 4 by kernel_rfl] at hsz
  obtain ⟨l⟩ := cs
  obtain ⟨fuel, hf⟩ := h
  obtain ⟨xs, m, _, hx, _, hl, hget⟩ := DataW.trod_array Try.underlying45 hf
  match l, hsz with
  | [x0, x1, x2, x3], _ =>
    have h0 := hget 0 (by omega)
    have h1 := hget 1 (by omega)
    have h2 := hget 2 (by omega)
    have h3 := hget 3 (by omega)
    have get : ∀ i (hi : i < 4), xs[i]? = some (xs[i]'(by omega)) := fun i hi => List.getElem?_eq_getElem (by omega)
    rw [get 0 (by omega)] at h0
    rw [get 1 (by omega)] at h1
    rw [get 2 (by omega)] at h2
    rw [get 3 (by omega)] at h3
    rw [cells_int] at h0 h1 h2 h3
    simp [Value.cells] at h0 h1 h2 h3
    obtain ⟨a, ha, _, _⟩ := DataW.trod_int Try.underlying3 h0
    obtain ⟨b, hb, _, _⟩ := DataW.trod_int Try.underlying3 h1
    obtain ⟨c, hc, _, _⟩ := DataW.trod_int Try.underlying3 h2
    obtain ⟨e, he, _, hw⟩ := DataW.trod_int Try.underlying3 h3
    simp at ha hb hc he
    subst ha hb hc he
    have := bounds_i64 hw
    exact ⟨a, b, c, e, rfl, this.1, this.2⟩
end
end Go.Proofs.Ytcboeggfincakaa
