/- Disks, lists of numbers and lists of acts that came in. -/
import Derived.Test.YthliialieogakaaDskP
import Derived.Test.YthliialieogakaaKitB
import Derived.Test.YthliialieogakaaKitE
namespace Go.Proofs.Ythliialieogakaa
set_option linter.unusedVariables false
set_option linter.unusedSimpArgs false
open Go.RowKit Go.ChangeShapes Go.WideShapes Go.Deep
/-- An act. -/
structure Ac where
  kind : Int
  at_ : Int
  n : Int
  b : ByteArray
def Ac.cells (a : Ac) : List Value := [.int .i64 a.kind, .int .i64 a.at_, .int .i64 a.n, .string a.b]
def Ac.ok (a : Ac) : Prop := (Lit.int .i64 a.kind).wf = true ∧ (Lit.int .i64 a.at_).wf = true ∧ (Lit.int .i64 a.n).wf = true ∧ a.b.size ≤ maxLen
theorem fields_disk : fieldsOf Try.prog 25 = [(23, 0), (3, 1), (4, 2)] := by kernel_rfl
theorem fields_act : fieldsOf Try.prog 32 = [(3, 0), (3, 1), (3, 2), (9, 3)] := by kernel_rfl
theorem cells_int : Try.prog.cellsOf 3 = 1 := by kernel_rfl
theorem cells_bool : Try.prog.cellsOf 4 = 1 := by kernel_rfl
theorem cells_string : Try.prog.cellsOf 9 = 1 := by kernel_rfl
theorem cells_strs : Try.prog.cellsOf 23 = 1 := by kernel_rfl
theorem cells_disk : Try.prog.cellsOf 25 = 3 := by kernel_rfl
theorem cells_act : Try.prog.cellsOf 32 = 4 := by kernel_rfl
theorem bytes_string : Try.prog.bytesOf 9 = 16 := by kernel_rfl
theorem bytes_int : Try.prog.bytesOf 3 = 8 := by kernel_rfl
theorem bytes_act : Try.prog.bytesOf 32 = 40 := by kernel_rfl
section
variable {H : Type} {enc : TypeId × Value → H} {w : World} {base : Nat} {spare : Nat → Bool} {held : Bool}
/-- Elements of k cells, each the cells of something. -/
theorem ElAt.gather {α : Type} {k : Nat} {w : World} {b off len cap : Nat} {f : α → List Value} {ok : α → Prop} (hk : ∀ x, (f x).length = k) (hlt : b < w.heap.size) (hs : len ≤ 140737488351232)
    (h : ∀ i, i < len → ∃ x, ok x ∧ ∀ j, j < k → w.cell? ⟨b, off + i * k + j, none⟩ = (f x)[j]?) :
    ∃ l : List α, l.length = len ∧ (∀ x ∈ l, ok x) ∧ ElAt w k (.slice (some ⟨b, off, none⟩) len cap) (l.map f) := by
  obtain ⟨l, hll, hp⟩ := list_of (p := fun i (x : α) => ok x ∧ ∀ j u, (f x)[j]? = some u → w.cell? ⟨b, off + i * k + j, none⟩ = some u) fun i hi => by
    obtain ⟨x, hx, hc⟩ := h i hi
    refine ⟨x, hx, fun j u hu => ?_⟩
    have hj : j < k := by rw [← hk x]; exact (List.getElem?_eq_some_iff.1 hu).1
    exact (hc j hj).trans hu
  subst hll
  refine ⟨l, rfl, fun x hx => ?_, by simpa using hs, fun c hc => ?_, _, cap, by rw [List.length_map], fun _ => ⟨b, off, rfl, hlt, fun j hj i u hu => ?_⟩⟩
  · obtain ⟨i, hi, rfl⟩ := List.getElem_of_mem hx
    exact (hp i hi).1
  · obtain ⟨x, _, rfl⟩ := List.mem_map.1 hc
    exact hk x
  · rw [List.length_map] at hj
    refine (hp j hj).2 i u ?_
    simpa using hu
theorem ElAt.none_ {α : Type} {k cap : Nat} {w : World} {ao : Option Addr} {f : α → List Value} {ok : α → Prop} : ∃ l : List α, l.length = 0 ∧ (∀ x ∈ l, ok x) ∧ ElAt w k (.slice ao 0 cap) (l.map f) :=
  ⟨[], rfl, fun x h => by simp at h, by simp, fun c h => by simp at h, ao, cap, rfl, fun h => by simp at h⟩
/-- The cells of a slice of elements of k cells. -/
theorem trod_list {α : Type} {k by_ : Nat} {t e : TypeId} {f : α → List Value} {ok : α → Prop} (ht : Try.prog.underlying t = some (.slice e)) (hk : Try.prog.cellsOf e = k) (hk0 : 0 < k) (hbe : Try.prog.bytesOf e = by_) (hb0 : 2 ≤ by_) (hf : ∀ x, (f x).length = k)
    (hel : ∀ cs' n y, cs'.length = k → DataW.trod enc Try.prog w base spare held n e cs' = some y → Bd Try.prog e y.1 → ∃ x, ok x ∧ cs' = f x)
    {n : Nat} {cs : List Value} {y : DataW H × List MemPlace} (h : DataW.trod enc Try.prog w base spare held n t cs = some y) (hB : Bd Try.prog t y.1) :
    ∃ (v : Value) (l : List α), cs = [v] ∧ (∀ x ∈ l, ok x) ∧ ElAt w k v (l.map f) ∧ l.length * by_ ≤ 140737488351232 := by
  obtain ⟨ao, len, cap, rfl, hlc, hcm, hby, he⟩ := trod_elemsB ht (by rw [hk]; exact hk0) h hB
  rw [hbe] at hby
  unfold reachBytes at hby
  by_cases h0 : 0 < len
  · obtain ⟨b, off, rfl, hlt, hi⟩ := he h0
    rw [hk] at hi
    have hlen : len ≤ 140737488351232 := by have := Nat.mul_le_mul_left len hb0; omega
    obtain ⟨l, hl, hok, hE⟩ := ElAt.gather (cap := cap) (f := f) (ok := ok) hf hlt hlen fun i hi2 => by
      obtain ⟨cs', n, y, hl', hg, ht', hB'⟩ := hi i hi2
      obtain ⟨x, hx, rfl⟩ := hel cs' n y hl' ht' hB'
      exact ⟨x, hx, hg⟩
    exact ⟨_, l, rfl, hok, hE, by rw [hl]; exact hby⟩
  · have : len = 0 := by omega
    subst this
    obtain ⟨l, hl, hok, hE⟩ := ElAt.none_ (w := w) (cap := cap) (ao := ao) (k := k) (f := f) (ok := ok)
    exact ⟨_, l, rfl, hok, hE, by rw [hl]; simp⟩
theorem trod_strs {n : Nat} {cs : List Value} {y : DataW H × List MemPlace} (h : DataW.trod enc Try.prog w base spare held n 23 cs = some y) (hB : Bd Try.prog 23 y.1) : ∃ v l, cs = [v] ∧ SecAt w v l := by
  obtain ⟨v, l, hc, _, hE, _⟩ := trod_list (k := 1) (f := fun s : ByteArray => [.string s]) (ok := fun _ => True) Try.underlying23 cells_string (by decide) bytes_string (by decide) (fun _ => rfl) (fun cs' n y _ ht _ => by
    obtain ⟨s, hs, _, _⟩ := DataW.trod_string Try.underlying9 ht
    exact ⟨s, trivial, hs⟩) h hB
  exact ⟨v, l, hc, hE⟩
theorem open_disk {ts : List TypeId} {ds : List (DataW H)} {j : Nat} {r : Reach} {b0 : Nat} {v : Value} {d : DataW H} {p : List MemPlace} (hsz : (DataW.weightsEach Try.prog ts ds).all (· ≤ reachBytes) = true) (ht : ts[j]? = some 25) (hd : ds[j]? = some d)
    (hv : Value.okWide Try.prog w r b0 25 v) (h : DataW.Trod enc Try.prog w base spare held 25 v d p) : ∃ (x : Dk) (u : Value), v = x.val u ∧ SecAt w u x.s ∧ (Lit.int .i64 x.left).wf = true := by
  obtain ⟨cs, rfl, hl, hf⟩ := open_structB fields_disk (by simp) hv h (Bd.arg hsz ht hd)
  rw [cells_disk] at hl
  obtain ⟨n0, y0, h0, hb0⟩ := hf 0 _ _ rfl
  obtain ⟨n1, y1, h1, _⟩ := hf 1 _ _ rfl
  obtain ⟨n2, y2, h2, _⟩ := hf 2 _ _ rfl
  rw [cells_strs] at h0
  rw [cells_int] at h1
  rw [cells_bool] at h2
  obtain ⟨u, l, hu, hS⟩ := trod_strs h0 hb0
  obtain ⟨a, ha, _, hwa⟩ := DataW.trod_int Try.underlying3 h1
  obtain ⟨c, hc, _⟩ := DataW.trod_bool Try.underlying4 h2
  match cs, hl with
  | [x0, x1, x2], _ =>
    simp at hu ha hc
    subst hu ha hc
    exact ⟨⟨l, a, c⟩, _, rfl, hS, hwa⟩
theorem trod_act {n : Nat} {cs : List Value} {y : DataW H × List MemPlace} (h : DataW.trod enc Try.prog w base spare held n 32 cs = some y) (hB : Bd Try.prog 32 y.1) : ∃ x : Ac, x.ok ∧ cs = x.cells := by
  obtain ⟨hl, hf⟩ := trod_fieldsB fields_act (by simp) h hB
  rw [cells_act] at hl
  obtain ⟨n0, y0, h0, _⟩ := hf 0 _ _ rfl
  obtain ⟨n1, y1, h1, _⟩ := hf 1 _ _ rfl
  obtain ⟨n2, y2, h2, _⟩ := hf 2 _ _ rfl
  obtain ⟨n3, y3, h3, _⟩ := hf 3 _ _ rfl
  rw [cells_int] at h0 h1 h2
  rw [cells_string] at h3
  obtain ⟨a, ha, _, hwa⟩ := DataW.trod_int Try.underlying3 h0
  obtain ⟨b, hb, _, hwb⟩ := DataW.trod_int Try.underlying3 h1
  obtain ⟨c, hc, _, hwc⟩ := DataW.trod_int Try.underlying3 h2
  obtain ⟨s, hs, _, hws⟩ := DataW.trod_string Try.underlying9 h3
  match cs, hl with
  | [x0, x1, x2, x3], _ =>
    simp at ha hb hc hs
    subst ha hb hc hs
    exact ⟨⟨a, b, c, s⟩, ⟨hwa, hwb, hwc, hws⟩, rfl⟩
theorem open_acts {ts : List TypeId} {ds : List (DataW H)} {j : Nat} {v : Value} {d : DataW H} {p : List MemPlace} (hsz : (DataW.weightsEach Try.prog ts ds).all (· ≤ reachBytes) = true) (ht : ts[j]? = some 22) (hd : ds[j]? = some d)
    (hc : v.cells.toList = [v]) (h : DataW.Trod enc Try.prog w base spare held 22 v d p) : ∃ l : List Ac, (∀ x ∈ l, x.ok) ∧ ElAt w 4 v (l.map Ac.cells) := by
  obtain ⟨fuel, hf⟩ := h
  obtain ⟨u, l, hu, hok, hE, _⟩ := trod_list (k := 4) (f := Ac.cells) (ok := Ac.ok) Try.underlying22 cells_act (by decide) bytes_act (by decide) (fun _ => rfl) (fun cs' n y _ ht hB => trod_act ht hB) hf (Bd.arg hsz ht hd)
  rw [hc] at hu
  injection hu with hu _
  subst hu
  exact ⟨l, hok, hE⟩
theorem open_ints {ts : List TypeId} {ds : List (DataW H)} {j : Nat} {v : Value} {d : DataW H} {p : List MemPlace} (hsz : (DataW.weightsEach Try.prog ts ds).all (· ≤ reachBytes) = true) (ht : ts[j]? = some 42) (hd : ds[j]? = some d)
    (hc : v.cells.toList = [v]) (h : DataW.Trod enc Try.prog w base spare held 42 v d p) : ∃ l : List Int, (∀ x ∈ l, (Lit.int .i64 x).wf = true) ∧ ElAt w 1 v (l.map fun x => [.int .i64 x]) := by
  obtain ⟨fuel, hf⟩ := h
  obtain ⟨u, l, hu, hok, hE, _⟩ := trod_list (k := 1) (f := fun x : Int => [.int .i64 x]) (ok := fun x => (Lit.int .i64 x).wf = true) Try.underlying42 cells_int (by decide) bytes_int (by decide) (fun _ => rfl) (fun cs' n y _ ht _ => by
    obtain ⟨a, ha, _, hwa⟩ := DataW.trod_int Try.underlying3 ht
    exact ⟨a, hwa, ha⟩) hf (Bd.arg hsz ht hd)
  rw [hc] at hu
  injection hu with hu _
  subst hu
  exact ⟨l, hok, hE⟩
end
end Go.Proofs.Ythliialieogakaa
