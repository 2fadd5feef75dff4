/- Records and lists of records that came in. -/
import Derived.Test.YtloengjcniefgaaRecP
import Derived.Test.YtloengjcniefgaaKitB
import Derived.Test.YtloengjcniefgaaKitE
namespace Go.Proofs.Ytloengjcniefgaa.Rec
set_option linter.unusedVariables false
set_option linter.unusedSimpArgs false
open Go.RowKit Go.ChangeShapes Go.WideShapes Go.Deep
open Oct (S S_size S_data)
theorem fields_rec : fieldsOf Try.prog 31 = [(3, 0), (3, 1), (3, 2), (3, 3), (3, 4), (3, 5), (3, 6), (23, 7), (3, 11), (3, 12), (27, 13), (28, 16), (29, 17)] := by kernel_rfl
theorem fields_op : fieldsOf Try.prog 23 = [(3, 0), (3, 1), (9, 2), (9, 3)] := by kernel_rfl
theorem fields_entry : fieldsOf Try.prog 27 = [(9, 0), (25, 1)] := by kernel_rfl
theorem fields_rid : fieldsOf Try.prog 25 = [(3, 0), (3, 1)] := by kernel_rfl
theorem fields_txn : fieldsOf Try.prog 67 = [(3, 0), (3, 1), (3, 2), (4, 3)] := by kernel_rfl
theorem fields_dirty : fieldsOf Try.prog 71 = [(3, 0), (3, 1)] := by kernel_rfl
theorem cells_int : Try.prog.cellsOf 3 = 1 := by kernel_rfl
theorem cells_bool : Try.prog.cellsOf 4 = 1 := by kernel_rfl
theorem cells_string : Try.prog.cellsOf 9 = 1 := by kernel_rfl
theorem cells_op : Try.prog.cellsOf 23 = 4 := by kernel_rfl
theorem cells_entry : Try.prog.cellsOf 27 = 3 := by kernel_rfl
theorem cells_rid : Try.prog.cellsOf 25 = 2 := by kernel_rfl
theorem cells_txn : Try.prog.cellsOf 67 = 4 := by kernel_rfl
theorem cells_dirty : Try.prog.cellsOf 71 = 2 := by kernel_rfl
theorem cells_rec : Try.prog.cellsOf 31 = 18 := by kernel_rfl
theorem cells_txns : Try.prog.cellsOf 28 = 1 := by kernel_rfl
theorem cells_dirties : Try.prog.cellsOf 29 = 1 := by kernel_rfl
theorem bytes_txn : Try.prog.bytesOf 67 = 32 := by kernel_rfl
theorem bytes_dirty : Try.prog.bytesOf 71 = 16 := by kernel_rfl
section
variable {H : Type} {enc : TypeId × Value → H} {w : World} {base : Nat} {spare : Nat → Bool} {held : Bool}
/-- Elements of k cells, each the cells of something. -/
theorem ElAt.gather {α : Type} {k : Nat} {w : World} {b off len cap : Nat} {f : α → List Value} {ok : α → Prop} (hk : ∀ x, (f x).length = k) (hlt : b < w.heap.size) (hs : len ≤ 140737488351232)
    (h : ∀ i, i < len → ∃ x, ok x ∧ ∀ j, j < k → w.cell? ⟨b, off + i * k + j, none⟩ = (f x)[j]?) :
    ∃ l : List α, l.length = len ∧ (∀ x ∈ l, ok x) ∧ ElAt w k (.slice (some ⟨b, off, none⟩) len cap) (l.map f) := by
  obtain ⟨l, hll, hp⟩ := list_of (p := fun i (x : α) => ok x ∧ ∀ j u, (f x)[j]? = some u → w.cell? ⟨b, off + i * k + j, none⟩ = some u) fun i hi => by
    obtain ⟨x, hx, hc⟩ := h i hi
    refine ⟨x, hx, fun j u hu => ?_⟩
    have hj : j < k := by rw [← hk x]; exact (List.getElem?_eq_some_iff.1 hu).1
    exact (hc j hj).trans hu
  subst hll
  refine ⟨l, rfl, fun x hx => ?_, by simpa using hs, fun c hc => ?_, _, cap, by rw [List.length_map], fun _ => ⟨b, off, rfl, hlt, fun j hj i u hu => ?_⟩⟩
  · obtain ⟨i, hi, rfl⟩ := List.getElem_of_mem hx
    exact (hp i hi).1
  · obtain ⟨x, _, rfl⟩ := List.mem_map.1 hc
    exact hk x
  · rw [List.length_map] at hj
    refine (hp j hj).2 i u ?_
    simpa using hu
theorem ElAt.none_ {α : Type} {k cap : Nat} {w : World} {ao : Option Addr} {f : α → List Value} {ok : α → Prop} : ∃ l : List α, l.length = 0 ∧ (∀ x ∈ l, ok x) ∧ ElAt w k (.slice ao 0 cap) (l.map f) :=
  ⟨[], rfl, fun x h => by simp at h, by simp, fun c h => by simp at h, ao, cap, rfl, fun h => by simp at h⟩
/-- The cells of a slice of elements of k cells. -/
theorem trod_list {α : Type} {k by_ : Nat} {t e : TypeId} {f : α → List Value} {ok : α → Prop} (ht : Try.prog.underlying t = some (.slice e)) (hk : Try.prog.cellsOf e = k) (hk0 : 0 < k) (hbe : Try.prog.bytesOf e = by_) (hb0 : 2 ≤ by_) (hf : ∀ x, (f x).length = k)
    (hel : ∀ cs' n y, cs'.length = k → DataW.trod enc Try.prog w base spare held n e cs' = some y → Bd Try.prog e y.1 → ∃ x, ok x ∧ cs' = f x)
    {n : Nat} {cs : List Value} {y : DataW H × List MemPlace} (h : DataW.trod enc Try.prog w base spare held n t cs = some y) (hB : Bd Try.prog t y.1) :
    ∃ (v : Value) (l : List α), cs = [v] ∧ (∀ x ∈ l, ok x) ∧ ElAt w k v (l.map f) ∧ l.length * by_ ≤ 140737488351232 := by
  obtain ⟨ao, len, cap, rfl, hlc, hcm, hby, he⟩ := trod_elemsB ht (by rw [hk]; exact hk0) h hB
  rw [hbe] at hby
  unfold reachBytes at hby
  by_cases h0 : 0 < len
  · obtain ⟨b, off, rfl, hlt, hi⟩ := he h0
    rw [hk] at hi
    have hlen : len ≤ 140737488351232 := by have := Nat.mul_le_mul_left len hb0; omega
    obtain ⟨l, hl, hok, hE⟩ := ElAt.gather (cap := cap) (f := f) (ok := ok) hf hlt hlen fun i hi2 => by
      obtain ⟨cs', n, y, hl', hg, ht', hB'⟩ := hi i hi2
      obtain ⟨x, hx, rfl⟩ := hel cs' n y hl' ht' hB'
      exact ⟨x, hx, hg⟩
    exact ⟨_, l, rfl, hok, hE, by rw [hl]; exact hby⟩
  · have : len = 0 := by omega
    subst this
    obtain ⟨l, hl, hok, hE⟩ := ElAt.none_ (w := w) (cap := cap) (ao := ao) (k := k) (f := f) (ok := ok)
    exact ⟨_, l, rfl, hok, hE, by rw [hl]; simp⟩
set_option maxRecDepth 100000 in
theorem trod_tx {n : Nat} {cs : List Value} {y : DataW H × List MemPlace} (h : DataW.trod enc Try.prog w base spare held n 67 cs = some y) (hB : Bd Try.prog 67 y.1) : ∃ x : Tx, True ∧ cs = x.cells := by
  obtain ⟨hl, hf⟩ := trod_fieldsB fields_txn (by simp) h hB
  rw [cells_txn] at hl
  obtain ⟨n0, y0, h0, _⟩ := hf 0 _ _ rfl
  obtain ⟨n1, y1, h1, _⟩ := hf 1 _ _ rfl
  obtain ⟨n2, y2, h2, _⟩ := hf 2 _ _ rfl
  obtain ⟨n3, y3, h3, _⟩ := hf 3 _ _ rfl
  rw [cells_int] at h0 h1 h2
  rw [cells_bool] at h3
  obtain ⟨a, ha, _⟩ := DataW.trod_int Try.underlying3 h0
  obtain ⟨b, hb, _⟩ := DataW.trod_int Try.underlying3 h1
  obtain ⟨c, hc, _⟩ := DataW.trod_int Try.underlying3 h2
  obtain ⟨d, hd, _⟩ := DataW.trod_bool Try.underlying4 h3
  match cs, hl with
  | [x0, x1, x2, x3], _ =>
    simp at ha hb hc hd
    subst ha hb hc hd
    exact ⟨⟨a, b, c, d⟩, trivial, rfl⟩
set_option maxRecDepth 100000 in
theorem trod_dy {n : Nat} {cs : List Value} {y : DataW H × List MemPlace} (h : DataW.trod enc Try.prog w base spare held n 71 cs = some y) (hB : Bd Try.prog 71 y.1) : ∃ x : Dy, True ∧ cs = x.cells := by
  obtain ⟨hl, hf⟩ := trod_fieldsB fields_dirty (by simp) h hB
  rw [cells_dirty] at hl
  obtain ⟨n0, y0, h0, _⟩ := hf 0 _ _ rfl
  obtain ⟨n1, y1, h1, _⟩ := hf 1 _ _ rfl
  rw [cells_int] at h0 h1
  obtain ⟨a, ha, _⟩ := DataW.trod_int Try.underlying3 h0
  obtain ⟨b, hb, _⟩ := DataW.trod_int Try.underlying3 h1
  match cs, hl with
  | [x0, x1], _ =>
    simp at ha hb
    subst ha hb
    exact ⟨⟨a, b⟩, trivial, rfl⟩
set_option maxRecDepth 100000 in
theorem trod_op {n : Nat} {cs : List Value} {y : DataW H × List MemPlace} (h : DataW.trod enc Try.prog w base spare held n 23 cs = some y) (hB : Bd Try.prog 23 y.1) : ∃ (a b : Int) (s t : ByteArray), cs = [.int .i64 a, .int .i64 b, .string s, .string t] := by
  obtain ⟨hl, hf⟩ := trod_fieldsB fields_op (by simp) h hB
  rw [cells_op] at hl
  obtain ⟨n0, y0, h0, _⟩ := hf 0 _ _ rfl
  obtain ⟨n1, y1, h1, _⟩ := hf 1 _ _ rfl
  obtain ⟨n2, y2, h2, _⟩ := hf 2 _ _ rfl
  obtain ⟨n3, y3, h3, _⟩ := hf 3 _ _ rfl
  rw [cells_int] at h0 h1
  rw [cells_string] at h2 h3
  obtain ⟨a, ha, _⟩ := DataW.trod_int Try.underlying3 h0
  obtain ⟨b, hb, _⟩ := DataW.trod_int Try.underlying3 h1
  obtain ⟨c, hc, _⟩ := DataW.trod_string Try.underlying9 h2
  obtain ⟨d, hd, _⟩ := DataW.trod_string Try.underlying9 h3
  match cs, hl with
  | [x0, x1, x2, x3], _ =>
    simp at ha hb hc hd
    subst ha hb hc hd
    exact ⟨a, b, c, d, rfl⟩
set_option maxRecDepth 100000 in
theorem trod_rid {n : Nat} {cs : List Value} {y : DataW H × List MemPlace} (h : DataW.trod enc Try.prog w base spare held n 25 cs = some y) (hB : Bd Try.prog 25 y.1) : ∃ (a b : Int), cs = [.int .i64 a, .int .i64 b] := by
  obtain ⟨hl, hf⟩ := trod_fieldsB fields_rid (by simp) h hB
  rw [cells_rid] at hl
  obtain ⟨n0, y0, h0, _⟩ := hf 0 _ _ rfl
  obtain ⟨n1, y1, h1, _⟩ := hf 1 _ _ rfl
  rw [cells_int] at h0 h1
  obtain ⟨a, ha, _⟩ := DataW.trod_int Try.underlying3 h0
  obtain ⟨b, hb, _⟩ := DataW.trod_int Try.underlying3 h1
  match cs, hl with
  | [x0, x1], _ =>
    simp at ha hb
    subst ha hb
    exact ⟨a, b, rfl⟩
set_option maxRecDepth 100000 in
theorem trod_entry {n : Nat} {cs : List Value} {y : DataW H × List MemPlace} (h : DataW.trod enc Try.prog w base spare held n 27 cs = some y) (hB : Bd Try.prog 27 y.1) : ∃ (s : ByteArray) (a b : Int), cs = [.string s, .int .i64 a, .int .i64 b] := by
  obtain ⟨hl, hf⟩ := trod_fieldsB fields_entry (by simp) h hB
  rw [cells_entry] at hl
  obtain ⟨n0, y0, h0, _⟩ := hf 0 _ _ rfl
  obtain ⟨n1, y1, h1, hb1⟩ := hf 1 _ _ rfl
  rw [cells_string] at h0
  rw [cells_rid] at h1
  obtain ⟨c, hc, _⟩ := DataW.trod_string Try.underlying9 h0
  obtain ⟨a, b, hr⟩ := trod_rid h1 hb1
  match cs, hl with
  | [x0, x1, x2], _ =>
    simp at hc hr
    obtain ⟨hr1, hr2⟩ := hr
    subst hc hr1 hr2
    exact ⟨c, a, b, rfl⟩
/-- A record and its lists. -/
def RecOk (w : World) (x : Rc × Value × Value) : Prop := ElAt w 4 x.2.1 (txC x.1.txns) ∧ ElAt w 2 x.2.2 (dyC x.1.dirty)
set_option maxRecDepth 100000 in
theorem cells_of_rec {cs : List Value} (hl : cs.length = 18) (hf : ∀ (i : Nat) (tf : TypeId) (o : Nat), [(3, 0), (3, 1), (3, 2), (3, 3), (3, 4), (3, 5), (3, 6), (23, 7), (3, 11), (3, 12), (27, 13), (28, 16), (29, 17)][i]? = some (tf, o) → ∃ n y, DataW.trod enc Try.prog w base spare held n tf ((cs.drop o).take (Try.prog.cellsOf tf)) = some y ∧ Bd Try.prog tf y.1) :
    ∃ x : Rc × Value × Value, RecOk w x ∧ cs = (rcC x.1 x.2.1 x.2.2).toList := by
  obtain ⟨_, _, h0, _⟩ := hf 0 _ _ rfl
  obtain ⟨_, _, h1, _⟩ := hf 1 _ _ rfl
  obtain ⟨_, _, h2, _⟩ := hf 2 _ _ rfl
  obtain ⟨_, _, h3, _⟩ := hf 3 _ _ rfl
  obtain ⟨_, _, h4, _⟩ := hf 4 _ _ rfl
  obtain ⟨_, _, h5, _⟩ := hf 5 _ _ rfl
  obtain ⟨_, _, h6, _⟩ := hf 6 _ _ rfl
  obtain ⟨_, _, h7, b7⟩ := hf 7 _ _ rfl
  obtain ⟨_, _, h8, _⟩ := hf 8 _ _ rfl
  obtain ⟨_, _, h9, _⟩ := hf 9 _ _ rfl
  obtain ⟨_, _, h10, b10⟩ := hf 10 _ _ rfl
  obtain ⟨_, _, h11, b11⟩ := hf 11 _ _ rfl
  obtain ⟨_, _, h12, b12⟩ := hf 12 _ _ rfl
  rw [cells_int] at h0 h1 h2 h3 h4 h5 h6 h8 h9
  rw [cells_op] at h7
  rw [cells_entry] at h10
  rw [cells_txns] at h11
  rw [cells_dirties] at h12
  obtain ⟨a0, e0, _⟩ := DataW.trod_int Try.underlying3 h0
  obtain ⟨a1, e1, _⟩ := DataW.trod_int Try.underlying3 h1
  obtain ⟨a2, e2, _⟩ := DataW.trod_int Try.underlying3 h2
  obtain ⟨a3, e3, _⟩ := DataW.trod_int Try.underlying3 h3
  obtain ⟨a4, e4, _⟩ := DataW.trod_int Try.underlying3 h4
  obtain ⟨a5, e5, _⟩ := DataW.trod_int Try.underlying3 h5
  obtain ⟨a6, e6, _⟩ := DataW.trod_int Try.underlying3 h6
  obtain ⟨k, sl, so, sn, e7⟩ := trod_op h7 b7
  obtain ⟨a8, e8, _⟩ := DataW.trod_int Try.underlying3 h8
  obtain ⟨a9, e9, _⟩ := DataW.trod_int Try.underlying3 h9
  obtain ⟨sk, rp, rs, e10⟩ := trod_entry h10 b10
  obtain ⟨vt, lt, e11, _, ht, _⟩ := trod_list (k := 4) (f := Tx.cells) (ok := fun _ => True) Try.underlying28 cells_txn (by decide) bytes_txn (by decide) (fun _ => rfl) (fun cs' n y _ ht hB => trod_tx ht hB) h11 b11
  obtain ⟨vd, ld, e12, _, hd, _⟩ := trod_list (k := 2) (f := Dy.cells) (ok := fun _ => True) Try.underlying29 cells_dirty (by decide) bytes_dirty (by decide) (fun _ => rfl) (fun cs' n y _ ht hB => trod_dy ht hB) h12 b12
  refine ⟨({ lsn := a0, prev := a1, txn := a2, kind := a3, page := a4, next := a5, num := a6, ok := k, os := sl, old := so.data.toList, new := sn.data.toList, how := a8, root := a9, key := sk.data.toList, rp := rp, rs := rs, txns := lt, dirty := ld }, vt, vd), ⟨ht, hd⟩, ?_⟩
  match cs, hl with
  | [x0, x1, x2, x3, x4, x5, x6, x7, x8, x9, x10, x11, x12, x13, x14, x15, x16, x17], _ =>
    simp at e0 e1 e2 e3 e4 e5 e6 e7 e8 e9 e10 e11 e12
    obtain ⟨f1, f2, f3, f4⟩ := e7
    obtain ⟨g1, g2, g3⟩ := e10
    subst e0 e1 e2 e3 e4 e5 e6 f1 f2 f3 f4 e8 e9 g1 g2 g3 e11 e12
    simp only [rcC, Oct.S_of]
set_option maxRecDepth 100000 in
theorem open_rec {ts : List TypeId} {ds : List (DataW H)} {j : Nat} {r : Reach} {b0 : Nat} {v : Value} {d : DataW H} {p : List MemPlace} (hsz : (DataW.weightsEach Try.prog ts ds).all (· ≤ reachBytes) = true) (ht : ts[j]? = some 31) (hd : ds[j]? = some d)
    (hv : Value.okWide Try.prog w r b0 31 v) (h : DataW.Trod enc Try.prog w base spare held 31 v d p) : ∃ (x : Rc) (vt vd : Value), v = .agg (rcC x vt vd) ∧ ElAt w 4 vt (txC x.txns) ∧ ElAt w 2 vd (dyC x.dirty) := by
  obtain ⟨cs, rfl, hl, hf⟩ := open_structB fields_rec (by simp) hv h (Bd.arg hsz ht hd)
  rw [cells_rec] at hl
  obtain ⟨⟨x, vt, vd⟩, ⟨h1, h2⟩, hc⟩ := cells_of_rec hl hf
  exact ⟨x, vt, vd, by rw [hc], h1, h2⟩
theorem bytes_rec : 2 ≤ Try.prog.bytesOf 31 := by decide +kernel
set_option maxRecDepth 100000 in
theorem trod_rec {n : Nat} {cs : List Value} {y : DataW H × List MemPlace} (h : DataW.trod enc Try.prog w base spare held n 31 cs = some y) (hB : Bd Try.prog 31 y.1) : ∃ x : Rc × Value × Value, RecOk w x ∧ cs = (rcC x.1 x.2.1 x.2.2).toList := by
  obtain ⟨hl, hf⟩ := trod_fieldsB fields_rec (by simp) h hB
  rw [cells_rec] at hl
  exact cells_of_rec hl hf
set_option maxRecDepth 100000 in
theorem open_recs {ts : List TypeId} {ds : List (DataW H)} {j : Nat} {v : Value} {d : DataW H} {p : List MemPlace} (hsz : (DataW.weightsEach Try.prog ts ds).all (· ≤ reachBytes) = true) (ht : ts[j]? = some 44) (hd : ds[j]? = some d)
    (hc : v.cells.toList = [v]) (h : DataW.Trod enc Try.prog w base spare held 44 v d p) : ∃ l : List (Rc × Value × Value), (∀ x ∈ l, RecOk w x) ∧ ElAt w 18 v (l.map fun x => (rcC x.1 x.2.1 x.2.2).toList) := by
  obtain ⟨fuel, hf⟩ := h
  obtain ⟨u, l, hu, hok, hE, _⟩ := trod_list (k := 18) (f := fun x : Rc × Value × Value => (rcC x.1 x.2.1 x.2.2).toList) (ok := RecOk w) Try.underlying44 cells_rec (by decide) rfl bytes_rec (fun _ => rfl) (fun cs' n y _ ht hB => trod_rec ht hB) hf (Bd.arg hsz ht hd)
  rw [hc] at hu
  injection hu with hu _
  subst hu
  exact ⟨l, hok, hE⟩
end
end Go.Proofs.Ytloengjcniefgaa.Rec
