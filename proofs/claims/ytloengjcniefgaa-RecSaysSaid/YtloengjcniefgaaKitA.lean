/- Slices that the call itself makes: one element appended; cells read. Over any program. -/
import Derived.Test.YtloengjcniefgaaKit
import Derived.Deep.Draws
namespace Go.Proofs.Ytloengjcniefgaa
set_option linter.unusedVariables false
set_option linter.unusedSimpArgs false
open Go.RowKit
/-- 'out = append(out, x)', out nil or the call's own, x in a new block. -/
theorem wpList_append1 {P : Program} {w : World} {ops : Array Oper} {rest : List Oper} {a : Act} {Q : Exit → Act → World → Prop} {d : Option Tmp} {s x : Operand} {ty : TypeId} {p : String} {af : Array Edge}
    (t e : TypeId) (z : Value) (size bytes : Nat) (ht : P.underlying t = some (.slice e)) (hi : (P.info? e).map (fun i => (i.zero, i.size, i.bytes)) = some (some z, size, bytes)) (hzs : z.cells.size = size) (hsz : 0 < size) (hby : bytes ≤ 1000)
    (hh : ∃ (B : Nat) (v : Value) (n : Nat) (xs : List Value) (g c : Nat) (news : List Value), a.eval s = v ∧ a.eval x = .slice (some ⟨g, 0, none⟩) 1 c ∧ w.ownsRow B e size v n xs ∧ news.length = size ∧ (∀ j u, news[j]? = some u → w.cell? ⟨g, j, none⟩ = some u) ∧ (∀ u ∈ news, u.oneCell' = true) ∧
      n ≤ 1000000000 ∧ B ≤ w.heap.size ∧ ∀ v' w1, w1.ownsRow B e size v' (n + 1) (xs ++ news) → Below B w w1 → w.grownBy w1 v.ownBlock → wpList P ops Q rest (a.put d v') w1) :
    wpList P ops Q (⟨d, .call { callee := .builtin .append, args := #[s, x], argTypes := #[t, t] }, ty, p, af, none⟩ :: rest) a w := by
  obtain ⟨B, v, n, xs, g, c, news, hs, hx, hown, hl, hnews, h1, hn, hB, h⟩ := hh
  obtain ⟨i, hi0, hz, hsz1, hby1⟩ := info_parts hi
  refine wpList_append_own w rfl s x t rfl B e i z size bytes ht hi0 hz hsz1 hby1 hzs hsz v n xs hs hown ⟨g, 0, none⟩ 1 c news hx (by omega) (fun j u hu => by simpa [Addr.add_lit] using hnews j u hu) h1 (by unfold maxLen; omega) ?_ hB ?_
  · have : (n + 1) * bytes ≤ 1000000001 * 1000 := Nat.mul_le_mul (by omega) hby
    omega
  · intro v' w1 ho hg _
    exact h v' w1 ho ((Below.refl _ _).grown hg hB (fun k hk => (hown.lt k hk).1)) hg
/-- A slice of n elements whose cells are xs, to be read. -/
def RowsAt (w : World) (ao : Option Addr) (n : Nat) (xs : List Value) : Prop :=
  0 < n → ∃ g, ao = some ⟨g, 0, none⟩ ∧ g < w.heap.size ∧ ∀ j u, xs[j]? = some u → w.cell? ⟨g, j, none⟩ = some u
theorem ownsRow_shape {w : World} {B e size n : Nat} {v : Value} {xs : List Value} (h : w.ownsRow B e size v n xs) : ∃ ao cap, v = .slice ao n cap ∧ n ≤ cap ∧ RowsAt w ao n xs := by
  rcases h.2 with ⟨rfl, rfl⟩ | ⟨g, cap, cur, rfl, hb, hg, hnc, hcm, hcs, htk⟩
  · exact ⟨none, 0, rfl, Nat.le_refl _, fun h0 => by omega⟩
  · refine ⟨_, cap, rfl, hnc, fun _ => ⟨g, rfl, (Array.getElem?_eq_some_iff.1 hg).1, fun j u hu => ?_⟩⟩
    have := h.cells (g := g) rfl j u hu
    simpa [Addr.add_lit] using this
theorem RowsAt.below {w w1 : World} {ao : Option Addr} {n : Nat} {xs : List Value} (h : RowsAt w ao n xs) (hb : Below w.heap.size w w1) : RowsAt w1 ao n xs := fun h0 =>
  let ⟨g, ha, hg, hc⟩ := h h0
  ⟨g, ha, Nat.lt_of_lt_of_le hg hb.size, fun j u hu => (hb.cell (p := ⟨g, j, none⟩) hg).trans (hc j u hu)⟩
theorem ownsRow_below {w w1 : World} {B e size n : Nat} {v : Value} {xs : List Value} (h : w.ownsRow B e size v n xs) (hb : Below w.heap.size w w1) : w1.ownsRow B e size v n xs :=
  h.kept (row := none) ⟨hb.os, hb.tape, hb.output, hb.size, fun k hk _ => hb.block k hk⟩ (by cases hv : v.ownBlock <;> simp)
/-- A new block's cells. -/
theorem new_cells (w : World) (e : TypeId) (cs : List Value) : ∀ j u, cs[j]? = some u → (w.alloc (.cells cs.toArray e)).cell? ⟨w.heap.size, j, none⟩ = some u := by
  intro j u hu
  rw [World.cell?_alloc_new]
  simpa using hu
theorem _root_.Go.RowKit.Below.drewN {B : Nat} {a w : World} (h : Below B a w) (n : Nat) : Below B a (w.drewN n) := ⟨h.os, h.tape, h.output, h.size, h.block⟩
theorem below_self_drewN (w : World) (n : Nat) : Below w.heap.size w (w.drewN n) := (Below.refl _ _).drewN n

/-- The values xs lie in block g, one cell each, from its first cell on, none of them marked. -/
def ValsAt (w : World) (g : Nat) (xs : List Value) : Prop :=
  ∀ j (hj : j < xs.length), w.cell? ⟨g, j, none⟩ = some xs[j] ∧ w.frozen? ⟨g, j, none⟩ = false
theorem ValsAt.below {w w1 : World} {g : Nat} {l : List Value} {B : Nat} (h : ValsAt w g l) (hb : Below B w w1) (hg : g < B) : ValsAt w1 g l := fun j hj =>
  ⟨(hb.cell (p := ⟨g, j, none⟩) hg).trans (h j hj).1, (hb.frozen (p := ⟨g, j, none⟩) hg).trans (h j hj).2⟩
theorem ValsAt.drewN {w : World} {g : Nat} {l : List Value} (h : ValsAt w g l) (n : Nat) : ValsAt (w.drewN n) g l := h
theorem ValsAt.set {w : World} {g : Nat} {l : List Value} (h : ValsAt w g l) (k : Nat) (hk : k < l.length) (v : Value) : ValsAt (w.setCell ⟨g, k, none⟩ v) g (l.set k v) := by
  intro j hj
  have hj' : j < l.length := by simpa using hj
  constructor
  · by_cases e : k = j
    · subst e
      rw [World.cell?_setCell_same w ⟨g, k, none⟩ _ (h k hk).1]
      simp
    · rw [World.cell?_setCell_other w _ _ _ (by simp [e]), (h j hj').1, List.getElem_set_ne e]
  · rw [World.frozen?_setCell]; exact (h j hj').2
theorem ValsAt.other {w : World} {g g2 : Nat} {l : List Value} (h : ValsAt w g l) (hne : g2 ≠ g) (k : Nat) (v : Value) : ValsAt (w.setCell ⟨g2, k, none⟩ v) g l := by
  intro j hj
  constructor
  · rw [World.cell?_setCell_other w _ _ _ (by simp [hne])]; exact (h j hj).1
  · rw [World.frozen?_setCell]; exact (h j hj).2
/-- 'make([]T, n)', T of one cell. -/
theorem wpList_makeVals {P : Program} {w : World} {ops : Array Oper} {rest : List Oper} {a : Act} {Q : Exit → Act → World → Prop} {d : Option Tmp} {x y : Operand} {ty : TypeId} {p : String} {af : Array Edge}
    (t e : TypeId) (z : Value) (bytes : Nat) (hz1 : z.cells = #[z]) (hby8 : bytes ≤ 16) (ht : P.underlying t = some (.slice e)) (hi : (P.info? e).map (fun i => (i.zero, i.size, i.bytes)) = some (some z, 1, bytes))
    (hh : ∃ (n : Nat) (L C : Int) (kl kc : IntKind), a.eval x = .int kl L ∧ a.eval y = .int kc C ∧ L = n ∧ C = n ∧ n ≤ 1000000000 ∧ ∀ g w1, w.heap.size ≤ g → g < w1.heap.size → Below w.heap.size w w1 → ValsAt w1 g (List.replicate n z) → wpList P ops Q rest (a.put d (.slice (some ⟨g, 0, none⟩) n n)) w1) :
    wpList P ops Q (⟨d, .makeSlice t x y, ty, p, af, none⟩ :: rest) a w := by
  obtain ⟨n, L, C, kl, kc, hx, hy, hL, hC, hn, h⟩ := hh
  subst hL
  subst hC
  obtain ⟨i, hi0, hz, hsz, hby⟩ := info_parts hi
  obtain ⟨w1, hrun, hown, hgr⟩ := run_make_full (P := P) w 0 t e i z 1 ht hi0 hz hsz kl kc n (by rw [hby]; have : bytes * n ≤ 16 * 1000000000 := Nat.mul_le_mul hby8 hn; omega) (by unfold maxLen; omega) (Nat.zero_le _)
  refine wpList_plain rfl fun K hK' => ?_
  unfold Oper.wp
  simp only [execOp, hx, hy]
  simp [hrun, Result.andThen, Oper.upon]
  have hB : Below w.heap.size w w1 := (Below.refl _ _).grown hgr (Nat.le_refl _) (by intro k hk; cases hk)
  have hlt := (hown.lt w.heap.size rfl).2
  refine hK' _ _ (h _ _ (Nat.le_refl _) hlt hB ?_)
  intro j hj
  have hj' : j < n := by simpa using hj
  obtain ⟨_, hr⟩ := hown
  rcases hr with ⟨hv, _⟩ | ⟨g, cap, cur, hv, _, hb, _, _, hcs, htk⟩
  · cases hv
  · injection hv with h1 h2 h3
    injection h1 with h1
    injection h1 with h1
    subst h1
    have hm : cur = madeCells #[z] n := by
      have hsz2 : cur.size = n := by omega
      apply Array.toList_inj.1
      rw [← List.take_of_length_le (l := cur.toList) (i := n * 1) (by simp; omega), htk, hz1]
      simp
    subst hm
    constructor
    · simp only [World.cell?, hb]
      simp [madeCells, hj', Nat.mod_one]
    · simp [World.frozen?, hb]
end Go.Proofs.Ytloengjcniefgaa
