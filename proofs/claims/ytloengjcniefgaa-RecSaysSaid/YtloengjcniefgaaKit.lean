/- Small laws over any program: the endings of walks, bytes in a block, the conversion of a string to bytes. -/
import GoSem.Claim
import Derived.WalkKit
import Derived.WalkLawsBesides
import Derived.WalkSpells
import Derived.Lib.Hide
namespace Go.Proofs.Ytloengjcniefgaa
set_option linter.unusedVariables false
set_option linter.unusedSimpArgs false
open Go.RowKit
def Ret (v : Value) (W : World) (e : Ending) (w : World) : Prop := e = .returned v ∧ Below W.heap.size W w
def Eq1 (v : Value) (W : World) (e : Ending) (w : World) : Prop := e = .returned v ∧ W = w

theorem _root_.Go.RowKit.Below.next {w w1 w2 : World} (h : Below w.heap.size w w1) (k : Below w1.heap.size w1 w2) : Below w.heap.size w w2 := h.trans (k.mono h.size)
theorem ret2_int {k : IntKind} {a b : Int} {v : Value} (h : a = b) : Ending.returned (.tuple #[.int k a, v]) = .returned (.tuple #[.int k b, v]) := by rw [h]
theorem ret_int {k : IntKind} {a b : Int} (h : a = b) : Ending.returned (.int k a) = .returned (.int k b) := by rw [h]
theorem ret_bool {a b : Bool} (h : b = a) : Ending.returned (.bool a) = .returned (.bool b) := by rw [h]
theorem ret_str {a b : ByteArray} (h : a = b) : Ending.returned (.string a) = .returned (.string b) := by rw [h]
/-- The bytes l lie in block g from its first cell on, none of them marked. -/
def BytesAt (w : World) (g : Nat) (l : List UInt8) : Prop :=
  ∀ j (hj : j < l.length), w.cell? ⟨g, j, none⟩ = some (.int .u8 (l[j].toNat : Int)) ∧ w.frozen? ⟨g, j, none⟩ = false

theorem wpList_bytes {P : Program} {w : World} {ops : Array Oper} {rest : List Oper} {a : Act} {Q : Exit → Act → World → Prop} {d : Option Tmp} {x : Operand} {ty : TypeId} {p : String} {af : Array Edge}
    (src dst e : TypeId) (hs : P.underlying src = some .string) (hd : P.underlying dst = some (.slice e)) (he : P.underlying e = some (.int .u8))
    (hh : ∃ s : ByteArray, a.eval x = .string s ∧ ∀ g cap w1, w.heap.size ≤ g → g < w1.heap.size → Below w.heap.size w w1 → BytesAt w1 g s.data.toList → wpList P ops Q rest (a.put d (.slice (some ⟨g, 0, none⟩) s.size cap)) w1) :
    wpList P ops Q (⟨d, .convert src dst x, ty, p, af, none⟩ :: rest) a w := by
  obtain ⟨s, hx, h⟩ := hh
  refine wpList_plain rfl fun K hK' => ?_
  have hrun := run_bytes_of_string w src dst e s hs hd he
  unfold Oper.wp
  simp only [execOp, hx]
  simp [hrun, Result.andThen, Oper.upon]
  have hz : w.drew.heap.size = w.heap.size := rfl
  generalize grownCap w s.size 0 e = cap at *
  refine hK' _ _ (h _ _ _ (Nat.le_refl _) ?_ ?_ ?_)
  · simp only [World.size_alloc, hz]; omega
  · exact ((Below.refl _ _).drew.alloc (by rw [hz]; exact Nat.le_refl _) _)
  · intro j hj
    have hj' : j < s.data.size := by simpa using hj
    have hle : s.data.size ≤ (bytesRow s cap).size := by unfold bytesRow; simp
    constructor
    · have := World.cell?_alloc_mark w.drew (bytesRow s cap) e ((bytesRow s cap).size, (bytesRow s cap).size + 1) j
      rw [hz] at this
      rw [this, bytesRow_at s cap j hj']
      simp
    · have := World.frozen?_alloc_mark w.drew (bytesRow s cap) e ((bytesRow s cap).size) ((bytesRow s cap).size + 1) j
      rw [hz] at this
      rw [this]
      simp; omega

theorem BytesAt.below {w w1 : World} {g : Nat} {l : List UInt8} {B : Nat} (h : BytesAt w g l) (hb : Below B w w1) (hg : g < B) : BytesAt w1 g l := fun j hj =>
  ⟨(hb.cell (p := ⟨g, j, none⟩) hg).trans (h j hj).1, (hb.frozen (p := ⟨g, j, none⟩) hg).trans (h j hj).2⟩
theorem BytesAt.drew {w : World} {g : Nat} {l : List UInt8} (h : BytesAt w g l) : BytesAt w.drew g l := h
theorem BytesAt.set {w : World} {g : Nat} {l : List UInt8} (h : BytesAt w g l) (k : Nat) (hk : k < l.length) (c : UInt8) : BytesAt (w.setCell ⟨g, k, none⟩ (.int .u8 (c.toNat : Int))) g (l.set k c) := by
  intro j hj
  have hj' : j < l.length := by simpa using hj
  constructor
  · by_cases e : k = j
    · subst e
      rw [World.cell?_setCell_same w ⟨g, k, none⟩ _ (h k hk).1]
      simp
    · rw [World.cell?_setCell_other w _ _ _ (by simp [e]), (h j hj').1, List.getElem_set_ne e]
  · rw [World.frozen?_setCell]; exact (h j hj').2

theorem wpList_makeBytes {P : Program} {w : World} {ops : Array Oper} {rest : List Oper} {a : Act} {Q : Exit → Act → World → Prop} {d : Option Tmp} {x y : Operand} {ty : TypeId} {p : String} {af : Array Edge}
    (t e : TypeId) (ht : P.underlying t = some (.slice e)) (hi : (P.info? e).map (fun i => (i.zero, i.size, i.bytes)) = some (some (.int .u8 0), 1, 1))
    (hh : ∃ (n : Nat) (kl : IntKind) (kc : IntKind), a.eval x = .int kl (n : Int) ∧ a.eval y = .int kc (n : Int) ∧ n ≤ 281474976710656 ∧ ∀ g w1, w.heap.size ≤ g → g < w1.heap.size → Below w.heap.size w w1 → BytesAt w1 g (List.replicate n 0) → wpList P ops Q rest (a.put d (.slice (some ⟨g, 0, none⟩) n n)) w1) :
    wpList P ops Q (⟨d, .makeSlice t x y, ty, p, af, none⟩ :: rest) a w := by
  obtain ⟨n, kl, kc, hx, hy, hn, h⟩ := hh
  obtain ⟨i, hi0, hz, hsz, hby⟩ := info_parts hi
  obtain ⟨w1, hrun, hown, hgr⟩ := run_make_full (P := P) w 0 t e i (.int .u8 0) 1 ht hi0 hz hsz kl kc n (by rw [hby]; omega) (by unfold maxLen; omega) (Nat.zero_le _)
  refine wpList_plain rfl fun K hK' => ?_
  unfold Oper.wp
  simp only [execOp, hx, hy]
  simp [hrun, Result.andThen, Oper.upon]
  have hB : Below w.heap.size w w1 := (Below.refl _ _).grown hgr (Nat.le_refl _) (by intro k hk; cases hk)
  have hlt := (hown.lt w.heap.size rfl).2
  refine hK' _ _ (h _ _ (Nat.le_refl _) hlt hB ?_)
  intro j hj
  have hj' : j < n := by simpa using hj
  obtain ⟨_, hr⟩ := hown
  rcases hr with ⟨hv, _⟩ | ⟨g, cap, cur, hv, _, hb, _, _, hcs, htk⟩
  · cases hv
  · injection hv with h1 h2 h3
    injection h1 with h1
    injection h1 with h1
    subst h1
    have hm : cur = madeCells #[.int .u8 0] n := by
      have hsz2 : cur.size = n := by omega
      apply Array.toList_inj.1
      rw [← List.take_of_length_le (l := cur.toList) (i := n * 1) (by simp; omega), htk]
      simp [Value.cells]
    subst hm
    constructor
    · simp only [World.cell?, hb]
      simp [madeCells, hj', Nat.mod_one]
    · simp [World.frozen?, hb]

theorem wpList_stringOf {P : Program} {w : World} {ops : Array Oper} {rest : List Oper} {a : Act} {Q : Exit → Act → World → Prop} {d : Option Tmp} {x : Operand} {ty : TypeId} {p : String} {af : Array Edge}
    (src dst e : TypeId) (hs : P.underlying src = some (.slice e)) (he : P.underlying e = some (.int .u8)) (hd : P.underlying dst = some .string) (l : List UInt8)
    (hh : ∃ g n cap, a.eval x = .slice (some ⟨g, 0, none⟩) n cap ∧ n = l.length ∧ BytesAt w g l ∧ wpList P ops Q rest (a.put d (.string ⟨l.toArray⟩)) w) :
    wpList P ops Q (⟨d, .convert src dst x, ty, p, af, none⟩ :: rest) a w := by
  obtain ⟨g, n, cap, hx, hn, hb, h⟩ := hh
  subst hn
  refine wpList_plain rfl fun K hK' => ?_
  have hrun := run_convert_bytes_back (P := P) w src dst e ⟨g, 0, none⟩ cap l hs he hd (fun j hj => by
    have := (hb j hj).1
    simpa [Addr.add_lit] using this)
  unfold Oper.wp
  simp only [execOp, hx]
  simp [hrun, Result.andThen, Oper.upon]
  exact hK' _ _ h

theorem bytesAt_one (w : World) (e : TypeId) (x : Int) (c : UInt8) (h : x = (c.toNat : Int)) : BytesAt (w.alloc (.cells #[.int .u8 x] e)) w.heap.size [c] := by
  subst h
  intro j hj
  have : j = 0 := by simp at hj; omega
  subst this
  constructor
  · rw [World.cell?_alloc_new]; simp
  · have := World.frozen?_alloc_mark w #[.int .u8 (c.toNat : Int)] e 0 0 0
    simp [this]

theorem wpList_concat {P : Program} {w : World} {ops : Array Oper} {rest : List Oper} {a : Act} {Q : Exit → Act → World → Prop} {d : Option Tmp} {x y : Operand} {ty t2 : TypeId} {p : String} {af : Array Edge}
    (t : TypeId)
    (hh : ∃ s1 s2 : ByteArray, a.eval x = .string s1 ∧ a.eval y = .string s2 ∧ s1.size + s2.size ≤ 9223372036854775807 ∧ wpList P ops Q rest (a.put d (.string (s1 ++ s2))) w) :
    wpList P ops Q (⟨d, .binOp .add t x y t2, ty, p, af, none⟩ :: rest) a w := by
  obtain ⟨s1, s2, hx, hy, hs, h⟩ := hh
  refine wpList_plain rfl fun K hK' => ?_
  have hrun := run_string_add_sum (P := P) w s1 s2 hs
  unfold Oper.wp
  simp only [execOp, hx, hy]
  simp [binOp, Result.andThen, Oper.upon, eqGuard, hrun]
  exact hK' _ _ h
end Go.Proofs.Ytloengjcniefgaa
