/- Bytes that the call itself gathers: []byte, appended to by bytes and by texts, and read as a text. -/
import Derived.Test.YtonpiacpgfibpaaRows
import Derived.Test.YtonpiacpgfibpaaKitW
import Derived.Test.YtonpiacpgfibpaaKitA
import Derived.Test.YtonpiacpgfibpaaOctP
import Derived.Lib.AppendStr
namespace Go.Proofs.Ytonpiacpgfibpaa
set_option linter.unusedVariables false
set_option linter.unusedSimpArgs false
open Go.RowKit
open Oct (S S_size S_data)
open Lib (strCells)
/-- The call's own bytes. -/
def OwnB (w : World) (B : Nat) (v : Value) (l : List UInt8) : Prop :=
  (∃ g cap, v = .slice (some ⟨g, 0, none⟩) l.length cap ∧ B ≤ g ∧ g < w.heap.size) ∧ w.ownsRow B 5 1 v l.length (strCells (S l))
theorem cells_app (a b : List UInt8) : strCells (S (a ++ b)) = strCells (S a) ++ strCells (S b) := by simp [strCells]
theorem cells_len (a : List UInt8) : (strCells (S a)).length = a.length := by simp [strCells]
theorem cells_get (l : List UInt8) (j : Nat) (hj : j < l.length) : (strCells (S l))[j]? = some (.int .u8 (l[j].toNat : Int)) := by simp [strCells, hj]
theorem OwnB.sh {w : World} {B : Nat} {v : Value} {l : List UInt8} (h : OwnB w B v l) : ∃ g cap, v = .slice (some ⟨g, 0, none⟩) l.length cap ∧ B ≤ g ∧ g < w.heap.size ∧ BytesAt w g l := by
  obtain ⟨⟨g, cap, rfl, hB, hg⟩, _, hr⟩ := h
  refine ⟨g, cap, rfl, hB, hg, ?_⟩
  rcases hr with ⟨hv, _⟩ | ⟨g2, cap2, cur, hv, _, hb, hnc, _, hcs, htk⟩
  · cases hv
  · injection hv with h1 h2 h3
    injection h1 with h1
    injection h1 with h1
    subst h1
    intro j hj
    have h1 : (cur.toList.take (l.length * 1))[j]? = some (.int .u8 (l[j].toNat : Int)) := by rw [htk, cells_get l j hj]
    rw [List.getElem?_take_of_lt (by omega)] at h1
    constructor
    · simp only [World.cell?, hb]
      simpa using h1
    · simp [World.frozen?, hb]
theorem OwnB.below {w w1 : World} {B : Nat} {v : Value} {l : List UInt8} (h : OwnB w B v l) (hb : Below w.heap.size w w1) : OwnB w1 B v l := by
  obtain ⟨⟨g, cap, hv, hB, hg⟩, hr⟩ := h
  exact ⟨⟨g, cap, hv, hB, Nat.lt_of_lt_of_le hg hb.size⟩, ownsRow_below hr hb⟩
theorem OwnB.lower {w : World} {B B2 : Nat} {v : Value} {l : List UInt8} (h : OwnB w B v l) (hb : B2 ≤ B) : OwnB w B2 v l := by
  obtain ⟨⟨g, cap, hv, hB, hg⟩, h1, hr⟩ := h
  refine ⟨⟨g, cap, hv, by omega, hg⟩, h1, ?_⟩
  rcases hr with hr | ⟨g2, cap2, cur, hv2, h3, hr⟩
  · exact .inl hr
  · exact .inr ⟨g2, cap2, cur, hv2, by omega, hr⟩
theorem OwnB.ofBlk {w : World} {B g : Nat} {l : List UInt8} (h : Blk w g (strCells (S l)).toArray 5) (hB : B ≤ g) (hl : l.length ≤ 140737488351232) : OwnB w B (.slice (some ⟨g, 0, none⟩) l.length l.length) l :=
  ⟨⟨g, _, rfl, hB, h.lt⟩, by rw [cells_len, Nat.mul_one], .inr ⟨g, l.length, _, rfl, hB, h, Nat.le_refl _, by unfold maxLen; omega, by simp [strCells], by simp [strCells]; exact List.take_of_length_le (by simp)⟩⟩
theorem info_u8 : (Try.prog.info? 5).map (fun i => (i.zero, i.size, i.bytes)) = some (some (.int .u8 0), 1, 1) := by kernel_rfl
theorem own_sh {w : World} {B n : Nat} {v : Value} {xs : List Value} (h : w.ownsRow B 5 1 v n xs) (hn : v ≠ .slice none 0 0) : ∃ g cap, v = .slice (some ⟨g, 0, none⟩) n cap ∧ B ≤ g ∧ g < w.heap.size := by
  rcases h.2 with ⟨rfl, rfl⟩ | ⟨g, cap, cur, hv, hB, hb, _⟩
  · exact (hn rfl).elim
  · exact ⟨g, cap, hv, hB, (Array.getElem?_eq_some_iff.1 hb).1⟩
/-- 'out = append(out, x...)', x bytes. -/
theorem wpList_appB {w : World} {ops : Array Oper} {rest : List Oper} {a : Act} {Q : Exit → Act → World → Prop} {d : Option Tmp} {s x : Operand} {ty : TypeId} {p : String} {af : Array Edge}
    (hh : ∃ (B : Nat) (v : Value) (l m : List UInt8) (g c : Nat), a.eval s = v ∧ a.eval x = .slice (some ⟨g, 0, none⟩) m.length c ∧ OwnB w B v l ∧ BytesAt w g m ∧ l.length + m.length ≤ 140737488355000 ∧ B ≤ w.heap.size ∧
      ∀ v' w1, OwnB w1 B v' (l ++ m) → Below B w w1 → w.grownBy w1 v.ownBlock → wpList Try.prog ops Q rest (a.put d v') w1) :
    wpList Try.prog ops Q (⟨d, .call { callee := .builtin .append, args := #[s, x], argTypes := #[36, 36] }, ty, p, af, none⟩ :: rest) a w := by
  obtain ⟨B, v, l, m, g, c, hs, hx, hown, hm, hl, hB, h⟩ := hh
  obtain ⟨i, hi0, hz, hsz1, hby1⟩ := info_parts info_u8
  have hne : v ≠ .slice none 0 0 := by obtain ⟨g1, c1, hv, _⟩ := hown.sh; rw [hv]; intro e; cases e
  refine wpList_append_own w rfl s x 36 rfl B 5 i (.int .u8 0) 1 1 Try.underlying36 hi0 hz hsz1 hby1 rfl (by decide) v l.length _ hs hown.2 ⟨g, 0, none⟩ m.length c (strCells (S m)) hx (by rw [cells_len, Nat.mul_one]) (fun j u hu => ?_) (Lib.strCells_oneCell _) (by unfold maxLen; omega) (by omega) hB ?_
  · have hj : j < m.length := by have := (List.getElem?_eq_some_iff.1 hu).1; rwa [cells_len] at this
    rw [cells_get m j hj] at hu
    injection hu with hu
    subst hu
    simpa [Addr.add_lit] using (hm j hj).1
  · intro v' w1 ho hg hn
    have hbw : Below B w w1 := (Below.refl _ _).grown hg hB (fun k hk => (hown.2.lt k hk).1)
    have hne2 : v' ≠ .slice none 0 0 := fun e => hne (hn.1 e).1
    refine h v' w1 ⟨?_, ?_⟩ hbw hg
    · obtain ⟨g2, c2, e1, e2, e3⟩ := own_sh ho hne2
      exact ⟨g2, c2, by rw [e1, List.length_append], e2, e3⟩
    · rw [cells_app, List.length_append]; exact ho
/-- 'out = append(out, s...)', s a text. -/
theorem wpList_appS {w : World} {ops : Array Oper} {rest : List Oper} {a : Act} {Q : Exit → Act → World → Prop} {d : Option Tmp} {s x : Operand} {ty : TypeId} {p : String} {af : Array Edge}
    (hh : ∃ (B : Nat) (v : Value) (l m : List UInt8), a.eval s = v ∧ a.eval x = .string (S m) ∧ OwnB w B v l ∧ l.length + m.length ≤ 140737488355000 ∧ B ≤ w.heap.size ∧
      ∀ v' w1, OwnB w1 B v' (l ++ m) → Below B w w1 → w.grownBy w1 v.ownBlock → wpList Try.prog ops Q rest (a.put d v') w1) :
    wpList Try.prog ops Q (⟨d, .call { callee := .builtin .append, args := #[s, x], argTypes := #[36, 9] }, ty, p, af, none⟩ :: rest) a w := by
  obtain ⟨B, v, l, m, hs, hx, hown, hl, hB, h⟩ := hh
  obtain ⟨i, hi0, hz, hsz1, hby1⟩ := info_parts info_u8
  have hne : v ≠ .slice none 0 0 := by obtain ⟨g1, c1, hv, _⟩ := hown.sh; rw [hv]; intro e; cases e
  have hms : (S m).size = m.length := S_size m
  refine Lib.wpList_append_own_string w rfl s x 36 9 rfl B 5 i Try.underlying36 Try.underlying9 hi0 hz hsz1 hby1 v l.length _ hs hown.2 (S m) hx (by unfold maxLen; omega) (by omega) hB ?_
  intro v' w1 ho hg hn
  have hbw : Below B w w1 := (Below.refl _ _).grown hg hB (fun k hk => (hown.2.lt k hk).1)
  have hne2 : v' ≠ .slice none 0 0 := fun e => hne (hn.1 e).1
  rw [hms] at ho
  refine h v' w1 ⟨?_, ?_⟩ hbw hg
  · obtain ⟨g2, c2, e1, e2, e3⟩ := own_sh ho hne2
    exact ⟨g2, c2, by rw [e1, List.length_append], e2, e3⟩
  · rw [cells_app, List.length_append]; exact ho
/-- 'string(out)'. -/
theorem wpList_strB {w : World} {ops : Array Oper} {rest : List Oper} {a : Act} {Q : Exit → Act → World → Prop} {d : Option Tmp} {x : Operand} {ty : TypeId} {p : String} {af : Array Edge}
    (hh : ∃ (B : Nat) (v : Value) (l : List UInt8), a.eval x = v ∧ OwnB w B v l ∧ wpList Try.prog ops Q rest (a.put d (.string (S l))) w) :
    wpList Try.prog ops Q (⟨d, .convert 36 9 x, ty, p, af, none⟩ :: rest) a w := by
  obtain ⟨B, v, l, hx, hown, h⟩ := hh
  obtain ⟨g, cap, hv, _, _, hb⟩ := hown.sh
  exact wpList_stringOf 36 9 5 Try.underlying36 Try.underlying5 Try.underlying9 l ⟨g, l.length, cap, by rw [hx, hv], rfl, hb, h⟩
/-- A function that answers bytes of its own. -/
def RetB (l : List UInt8) (w : World) (e : Ending) (w' : World) : Prop := Below w.heap.size w w' ∧ ∃ v, e = .returned v ∧ OwnB w' w.heap.size v l
/-- The cells of bytes. -/
abbrev bcl (l : List UInt8) : Array Value := (strCells (S l)).toArray
theorem bcl_set (l : List UInt8) (k : Nat) (c : UInt8) : (bcl l).setIfInBounds k (.int .u8 (c.toNat : Int)) = bcl (l.set k c) := by
  apply Array.toList_inj.1
  simp [bcl, strCells, List.map_set]
/-- 'make([]byte, n)': a block whose cells are known. -/
theorem wpList_makeB {w : World} {ops : Array Oper} {rest : List Oper} {a : Act} {Q : Exit → Act → World → Prop} {d : Option Tmp} {x y : Operand} {ty : TypeId} {p : String} {af : Array Edge}
    (hh : ∃ (n : Nat) (kl : IntKind) (kc : IntKind), a.eval x = .int kl (n : Int) ∧ a.eval y = .int kc (n : Int) ∧ n ≤ 281474976710656 ∧ ∀ g w1, w.heap.size ≤ g → Below w.heap.size w w1 → Blk w1 g (bcl (List.replicate n 0)) 5 → wpList Try.prog ops Q rest (a.put d (.slice (some ⟨g, 0, none⟩) n n)) w1) :
    wpList Try.prog ops Q (⟨d, .makeSlice 36 x y, ty, p, af, none⟩ :: rest) a w := by
  obtain ⟨n, kl, kc, hx, hy, hn, h⟩ := hh
  obtain ⟨i, hi0, hz, hsz, hby⟩ := info_parts info_u8
  obtain ⟨w1, hrun, hown, hgr⟩ := run_make_full (P := Try.prog) w 0 36 5 i (.int .u8 0) 1 Try.underlying36 hi0 hz hsz kl kc n (by rw [hby]; omega) (by unfold maxLen; omega) (Nat.zero_le _)
  refine wpList_plain rfl fun K hK' => ?_
  unfold Oper.wp
  simp only [execOp, hx, hy]
  simp [hrun, Result.andThen, Oper.upon]
  have hB : Below w.heap.size w w1 := (Below.refl _ _).grown hgr (Nat.le_refl _) (by intro k hk; cases hk)
  refine hK' _ _ (h _ _ (Nat.le_refl _) hB ?_)
  obtain ⟨_, hr⟩ := hown
  rcases hr with ⟨hv, _⟩ | ⟨g, cap, cur, hv, _, hb, _, _, hcs, htk⟩
  · cases hv
  · injection hv with h1 h2 h3
    injection h1 with h1
    injection h1 with h1
    subst h1
    have hm : cur = bcl (List.replicate n 0) := by
      have hsz2 : cur.size = n := by omega
      apply Array.toList_inj.1
      rw [← List.take_of_length_le (l := cur.toList) (i := n * 1) (by simp; omega), htk]
      simp only [Value.cells, bcl, strCells, S_data, List.map_replicate]
      apply List.ext_getElem
      · simp [madeCells]
      · intro j h1 h2
        simp [madeCells, Nat.mod_one]
    rw [← hm]
    exact hb
end Go.Proofs.Ytonpiacpgfibpaa
