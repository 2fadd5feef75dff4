/- A strings.Builder that the call itself makes: WriteByte (for programs without WriteString). -/
import Derived.Test.YtonpiacpgfibpaaBldR
namespace Go.Proofs.Ytonpiacpgfibpaa
set_option linter.unusedVariables false
set_option linter.unusedSimpArgs false
open Go.RowKit
set_option maxHeartbeats 1000000 in
set_option maxRecDepth 100000 in
theorem writeByte_any (B b : Nat) (l : List UInt8) (c : UInt8) (x : Int) (hx : x = (c.toNat : Int)) (w : World) (h : BldAt w B b l) (hl : l.length ≤ 140737488355327) (hB : B ≤ w.heap.size) :
    Calls Try.prog 43 #[.pointer (some ⟨b, 0, none⟩), .int .u8 x] w fun e w' => e = .returned .nilIface ∧ BldAt w' B b (l ++ [c]) ∧ Below B w w' ∧ Lib.OthersKept 5 (some b) w w' := by
  subst hx
  obtain ⟨i0, hi, hz0, hz1, hz2⟩ := info_parts info_byte
  have hlen : (Lib.byteCells l).length = l.length := Lib.byteCells_length l
  obtain ⟨bs, HBS⟩ : ∃ bs, Hid (bs = Lib.byteCells l) := ⟨_, rfl⟩
  rw [← HBS.out] at hlen
  have hbs : bs.length ≤ 140737488355327 := by omega
  clear hlen
  have h' : Lib.IsBuilderF 44 5 B b bs w := by rw [HBS.out]; exact h
  obtain ⟨cc, HC⟩ : ∃ cc : Int, Hid (cc = (c.toNat : Int)) := ⟨_, rfl⟩
  rw [← HC.out]
  have fin : ∀ w', Lib.BuilderAtF 44 5 B b (.pointer (some ⟨b, 0, none⟩)) (bs ++ [.int .u8 cc]) w' → BldAt w' B b (l ++ [c]) := by
    intro w' hh
    unfold BldAt
    rw [byteCells_snoc, ← HBS.out, ← HC.out]
    exact .inr hh
  have FIN := Lib.hid fin
  clear fin h
  go_enter Try.func43, Try.ntmps43
  go_wp2_with fail
  refine (check_any B b bs _ h').mono ?_
  rintro e w1 ⟨rfl, h1, hb1, hk1⟩
  obtain ⟨hBb, v, hbk, hown, hne⟩ := h1
  have c0 : w1.cell? ⟨b, 0, none⟩ = some (.pointer (some ⟨b, 0, none⟩)) := by rw [Lib.cell_of_heap hbk]; rfl
  have c1 : w1.cell? ⟨b, 1, none⟩ = some v := by rw [Lib.cell_of_heap hbk]; rfl
  have hs1 := hb1.size
  have hbl : b < w1.heap.size := (Array.getElem?_eq_some_iff.1 hbk).1
  have HNE := Lib.hid hne
  clear hne
  go_wp2_with (at_builtin; refine wpList_append_ownF _ rfl _ _ 36 rfl B 5 i0 (.int .u8 0) 1 1 Try.underlying36 hi hz0 hz1 hz2 rfl (by decide) _ _ _ rfl (hown.alloc _) ⟨w1.heap.size, 0, none⟩ 1 1 [.int .u8 cc] rfl rfl ?c1 ?c2 ?c3 ?c4 ?c5 ?_)
  case c1 =>
    intro j u hj
    match j, hj with
    | 0, hj => simp at hj; subst hj; simp [Addr.add]
  case c2 => intro u hu; simp at hu; subst hu; rfl
  case c3 => unfold maxLen; omega
  case c4 => omega
  case c5 => simp; omega
  intro v' w2 hown' hgrow _
  have hb2 : w2.heap[b]? = some (.cells #[.pointer (some ⟨b, 0, none⟩), v] 44 (0, 0)) := by
    rw [hgrow.block b (by simp; omega) (fun e => HNE.out e.symm), Lib.alloc_old w1 _ b hbl]
    exact hbk
  have d0 : w2.cell? ⟨b, 0, none⟩ = some (.pointer (some ⟨b, 0, none⟩)) := by rw [Lib.cell_of_heap hb2]; rfl
  have d1 : w2.cell? ⟨b, 1, none⟩ = some v := by rw [Lib.cell_of_heap hb2]; rfl
  have f1 : w2.frozen? ⟨b, 1, none⟩ = false := Lib.frozen_of_heap hb2 1
  obtain ⟨g, cap, rfl⟩ : ∃ g cap, v' = .slice (some ⟨g, 0, none⟩) (bs.length + 1) cap := by
    rcases hown'.2 with ⟨_, h0⟩ | ⟨g, cap, cur, fz, hv, _⟩
    · omega
    · exact ⟨g, cap, hv⟩
  go_wp2
  go_ret
  refine ⟨rfl, FIN.out _ ?_, ?_, ((hk1.alloc _).grown hgrow (Lib.ownsRowF_kind (hown.alloc _))).setCell ⟨b, 1, none⟩ rfl _⟩
  · exact Lib.BuilderAtF.put (T := 44) (e := 5) hBb hb2 (bs' := bs ++ [.int .u8 cc]) (by simpa using hown') (by decide)
  · exact ((hb1.alloc (by omega) _).grown hgrow (by simp; omega) (fun k hk => (hown.lt k hk).1)).setCell (p := ⟨b, 1, none⟩) hBb _
end Go.Proofs.Ytonpiacpgfibpaa
