/- A strings.Builder that the call itself makes: String (for programs without WriteString). -/
import Derived.Test.YtonpiacpgfibpaaRows
import Derived.Test.YtonpiacpgfibpaaShelf
import Derived.Test.YtonpiacpgfibpaaKit
import Derived.Shelf.Strings.BuilderK
import Derived.IntWalk
namespace Go.Proofs.Ytonpiacpgfibpaa
set_option linter.unusedVariables false
set_option linter.unusedSimpArgs false
open Go.RowKit
theorem size_bld : (Try.prog.info? 44).map (·.size) = some 2 := by kernel_rfl
theorem info_byte : (Try.prog.info? 5).map (fun i => (i.zero, i.size, i.bytes)) = some (some (.int .u8 0), 1, 1) := by kernel_rfl
theorem lies_bld : liesAt Try.prog Try.prog.depth 44 (2 / Try.prog.cellsOf 44) 0 44 1 = true := by kernel_rfl
set_option maxRecDepth 100000 in
theorem check_used (b : Nat) (w : World) (h0 : w.cell? ⟨b, 0, none⟩ = some (.pointer (some ⟨b, 0, none⟩))) :
    Calls Try.prog 49 #[.pointer (some ⟨b, 0, none⟩)] w (Eq1 (.tuple #[]) w) := by
  obtain ⟨j, hj, _⟩ := Option.map_eq_some_iff.1 size_bld
  have hne := Lib.run_neq_ptr_same (P := Try.prog) w (tp := 42) ⟨b, 0, none⟩ Try.underlying42 hj
  go_enter Try.func49, Try.ntmps49
  go_wp2
  go_end0
  exact ⟨rfl, rfl⟩
set_option maxRecDepth 100000 in
theorem check_fresh (b : Nat) (w : World) (h0 : w.cell? ⟨b, 0, none⟩ = some (.pointer none)) (hsh : w.shape? b = some (44, 2)) (hfz : w.frozen? ⟨b, 0, none⟩ = false) :
    Calls Try.prog 49 #[.pointer (some ⟨b, 0, none⟩)] w (Eq1 (.tuple #[]) (w.setCell ⟨b, 0, none⟩ (.pointer (some ⟨b, 0, none⟩)))) := by
  obtain ⟨j, hj, hjs⟩ := Option.map_eq_some_iff.1 size_bld
  go_enter Try.func49, Try.ntmps49
  go_wp2
  rw [Lib.run_to_unsafe w ⟨b, 0, none⟩ Try.underlying42 Try.underlying52 hj (by rw [hjs]; decide) hsh (Nat.zero_lt_succ 1)]
  simp only [Result.andThen]
  rw [Oper.upon_value]
  go_wp2
  rw [run_callFunc_extern Try.func52 (by kernel_rfl) (by kernel_rfl) (by kernel_rfl) (e := Extern.AbiNoEscape.same) (by kernel_rfl)]
  rw [Lib.run_noEscape]
  simp only [Result.andThen]
  rw [Oper.upon_value]
  go_wp2
  rw [Lib.run_from_unsafe w ⟨b, 0, none⟩ Try.underlying52 Try.underlying42 hj hsh lies_bld]
  simp only [Result.andThen]
  rw [Oper.upon_value]
  have hc := World.cell?_setCell_same w ⟨b, 0, none⟩ (.pointer (some ⟨b, 0, none⟩)) h0
  have hne := Lib.run_neq_ptr_same (P := Try.prog) (w.setCell ⟨b, 0, none⟩ (.pointer (some ⟨b, 0, none⟩))) (tp := 42) ⟨b, 0, none⟩ Try.underlying42 hj
  go_wp2
  go_end0
  exact ⟨rfl, rfl⟩

/-- A builder of the call's own (block b, its rows from block B on) that holds the bytes l. -/
def BldAt (w : World) (B b : Nat) (l : List UInt8) : Prop := Lib.IsBuilderF 44 5 B b (Lib.byteCells l) w
theorem BldAt.fresh (w : World) : BldAt (w.alloc (.cells #[.pointer none, .slice none 0 0] 44)) w.heap.size w.heap.size [] :=
  Lib.IsBuilderF.of (Lib.fresh_isBuilder 44 5 w)
theorem byteCells_snoc (l : List UInt8) (c : UInt8) : Lib.byteCells (l ++ [c]) = Lib.byteCells l ++ [.int .u8 (c.toNat : Int)] := by simp [Lib.byteCells]
theorem byteCells_str (l : List UInt8) (s : ByteArray) : Lib.byteCells (l ++ s.data.toList) = Lib.byteCells l ++ Lib.strCells s := by simp [Lib.byteCells, Lib.strCells]
theorem check_any (B b : Nat) (bs : List Value) (w : World) (h : Lib.IsBuilderF 44 5 B b bs w) :
    Calls Try.prog 49 #[.pointer (some ⟨b, 0, none⟩)] w fun e w' => e = .returned (.tuple #[]) ∧ Lib.BuilderAtF 44 5 B b (.pointer (some ⟨b, 0, none⟩)) bs w' ∧ Below B w w' ∧ Lib.OthersKept 5 (some b) w w' := by
  rcases h with h | h
  · refine (check_fresh b w h.cell0 h.shape h.frozen0).mono ?_
    rintro e w' ⟨rfl, rfl⟩
    exact ⟨rfl, h.used _, (Below.refl B w).setCell (p := ⟨b, 0, none⟩) h.1 _, (Lib.OthersKept.refl _ _ w).setCell ⟨b, 0, none⟩ rfl _⟩
  · refine (check_used b w h.cell0).mono ?_
    rintro e w' ⟨rfl, rfl⟩
    exact ⟨rfl, h, Below.refl B _, Lib.OthersKept.refl _ _ _⟩
theorem bldString_any (B b : Nat) (l : List UInt8) (w : World) (h : BldAt w B b l) (hB : B ≤ w.heap.size) :
    Calls Try.prog 44 #[.pointer (some ⟨b, 0, none⟩)] w fun e w' => e = .returned (.string ⟨l.toArray⟩) ∧ BldAt w' B b l ∧ Below B w w' ∧ Lib.OthersKept 5 (some b) w w' :=
  Try.Builder_String_any_k B b l w h hB
theorem BldAt.below {w w1 : World} {B b : Nat} {l : List UInt8} (h : BldAt w B b l) (hb : Below w.heap.size w w1) : BldAt w1 B b l := by
  have one : ∀ p, Lib.BuilderAtF 44 5 B b p (Lib.byteCells l) w → Lib.BuilderAtF 44 5 B b p (Lib.byteCells l) w1 := by
    rintro p ⟨hB, v, hbk, hown, hne⟩
    refine ⟨hB, v, (hb.block b (Array.getElem?_eq_some_iff.1 hbk).1).trans hbk, hown.kept (row := none) ⟨hb.os, hb.tape, hb.output, hb.size, fun k hk _ => hb.block k hk⟩ ?_, hne⟩
    cases hv : v.ownBlock <;> simp
  rcases h with h | h
  · exact .inl (one _ h)
  · exact .inr (one _ h)
theorem BldAt.drewN {w : World} {B b : Nat} {l : List UInt8} (h : BldAt w B b l) (n : Nat) : BldAt (w.drewN n) B b l := h.below ⟨rfl, rfl, rfl, Nat.le_refl _, fun _ _ => rfl⟩
theorem BldAt.alloc {w : World} {B b : Nat} {l : List UInt8} (h : BldAt w B b l) (o : Obj) : BldAt (w.alloc o) B b l := h.below ((Below.refl _ _).alloc (Nat.le_refl _) o)
theorem BldAt.blk {w : World} {B b : Nat} {l : List UInt8} (h : BldAt w B b l) : ∃ p v, w.heap[b]? = some (.cells #[p, v] 44 (0, 0)) := by
  rcases h with ⟨_, v, hbk, _⟩ | ⟨_, v, hbk, _⟩
  · exact ⟨_, v, hbk⟩
  · exact ⟨_, v, hbk⟩
/-- A slice of another type's elements stays behind a write to the builder. -/
theorem ownsRow_others {w w1 : World} {B b T size n : Nat} {v : Value} {xs : List Value} {l : List UInt8} (hb : BldAt w B b l) (ho : Lib.OthersKept 5 (some b) w w1) (h1 : T ≠ 5) (h2 : T ≠ 44) {B2 : Nat} (h : w.ownsRow B2 T size v n xs) : w1.ownsRow B2 T size v n xs := by
  refine ⟨h.1, ?_⟩
  rcases h.2 with hn | ⟨g, cap, cur, hv, hg, hh, rest⟩
  · exact .inl hn
  · refine .inr ⟨g, cap, cur, hv, hg, ho g _ hh ?_ ?_, rest⟩
    · intro e
      obtain ⟨p, u, hbk⟩ := hb.blk
      injection e with e
      rw [e, hbk] at hh
      injection hh with hh
      injection hh with _ e2 _
      exact h2 e2.symm
    · intro c fz e
      injection e with _ e2 _
      exact h1 e2
end Go.Proofs.Ytonpiacpgfibpaa
