/- A disk's variable beside a slice of bytes. -/
import Derived.Test.YthliialieogakaaCutP36
import Derived.Test.YthliialieogakaaPlyP36
namespace Go.Proofs.Ythliialieogakaa
set_option linter.unusedVariables false
set_option linter.unusedSimpArgs false
open Go.RowKit
open Oct (S)
/-- Bytes as cells. -/
def bcs (wl : List UInt8) : Array Value := (wl.map fun c => Value.int .u8 (c.toNat : Int)).toArray
theorem bcs_get (wl : List UInt8) (k : Nat) (hk : k < wl.length) : (bcs wl)[k]? = some (.int .u8 (wl[k].toNat : Int)) := by simp [bcs, hk]
theorem bcs_set (wl : List UInt8) (k : Nat) (c : UInt8) : (bcs wl).setIfInBounds k (.int .u8 (c.toNat : Int)) = bcs (wl.set k c) := by simp [bcs, List.map_set]
theorem bcs_no (wl : List UInt8) (i : Nat) (s : ByteArray) : (bcs wl)[i]? ≠ some (.string s) := by
  intro h
  simp only [bcs, List.getElem?_toArray, List.getElem?_map] at h
  cases hw : wl[i]? with
  | none => rw [hw] at h; cases h
  | some c => rw [hw] at h; cases h
theorem wpList_makeBlk {P : Program} {w : World} {ops : Array Oper} {rest : List Oper} {a : Act} {Q : Exit → Act → World → Prop} {d : Option Tmp} {x y : Operand} {ty : TypeId} {p : String} {af : Array Edge}
    (t e : TypeId) (ht : P.underlying t = some (.slice e)) (hi : (P.info? e).map (fun i => (i.zero, i.size, i.bytes)) = some (some (.int .u8 0), 1, 1))
    (hh : ∃ (n : Nat) (kl : IntKind) (kc : IntKind), a.eval x = .int kl (n : Int) ∧ a.eval y = .int kc (n : Int) ∧ n ≤ 281474976710656 ∧ ∀ g w1, w.heap.size ≤ g → Below w.heap.size w w1 → Blk w1 g (bcs (List.replicate n 0)) e → wpList P ops Q rest (a.put d (.slice (some ⟨g, 0, none⟩) n n)) w1) :
    wpList P ops Q (⟨d, .makeSlice t x y, ty, p, af, none⟩ :: rest) a w := by
  obtain ⟨n, kl, kc, hx, hy, hn, h⟩ := hh
  obtain ⟨i, hi0, hz, hsz, hby⟩ := info_parts hi
  obtain ⟨w1, hrun, hown, hgr⟩ := run_make_full (P := P) w 0 t e i (.int .u8 0) 1 ht hi0 hz hsz kl kc n (by rw [hby]; omega) (by unfold maxLen; omega) (Nat.zero_le _)
  refine wpList_plain rfl fun K hK' => ?_
  unfold Oper.wp
  simp only [execOp, hx, hy]
  simp [hrun, Result.andThen, Oper.upon]
  have hB : Below w.heap.size w w1 := (Below.refl _ _).grown hgr (Nat.le_refl _) (by intro k hk; cases hk)
  refine hK' _ _ (h _ _ (Nat.le_refl _) hB ?_)
  obtain ⟨_, hr⟩ := hown
  rcases hr with ⟨hv, _⟩ | ⟨g, cap, cur, hv, _, hb, _, _, hcs, htk⟩
  · cases hv
  · injection hv with h1 h2 h3
    injection h1 with h1
    injection h1 with h1
    subst h1
    have hm : cur = bcs (List.replicate n 0) := by
      have hsz2 : cur.size = n := by omega
      apply Array.toList_inj.1
      rw [← List.take_of_length_le (l := cur.toList) (i := n * 1) (by simp; omega), htk]
      simp only [Value.cells, bcs, List.map_replicate]
      apply List.ext_getElem
      · simp [madeCells]
      · intro j h1 h2
        simp [madeCells, Nat.mod_one]
    rw [← hm]
    exact hb
/-- The variable D holds the disk d, the block G the bytes wl. -/
structure CN (w W : World) (D G : Nat) (v : Value) (d : Dk) (wl : List UInt8) : Prop where
  hb : Below w.heap.size w W
  hD : Blk W D #[v, .int .i64 d.left, .bool d.down] 25
  hG : Blk W G (bcs wl) 5
  hS : SecAt W v d.s
theorem CN.below {w W W1 : World} {D G : Nat} {v : Value} {d : Dk} {wl : List UInt8} (h : CN w W D G v d wl) (hb : Below W.heap.size W W1) : CN w W1 D G v d wl :=
  ⟨h.hb.next hb, h.hD.below hb, h.hG.below hb, h.hS.below hb⟩
theorem CN.putD {w W : World} {D G n1 m1 m5 : Nat} {ao1 ao5 : Option Addr} {d : Dk} {wl : List UInt8} {s2 : List ByteArray} (h : CN w W D G (.slice ao1 n1 m1) d wl) (hS : SecAt W (.slice ao5 s2.length m5) s2) (hDw : w.heap.size ≤ D) (hne : D ≠ G) (a2 : Int) (c2 : Bool) :
    CN w (((W.setCell ⟨D, 0, none⟩ (.slice ao5 s2.length m5)).setCell ⟨D, 1, none⟩ (.int .i64 a2)).setCell ⟨D, 2, none⟩ (.bool c2)) D G (.slice ao5 s2.length m5) ⟨s2, a2, c2⟩ wl := by
  obtain ⟨h1, h2, h3⟩ := h.hD.store3 a2 c2 ao5 s2.length m5
  have n1 : G ≠ D := fun e => hne e.symm
  exact ⟨h3 _ _ hDw h.hb, h1, ((h.hG.other n1 _).other n1 _).other n1 _, h2 _ _ hS⟩
theorem SecAt.bytes {W : World} {G k : Nat} {wl : List UInt8} {v u : Value} {l : List ByteArray} (h : SecAt W v l) (hG : Blk W G (bcs wl) 5) : SecAt (W.setCell ⟨G, k, none⟩ u) v l :=
  h.keep (R := G) (T := 5) (fun b hb => Below.heap_setCell _ _ _ _ hb) hG (bcs_no wl) (by simp [World.setCell])
theorem CN.setG {w W : World} {D G k : Nat} {v : Value} {d : Dk} {wl : List UInt8} (h : CN w W D G v d wl) (hGw : w.heap.size ≤ G) (hne : D ≠ G) (c : UInt8) : CN w (W.setCell ⟨G, k, none⟩ (.int .u8 (c.toNat : Int))) D G v d (wl.set k c) :=
  ⟨h.hb.setCell hGw _, h.hD.other hne _, by have := h.hG.set k (.int .u8 (c.toNat : Int)); rwa [bcs_set] at this, h.hS.bytes h.hG⟩
/-- Another disk's variable is written. -/
theorem CN.far {w W : World} {D G E m5 : Nat} {ao5 : Option Addr} {v : Value} {d : Dk} {wl : List UInt8} {s2 : List ByteArray} (h : CN w W D G v d wl) (hE : Blk W E #[.slice none 0 0, .int .i64 0, .bool false] 25) (hS : SecAt W (.slice ao5 80 m5) s2) (hl : s2.length = 80) (hw : w.heap.size ≤ E) (h1 : E ≠ D) (h2 : E ≠ G) (a2 : Int) (c2 : Bool) :
    CN w (((W.setCell ⟨E, 0, none⟩ (.slice ao5 80 m5)).setCell ⟨E, 1, none⟩ (.int .i64 a2)).setCell ⟨E, 2, none⟩ (.bool c2)) D G v d wl ∧
    Blk (((W.setCell ⟨E, 0, none⟩ (.slice ao5 80 m5)).setCell ⟨E, 1, none⟩ (.int .i64 a2)).setCell ⟨E, 2, none⟩ (.bool c2)) E #[.slice ao5 80 m5, .int .i64 a2, .bool c2] 25 ∧
    SecAt (((W.setCell ⟨E, 0, none⟩ (.slice ao5 80 m5)).setCell ⟨E, 1, none⟩ (.int .i64 a2)).setCell ⟨E, 2, none⟩ (.bool c2)) (.slice ao5 80 m5) s2 := by
  obtain ⟨e1, e2, e3⟩ := hE.store3 a2 c2 ao5 80 m5
  have n1 : D ≠ E := fun e => h1 e.symm
  have n2 : G ≠ E := fun e => h2 e.symm
  exact ⟨⟨e3 _ _ hw h.hb, ((h.hD.other n1 _).other n1 _).other n1 _, ((h.hG.other n2 _).other n2 _).other n2 _, e2 _ _ h.hS⟩, e1, e2 _ _ hS⟩
/-- The page's place. -/
theorem at_of (x : Int) : ∃ q : Nat, q + 4 ≤ 80 ∧ wrap64 ((wrap64 (x.tmod 20 + 20)).tmod 20 * 4) = (q : Int) := by
  have h1 : -20 < x.tmod 20 := by have := Int.tmod_lt_of_pos (-x) (b := 20) (by omega); rw [Int.neg_tmod] at this; omega
  have h2 : x.tmod 20 < 20 := Int.tmod_lt_of_pos x (by omega)
  obtain ⟨y, hy⟩ : ∃ y, x.tmod 20 + 20 = y := ⟨_, rfl⟩
  have e1 : wrap64 (x.tmod 20 + 20) = y := by rw [hy]; exact IntWalk.wrap64_in _ (by omega)
  rw [e1]
  have h3 : y.tmod 20 = y % 20 := Int.tmod_eq_emod_of_nonneg (by omega)
  rw [h3]
  have e2 : wrap64 (y % 20 * 4) = y % 20 * 4 := IntWalk.wrap64_in _ (by omega)
  rw [e2]
  exact ⟨(y % 20 * 4).toNat, by omega, by omega⟩
end Go.Proofs.Ythliialieogakaa
