/- Disks: the reference's with, and its Write. -/
import Derived.Test.YthliialieogakaaDskY
namespace Go.Proofs.Ythliialieogakaa
set_option linter.unusedVariables false
set_option linter.unusedSimpArgs false
open Go.RowKit
open Oct (S)
/-- 'append([]string{}, l...)', l not empty. -/
theorem wpList_append_strs {P : Program} {w : World} {ops : Array Oper} {rest : List Oper} {a : Act} {Q : Exit → Act → World → Prop} {d : Option Tmp} {y x : Operand} {ty : TypeId} {p : String} {af : Array Edge}
    (t e : TypeId) (ht : P.underlying t = some (.slice e)) (hi : (P.info? e).map (fun i => (i.zero, i.size, i.bytes)) = some (some (.string ⟨#[]⟩), 1, 16))
    (hh : ∃ (G : Nat) (s : List ByteArray) (b off cap : Nat), a.eval y = .slice (some ⟨G, 0, none⟩) 0 0 ∧ a.eval x = .slice (some ⟨b, off, none⟩) s.length cap ∧ Blk w G #[] e ∧ 0 < s.length ∧ s.length ≤ 100000 ∧
      (∀ i (hi : i < s.length), w.cell? ⟨b, off + i, none⟩ = some (.string s[i])) ∧
      ∀ g cap' cur w1, G ≤ g → Blk w1 g cur e → Hid (∀ j (hj : j < s.length), cur[j]? = some (.string s[j])) → Below G w w1 → wpList P ops Q rest (a.put d (.slice (some ⟨g, 0, none⟩) s.length cap')) w1) :
    wpList P ops Q (⟨d, .call { callee := .builtin .append, args := #[y, x], argTypes := #[t, t] }, ty, p, af, none⟩ :: rest) a w := by
  obtain ⟨G, s, b, off, cap, hs, hx, hG, h0, hl, hc, h⟩ := hh
  obtain ⟨i, hi0, hz, hsz1, hby1⟩ := info_parts hi
  have hown : w.ownsRow G e 1 (.slice (some ⟨G, 0, none⟩) 0 0) 0 [] := ⟨rfl, .inr ⟨G, 0, #[], rfl, Nat.le_refl _, hG, Nat.le_refl _, Nat.zero_le _, rfl, rfl⟩⟩
  refine wpList_append_own w rfl y x t rfl G e i (.string ⟨#[]⟩) 1 16 ht hi0 hz hsz1 hby1 rfl (by decide) _ 0 [] hs hown ⟨b, off, none⟩ s.length cap (s.map .string) hx (by simp) (fun j u hu => ?_) (by intro u hu; obtain ⟨x, _, rfl⟩ := List.mem_map.1 hu; rfl) (by unfold maxLen; omega) (by omega) (Nat.le_of_lt hG.lt) ?_
  · have hj : j < s.length := by have := (List.getElem?_eq_some_iff.1 hu).1; simpa using this
    have hu' : u = .string s[j] := by simpa [hj] using hu.symm
    subst hu'
    simpa [Addr.add_lit] using hc j hj
  · intro v' w1 ho hg hn
    obtain ⟨_, hr⟩ := ho
    rcases hr with ⟨rfl, _⟩ | ⟨g, cp, cur, rfl, hB, hgb, hnc, hcm, hcs, htk⟩
    · have := hn.1 rfl
      exact absurd this.2 (by omega)
    · rw [Nat.zero_add] at *
      refine h g cp cur w1 hB hgb (fun j hj => ?_) ((Below.refl _ _).grown hg (Nat.le_of_lt hG.lt) (fun k hk => by (have e : G = k := by simpa [Value.ownBlock] using hk); omega))
      have h1 : (cur.toList.take (s.length * 1))[j]? = some (.string s[j]) := by rw [htk]; simp [hj]
      rw [List.getElem?_take_of_lt (by omega)] at h1
      simpa using h1
theorem with_any (s : List ByteArray) (a : Int) (c : Bool) (v : Value) (j : Nat) (b : ByteArray) (w : World) (h : SecAt w v s) (hj : j < s.length) (hl : s.length ≤ 100000) :
    Calls Try.prog 31 #[(Dk.mk s a c).val v, .int .i64 j, .string b] w (DkP1 (Dk.mk (s.set j b) a c) w) := by
  obtain ⟨b0, off, cap, rfl, hlt, hcell⟩ := SecAt.get h j hj
  have HS := Lib.hid h
  show Calls Try.prog 31 #[.agg #[.slice (some ⟨b0, off, none⟩) s.length cap, .int .i64 a, .bool c], .int .i64 j, .string b] w _
  clear h
  obtain ⟨hb, hX, hR, hsz⟩ := bx2_facts w (some ⟨b0, off, none⟩) s.length cap a c
  go_enter Try.func31, Try.ntmps31
  go_wp2_with ((with_reducible refine wpList_append_strs 23 9 Try.underlying23 info_str ?_); refine ⟨w.heap.size + 2, s, b0, off, cap, rfl, rfl, ?g1, ?g2, hl, ?g3, ?g4⟩)
  case g1 =>
    have := Blk.new (bx2 w (some ⟨b0, off, none⟩) s.length cap a c) #[] 9
    rw [hsz] at this
    exact this
  case g2 => omega
  case g3 =>
    intro i hi
    exact cell_alloc (cell_alloc (cell_alloc (hcell i hi) _) _) _
  case g4 =>
    intro g cap3 cur w3 hg hG HK hb3
    have hX3 : Blk w3 w.heap.size #[.slice (some ⟨b0, off, none⟩) s.length cap, .int .i64 a, .bool c] 25 := (hX.alloc (.cells #[] 9)).belowB hb3 (by omega)
    have hR3 : Blk w3 (w.heap.size + 1) #[.slice none 0 0, .int .i64 0, .bool false] 25 := (hR.alloc (.cells #[] 9)).belowB hb3 (by omega)
    have hb4 : Below w.heap.size w w3 := (hb.alloc (by omega) (.cells #[] 9)).trans (hb3.mono (by omega))
    clear hX hR hb hb3 hsz hcell
    have hgc := hG.cell j (HK.out j hj)
    have hgf := hG.free j
    have hne : ¬ w.heap.size = g := by omega
    have hne2 : ¬ w.heap.size + 1 = g := by omega
    have hj0 : (0 : Int) ≤ j := by omega
    have hj1 : (j : Int) < s.length := by omega
    obtain ⟨x0, x1, x2, y0, y1, y2⟩ := hX3.dval
    obtain ⟨z0, z1, z2, f0, f1, f2⟩ := hR3.dval
    have hS4 := (hG.secset (b := b) (cap := cap3) HK.out hj hl)
    have hX4 := hX3.other (a := ⟨g, j, none⟩) (fun e => hne e) (.string b)
    have hR4 := (hR3.other (a := ⟨g, j, none⟩) (fun e => hne2 e) (.string b)).other (a := ⟨w.heap.size, 0, none⟩) (by simp) (.slice (some ⟨g, 0, none⟩) s.length cap3)
    have hS5 := hS4.set hX4 0 (.slice (some ⟨g, 0, none⟩) s.length cap3)
    have hb5 : Below w.heap.size w ((w3.setCell ⟨g, j, none⟩ (.string b)).setCell ⟨w.heap.size, 0, none⟩ (.slice (some ⟨g, 0, none⟩) s.length cap3)) := (hb4.setCell (by show _ ≤ g; omega) _).setCell (Nat.le_refl _) _
    clear hS4
    have HS5 := Lib.hid hS5
    clear hS5
    go_wp2_with fail
    obtain ⟨hbE, hSE, e0, e1, e2⟩ := hR4.fin3 hb5 (by omega) HS5.out a c (some ⟨g, 0, none⟩) s.length cap3
    exact bodyPost_ret (v := .agg #[.slice (some ⟨g, 0, none⟩) s.length cap3, .int .i64 a, .bool c]) (by simp [results, Try.results31, go_sem, e0, e1, e2]) rfl ⟨hbE, .slice (some ⟨g, 0, none⟩) s.length cap3, rfl, hSE⟩
end Go.Proofs.Ythliialieogakaa
