/- Disks: Write where it goes. -/
import Derived.Test.YthliialieogakaaDskZ
namespace Go.Proofs.Ythliialieogakaa
set_option linter.unusedVariables false
set_option linter.unusedSimpArgs false
open Go.RowKit
open Oct (S)
theorem Blk.secset {w : World} {g T j cap : Nat} {cur : Array Value} {s : List ByteArray} {b : ByteArray} (hG : Blk w g cur T) (HK : ∀ j (hj : j < s.length), cur[j]? = some (.string s[j])) (hj : j < s.length) (hl : s.length ≤ 100000) :
    SecAt (w.setCell ⟨g, j, none⟩ (.string b)) (.slice (some ⟨g, 0, none⟩) s.length cap) (s.set j b) := by
  have hS := hG.set j (.string b)
  have := SecAt.of (cap := cap) (l := s.set j b) (off := 0) (by simp; omega) hS.lt (fun i hi => by
    have hi' : i < s.length := by simpa using hi
    have hcj : j < cur.size := (Array.getElem?_eq_some_iff.1 (HK j hj)).1
    rw [Nat.zero_add]
    refine hS.cell i ?_
    rw [Array.getElem?_setIfInBounds]
    by_cases e : j = i
    · subst e; simp [hcj]
    · simp [e, HK i hi'])
  simpa using this
theorem write_yes (s : List ByteArray) (a : Int) (v : Value) (k : Int) (b : ByteArray) (w : World) (h : SecAt w v s) (hl : s.length ≤ 100000) (ha : a ≠ 0) (ha1 : -9223372036854775808 ≤ a) (ha2 : a ≤ 9223372036854775807) (hs : b.size ≤ maxLen) (hk : (Dk.mk s a false).is k = true) (h128 : b.size = 128) : Calls Try.prog 11 #[(Dk.mk s a false).val v, .int .i64 k, .string b] w (DkP (Dk.mk (s.set k.toNat b) (if 0 < a then a - 1 else a) false) 0 w) := by
  obtain ⟨a', ha'⟩ : ∃ a', (if 0 < a then a - 1 else a) = a' := ⟨_, rfl⟩
  rw [ha']
  have HA := Lib.hid ha'
  clear ha'
  have HH := Lib.hid (fun W h => has_any (Dk.mk s a false) v k W h)
  obtain ⟨ao, cap, rfl⟩ := h.nil
  have HS := Lib.hid h
  show Calls Try.prog 11 #[.agg #[.slice ao s.length cap, .int .i64 a, .bool false], .int .i64 k, .string b] w _
  change Hid (∀ W, _ → Calls Try.prog 28 #[.agg #[.slice ao s.length cap, .int .i64 a, .bool false], .int .i64 k] W _) at HH
  obtain ⟨hb, hX, hR, hsz⟩ := bx2_facts w ao s.length cap a false
  obtain ⟨W, hW⟩ : ∃ W, bx2 w ao s.length cap a false = W := ⟨_, rfl⟩
  obtain ⟨hk0, hk1⟩ : 0 ≤ k ∧ k < s.length := by simpa [Dk.is] using hk
  obtain ⟨j, rfl⟩ : ∃ j : Nat, k = j := ⟨k.toNat, by omega⟩
  have hj : j < s.length := by omega
  rw [Int.toNat_natCast]
  obtain ⟨s', hs'⟩ : ∃ s', s.set j b = s' := ⟨_, rfl⟩
  rw [hs']
  have HS' := Lib.hid hs'
  clear hs'
  have HC := Lib.hid (fun W h => clone_any s ao cap W h (by omega) hl)
  clear hk0 hk1
  obtain ⟨q, hq⟩ : ∃ q, (Dk.mk s a false).is (j : Int) = q := ⟨_, rfl⟩
  rw [hq] at HH hk
  clear hq
  have hW' := Lib.hid hW
  rw [hW] at hb hX hR hsz
  unfold maxLen at hs
  clear hW h
  subst hk
  go_enter Try.func11, Try.ntmps11
  go_wp2_with fail
  rw [show (w.alloc (.cells #[.slice ao s.length cap, .int .i64 a, .bool false] 25)).alloc (.cells #[.slice none 0 0, .int .i64 0, .bool false] 25) = W from hW'.out]
  refine (HH.out _ (HS.out.below hb)).mono ?_
  rintro e w2 ⟨rfl, hb2⟩
  replace hX := hX.below hb2
  replace hR := hR.below hb2
  replace hb := hb.next hb2
  clear hb2
  have hS := Lib.hid (HS.out.below hb)
  obtain ⟨x0, x1, x2, y0, y1, y2⟩ := hX.dval
  obtain ⟨z0, z1, z2, f0, f1, f2⟩ := hR.dval
  go_wp2_with fail
  refine (HC.out _ hS.out).mono ?_
  rintro e w3 ⟨g, cap3, cur, rfl, hg, hb3, hG, HK⟩
  have hgc := hG.cell j (HK.out j hj)
  have hgf := hG.free j
  have hgl := hG.lt
  have hsz2 := hb.size
  have hR2 := hR.lt
  have hne : ¬ w.heap.size = g := by omega
  have hne2 : ¬ w.heap.size + 1 = g := by omega
  replace hX := hX.below hb3
  replace hR := hR.below hb3
  replace hb := hb.next hb3
  clear x0 x1 x2 y0 y1 y2 z0 z1 z2 f0 f1 f2 hb3
  obtain ⟨x0, x1, x2, y0, y1, y2⟩ := hX.dval
  obtain ⟨z0, z1, z2, f0, f1, f2⟩ := hR.dval
  have hj0 : (0 : Int) ≤ j := by omega
  have hj1 : (j : Int) < s.length := by omega
  have hX4 := (hX.set 0 (.slice (some ⟨g, 0, none⟩) s.length cap3)).other (a := ⟨g, j, none⟩) (fun e => hne e) (.string b)
  have hR4 := (hR.other (a := ⟨w.heap.size, 0, none⟩) (by simp) (.slice (some ⟨g, 0, none⟩) s.length cap3)).other (a := ⟨g, j, none⟩) (fun e => hne2 e) (.string b)
  have hS4 := (hG.other (a := ⟨w.heap.size, 0, none⟩) (fun e => hne e.symm) (.slice (some ⟨g, 0, none⟩) s.length cap3)).secset (b := b) (cap := cap3) HK.out hj hl
  have hb4 : Below w.heap.size w ((w3.setCell ⟨w.heap.size, 0, none⟩ (.slice (some ⟨g, 0, none⟩) s.length cap3)).setCell ⟨g, j, none⟩ (.string b)) := (hb.setCell (Nat.le_refl _) _).setCell (by show _ ≤ g; omega) _
  rw [HS'.out] at hS4
  by_cases h0 : 0 < a
  · have HA2 : Hid (a - 1 = a') := by have := HA.out; rw [if_pos h0] at this; exact this
    have hw : IntKind.i64.wrap (a - 1) = a - 1 := IntWalk.i64_in _ (by omega)
    go_wp2_with fail
    clear hw x0 x1 x2 y0 y1 y2 z0 z1 z2 f0 f1 f2 hgc hgf
    rw [HA2.out]
    have hS5 := hS4.set (R := w.heap.size) (T := 25) hX4 1 (.int .i64 a')
    have hR5 := hR4.other (a := ⟨w.heap.size, 1, none⟩) (by simp) (.int .i64 a')
    have hb5 := Below.setCell (B := w.heap.size) (a := w) hb4 (p := ⟨w.heap.size, 1, none⟩) (Nat.le_refl _) (.int .i64 a')
    obtain ⟨hbE, hSE, e0, e1, e2⟩ := hR5.fin3 hb5 (by omega) hS5 a' false (some ⟨g, 0, none⟩) s.length cap3
    exact bodyPost_ret (v := .tuple #[.agg #[.slice (some ⟨g, 0, none⟩) s.length cap3, .int .i64 a', .bool false], .int .i64 0]) (by simp [results, Try.results11, go_sem, e0, e1, e2]) rfl ⟨hbE, .slice (some ⟨g, 0, none⟩) s.length cap3, rfl, hSE⟩
  · have HA2 : Hid (a = a') := by have := HA.out; rw [if_neg h0] at this; exact this
    go_wp2_with fail
    clear x0 x1 x2 y0 y1 y2 z0 z1 z2 f0 f1 f2 hgc hgf
    have ha' := HA2.out
    subst ha'
    obtain ⟨hbE, hSE, e0, e1, e2⟩ := hR4.fin3 hb4 (by omega) hS4 a false (some ⟨g, 0, none⟩) s.length cap3
    exact bodyPost_ret (v := .tuple #[.agg #[.slice (some ⟨g, 0, none⟩) s.length cap3, .int .i64 a, .bool false], .int .i64 0]) (by simp [results, Try.results11, go_sem, e0, e1, e2]) rfl ⟨hbE, .slice (some ⟨g, 0, none⟩) s.length cap3, rfl, hSE⟩
/-- Write answers as 'Dk.write' says. -/
theorem write_any (d : Dk) (v : Value) (k : Int) (b : ByteArray) (w : World) (h : SecAt w v d.s) (hl : d.s.length ≤ 100000) (ha1 : -9223372036854775808 ≤ d.left) (ha2 : d.left ≤ 9223372036854775807) (hs : b.size ≤ maxLen) :
    Calls Try.prog 11 #[d.val v, .int .i64 k, .string b] w (DkP (d.write k b).1 (d.write k b).2 w) := by
  obtain ⟨s, a, c⟩ := d
  cases c with
  | true => exact write_down s a v k b w h
  | false =>
    by_cases hk : (Dk.mk s a false).is k = true ∧ b.size = 128
    · obtain ⟨h1, h2⟩ := hk
      by_cases h0 : a = 0
      · subst h0
        have e : (Dk.mk s 0 false).write k b = (Dk.mk s 0 true, 20) := by simp [Dk.write, h1, h2]
        rw [e]
        exact write_zero s v k b w h hs h1 h2
      · have e : (Dk.mk s a false).write k b = (Dk.mk (s.set k.toNat b) (if 0 < a then a - 1 else a) false, 0) := by simp [Dk.write, h1, h2, h0]
        rw [e]
        exact write_yes s a v k b w h hl h0 ha1 ha2 hs h1 h2
    · have hk : (Dk.mk s a false).is k = false ∨ b.size ≠ 128 := by
        by_cases h1 : (Dk.mk s a false).is k = true
        · exact .inr fun h2 => hk ⟨h1, h2⟩
        · exact .inl (by simpa using h1)
      have e : (Dk.mk s a false).write k b = (Dk.mk s a false, 1) := by
        rcases hk with hk | hk
        · simp [Dk.write, hk]
        · simp [Dk.write, hk]
      rw [e]
      exact write_no s a v k b w h hs hk
end Go.Proofs.Ythliialieogakaa
