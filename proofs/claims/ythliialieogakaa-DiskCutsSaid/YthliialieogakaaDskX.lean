/- Disks: the reference's Write where it goes. -/
import Derived.Test.YthliialieogakaaDskV
namespace Go.Proofs.Ythliialieogakaa
set_option linter.unusedVariables false
set_option linter.unusedSimpArgs false
open Go.RowKit
open Oct (S)
theorem with_at (s : List ByteArray) (a : Int) (v : Value) (j : Nat) (b : ByteArray) (w : World) (h : SecAt w v s) (hj : j < s.length) (hl : s.length ≤ 100000) :
    Calls Try.prog 31 #[.agg #[v, .int .i64 a, .bool false], .int .i64 j, .string b] w fun e w' => ∃ ao' cap', e = .returned (.agg #[.slice ao' s.length cap', .int .i64 a, .bool false]) ∧ Below w.heap.size w w' ∧ SecAt w' (.slice ao' s.length cap') (s.set j b) := by
  refine (with_any s a false v j b w h hj hl).mono ?_
  rintro e w' ⟨hb, v', rfl, hS⟩
  obtain ⟨ao', cap', rfl⟩ := hS.nil
  simp only [List.length_set] at hS ⊢
  exact ⟨ao', cap', rfl, hb, hS⟩
theorem rwrite_yes (s : List ByteArray) (a : Int) (v : Value) (k : Int) (b : ByteArray) (w : World) (h : SecAt w v s) (hl : s.length ≤ 100000) (ha : a ≠ 0) (ha1 : -9223372036854775808 ≤ a) (ha2 : a ≤ 9223372036854775807) (hs : b.size ≤ maxLen) (hk : (Dk.mk s a false).is k = true) (h128 : b.size = 128) : Calls Try.prog 12 #[(Dk.mk s a false).val v, .int .i64 k, .string b] w (DkP (Dk.mk (s.set k.toNat b) (if 0 < a then a - 1 else a) false) 0 w) := by
  obtain ⟨a', ha'⟩ : ∃ a', (if 0 < a then a - 1 else a) = a' := ⟨_, rfl⟩
  rw [ha']
  have HA := Lib.hid ha'
  clear ha'
  have HH := Lib.hid (fun W h => rhas_any (Dk.mk s a false) v k W h)
  obtain ⟨ao, cap, rfl⟩ := h.nil
  have HS := Lib.hid h
  show Calls Try.prog 12 #[.agg #[.slice ao s.length cap, .int .i64 a, .bool false], .int .i64 k, .string b] w _
  change Hid (∀ W, _ → Calls Try.prog 30 #[.agg #[.slice ao s.length cap, .int .i64 a, .bool false], .int .i64 k] W _) at HH
  obtain ⟨hb, hX, hR, hsz⟩ := bx2_facts w ao s.length cap a false
  obtain ⟨W, hW⟩ : ∃ W, bx2 w ao s.length cap a false = W := ⟨_, rfl⟩
  obtain ⟨hk0, hk1⟩ : 0 ≤ k ∧ k < s.length := by simpa [Dk.is] using hk
  obtain ⟨j, rfl⟩ : ∃ j : Nat, k = j := ⟨k.toNat, by omega⟩
  have hj : j < s.length := by omega
  rw [Int.toNat_natCast]
  have HC := Lib.hid (fun a2 W h => with_at s a2 (.slice ao s.length cap) j b W h hj hl)
  clear hk0 hk1
  obtain ⟨q, hq⟩ : ∃ q, (Dk.mk s a false).is (j : Int) = q := ⟨_, rfl⟩
  rw [hq] at HH hk
  clear hq
  have hW' := Lib.hid hW
  rw [hW] at hb hX hR hsz
  unfold maxLen at hs
  clear hW h
  subst hk
  go_enter Try.func12, Try.ntmps12
  go_wp2_with fail
  rw [show (w.alloc (.cells #[.slice ao s.length cap, .int .i64 a, .bool false] 25)).alloc (.cells #[.slice none 0 0, .int .i64 0, .bool false] 25) = W from hW'.out]
  refine (HH.out _ (HS.out.below hb)).mono ?_
  rintro e w2 ⟨rfl, hb2⟩
  replace hX := hX.below hb2
  replace hR := hR.below hb2
  replace hb := hb.next hb2
  clear hb2
  have hS := Lib.hid (HS.out.below hb)
  obtain ⟨x0, x1, x2, y0, y1, y2⟩ := hX.dval
  obtain ⟨z0, z1, z2, f0, f1, f2⟩ := hR.dval
  by_cases h0 : 0 < a
  · have HA2 : Hid (a - 1 = a') := by have := HA.out; rw [if_pos h0] at this; exact this
    have hw : IntKind.i64.wrap (a - 1) = a - 1 := IntWalk.i64_in _ (by omega)
    have hR5 := hR.other (a := ⟨w.heap.size, 1, none⟩) (by simp) (.int .i64 a')
    have hS5 := hS.out.set hX 1 (.int .i64 a')
    have hb5 : Below w.heap.size w (w2.setCell ⟨w.heap.size, 1, none⟩ (.int .i64 a')) := hb.setCell (Nat.le_refl _) _
    go_wp2_with fail
    rw [HA2.out]
    refine (HC.out a' _ hS5).mono ?_
    rintro e w3 ⟨ao', cap', rfl, hb3, hS3⟩
    have hR3 := hR5.below hb3
    have hb6 := hb5.next hb3
    clear x0 x1 x2 y0 y1 y2 z0 z1 z2 f0 f1 f2 hb3
    obtain ⟨z0, z1, z2, f0, f1, f2⟩ := hR3.dval
    obtain ⟨hbE, hSE, e0, e1, e2⟩ := hR3.fin3 hb6 (by omega) hS3 a' false ao' s.length cap'
    have HSE := Lib.hid hSE
    clear hSE hS3
    go_wp2_with fail
    exact bodyPost_ret (v := .tuple #[.agg #[.slice ao' s.length cap', .int .i64 a', .bool false], .int .i64 0]) (by simp [results, Try.results12, go_sem, e0, e1, e2]) rfl ⟨hbE, .slice ao' s.length cap', rfl, HSE.out⟩
  · have HA2 : Hid (a = a') := by have := HA.out; rw [if_neg h0] at this; exact this
    have hR5 := hR
    have hS5 := hS.out
    have hb5 := hb
    have ha' := HA2.out
    subst ha'
    go_wp2_with fail
    refine (HC.out a _ hS5).mono ?_
    rintro e w3 ⟨ao', cap', rfl, hb3, hS3⟩
    have hR3 := hR5.below hb3
    have hb6 := hb5.next hb3
    clear x0 x1 x2 y0 y1 y2 z0 z1 z2 f0 f1 f2 hb3
    obtain ⟨z0, z1, z2, f0, f1, f2⟩ := hR3.dval
    obtain ⟨hbE, hSE, e0, e1, e2⟩ := hR3.fin3 hb6 (by omega) hS3 a false ao' s.length cap'
    have HSE := Lib.hid hSE
    clear hSE hS3
    go_wp2_with fail
    exact bodyPost_ret (v := .tuple #[.agg #[.slice ao' s.length cap', .int .i64 a, .bool false], .int .i64 0]) (by simp [results, Try.results12, go_sem, e0, e1, e2]) rfl ⟨hbE, .slice ao' s.length cap', rfl, HSE.out⟩
/-- The reference's Write answers as 'Dk.write' says. -/
theorem rwrite_any (d : Dk) (v : Value) (k : Int) (b : ByteArray) (w : World) (h : SecAt w v d.s) (hl : d.s.length ≤ 100000) (ha1 : -9223372036854775808 ≤ d.left) (ha2 : d.left ≤ 9223372036854775807) (hs : b.size ≤ maxLen) :
    Calls Try.prog 12 #[d.val v, .int .i64 k, .string b] w (DkP (d.write k b).1 (d.write k b).2 w) := by
  obtain ⟨s, a, c⟩ := d
  cases c with
  | true => exact rwrite_down s a v k b w h
  | false =>
    by_cases hk : (Dk.mk s a false).is k = true ∧ b.size = 128
    · obtain ⟨h1, h2⟩ := hk
      by_cases h0 : a = 0
      · subst h0
        have e : (Dk.mk s 0 false).write k b = (Dk.mk s 0 true, 20) := by simp [Dk.write, h1, h2]
        rw [e]
        exact rwrite_zero s v k b w h hs h1 h2
      · have e : (Dk.mk s a false).write k b = (Dk.mk (s.set k.toNat b) (if 0 < a then a - 1 else a) false, 0) := by simp [Dk.write, h1, h2, h0]
        rw [e]
        exact rwrite_yes s a v k b w h hl h0 ha1 ha2 hs h1 h2
    · have hk : (Dk.mk s a false).is k = false ∨ b.size ≠ 128 := by
        by_cases h1 : (Dk.mk s a false).is k = true
        · exact .inr fun h2 => hk ⟨h1, h2⟩
        · exact .inl (by simpa using h1)
      have e : (Dk.mk s a false).write k b = (Dk.mk s a false, 1) := by
        rcases hk with hk | hk
        · simp [Dk.write, hk]
        · simp [Dk.write, hk]
      rw [e]
      exact rwrite_no s a v k b w h hs hk
end Go.Proofs.Ythliialieogakaa
