/- Disks: the reference's WritePage of any disk. -/
import Derived.Test.YthliialieogakaaDskJ
namespace Go.Proofs.Ythliialieogakaa
set_option linter.unusedVariables false
set_option linter.unusedSimpArgs false
open Go.RowKit
open Oct (S)
theorem rwritePage_down (s : List ByteArray) (a : Int) (v : Value) (k : Int) (b : ByteArray) (w : World) (h : SecAt w v s) : Calls Try.prog 17 #[(Dk.mk s a true).val v, .int .i64 k, .string b] w (DkP (Dk.mk s a true) 20 w) := by
  obtain ⟨ao, cap, rfl⟩ := h.nil
  have HS := Lib.hid h
  show Calls Try.prog 17 #[.agg #[.slice ao s.length cap, .int .i64 a, .bool true], .int .i64 k, .string b] w _
  clear h
  go_enter Try.func17, Try.ntmps17
  go_wp2_with fail
  exact bodyPost_ret (v := .tuple #[.agg #[.slice ao s.length cap, .int .i64 a, .bool true], .int .i64 20]) (by simp [results, Try.results17, go_sem]) rfl ⟨((Below.refl _ _).alloc (Nat.le_refl _) _).alloc (by simp) _, .slice ao s.length cap, rfl, (HS.out.below ((Below.refl _ _).alloc (Nat.le_refl _) _)).below ((Below.refl _ _).alloc (Nat.le_refl _) _)⟩
theorem rwritePage_size (s : List ByteArray) (a : Int) (v : Value) (k : Int) (b : ByteArray) (w : World) (h : SecAt w v s) (hs : b.size ≤ maxLen) (hk : b.size ≠ 512) : Calls Try.prog 17 #[(Dk.mk s a false).val v, .int .i64 k, .string b] w (DkP (Dk.mk s a false) 1 w) := by
  obtain ⟨ao, cap, rfl⟩ := h.nil
  have HS := Lib.hid h
  unfold maxLen at hs
  show Calls Try.prog 17 #[.agg #[.slice ao s.length cap, .int .i64 a, .bool false], .int .i64 k, .string b] w _
  clear h
  go_enter Try.func17, Try.ntmps17
  go_wp2_with fail
  exact bodyPost_ret (v := .tuple #[.agg #[.slice ao s.length cap, .int .i64 a, .bool false], .int .i64 1]) (by simp [results, Try.results17, go_sem]) rfl ⟨((Below.refl _ _).alloc (Nat.le_refl _) _).alloc (by simp) _, .slice ao s.length cap, rfl, (HS.out.below ((Below.refl _ _).alloc (Nat.le_refl _) _)).below ((Below.refl _ _).alloc (Nat.le_refl _) _)⟩
theorem rwritePage_no (s : List ByteArray) (a : Int) (v : Value) (k : Int) (b : ByteArray) (w : World) (h : SecAt w v s) (hl : s.length ≤ 100000) (hs : b.size = 512) (hk : (Dk.mk s a false).fits k = false) : Calls Try.prog 17 #[(Dk.mk s a false).val v, .int .i64 k, .string b] w (DkP (Dk.mk s a false) 1 w) := by
  obtain ⟨q, hq⟩ : ∃ q, (Dk.mk s a false).is k = q := ⟨_, rfl⟩
  have HH := Lib.hid (fun W h => rhas_any (Dk.mk s a false) v k W h)
  rw [hq] at HH
  have hk2 : q = true → 0 ≤ k ∧ k < s.length ∧ (s.length : Int) - k < 4 := by
    intro e
    subst e
    simp [Dk.is] at hq
    simp [Dk.fits] at hk
    have := hk hq.1
    omega
  clear hq hk
  obtain ⟨ao, cap, rfl⟩ := h.nil
  have HS := Lib.hid h
  show Calls Try.prog 17 #[.agg #[.slice ao s.length cap, .int .i64 a, .bool false], .int .i64 k, .string b] w _
  change Hid (∀ W, _ → Calls Try.prog 30 #[.agg #[.slice ao s.length cap, .int .i64 a, .bool false], .int .i64 k] W _) at HH
  obtain ⟨hb, hX, hR, hsz⟩ := bx2_facts w ao s.length cap a false
  obtain ⟨W, hW⟩ : ∃ W, bx2 w ao s.length cap a false = W := ⟨_, rfl⟩
  have hW' := Lib.hid hW
  rw [hW] at hb hX hR hsz
  clear hW h
  cases q with
  | false =>
    clear hk2
    go_enter Try.func17, Try.ntmps17
    go_wp2_with fail
    rw [show (w.alloc (.cells #[.slice ao s.length cap, .int .i64 a, .bool false] 25)).alloc (.cells #[.slice none 0 0, .int .i64 0, .bool false] 25) = W from hW'.out]
    refine (HH.out _ (HS.out.below hb)).mono ?_
    rintro e w2 ⟨rfl, hb2⟩
    replace hX := hX.below hb2
    replace hR := hR.below hb2
    replace hb := hb.next hb2
    clear hb2
    have hS := Lib.hid (HS.out.below hb)
    obtain ⟨x0, x1, x2, y0, y1, y2⟩ := hX.dval
    obtain ⟨z0, z1, z2, f0, f1, f2⟩ := hR.dval
    go_wp2_with fail
    obtain ⟨hbE, hSE, e0, e1, e2⟩ := hR.fin3 hb (by omega) hS.out a false ao s.length cap
    exact bodyPost_ret (v := .tuple #[.agg #[.slice ao s.length cap, .int .i64 a, .bool false], .int .i64 1]) (by simp [results, Try.results17, go_sem, e0, e1, e2]) rfl ⟨hbE, .slice ao s.length cap, rfl, hSE⟩
  | true =>
    obtain ⟨hk0, hk1, hk3⟩ := hk2 rfl
    clear hk2
    have hsub : IntKind.i64.wrap ((s.length : Int) - k) = (s.length : Int) - k := IntWalk.i64_in _ (by omega)
    go_enter Try.func17, Try.ntmps17
    go_wp2_with fail
    rw [show (w.alloc (.cells #[.slice ao s.length cap, .int .i64 a, .bool false] 25)).alloc (.cells #[.slice none 0 0, .int .i64 0, .bool false] 25) = W from hW'.out]
    refine (HH.out _ (HS.out.below hb)).mono ?_
    rintro e w2 ⟨rfl, hb2⟩
    replace hX := hX.below hb2
    replace hR := hR.below hb2
    replace hb := hb.next hb2
    clear hb2
    have hS := Lib.hid (HS.out.below hb)
    obtain ⟨x0, x1, x2, y0, y1, y2⟩ := hX.dval
    obtain ⟨z0, z1, z2, f0, f1, f2⟩ := hR.dval
    go_wp2_with fail
    obtain ⟨hbE, hSE, e0, e1, e2⟩ := hR.fin3 hb (by omega) hS.out a false ao s.length cap
    exact bodyPost_ret (v := .tuple #[.agg #[.slice ao s.length cap, .int .i64 a, .bool false], .int .i64 1]) (by simp [results, Try.results17, go_sem, e0, e1, e2]) rfl ⟨hbE, .slice ao s.length cap, rfl, hSE⟩
theorem rwritePage_any (d : Dk) (v : Value) (k : Int) (b : ByteArray) (w : World) (h : SecAt w v d.s) (hl : d.s.length ≤ 100000) (ha1 : -9223372036854775808 ≤ d.left) (ha2 : d.left ≤ 9223372036854775807) (hs : b.size ≤ maxLen) :
    Calls Try.prog 17 #[d.val v, .int .i64 k, .string b] w (DkP (d.writePage k b).1 (d.writePage k b).2 w) := by
  obtain ⟨s, a, c⟩ := d
  cases c with
  | true => exact rwritePage_down s a v k b w h
  | false =>
    by_cases h1 : b.size = 512
    · by_cases h2 : (Dk.mk s a false).fits k = true
      · have e : (Dk.mk s a false).writePage k b = Dk.writeFrom k b (Dk.mk s a false) 0 4 := by simp [Dk.writePage, h1, h2]
        rw [e]
        exact rwritePage_loop _ v k b w h hl ha1 ha2 rfl h1 h2
      · have e : (Dk.mk s a false).writePage k b = (Dk.mk s a false, 1) := by simp [Dk.writePage, h1, h2]
        rw [e]
        exact rwritePage_no s a v k b w h hl h1 (by simpa using h2)
    · have e : (Dk.mk s a false).writePage k b = (Dk.mk s a false, 1) := by simp [Dk.writePage, h1]
      rw [e]
      exact rwritePage_size s a v k b w h hs h1
end Go.Proofs.Ythliialieogakaa
