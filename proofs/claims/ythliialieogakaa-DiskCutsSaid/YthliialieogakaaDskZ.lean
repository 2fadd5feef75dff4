/- Disks: Write where no write is left. -/
import Derived.Test.YthliialieogakaaDskW
namespace Go.Proofs.Ythliialieogakaa
set_option linter.unusedVariables false
set_option linter.unusedSimpArgs false
open Go.RowKit
open Oct (S)
theorem write_zero (s : List ByteArray) (v : Value) (k : Int) (b : ByteArray) (w : World) (h : SecAt w v s) (hs : b.size ≤ maxLen) (hk : (Dk.mk s 0 false).is k = true) (h128 : b.size = 128) : Calls Try.prog 11 #[(Dk.mk s 0 false).val v, .int .i64 k, .string b] w (DkP (Dk.mk s 0 true) 20 w) := by
  have HH := Lib.hid (fun W h => has_any (Dk.mk s 0 false) v k W h)
  obtain ⟨ao, cap, rfl⟩ := h.nil
  have HS := Lib.hid h
  show Calls Try.prog 11 #[.agg #[.slice ao s.length cap, .int .i64 0, .bool false], .int .i64 k, .string b] w _
  change Hid (∀ W, _ → Calls Try.prog 28 #[.agg #[.slice ao s.length cap, .int .i64 0, .bool false], .int .i64 k] W _) at HH
  obtain ⟨hb, hX, hR, hsz⟩ := bx2_facts w ao s.length cap 0 false
  obtain ⟨W, hW⟩ : ∃ W, bx2 w ao s.length cap 0 false = W := ⟨_, rfl⟩
  obtain ⟨q, hq⟩ : ∃ q, (Dk.mk s 0 false).is k = q := ⟨_, rfl⟩
  rw [hq] at HH hk
  clear hq
  have hW' := Lib.hid hW
  rw [hW] at hb hX hR hsz
  unfold maxLen at hs
  clear hW h
  subst hk
  go_enter Try.func11, Try.ntmps11
  go_wp2_with fail
  rw [show (w.alloc (.cells #[.slice ao s.length cap, .int .i64 0, .bool false] 25)).alloc (.cells #[.slice none 0 0, .int .i64 0, .bool false] 25) = W from hW'.out]
  refine (HH.out _ (HS.out.below hb)).mono ?_
  rintro e w2 ⟨rfl, hb2⟩
  replace hX := hX.below hb2
  replace hR := hR.below hb2
  replace hb := hb.next hb2
  clear hb2
  have hS := Lib.hid (HS.out.below hb)
  obtain ⟨x0, x1, x2, y0, y1, y2⟩ := hX.dval
  obtain ⟨z0, z1, z2, f0, f1, f2⟩ := hR.dval
  go_wp2_with fail
  clear x0 x1 x2 y0 y1 y2 z0 z1 z2 f0 f1 f2
  have hR' := hR.other (a := ⟨w.heap.size, 2, none⟩) (by simp) (.bool true)
  have hS' := hS.out.set hX 2 (.bool true)
  replace hb : Below w.heap.size w (w2.setCell ⟨w.heap.size, 2, none⟩ (.bool true)) := hb.setCell (Nat.le_refl _) _
  obtain ⟨hbE, hSE, e0, e1, e2⟩ := hR'.fin3 hb (by omega) hS' 0 true ao s.length cap
  exact bodyPost_ret (v := .tuple #[.agg #[.slice ao s.length cap, .int .i64 0, .bool true], .int .i64 20]) (by simp [results, Try.results11, go_sem, e0, e1, e2]) rfl ⟨hbE, .slice ao s.length cap, rfl, hSE⟩
theorem rwrite_zero (s : List ByteArray) (v : Value) (k : Int) (b : ByteArray) (w : World) (h : SecAt w v s) (hs : b.size ≤ maxLen) (hk : (Dk.mk s 0 false).is k = true) (h128 : b.size = 128) : Calls Try.prog 12 #[(Dk.mk s 0 false).val v, .int .i64 k, .string b] w (DkP (Dk.mk s 0 true) 20 w) := by
  have HH := Lib.hid (fun W h => rhas_any (Dk.mk s 0 false) v k W h)
  obtain ⟨ao, cap, rfl⟩ := h.nil
  have HS := Lib.hid h
  show Calls Try.prog 12 #[.agg #[.slice ao s.length cap, .int .i64 0, .bool false], .int .i64 k, .string b] w _
  change Hid (∀ W, _ → Calls Try.prog 30 #[.agg #[.slice ao s.length cap, .int .i64 0, .bool false], .int .i64 k] W _) at HH
  obtain ⟨hb, hX, hR, hsz⟩ := bx2_facts w ao s.length cap 0 false
  obtain ⟨W, hW⟩ : ∃ W, bx2 w ao s.length cap 0 false = W := ⟨_, rfl⟩
  obtain ⟨q, hq⟩ : ∃ q, (Dk.mk s 0 false).is k = q := ⟨_, rfl⟩
  rw [hq] at HH hk
  clear hq
  have hW' := Lib.hid hW
  rw [hW] at hb hX hR hsz
  unfold maxLen at hs
  clear hW h
  subst hk
  go_enter Try.func12, Try.ntmps12
  go_wp2_with fail
  rw [show (w.alloc (.cells #[.slice ao s.length cap, .int .i64 0, .bool false] 25)).alloc (.cells #[.slice none 0 0, .int .i64 0, .bool false] 25) = W from hW'.out]
  refine (HH.out _ (HS.out.below hb)).mono ?_
  rintro e w2 ⟨rfl, hb2⟩
  replace hX := hX.below hb2
  replace hR := hR.below hb2
  replace hb := hb.next hb2
  clear hb2
  have hS := Lib.hid (HS.out.below hb)
  obtain ⟨x0, x1, x2, y0, y1, y2⟩ := hX.dval
  obtain ⟨z0, z1, z2, f0, f1, f2⟩ := hR.dval
  go_wp2_with fail
  clear x0 x1 x2 y0 y1 y2 z0 z1 z2 f0 f1 f2
  have hR' := hR.other (a := ⟨w.heap.size, 2, none⟩) (by simp) (.bool true)
  have hS' := hS.out.set hX 2 (.bool true)
  replace hb : Below w.heap.size w (w2.setCell ⟨w.heap.size, 2, none⟩ (.bool true)) := hb.setCell (Nat.le_refl _) _
  obtain ⟨hbE, hSE, e0, e1, e2⟩ := hR'.fin3 hb (by omega) hS' 0 true ao s.length cap
  exact bodyPost_ret (v := .tuple #[.agg #[.slice ao s.length cap, .int .i64 0, .bool true], .int .i64 20]) (by simp [results, Try.results12, go_sem, e0, e1, e2]) rfl ⟨hbE, .slice ao s.length cap, rfl, hSE⟩
end Go.Proofs.Ythliialieogakaa
