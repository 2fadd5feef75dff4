/- Disks: Write. -/
import Derived.Test.YthliialieogakaaDskC
namespace Go.Proofs.Ythliialieogakaa
set_option linter.unusedVariables false
set_option linter.unusedSimpArgs false
open Go.RowKit
open Oct (S)
/-- The world behind the box of a disk and the result's place. -/
def bx2 (w : World) (ao : Option Addr) (n cap : Nat) (a : Int) (c : Bool) : World := (w.alloc (.cells #[.slice ao n cap, .int .i64 a, .bool c] 25)).alloc (.cells #[.slice none 0 0, .int .i64 0, .bool false] 25)
theorem bx2_facts (w : World) (ao : Option Addr) (n cap : Nat) (a : Int) (c : Bool) :
    Below w.heap.size w (bx2 w ao n cap a c) ∧ Blk (bx2 w ao n cap a c) w.heap.size #[.slice ao n cap, .int .i64 a, .bool c] 25 ∧ Blk (bx2 w ao n cap a c) (w.heap.size + 1) #[.slice none 0 0, .int .i64 0, .bool false] 25 ∧ (bx2 w ao n cap a c).heap.size = w.heap.size + 2 := by
  refine ⟨((Below.refl _ _).alloc (Nat.le_refl _) _).alloc (by simp) _, (Blk.new w _ _).alloc _, ?_, by simp [bx2]⟩
  have := Blk.new (w.alloc (.cells #[.slice ao n cap, .int .i64 a, .bool c] 25)) #[.slice none 0 0, .int .i64 0, .bool false] 25
  simpa [bx2] using this
/-- A disk's three cells in R are written: what is known behind it. -/
theorem Blk.fin3 {w w2 : World} {R T : Nat} {a0 : Int} {c0 : Bool} {ao0 : Option Addr} {n0 m0 : Nat} (h : Blk w2 R #[.slice ao0 n0 m0, .int .i64 a0, .bool c0] T) (hb : Below w.heap.size w w2) (hR : w.heap.size ≤ R) {v : Value} {l : List ByteArray} (hS : SecAt w2 v l) (a : Int) (c : Bool) (ao : Option Addr) (n m : Nat) :
    let W := ((w2.setCell ⟨R, 0, none⟩ (.slice ao n m)).setCell ⟨R, 1, none⟩ (.int .i64 a)).setCell ⟨R, 2, none⟩ (.bool c)
    Below w.heap.size w W ∧ SecAt W v l ∧ W.cell? ⟨R, 0, none⟩ = some (.slice ao n m) ∧ W.cell? ⟨R, 1, none⟩ = some (.int .i64 a) ∧ W.cell? ⟨R, 2, none⟩ = some (.bool c) := by
  obtain ⟨h1, h2, h3⟩ := h.store3 a c ao n m
  obtain ⟨z0, z1, z2, _, _, _⟩ := h1.dval
  exact ⟨h3 _ _ hR hb, h2 _ _ hS, z0, z1, z2⟩
theorem SecAt.setB {w : World} {v : Value} {l : List ByteArray} {R T : Nat} {a : Int} {c : Bool} {ao : Option Addr} {n m : Nat} (h : SecAt w v l) (hR : Blk w R #[.slice ao n m, .int .i64 a, .bool c] T) (o : Nat) (x : Value) : SecAt (w.setCell ⟨R, o, none⟩ x) v l := h.set hR o x
theorem write_down (s : List ByteArray) (a : Int) (v : Value) (k : Int) (b : ByteArray) (w : World) (h : SecAt w v s) : Calls Try.prog 11 #[(Dk.mk s a true).val v, .int .i64 k, .string b] w (DkP (Dk.mk s a true) 20 w) := by
  obtain ⟨ao, cap, rfl⟩ := h.nil
  have HS := Lib.hid h
  show Calls Try.prog 11 #[.agg #[.slice ao s.length cap, .int .i64 a, .bool true], .int .i64 k, .string b] w _
  clear h
  go_enter Try.func11, Try.ntmps11
  go_wp2_with fail
  exact bodyPost_ret (v := .tuple #[.agg #[.slice ao s.length cap, .int .i64 a, .bool true], .int .i64 20]) (by simp [results, Try.results11, go_sem]) rfl ⟨((Below.refl _ _).alloc (Nat.le_refl _) _).alloc (by simp) _, .slice ao s.length cap, rfl, (HS.out.below ((Below.refl _ _).alloc (Nat.le_refl _) _)).below ((Below.refl _ _).alloc (Nat.le_refl _) _)⟩
theorem write_no (s : List ByteArray) (a : Int) (v : Value) (k : Int) (b : ByteArray) (w : World) (h : SecAt w v s) (hs : b.size ≤ maxLen) (hk : (Dk.mk s a false).is k = false ∨ b.size ≠ 128) : Calls Try.prog 11 #[(Dk.mk s a false).val v, .int .i64 k, .string b] w (DkP (Dk.mk s a false) 1 w) := by
  have HH := Lib.hid (fun W h => has_any (Dk.mk s a false) v k W h)
  obtain ⟨ao, cap, rfl⟩ := h.nil
  have HS := Lib.hid h
  show Calls Try.prog 11 #[.agg #[.slice ao s.length cap, .int .i64 a, .bool false], .int .i64 k, .string b] w _
  change Hid (∀ W, _ → Calls Try.prog 28 #[.agg #[.slice ao s.length cap, .int .i64 a, .bool false], .int .i64 k] W _) at HH
  obtain ⟨hb, hX, hR, hsz⟩ := bx2_facts w ao s.length cap a false
  obtain ⟨W, hW⟩ : ∃ W, bx2 w ao s.length cap a false = W := ⟨_, rfl⟩
  obtain ⟨q, hq⟩ : ∃ q, (Dk.mk s a false).is k = q := ⟨_, rfl⟩
  rw [hq] at HH hk
  clear hq
  have hW' := Lib.hid hW
  rw [hW] at hb hX hR hsz
  unfold maxLen at hs
  clear hW h
  cases q with
  | false =>
    clear hk
    go_enter Try.func11, Try.ntmps11
    go_wp2_with fail
    rw [show (w.alloc (.cells #[.slice ao s.length cap, .int .i64 a, .bool false] 25)).alloc (.cells #[.slice none 0 0, .int .i64 0, .bool false] 25) = W from hW'.out]
    refine (HH.out _ (HS.out.below hb)).mono ?_
    rintro e w2 ⟨rfl, hb2⟩
    replace hX := hX.below hb2
    replace hR := hR.below hb2
    replace hb := hb.next hb2
    clear hb2
    have hS := Lib.hid (HS.out.below hb)
    obtain ⟨x0, x1, x2, y0, y1, y2⟩ := hX.dval
    obtain ⟨z0, z1, z2, f0, f1, f2⟩ := hR.dval
    go_wp2_with fail
    obtain ⟨hbE, hSE, e0, e1, e2⟩ := hR.fin3 hb (by omega) hS.out a false ao s.length cap
    exact bodyPost_ret (v := .tuple #[.agg #[.slice ao s.length cap, .int .i64 a, .bool false], .int .i64 1]) (by simp [results, Try.results11, go_sem, e0, e1, e2]) rfl ⟨hbE, .slice ao s.length cap, rfl, hSE⟩
  | true =>
    have hk : b.size ≠ 128 := by simpa using hk
    go_enter Try.func11, Try.ntmps11
    go_wp2_with fail
    rw [show (w.alloc (.cells #[.slice ao s.length cap, .int .i64 a, .bool false] 25)).alloc (.cells #[.slice none 0 0, .int .i64 0, .bool false] 25) = W from hW'.out]
    refine (HH.out _ (HS.out.below hb)).mono ?_
    rintro e w2 ⟨rfl, hb2⟩
    replace hX := hX.below hb2
    replace hR := hR.below hb2
    replace hb := hb.next hb2
    clear hb2
    have hS := Lib.hid (HS.out.below hb)
    obtain ⟨x0, x1, x2, y0, y1, y2⟩ := hX.dval
    obtain ⟨z0, z1, z2, f0, f1, f2⟩ := hR.dval
    go_wp2_with fail
    obtain ⟨hbE, hSE, e0, e1, e2⟩ := hR.fin3 hb (by omega) hS.out a false ao s.length cap
    exact bodyPost_ret (v := .tuple #[.agg #[.slice ao s.length cap, .int .i64 a, .bool false], .int .i64 1]) (by simp [results, Try.results11, go_sem, e0, e1, e2]) rfl ⟨hbE, .slice ao s.length cap, rfl, hSE⟩
theorem rwrite_down (s : List ByteArray) (a : Int) (v : Value) (k : Int) (b : ByteArray) (w : World) (h : SecAt w v s) : Calls Try.prog 12 #[(Dk.mk s a true).val v, .int .i64 k, .string b] w (DkP (Dk.mk s a true) 20 w) := by
  obtain ⟨ao, cap, rfl⟩ := h.nil
  have HS := Lib.hid h
  show Calls Try.prog 12 #[.agg #[.slice ao s.length cap, .int .i64 a, .bool true], .int .i64 k, .string b] w _
  clear h
  go_enter Try.func12, Try.ntmps12
  go_wp2_with fail
  exact bodyPost_ret (v := .tuple #[.agg #[.slice ao s.length cap, .int .i64 a, .bool true], .int .i64 20]) (by simp [results, Try.results12, go_sem]) rfl ⟨((Below.refl _ _).alloc (Nat.le_refl _) _).alloc (by simp) _, .slice ao s.length cap, rfl, (HS.out.below ((Below.refl _ _).alloc (Nat.le_refl _) _)).below ((Below.refl _ _).alloc (Nat.le_refl _) _)⟩
theorem rwrite_no (s : List ByteArray) (a : Int) (v : Value) (k : Int) (b : ByteArray) (w : World) (h : SecAt w v s) (hs : b.size ≤ maxLen) (hk : (Dk.mk s a false).is k = false ∨ b.size ≠ 128) : Calls Try.prog 12 #[(Dk.mk s a false).val v, .int .i64 k, .string b] w (DkP (Dk.mk s a false) 1 w) := by
  have HH := Lib.hid (fun W h => rhas_any (Dk.mk s a false) v k W h)
  obtain ⟨ao, cap, rfl⟩ := h.nil
  have HS := Lib.hid h
  show Calls Try.prog 12 #[.agg #[.slice ao s.length cap, .int .i64 a, .bool false], .int .i64 k, .string b] w _
  change Hid (∀ W, _ → Calls Try.prog 30 #[.agg #[.slice ao s.length cap, .int .i64 a, .bool false], .int .i64 k] W _) at HH
  obtain ⟨hb, hX, hR, hsz⟩ := bx2_facts w ao s.length cap a false
  obtain ⟨W, hW⟩ : ∃ W, bx2 w ao s.length cap a false = W := ⟨_, rfl⟩
  obtain ⟨q, hq⟩ : ∃ q, (Dk.mk s a false).is k = q := ⟨_, rfl⟩
  rw [hq] at HH hk
  clear hq
  have hW' := Lib.hid hW
  rw [hW] at hb hX hR hsz
  unfold maxLen at hs
  clear hW h
  cases q with
  | false =>
    clear hk
    go_enter Try.func12, Try.ntmps12
    go_wp2_with fail
    rw [show (w.alloc (.cells #[.slice ao s.length cap, .int .i64 a, .bool false] 25)).alloc (.cells #[.slice none 0 0, .int .i64 0, .bool false] 25) = W from hW'.out]
    refine (HH.out _ (HS.out.below hb)).mono ?_
    rintro e w2 ⟨rfl, hb2⟩
    replace hX := hX.below hb2
    replace hR := hR.below hb2
    replace hb := hb.next hb2
    clear hb2
    have hS := Lib.hid (HS.out.below hb)
    obtain ⟨x0, x1, x2, y0, y1, y2⟩ := hX.dval
    obtain ⟨z0, z1, z2, f0, f1, f2⟩ := hR.dval
    go_wp2_with fail
    obtain ⟨hbE, hSE, e0, e1, e2⟩ := hR.fin3 hb (by omega) hS.out a false ao s.length cap
    exact bodyPost_ret (v := .tuple #[.agg #[.slice ao s.length cap, .int .i64 a, .bool false], .int .i64 1]) (by simp [results, Try.results12, go_sem, e0, e1, e2]) rfl ⟨hbE, .slice ao s.length cap, rfl, hSE⟩
  | true =>
    have hk : b.size ≠ 128 := by simpa using hk
    go_enter Try.func12, Try.ntmps12
    go_wp2_with fail
    rw [show (w.alloc (.cells #[.slice ao s.length cap, .int .i64 a, .bool false] 25)).alloc (.cells #[.slice none 0 0, .int .i64 0, .bool false] 25) = W from hW'.out]
    refine (HH.out _ (HS.out.below hb)).mono ?_
    rintro e w2 ⟨rfl, hb2⟩
    replace hX := hX.below hb2
    replace hR := hR.below hb2
    replace hb := hb.next hb2
    clear hb2
    have hS := Lib.hid (HS.out.below hb)
    obtain ⟨x0, x1, x2, y0, y1, y2⟩ := hX.dval
    obtain ⟨z0, z1, z2, f0, f1, f2⟩ := hR.dval
    go_wp2_with fail
    obtain ⟨hbE, hSE, e0, e1, e2⟩ := hR.fin3 hb (by omega) hS.out a false ao s.length cap
    exact bodyPost_ret (v := .tuple #[.agg #[.slice ao s.length cap, .int .i64 a, .bool false], .int .i64 1]) (by simp [results, Try.results12, go_sem, e0, e1, e2]) rfl ⟨hbE, .slice ao s.length cap, rfl, hSE⟩
end Go.Proofs.Ythliialieogakaa
