/- Disks: has, fits, Read, Arm, Start, and the reference's. -/
import Derived.Test.YthliialieogakaaDskP
namespace Go.Proofs.Ythliialieogakaa
set_option linter.unusedVariables false
set_option linter.unusedSimpArgs false
open Go.RowKit
open Oct (S)
/-- The box of a disk's value. -/
def bx (w : World) (ao : Option Addr) (n cap : Nat) (a : Int) (c : Bool) : World := w.alloc (.cells #[.slice ao n cap, .int .i64 a, .bool c] 25)
theorem bx_below (w : World) (ao : Option Addr) (n cap : Nat) (a : Int) (c : Bool) : Below w.heap.size w (w.alloc (.cells #[.slice ao n cap, .int .i64 a, .bool c] 25)) := (Below.refl _ _).alloc (Nat.le_refl _) _
theorem has_any (d : Dk) (v : Value) (k : Int) (w : World) (h : SecAt w v d.s) : Calls Try.prog 28 #[d.val v, .int .i64 k] w (Ret (.bool (d.is k)) w) := by
  obtain ⟨s, a, c⟩ := d
  obtain ⟨ao, cap, rfl⟩ := h.nil
  show Calls Try.prog 28 #[.agg #[.slice ao s.length cap, .int .i64 a, .bool c], .int .i64 k] w _
  have hb := bx_below w ao s.length cap a c
  have HB : Hid ((Dk.mk s a c).is k = (decide (0 ≤ k) && decide (k < s.length))) := rfl
  clear h
  by_cases h0 : 0 ≤ k
  · go_enter Try.func28, Try.ntmps28
    go_wp2_with fail
    go_ret
    exact ⟨ret_bool (by rw [HB.out]; simp; omega), hb⟩
  · go_enter Try.func28, Try.ntmps28
    go_wp2_with fail
    go_ret
    exact ⟨ret_bool (by rw [HB.out]; simp; omega), hb⟩
theorem rhas_any (d : Dk) (v : Value) (k : Int) (w : World) (h : SecAt w v d.s) : Calls Try.prog 30 #[d.val v, .int .i64 k] w (Ret (.bool (d.is k)) w) := by
  obtain ⟨s, a, c⟩ := d
  obtain ⟨ao, cap, rfl⟩ := h.nil
  show Calls Try.prog 30 #[.agg #[.slice ao s.length cap, .int .i64 a, .bool c], .int .i64 k] w _
  have hb := bx_below w ao s.length cap a c
  have HB : Hid ((Dk.mk s a c).is k = (decide (0 ≤ k) && decide (k < s.length))) := rfl
  clear h
  by_cases h0 : 0 ≤ k
  · go_enter Try.func30, Try.ntmps30
    go_wp2_with fail
    go_ret
    exact ⟨ret_bool (by rw [HB.out]; simp; omega), hb⟩
  · go_enter Try.func30, Try.ntmps30
    go_wp2_with fail
    go_ret
    exact ⟨ret_bool (by rw [HB.out]; simp; omega), hb⟩
theorem fits_any (d : Dk) (v : Value) (k : Int) (w : World) (h : SecAt w v d.s) : Calls Try.prog 32 #[d.val v, .int .i64 k] w (Ret (.bool (d.fits k)) w) := by
  have hsm := h.small
  obtain ⟨s, a, c⟩ := d
  obtain ⟨ao, cap, rfl⟩ := h.nil
  show Calls Try.prog 32 #[.agg #[.slice ao s.length cap, .int .i64 a, .bool c], .int .i64 k] w _
  have hb := bx_below w ao s.length cap a c
  have HB : Hid ((Dk.mk s a c).fits k = (decide (0 ≤ k) && decide (k ≤ s.length - 4))) := rfl
  clear h
  have hw : IntKind.i64.wrap ((s.length : Int) - 4) = (s.length : Int) - 4 := IntWalk.i64_in _ (by simp at hsm; omega)
  by_cases h0 : 0 ≤ k
  · go_enter Try.func32, Try.ntmps32
    go_wp2_with fail
    go_ret
    exact ⟨ret_bool (by rw [HB.out]; simp; omega), hb⟩
  · go_enter Try.func32, Try.ntmps32
    go_wp2_with fail
    go_ret
    exact ⟨ret_bool (by rw [HB.out]; simp; omega), hb⟩
theorem read_any (d : Dk) (v : Value) (k : Int) (w : World) (h : SecAt w v d.s) : Calls Try.prog 13 #[d.val v, .int .i64 k] w (Ret (.tuple #[.string (d.read k).1, .int .i64 (d.read k).2]) w) := by
  have HH := Lib.hid (fun W h => has_any d v k W h)
  have HS := Lib.hid h
  obtain ⟨s, a, c⟩ := d
  obtain ⟨ao, cap, rfl⟩ := h.nil
  have hb := bx_below w ao s.length cap a c
  by_cases hk : (Dk.mk s a c).is k = true
  · have hk' := hk
    simp only [Dk.is, Bool.and_eq_true, decide_eq_true_eq] at hk'
    obtain ⟨h0, h1⟩ := hk'
    obtain ⟨j, rfl⟩ : ∃ j : Nat, k = j := ⟨k.toNat, by omega⟩
    have hj : j < s.length := by simpa using h1
    obtain ⟨b, off, cap2, he, hlt, hcell⟩ := SecAt.get h j hj
    injection he with he1 he2 he3
    subst he1
    subst he3
    have HV : Hid ((Dk.mk s a c).read j = if c then (⟨#[]⟩, 20) else (s[j], 0)) := by show _ = _; simp [Dk.read, hk, hj]
    have HC := Lib.hid (hcell j hj)
    rw [hk] at HH
    show Calls Try.prog 13 #[.agg #[.slice (some ⟨b, off, none⟩) s.length cap, .int .i64 a, .bool c], .int .i64 j] w _
    change Hid (∀ W, _ → Calls Try.prog 28 #[.agg #[.slice (some ⟨b, off, none⟩) s.length cap, .int .i64 a, .bool c], .int .i64 j] W _) at HH
    clear h hcell hk h0 h1
    cases c with
    | true =>
      go_enter Try.func13, Try.ntmps13
      go_wp2_with fail
      go_ret2
      exact ⟨by rw [HV.out]; rfl, hb⟩
    | false =>
      go_enter Try.func13, Try.ntmps13
      go_wp2_with fail
      refine (HH.out _ (HS.out.below hb)).mono ?_
      rintro e w2 ⟨rfl, hb2⟩
      have z0 := ((Blk.new w #[.slice (some ⟨b, off, none⟩) s.length cap, .int .i64 a, .bool false] 25).below hb2).cell 0 rfl
      replace hb := hb.next hb2
      have hc := (hb.cell (p := ⟨b, off + j, none⟩) hlt).trans HC.out
      go_wp2_with fail
      go_ret2
      exact ⟨by rw [HV.out]; rfl, hb⟩
  · have hk : (Dk.mk s a c).is k = false := by simpa using hk
    have HV : Hid ((Dk.mk s a c).read k = if c then (⟨#[]⟩, 20) else (⟨#[]⟩, 1)) := by show _ = _; simp [Dk.read, hk]
    rw [hk] at HH
    show Calls Try.prog 13 #[.agg #[.slice ao s.length cap, .int .i64 a, .bool c], .int .i64 k] w _
    change Hid (∀ W, _ → Calls Try.prog 28 #[.agg #[.slice ao s.length cap, .int .i64 a, .bool c], .int .i64 k] W _) at HH
    clear h hk
    cases c with
    | true =>
      go_enter Try.func13, Try.ntmps13
      go_wp2_with fail
      go_ret2
      exact ⟨by rw [HV.out]; rfl, hb⟩
    | false =>
      go_enter Try.func13, Try.ntmps13
      go_wp2_with fail
      refine (HH.out _ (HS.out.below hb)).mono ?_
      rintro e w2 ⟨rfl, hb2⟩
      replace hb := hb.next hb2
      go_wp2_with fail
      go_ret2
      exact ⟨by rw [HV.out]; rfl, hb⟩
end Go.Proofs.Ythliialieogakaa
