/- Disks: the reference's Read; Arm and Start, both. -/
import Derived.Test.YthliialieogakaaDskA
namespace Go.Proofs.Ythliialieogakaa
set_option linter.unusedVariables false
set_option linter.unusedSimpArgs false
open Go.RowKit
open Oct (S)
theorem rread_any (d : Dk) (v : Value) (k : Int) (w : World) (h : SecAt w v d.s) : Calls Try.prog 14 #[d.val v, .int .i64 k] w (Ret (.tuple #[.string (d.read k).1, .int .i64 (d.read k).2]) w) := by
  have HH := Lib.hid (fun W h => rhas_any d v k W h)
  have HS := Lib.hid h
  obtain ⟨s, a, c⟩ := d
  obtain ⟨ao, cap, rfl⟩ := h.nil
  have hb := bx_below w ao s.length cap a c
  by_cases hk : (Dk.mk s a c).is k = true
  · have hk' := hk
    simp only [Dk.is, Bool.and_eq_true, decide_eq_true_eq] at hk'
    obtain ⟨h0, h1⟩ := hk'
    obtain ⟨j, rfl⟩ : ∃ j : Nat, k = j := ⟨k.toNat, by omega⟩
    have hj : j < s.length := by simpa using h1
    obtain ⟨b, off, cap2, he, hlt, hcell⟩ := SecAt.get h j hj
    injection he with he1 he2 he3
    subst he1
    subst he3
    have HV : Hid ((Dk.mk s a c).read j = if c then (⟨#[]⟩, 20) else (s[j], 0)) := by show _ = _; simp [Dk.read, hk, hj]
    have HC := Lib.hid (hcell j hj)
    rw [hk] at HH
    show Calls Try.prog 14 #[.agg #[.slice (some ⟨b, off, none⟩) s.length cap, .int .i64 a, .bool c], .int .i64 j] w _
    change Hid (∀ W, _ → Calls Try.prog 30 #[.agg #[.slice (some ⟨b, off, none⟩) s.length cap, .int .i64 a, .bool c], .int .i64 j] W _) at HH
    clear h hcell hk h0 h1
    cases c with
    | true =>
      go_enter Try.func14, Try.ntmps14
      go_wp2_with fail
      go_ret2
      exact ⟨by rw [HV.out]; rfl, hb⟩
    | false =>
      go_enter Try.func14, Try.ntmps14
      go_wp2_with fail
      refine (HH.out _ (HS.out.below hb)).mono ?_
      rintro e w2 ⟨rfl, hb2⟩
      have z0 := ((Blk.new w #[.slice (some ⟨b, off, none⟩) s.length cap, .int .i64 a, .bool false] 25).below hb2).cell 0 rfl
      replace hb := hb.next hb2
      have hc := (hb.cell (p := ⟨b, off + j, none⟩) hlt).trans HC.out
      go_wp2_with fail
      go_ret2
      exact ⟨by rw [HV.out]; rfl, hb⟩
  · have hk : (Dk.mk s a c).is k = false := by simpa using hk
    have HV : Hid ((Dk.mk s a c).read k = if c then (⟨#[]⟩, 20) else (⟨#[]⟩, 1)) := by show _ = _; simp [Dk.read, hk]
    rw [hk] at HH
    show Calls Try.prog 14 #[.agg #[.slice ao s.length cap, .int .i64 a, .bool c], .int .i64 k] w _
    change Hid (∀ W, _ → Calls Try.prog 30 #[.agg #[.slice ao s.length cap, .int .i64 a, .bool c], .int .i64 k] W _) at HH
    clear h hk
    cases c with
    | true =>
      go_enter Try.func14, Try.ntmps14
      go_wp2_with fail
      go_ret2
      exact ⟨by rw [HV.out]; rfl, hb⟩
    | false =>
      go_enter Try.func14, Try.ntmps14
      go_wp2_with fail
      refine (HH.out _ (HS.out.below hb)).mono ?_
      rintro e w2 ⟨rfl, hb2⟩
      replace hb := hb.next hb2
      go_wp2_with fail
      go_ret2
      exact ⟨by rw [HV.out]; rfl, hb⟩
theorem arm_any (d : Dk) (v : Value) (n : Int) (w : World) (h : SecAt w v d.s) : Calls Try.prog 20 #[d.val v, .int .i64 n] w (DkP1 (d.arm n) w) := by
  obtain ⟨s, a, c⟩ := d
  obtain ⟨ao, cap, rfl⟩ := h.nil
  have HS := Lib.hid h
  show Calls Try.prog 20 #[.agg #[.slice ao s.length cap, .int .i64 a, .bool c], .int .i64 n] w _
  clear h
  by_cases hn : n < 0
  · go_enter Try.func20, Try.ntmps20
    go_wp2_with fail
    exact bodyPost_ret (v := .agg #[.slice ao s.length cap, .int .i64 (max n (-1)), .bool c]) (by simp [results, Try.results20, go_sem]) rfl ⟨((Below.refl _ _).alloc (Nat.le_refl _) _).alloc (by simp) _, .slice ao s.length cap, by simp only [Dk.val, Dk.arm, if_pos hn, show max n (-1) = -1 from by omega], (HS.out.below ((Below.refl _ _).alloc (Nat.le_refl _) _)).below ((Below.refl _ _).alloc (Nat.le_refl _) _)⟩
  · go_enter Try.func20, Try.ntmps20
    go_wp2_with fail
    exact bodyPost_ret (v := .agg #[.slice ao s.length cap, .int .i64 (max n (-1)), .bool c]) (by simp [results, Try.results20, go_sem]) rfl ⟨((Below.refl _ _).alloc (Nat.le_refl _) _).alloc (by simp) _, .slice ao s.length cap, by simp only [Dk.val, Dk.arm, if_neg (show ¬ n < 0 from by omega), show max n (-1) = n from by omega], (HS.out.below ((Below.refl _ _).alloc (Nat.le_refl _) _)).below ((Below.refl _ _).alloc (Nat.le_refl _) _)⟩
theorem rarm_any (d : Dk) (v : Value) (n : Int) (w : World) (h : SecAt w v d.s) : Calls Try.prog 21 #[d.val v, .int .i64 n] w (DkP1 (d.arm n) w) := by
  obtain ⟨s, a, c⟩ := d
  obtain ⟨ao, cap, rfl⟩ := h.nil
  have HS := Lib.hid h
  show Calls Try.prog 21 #[.agg #[.slice ao s.length cap, .int .i64 a, .bool c], .int .i64 n] w _
  clear h
  by_cases hn : n < 0
  · go_enter Try.func21, Try.ntmps21
    go_wp2_with fail
    exact bodyPost_ret (v := .agg #[.slice ao s.length cap, .int .i64 (-1), .bool c]) (by simp [results, Try.results21, go_sem]) rfl ⟨((Below.refl _ _).alloc (Nat.le_refl _) _).alloc (by simp) _, .slice ao s.length cap, by simp only [Dk.val, Dk.arm, if_pos hn], (HS.out.below ((Below.refl _ _).alloc (Nat.le_refl _) _)).below ((Below.refl _ _).alloc (Nat.le_refl _) _)⟩
  · go_enter Try.func21, Try.ntmps21
    go_wp2_with fail
    exact bodyPost_ret (v := .agg #[.slice ao s.length cap, .int .i64 n, .bool c]) (by simp [results, Try.results21, go_sem]) rfl ⟨((Below.refl _ _).alloc (Nat.le_refl _) _).alloc (by simp) _, .slice ao s.length cap, by simp only [Dk.val, Dk.arm, if_neg (show ¬ n < 0 from by omega)], (HS.out.below ((Below.refl _ _).alloc (Nat.le_refl _) _)).below ((Below.refl _ _).alloc (Nat.le_refl _) _)⟩
theorem start_any (d : Dk) (v : Value) (w : World) (h : SecAt w v d.s) : Calls Try.prog 22 #[d.val v] w (DkP1 d.start w) := by
  obtain ⟨s, a, c⟩ := d
  obtain ⟨ao, cap, rfl⟩ := h.nil
  have HS := Lib.hid h
  show Calls Try.prog 22 #[.agg #[.slice ao s.length cap, .int .i64 a, .bool c]] w _
  clear h
  · go_enter Try.func22, Try.ntmps22
    go_wp2_with fail
    exact bodyPost_ret (v := .agg #[.slice ao s.length cap, .int .i64 (-1), .bool false]) (by simp [results, Try.results22, go_sem]) rfl ⟨((Below.refl _ _).alloc (Nat.le_refl _) _).alloc (by simp) _, .slice ao s.length cap, rfl, (HS.out.below ((Below.refl _ _).alloc (Nat.le_refl _) _)).below ((Below.refl _ _).alloc (Nat.le_refl _) _)⟩
theorem rstart_any (d : Dk) (v : Value) (w : World) (h : SecAt w v d.s) : Calls Try.prog 23 #[d.val v] w (DkP1 d.start w) := by
  obtain ⟨s, a, c⟩ := d
  obtain ⟨ao, cap, rfl⟩ := h.nil
  have HS := Lib.hid h
  show Calls Try.prog 23 #[.agg #[.slice ao s.length cap, .int .i64 a, .bool c]] w _
  clear h
  · go_enter Try.func23, Try.ntmps23
    go_wp2_with fail
    exact bodyPost_ret (v := .agg #[.slice ao s.length cap, .int .i64 (-1), .bool false]) (by simp [results, Try.results23, go_sem]) rfl ⟨((Below.refl _ _).alloc (Nat.le_refl _) _).alloc (by simp) _, .slice ao s.length cap, rfl, (HS.out.below ((Below.refl _ _).alloc (Nat.le_refl _) _)).below ((Below.refl _ _).alloc (Nat.le_refl _) _)⟩
end Go.Proofs.Ythliialieogakaa
