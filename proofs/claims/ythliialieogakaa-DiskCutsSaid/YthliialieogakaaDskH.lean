/- Disks: Arm and Start: what they answer, the slice itself. -/
import Derived.Test.YthliialieogakaaDskB
namespace Go.Proofs.Ythliialieogakaa
set_option linter.unusedVariables false
set_option linter.unusedSimpArgs false
open Go.RowKit
open Oct (S)
theorem arm_val (d : Dk) (v : Value) (n : Int) (w : World) (h : SecAt w v d.s) : Calls Try.prog 20 #[d.val v, .int .i64 n] w (Ret ((d.arm n).val v) w) := by
  obtain ⟨s, a, c⟩ := d
  obtain ⟨ao, cap, rfl⟩ := h.nil
  have HS := Lib.hid h
  show Calls Try.prog 20 #[.agg #[.slice ao s.length cap, .int .i64 a, .bool c], .int .i64 n] w _
  clear h
  by_cases hn : n < 0
  · go_enter Try.func20, Try.ntmps20
    go_wp2_with fail
    exact bodyPost_ret (v := .agg #[.slice ao s.length cap, .int .i64 (max n (-1)), .bool c]) (by simp [results, Try.results20, go_sem]) rfl ⟨(by simp only [Dk.val, Dk.arm, if_pos hn, show max n (-1) = -1 from by omega]), ((Below.refl _ _).alloc (Nat.le_refl _) _).alloc (by simp) _⟩
  · go_enter Try.func20, Try.ntmps20
    go_wp2_with fail
    exact bodyPost_ret (v := .agg #[.slice ao s.length cap, .int .i64 (max n (-1)), .bool c]) (by simp [results, Try.results20, go_sem]) rfl ⟨(by simp only [Dk.val, Dk.arm, if_neg (show ¬ n < 0 from by omega), show max n (-1) = n from by omega]), ((Below.refl _ _).alloc (Nat.le_refl _) _).alloc (by simp) _⟩
theorem rarm_val (d : Dk) (v : Value) (n : Int) (w : World) (h : SecAt w v d.s) : Calls Try.prog 21 #[d.val v, .int .i64 n] w (Ret ((d.arm n).val v) w) := by
  obtain ⟨s, a, c⟩ := d
  obtain ⟨ao, cap, rfl⟩ := h.nil
  have HS := Lib.hid h
  show Calls Try.prog 21 #[.agg #[.slice ao s.length cap, .int .i64 a, .bool c], .int .i64 n] w _
  clear h
  by_cases hn : n < 0
  · go_enter Try.func21, Try.ntmps21
    go_wp2_with fail
    exact bodyPost_ret (v := .agg #[.slice ao s.length cap, .int .i64 (-1), .bool c]) (by simp [results, Try.results21, go_sem]) rfl ⟨(by simp only [Dk.val, Dk.arm, if_pos hn]), ((Below.refl _ _).alloc (Nat.le_refl _) _).alloc (by simp) _⟩
  · go_enter Try.func21, Try.ntmps21
    go_wp2_with fail
    exact bodyPost_ret (v := .agg #[.slice ao s.length cap, .int .i64 n, .bool c]) (by simp [results, Try.results21, go_sem]) rfl ⟨(by simp only [Dk.val, Dk.arm, if_neg (show ¬ n < 0 from by omega)]), ((Below.refl _ _).alloc (Nat.le_refl _) _).alloc (by simp) _⟩
theorem start_val (d : Dk) (v : Value) (w : World) (h : SecAt w v d.s) : Calls Try.prog 22 #[d.val v] w (Ret (d.start.val v) w) := by
  obtain ⟨s, a, c⟩ := d
  obtain ⟨ao, cap, rfl⟩ := h.nil
  have HS := Lib.hid h
  show Calls Try.prog 22 #[.agg #[.slice ao s.length cap, .int .i64 a, .bool c]] w _
  clear h
  · go_enter Try.func22, Try.ntmps22
    go_wp2_with fail
    exact bodyPost_ret (v := .agg #[.slice ao s.length cap, .int .i64 (-1), .bool false]) (by simp [results, Try.results22, go_sem]) rfl ⟨rfl, ((Below.refl _ _).alloc (Nat.le_refl _) _).alloc (by simp) _⟩
theorem rstart_val (d : Dk) (v : Value) (w : World) (h : SecAt w v d.s) : Calls Try.prog 23 #[d.val v] w (Ret (d.start.val v) w) := by
  obtain ⟨s, a, c⟩ := d
  obtain ⟨ao, cap, rfl⟩ := h.nil
  have HS := Lib.hid h
  show Calls Try.prog 23 #[.agg #[.slice ao s.length cap, .int .i64 a, .bool c]] w _
  clear h
  · go_enter Try.func23, Try.ntmps23
    go_wp2_with fail
    exact bodyPost_ret (v := .agg #[.slice ao s.length cap, .int .i64 (-1), .bool false]) (by simp [results, Try.results23, go_sem]) rfl ⟨rfl, ((Below.refl _ _).alloc (Nat.le_refl _) _).alloc (by simp) _⟩
end Go.Proofs.Ythliialieogakaa
