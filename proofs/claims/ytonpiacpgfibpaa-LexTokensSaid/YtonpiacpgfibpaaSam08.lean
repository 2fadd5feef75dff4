/- The reference's Same, of two rows of the same tokens. -/
import Derived.Test.YtonpiacpgfibpaaAwk08
namespace Go.Proofs.Ytonpiacpgfibpaa.Lex
set_option linter.unusedVariables false
set_option linter.unusedSimpArgs false
open Go.RowKit
open Oct (S S_size S_data)
set_option maxHeartbeats 8000000 in
set_option maxRecDepth 100000 in
theorem same_any (ts : List Tk) (va vb : Value) (w : World) (ha : ElAt w 5 va (rowT ts)) (hb : ElAt w 5 vb (rowT ts)) (hs : ts.length ≤ 100000) : Calls Try.prog 14 #[va, vb] w (Ret (.bool true) w) := by
  have HA := Lib.hid ha
  have HB := Lib.hid hb
  obtain ⟨ao, cap, rfl⟩ := ha.nil
  obtain ⟨bo, cap2, rfl⟩ := hb.nil
  rw [rowT_len] at *
  clear ha hb
  go_enter Try.func14, Try.ntmps14
  go_wp2_with fail
  go_loopw [5] (fun iv wr => ∃ i : Nat, i ≤ ts.length ∧ iv = .int .i64 (i : Int) ∧ Below w.heap.size w wr) (fun iv _ => ts.length - (intOf iv).toNat)
  case atStart => exact ⟨0, Nat.zero_le _, rfl, Below.refl _ _⟩
  case round =>
    obtain ⟨i, hi, rfl, hbw⟩ := hrel
    by_cases hlt : i < ts.length
    · obtain ⟨b, off, c1, hv1, _, hc⟩ := (HA.out.below hbw).get i (by rw [rowT_len]; exact hlt)
      rw [rowT_len] at hv1
      injection hv1 with e1 _ e3
      subst e1 e3
      obtain ⟨b2, off2, c2, hv2, _, hc2⟩ := (HB.out.below hbw).get i (by rw [rowT_len]; exact hlt)
      rw [rowT_len] at hv2
      injection hv2 with e1 _ e3
      subst e1 e3
      rw [rowT_get ts i hlt] at hc hc2
      obtain ⟨t, ht⟩ : ∃ t, ts[i] = t := ⟨_, rfl⟩
      rw [ht] at hc hc2
      obtain ⟨k1, a1, z1, n1, s1⟩ := t
      simp only [tkCells] at hc hc2
      obtain ⟨sp, hsp⟩ : ∃ x, S s1 = x := ⟨_, rfl⟩
      rw [hsp] at hc hc2
      have d0 : wr.cell? ⟨b, off + i * 5, none⟩ = some (.int .i64 k1) := hc 0 _ rfl
      have d1 : wr.cell? ⟨b, off + i * 5 + 1, none⟩ = some (.int .i64 a1) := hc 1 _ rfl
      have d2 : wr.cell? ⟨b, off + i * 5 + 2, none⟩ = some (.int .i64 z1) := hc 2 _ rfl
      have d3 : wr.cell? ⟨b, off + i * 5 + 3, none⟩ = some (.int .i64 n1) := hc 3 _ rfl
      have d4 : wr.cell? ⟨b, off + i * 5 + 4, none⟩ = some (.string sp) := hc 4 _ rfl
      have e0 : wr.cell? ⟨b2, off2 + i * 5, none⟩ = some (.int .i64 k1) := hc2 0 _ rfl
      have e1 : wr.cell? ⟨b2, off2 + i * 5 + 1, none⟩ = some (.int .i64 a1) := hc2 1 _ rfl
      have e2 : wr.cell? ⟨b2, off2 + i * 5 + 2, none⟩ = some (.int .i64 z1) := hc2 2 _ rfl
      have e3 : wr.cell? ⟨b2, off2 + i * 5 + 3, none⟩ = some (.int .i64 n1) := hc2 3 _ rfl
      have e4 : wr.cell? ⟨b2, off2 + i * 5 + 4, none⟩ = some (.string sp) := hc2 4 _ rfl
      have hi0 : (0 : Int) ≤ i := by omega
      have hi1 : (i : Int) < ts.length := by omega
      clear hc hc2 ht hsp HA HB
      go_wp2_with fail
      go_quiet (fail)
      go_wp2_with fail
      go_roundw
      case rel => exact ⟨i + 1, by omega, by go_num, hbw.drewN _⟩
      case measure => simp [intOf]; omega
    · go_wp2_with fail
      go_ret
      exact ⟨rfl, hbw⟩
end Go.Proofs.Ytonpiacpgfibpaa.Lex
