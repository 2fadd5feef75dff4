/- rec: slices.Equal over transactions and pages. -/
import Derived.Test.YtloengjcniefgaaRecT
namespace Go.Proofs.Ytloengjcniefgaa.Rec
set_option linter.unusedVariables false
set_option linter.unusedSimpArgs false
open Go.RowKit
open Oct (S beN putL U I getI sumN S_size S_data)
theorem eq_step {α : Type} (a b : List α) (i : Nat) (ha : i < a.length) (hb : i < b.length) (h : a.take i = b.take i) (he : a[i] = b[i]) : a.take (i + 1) = b.take (i + 1) := by
  rw [List.take_succ_eq_append_getElem ha, List.take_succ_eq_append_getElem hb, h, he]
set_option maxRecDepth 100000 in
theorem neqT (k1 k2 k3 m1 m2 m3 : Int) (k4 m4 : Bool) (W : World) : (binOp .neq 67 (.agg #[.int .i64 k1, .int .i64 k2, .int .i64 k3, .bool k4]) (.agg #[.int .i64 m1, .int .i64 m2, .int .i64 m3, .bool m4])).run Try.prog W = .ok (.bool (!decide (Tx.mk k1 k2 k3 k4 = Tx.mk m1 m2 m3 m4))) W := by
  go_simp
  by_cases h1 : k1 = m1 <;> by_cases h2 : k2 = m2 <;> by_cases h3 : k3 = m3 <;> by_cases h4 : k4 = m4 <;> simp [*]
set_option maxRecDepth 100000 in
theorem neqD (k1 k2 m1 m2 : Int) (W : World) : (binOp .neq 71 (.agg #[.int .i64 k1, .int .i64 k2]) (.agg #[.int .i64 m1, .int .i64 m2])).run Try.prog W = .ok (.bool (!decide (Dy.mk k1 k2 = Dy.mk m1 m2))) W := by
  go_simp
  by_cases h1 : k1 = m1 <;> by_cases h2 : k2 = m2 <;> simp [*]
set_option maxHeartbeats 4000000 in
set_option maxRecDepth 100000 in
theorem equalT_any (a b : List Tx) (va vb : Value) (w : World) (ha : ElAt w 4 va (txC a)) (hb : ElAt w 4 vb (txC b)) (hs : a.length ≤ 100000) :
    Calls Try.prog 43 #[va, vb] w (Ret (.bool (decide (a = b))) w) := by
  have HA := Lib.hid ha
  have HB := Lib.hid hb
  obtain ⟨ao, cap, rfl⟩ := ha.nil
  obtain ⟨bo, cap2, rfl⟩ := hb.nil
  obtain ⟨R, hR⟩ : ∃ R, decide (a = b) = R := ⟨_, rfl⟩
  have HR := Lib.hid hR
  rw [hR]
  rw [txC_len] at *
  rw [txC_len] at *
  clear ha hb hR
  by_cases hne : a.length = b.length
  · have hnl : ((a.length : Int) != (b.length : Int)) = false := by simp [hne]
    have HNE := Lib.hid hne
    clear hne
    go_enter Try.func43, Try.ntmps43
    go_wp2_with fail
    go_loopw [5, 13] (fun _ iv wr => ∃ i : Nat, i ≤ a.length ∧ iv = .int .i64 (i : Int) ∧ Below w.heap.size w wr ∧ Hid (a.take i = b.take i)) (fun _ iv _ => a.length - (intOf iv).toNat)
    case atStart => exact ⟨0, Nat.zero_le _, rfl, Below.refl _ _, by show _ = _; simp⟩
    case round =>
      obtain ⟨i, hi, rfl, hbw, HT⟩ := hrel
      by_cases hlt : i < a.length
      · obtain ⟨b1, off, c1, hv1, _, hc⟩ := (HA.out.below hbw).get i (by rw [txC_len]; exact hlt)
        rw [txC_len] at hv1
        injection hv1 with e1 _ e3
        subst e1 e3
        obtain ⟨b2, off2, c2, hv2, _, hc2⟩ := (HB.out.below hbw).get i (by rw [txC_len]; have := HNE.out; omega)
        rw [txC_len] at hv2
        injection hv2 with e1 _ e3
        subst e1 e3
        rw [txC_get a i hlt] at hc
        have hlb : i < b.length := by have := HNE.out; omega
        rw [txC_get b i hlb] at hc2
        have HST : Hid (a[i]'hlt = b[i]'hlb → a.take (i + 1) = b.take (i + 1)) := fun h => eq_step a b i hlt hlb HT.out h
        have HNO : Hid (a[i]'hlt ≠ b[i]'hlb → R = false) := by
          show _ → _
          intro h
          rw [← HR.out, decide_eq_false_iff_not]
          rintro rfl
          exact h rfl
        obtain ⟨t, ht⟩ : ∃ t, a[i]'hlt = t := ⟨_, rfl⟩
        obtain ⟨u, hu⟩ : ∃ t, b[i]'hlb = t := ⟨_, rfl⟩
        rw [ht] at hc HST HNO
        rw [hu] at hc2 HST HNO
        obtain ⟨k1, k2, k3, k4⟩ := t
        obtain ⟨m1, m2, m3, m4⟩ := u
        simp only [Tx.cells] at hc hc2
        have d0 : wr.cell? ⟨b1, off + i * 4, none⟩ = some (.int .i64 k1) := hc 0 _ rfl
        have d1 : wr.cell? ⟨b1, off + i * 4 + 1, none⟩ = some (.int .i64 k2) := hc 1 _ rfl
        have d2 : wr.cell? ⟨b1, off + i * 4 + 2, none⟩ = some (.int .i64 k3) := hc 2 _ rfl
        have d3 : wr.cell? ⟨b1, off + i * 4 + 3, none⟩ = some (.bool k4) := hc 3 _ rfl
        have e0 : wr.cell? ⟨b2, off2 + i * 4, none⟩ = some (.int .i64 m1) := hc2 0 _ rfl
        have e1 : wr.cell? ⟨b2, off2 + i * 4 + 1, none⟩ = some (.int .i64 m2) := hc2 1 _ rfl
        have e2 : wr.cell? ⟨b2, off2 + i * 4 + 2, none⟩ = some (.int .i64 m3) := hc2 2 _ rfl
        have e3 : wr.cell? ⟨b2, off2 + i * 4 + 3, none⟩ = some (.bool m4) := hc2 3 _ rfl
        have hi0 : (0 : Int) ≤ i := by omega
        have hi1 : (i : Int) < a.length := by omega
        have hi2 : (i : Int) < b.length := by omega
        clear hc hc2 ht hu HA HB HR
        have HQ := fun W => neqT k1 k2 k3 m1 m2 m3 k4 m4 W
        by_cases hq : Tx.mk k1 k2 k3 k4 = Tx.mk m1 m2 m3 m4
        · have HX := Lib.hid (HST.out hq)
          rw [decide_eq_true hq] at HQ
          clear hq HNO HST HT
          go_wp2_with fail
          go_quiet (fail)
          go_wp2_with fail
          go_roundw
          case rel => exact ⟨i + 1, by omega, by go_num, hbw.drewN _, HX⟩
          case measure => simp [intOf]; omega
        · have HX := Lib.hid (HNO.out hq)
          rw [decide_eq_false hq] at HQ
          clear hq HNO HST HT
          go_wp2_with fail
          go_quiet (fail)
          go_wp2_with fail
          go_ret
          exact ⟨ret_bool HX.out, hbw.drewN _⟩
      · have HX : Hid (R = true) := by
          show _ = _
          have h := HT.out
          rw [List.take_of_length_le (by omega), List.take_of_length_le (by have := HNE.out; omega)] at h
          rw [← HR.out, decide_eq_true h]
        clear HA HB HR HT
        go_wp2_with fail
        go_ret
        exact ⟨ret_bool HX.out, hbw⟩
  · have hnl : ((a.length : Int) != (b.length : Int)) = true := by simp; omega
    have HX : Hid (R = false) := by
      show _ = _
      rw [← HR.out, decide_eq_false_iff_not]
      rintro rfl
      exact hne rfl
    clear HA HB HR
    go_enter Try.func43, Try.ntmps43
    go_wp2_with fail
    go_ret
    exact ⟨ret_bool HX.out, Below.refl _ _⟩
set_option maxHeartbeats 4000000 in
set_option maxRecDepth 100000 in
theorem equalD_any (a b : List Dy) (va vb : Value) (w : World) (ha : ElAt w 2 va (dyC a)) (hb : ElAt w 2 vb (dyC b)) (hs : a.length ≤ 100000) :
    Calls Try.prog 44 #[va, vb] w (Ret (.bool (decide (a = b))) w) := by
  have HA := Lib.hid ha
  have HB := Lib.hid hb
  obtain ⟨ao, cap, rfl⟩ := ha.nil
  obtain ⟨bo, cap2, rfl⟩ := hb.nil
  obtain ⟨R, hR⟩ : ∃ R, decide (a = b) = R := ⟨_, rfl⟩
  have HR := Lib.hid hR
  rw [hR]
  rw [dyC_len] at *
  rw [dyC_len] at *
  clear ha hb hR
  by_cases hne : a.length = b.length
  · have hnl : ((a.length : Int) != (b.length : Int)) = false := by simp [hne]
    have HNE := Lib.hid hne
    clear hne
    go_enter Try.func44, Try.ntmps44
    go_wp2_with fail
    go_loopw [5, 13] (fun _ iv wr => ∃ i : Nat, i ≤ a.length ∧ iv = .int .i64 (i : Int) ∧ Below w.heap.size w wr ∧ Hid (a.take i = b.take i)) (fun _ iv _ => a.length - (intOf iv).toNat)
    case atStart => exact ⟨0, Nat.zero_le _, rfl, Below.refl _ _, by show _ = _; simp⟩
    case round =>
      obtain ⟨i, hi, rfl, hbw, HT⟩ := hrel
      by_cases hlt : i < a.length
      · obtain ⟨b1, off, c1, hv1, _, hc⟩ := (HA.out.below hbw).get i (by rw [dyC_len]; exact hlt)
        rw [dyC_len] at hv1
        injection hv1 with e1 _ e3
        subst e1 e3
        obtain ⟨b2, off2, c2, hv2, _, hc2⟩ := (HB.out.below hbw).get i (by rw [dyC_len]; have := HNE.out; omega)
        rw [dyC_len] at hv2
        injection hv2 with e1 _ e3
        subst e1 e3
        rw [dyC_get a i hlt] at hc
        have hlb : i < b.length := by have := HNE.out; omega
        rw [dyC_get b i hlb] at hc2
        have HST : Hid (a[i]'hlt = b[i]'hlb → a.take (i + 1) = b.take (i + 1)) := fun h => eq_step a b i hlt hlb HT.out h
        have HNO : Hid (a[i]'hlt ≠ b[i]'hlb → R = false) := by
          show _ → _
          intro h
          rw [← HR.out, decide_eq_false_iff_not]
          rintro rfl
          exact h rfl
        obtain ⟨t, ht⟩ : ∃ t, a[i]'hlt = t := ⟨_, rfl⟩
        obtain ⟨u, hu⟩ : ∃ t, b[i]'hlb = t := ⟨_, rfl⟩
        rw [ht] at hc HST HNO
        rw [hu] at hc2 HST HNO
        obtain ⟨k1, k2⟩ := t
        obtain ⟨m1, m2⟩ := u
        simp only [Dy.cells] at hc hc2
        have d0 : wr.cell? ⟨b1, off + i * 2, none⟩ = some (.int .i64 k1) := hc 0 _ rfl
        have d1 : wr.cell? ⟨b1, off + i * 2 + 1, none⟩ = some (.int .i64 k2) := hc 1 _ rfl
        have e0 : wr.cell? ⟨b2, off2 + i * 2, none⟩ = some (.int .i64 m1) := hc2 0 _ rfl
        have e1 : wr.cell? ⟨b2, off2 + i * 2 + 1, none⟩ = some (.int .i64 m2) := hc2 1 _ rfl
        have hi0 : (0 : Int) ≤ i := by omega
        have hi1 : (i : Int) < a.length := by omega
        have hi2 : (i : Int) < b.length := by omega
        clear hc hc2 ht hu HA HB HR
        have HQ := fun W => neqD k1 k2 m1 m2 W
        by_cases hq : Dy.mk k1 k2 = Dy.mk m1 m2
        · have HX := Lib.hid (HST.out hq)
          rw [decide_eq_true hq] at HQ
          clear hq HNO HST HT
          go_wp2_with fail
          go_quiet (fail)
          go_wp2_with fail
          go_roundw
          case rel => exact ⟨i + 1, by omega, by go_num, hbw.drewN _, HX⟩
          case measure => simp [intOf]; omega
        · have HX := Lib.hid (HNO.out hq)
          rw [decide_eq_false hq] at HQ
          clear hq HNO HST HT
          go_wp2_with fail
          go_quiet (fail)
          go_wp2_with fail
          go_ret
          exact ⟨ret_bool HX.out, hbw.drewN _⟩
      · have HX : Hid (R = true) := by
          show _ = _
          have h := HT.out
          rw [List.take_of_length_le (by omega), List.take_of_length_le (by have := HNE.out; omega)] at h
          rw [← HR.out, decide_eq_true h]
        clear HA HB HR HT
        go_wp2_with fail
        go_ret
        exact ⟨ret_bool HX.out, hbw⟩
  · have hnl : ((a.length : Int) != (b.length : Int)) = true := by simp; omega
    have HX : Hid (R = false) := by
      show _ = _
      rw [← HR.out, decide_eq_false_iff_not]
      rintro rfl
      exact hne rfl
    clear HA HB HR
    go_enter Try.func44, Try.ntmps44
    go_wp2_with fail
    go_ret
    exact ⟨ret_bool HX.out, Below.refl _ _⟩
end Go.Proofs.Ytloengjcniefgaa.Rec
