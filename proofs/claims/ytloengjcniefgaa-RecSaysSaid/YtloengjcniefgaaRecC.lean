/- rec: ContainsFunc over transactions and over pages, with Right's two literals. -/
import Derived.Test.YtloengjcniefgaaRecT
namespace Go.Proofs.Ytloengjcniefgaa.Rec
set_option linter.unusedVariables false
set_option linter.unusedSimpArgs false
open Go.RowKit
open Oct (S beN putL U I getI sumN S_size S_data)
set_option maxRecDepth 100000 in
theorem closT_any (t : Tx) (w : World) : Calls Try.prog 34 #[.agg t.cells.toArray] w (Ret (.bool (!txB t)) w) := by
  obtain ⟨n1, n2, n3, n4⟩ := t
  have hb := (Below.refl w.heap.size w).alloc (Nat.le_refl _) (.cells #[.int .i64 n1, .int .i64 n2, .int .i64 n3, .bool n4] 67)
  have HN := Lib.hid (fun W g h => number3 n1 n2 n3 W g h)
  have HB : Hid (txB ⟨n1, n2, n3, n4⟩ = (numB n1 && numB n2 && numB n3)) := rfl
  simp only [Tx.cells]
  go_enter Try.func34, Try.ntmps34
  go_wp2_with fail
  refine (HN.out _ _ (by simp)).mono ?_
  rintro e w1 ⟨rfl, hb1⟩
  go_wp2_with fail
  go_ret
  exact ⟨ret_bool (by rw [HB.out]; cases numB n1 <;> cases numB n2 <;> simp), hb.next hb1⟩
set_option maxRecDepth 100000 in
theorem closD_any (t : Dy) (w : World) : Calls Try.prog 36 #[.agg t.cells.toArray] w (Ret (.bool (!dyB t)) w) := by
  obtain ⟨n1, n2⟩ := t
  have hb := (Below.refl w.heap.size w).alloc (Nat.le_refl _) (.cells #[.int .i64 n1, .int .i64 n2] 71)
  have HP := Lib.hid (fun W g h => paged1 n1 W g h)
  have HN := Lib.hid (fun W g h => number1 n2 W g h)
  have HB : Hid (dyB ⟨n1, n2⟩ = (pageB n1 && numB n2)) := rfl
  simp only [Dy.cells]
  go_enter Try.func36, Try.ntmps36
  go_wp2_with fail
  refine (HP.out _ _ (by simp)).mono ?_
  rintro e w1 ⟨rfl, hb1⟩
  have hb2 := hb.next hb1
  have c1 := ((Blk.new w #[.int .i64 n1, .int .i64 n2] 71).below hb1).cell 1 (v := .int .i64 n2) rfl
  cases hp : pageB n1 with
  | false =>
    go_wp2_with fail
    go_ret
    exact ⟨ret_bool (by rw [HB.out, hp]; rfl), hb2⟩
  | true =>
    go_wp2_with fail
    refine (HN.out _ _ (by simp)).mono ?_
    rintro e w2 ⟨rfl, hb3⟩
    go_wp2_with fail
    go_ret
    exact ⟨ret_bool (by rw [HB.out, hp]; simp), hb2.next hb3⟩
set_option maxHeartbeats 1000000 in
set_option maxRecDepth 100000 in
theorem indexT_any (ns : List Tx) (v : Value) (w : World) (hv : ElAt w 4 v (txC ns)) (hs : ns.length ≤ 100000) :
    Calls Try.prog 66 #[v, .func (.func 34) #[] #[]] w fun e w' => Below w.heap.size w w' ∧ ∃ k : Int, e = .returned (.int .i64 k) ∧ decide (0 ≤ k) = !(ns.all (txB)) := by
  have HV := Lib.hid hv
  have HW := Lib.hid (fun n W => closT_any n W)
  obtain ⟨ao, cap, rfl⟩ := hv.nil
  rw [txC_len] at *
  clear hv
  go_enter Try.func66, Try.ntmps66
  go_wp2_with fail
  go_loopw [5, 8] (fun _ iv wr => ∃ i : Nat, i ≤ ns.length ∧ iv = .int .i64 (i : Int) ∧ Below w.heap.size w wr ∧ Hid ((ns.take i).all (txB) = true)) (fun _ iv _ => ns.length - (intOf iv).toNat)
  case atStart => exact ⟨0, Nat.zero_le _, rfl, Below.refl _ _, by show _ = _; simp⟩
  case round =>
    obtain ⟨i, hi, rfl, hbw, HT⟩ := hrel
    by_cases hlt : i < ns.length
    · obtain ⟨b, off, c1, hv1, _, hc⟩ := (HV.out.below hbw).get i (by rw [txC_len]; exact hlt)
      rw [txC_len] at hv1
      injection hv1 with e1 _ e3
      subst e1 e3
      rw [txC_get ns i hlt] at hc
      have HNX : Hid ((ns.take (i + 1)).all (txB) = ((ns.take i).all (txB) && txB ns[i])) := by
        show _ = _
        rw [List.take_succ_eq_append_getElem hlt, List.all_append]
        simp
      have HALL : Hid (txB ns[i] = false → ns.all (txB) = false) := by
        show _ → _
        intro h
        rw [List.all_eq_false]
        exact ⟨_, List.getElem_mem hlt, by rw [h]; simp⟩
      obtain ⟨n, hn⟩ : ∃ n, ns[i] = n := ⟨_, rfl⟩
      rw [hn] at hc HNX HALL
      obtain ⟨n1, n2, n3, n4⟩ := n
      simp only [Tx.cells] at hc
      have d0 : wr.cell? ⟨b, off + i * 4, none⟩ = some (.int .i64 n1) := hc 0 _ rfl
      have d1 : wr.cell? ⟨b, off + i * 4 + 1, none⟩ = some (.int .i64 n2) := hc 1 _ rfl
      have d2 : wr.cell? ⟨b, off + i * 4 + 2, none⟩ = some (.int .i64 n3) := hc 2 _ rfl
      have d3 : wr.cell? ⟨b, off + i * 4 + 3, none⟩ = some (.bool n4) := hc 3 _ rfl
      have hi0 : (0 : Int) ≤ i := by omega
      have hi1 : (i : Int) < ns.length := by omega
      clear hc hn
      cases hin : txB ⟨n1, n2, n3, n4⟩ with
      | true =>
        have HWN := Lib.hid (HW.out ⟨n1, n2, n3, n4⟩ wr)
        rw [hin] at HWN HNX
        have HT2 : Hid ((ns.take (i + 1)).all (txB) = true) := by show _ = _; rw [HNX.out, HT.out]; rfl
        clear hin HALL HNX HT HW
        go_wp2_with fail
        refine HWN.out.mono ?_
        rintro e w1 ⟨rfl, hb1⟩
        have hb2 := hbw.next hb1
        go_wp2_with fail
        go_roundw
        case rel => exact ⟨i + 1, by omega, by go_num, hb2, HT2⟩
        case measure => simp [intOf]; omega
      | false =>
        have HWN := Lib.hid (HW.out ⟨n1, n2, n3, n4⟩ wr)
        rw [hin] at HWN
        have HF := Lib.hid (HALL.out hin)
        clear hin HALL HNX HT HW
        go_wp2_with fail
        refine HWN.out.mono ?_
        rintro e w1 ⟨rfl, hb1⟩
        have hb2 := hbw.next hb1
        go_wp2_with fail
        go_ret
        exact ⟨hb2, _, rfl, by rw [HF.out]; simp⟩
    · have HF : Hid (ns.all (txB) = true) := by
        show _ = _
        have := HT.out
        rwa [List.take_of_length_le (by omega)] at this
      clear HT HV HW
      go_wp2_with fail
      go_ret
      exact ⟨hbw, _, rfl, by rw [HF.out]; decide⟩
set_option maxRecDepth 100000 in
theorem containsT_any (ns : List Tx) (v : Value) (w : World) (hv : ElAt w 4 v (txC ns)) (hs : ns.length ≤ 100000) :
    Calls Try.prog 33 #[v, .func (.func 34) #[] #[]] w (Ret (.bool (!(ns.all (txB)))) w) := by
  have HI := Lib.hid (indexT_any ns v w hv hs)
  obtain ⟨ao, cap, rfl⟩ := hv.nil
  clear hv
  go_enter Try.func33, Try.ntmps33
  go_wp2_with fail
  refine HI.out.mono ?_
  rintro e w1 ⟨hb, k, rfl, hk⟩
  have HK := Lib.hid hk
  clear hk
  go_wp2_with fail
  go_ret
  exact ⟨ret_bool (by rw [← HK.out]), hb⟩
set_option maxHeartbeats 1000000 in
set_option maxRecDepth 100000 in
theorem indexD_any (ns : List Dy) (v : Value) (w : World) (hv : ElAt w 2 v (dyC ns)) (hs : ns.length ≤ 100000) :
    Calls Try.prog 67 #[v, .func (.func 36) #[] #[]] w fun e w' => Below w.heap.size w w' ∧ ∃ k : Int, e = .returned (.int .i64 k) ∧ decide (0 ≤ k) = !(ns.all (dyB)) := by
  have HV := Lib.hid hv
  have HW := Lib.hid (fun n W => closD_any n W)
  obtain ⟨ao, cap, rfl⟩ := hv.nil
  rw [dyC_len] at *
  clear hv
  go_enter Try.func67, Try.ntmps67
  go_wp2_with fail
  go_loopw [5, 8] (fun _ iv wr => ∃ i : Nat, i ≤ ns.length ∧ iv = .int .i64 (i : Int) ∧ Below w.heap.size w wr ∧ Hid ((ns.take i).all (dyB) = true)) (fun _ iv _ => ns.length - (intOf iv).toNat)
  case atStart => exact ⟨0, Nat.zero_le _, rfl, Below.refl _ _, by show _ = _; simp⟩
  case round =>
    obtain ⟨i, hi, rfl, hbw, HT⟩ := hrel
    by_cases hlt : i < ns.length
    · obtain ⟨b, off, c1, hv1, _, hc⟩ := (HV.out.below hbw).get i (by rw [dyC_len]; exact hlt)
      rw [dyC_len] at hv1
      injection hv1 with e1 _ e3
      subst e1 e3
      rw [dyC_get ns i hlt] at hc
      have HNX : Hid ((ns.take (i + 1)).all (dyB) = ((ns.take i).all (dyB) && dyB ns[i])) := by
        show _ = _
        rw [List.take_succ_eq_append_getElem hlt, List.all_append]
        simp
      have HALL : Hid (dyB ns[i] = false → ns.all (dyB) = false) := by
        show _ → _
        intro h
        rw [List.all_eq_false]
        exact ⟨_, List.getElem_mem hlt, by rw [h]; simp⟩
      obtain ⟨n, hn⟩ : ∃ n, ns[i] = n := ⟨_, rfl⟩
      rw [hn] at hc HNX HALL
      obtain ⟨n1, n2⟩ := n
      simp only [Dy.cells] at hc
      have d0 : wr.cell? ⟨b, off + i * 2, none⟩ = some (.int .i64 n1) := hc 0 _ rfl
      have d1 : wr.cell? ⟨b, off + i * 2 + 1, none⟩ = some (.int .i64 n2) := hc 1 _ rfl
      have hi0 : (0 : Int) ≤ i := by omega
      have hi1 : (i : Int) < ns.length := by omega
      clear hc hn
      cases hin : dyB ⟨n1, n2⟩ with
      | true =>
        have HWN := Lib.hid (HW.out ⟨n1, n2⟩ wr)
        rw [hin] at HWN HNX
        have HT2 : Hid ((ns.take (i + 1)).all (dyB) = true) := by show _ = _; rw [HNX.out, HT.out]; rfl
        clear hin HALL HNX HT HW
        go_wp2_with fail
        refine HWN.out.mono ?_
        rintro e w1 ⟨rfl, hb1⟩
        have hb2 := hbw.next hb1
        go_wp2_with fail
        go_roundw
        case rel => exact ⟨i + 1, by omega, by go_num, hb2, HT2⟩
        case measure => simp [intOf]; omega
      | false =>
        have HWN := Lib.hid (HW.out ⟨n1, n2⟩ wr)
        rw [hin] at HWN
        have HF := Lib.hid (HALL.out hin)
        clear hin HALL HNX HT HW
        go_wp2_with fail
        refine HWN.out.mono ?_
        rintro e w1 ⟨rfl, hb1⟩
        have hb2 := hbw.next hb1
        go_wp2_with fail
        go_ret
        exact ⟨hb2, _, rfl, by rw [HF.out]; simp⟩
    · have HF : Hid (ns.all (dyB) = true) := by
        show _ = _
        have := HT.out
        rwa [List.take_of_length_le (by omega)] at this
      clear HT HV HW
      go_wp2_with fail
      go_ret
      exact ⟨hbw, _, rfl, by rw [HF.out]; decide⟩
set_option maxRecDepth 100000 in
theorem containsD_any (ns : List Dy) (v : Value) (w : World) (hv : ElAt w 2 v (dyC ns)) (hs : ns.length ≤ 100000) :
    Calls Try.prog 35 #[v, .func (.func 36) #[] #[]] w (Ret (.bool (!(ns.all (dyB)))) w) := by
  have HI := Lib.hid (indexD_any ns v w hv hs)
  obtain ⟨ao, cap, rfl⟩ := hv.nil
  clear hv
  go_enter Try.func35, Try.ntmps35
  go_wp2_with fail
  refine HI.out.mono ?_
  rintro e w1 ⟨hb, k, rfl, hk⟩
  have HK := Lib.hid hk
  clear hk
  go_wp2_with fail
  go_ret
  exact ⟨ret_bool (by rw [← HK.out]), hb⟩
end Go.Proofs.Ytloengjcniefgaa.Rec
