/- The reference: Txns, Dirties: are two lists alike? The reference: Same: are two records alike? The reference: number, pageNum, slot, Op, Entry, bare, change: what they answer. The reference: bare, change, lists: what they answer. -/
import Derived.Test.YtloengjcniefgaaRecE
import Derived.Test.YtloengjcniefgaaRecNk
import Derived.Test.YtloengjcniefgaaMrgA
namespace Go.Proofs.Ytloengjcniefgaa.Rec
set_option linter.unusedVariables false
set_option linter.unusedSimpArgs false
open Go.RowKit
open Oct (S beN putL U I getI sumN S_size S_data)
set_option maxHeartbeats 4000000 in
set_option maxRecDepth 100000 in
theorem requalT_any (a b : List Tx) (va vb : Value) (w : World) (ha : ElAt w 4 va (txC a)) (hb : ElAt w 4 vb (txC b)) (hs : a.length ≤ 100000) :
    Calls Try.prog 45 #[va, vb] w (Ret (.bool (decide (a = b))) w) := by
  have HA := Lib.hid ha
  have HB := Lib.hid hb
  obtain ⟨ao, cap, rfl⟩ := ha.nil
  obtain ⟨bo, cap2, rfl⟩ := hb.nil
  obtain ⟨R, hR⟩ : ∃ R, decide (a = b) = R := ⟨_, rfl⟩
  have HR := Lib.hid hR
  rw [hR]
  rw [txC_len] at *
  rw [txC_len] at *
  clear ha hb hR
  go_enter Try.func45, Try.ntmps45
  go_wp2_with fail
  go_loopw [5] (fun iv wr => ∃ i : Nat, i ≤ a.length ∧ i ≤ b.length ∧ iv = .int .i64 (i : Int) ∧ Below w.heap.size w wr ∧ Hid (a.take i = b.take i)) (fun iv _ => a.length - (intOf iv).toNat)
  case atStart => exact ⟨0, Nat.zero_le _, Nat.zero_le _, rfl, Below.refl _ _, by show _ = _; simp⟩
  case round =>
    obtain ⟨i, hi, hib, rfl, hbw, HT⟩ := hrel
    by_cases hlt : i < a.length ∧ i < b.length
    · obtain ⟨hlt, hlb⟩ := hlt
      obtain ⟨b1, off, c1, hv1, _, hc⟩ := (HA.out.below hbw).get i (by rw [txC_len]; exact hlt)
      rw [txC_len] at hv1
      injection hv1 with e1 _ e3
      subst e1 e3
      obtain ⟨b2, off2, c2, hv2, _, hc2⟩ := (HB.out.below hbw).get i (by rw [txC_len]; exact hlb)
      rw [txC_len] at hv2
      injection hv2 with e1 _ e3
      subst e1 e3
      rw [txC_get a i hlt] at hc
      rw [txC_get b i hlb] at hc2
      have HST : Hid (a[i]'hlt = b[i]'hlb → a.take (i + 1) = b.take (i + 1)) := fun h => eq_step a b i hlt hlb HT.out h
      have HNO : Hid (a[i]'hlt ≠ b[i]'hlb → R = false) := by
        show _ → _
        intro h
        rw [← HR.out, decide_eq_false_iff_not]
        rintro rfl
        exact h rfl
      obtain ⟨t, ht⟩ : ∃ t, a[i]'hlt = t := ⟨_, rfl⟩
      obtain ⟨u, hu⟩ : ∃ t, b[i]'hlb = t := ⟨_, rfl⟩
      rw [ht] at hc HST HNO
      rw [hu] at hc2 HST HNO
      obtain ⟨k1, k2, k3, k4⟩ := t
      obtain ⟨m1, m2, m3, m4⟩ := u
      simp only [Tx.cells] at hc hc2
      have d0 : wr.cell? ⟨b1, off + i * 4, none⟩ = some (.int .i64 k1) := hc 0 _ rfl
      have d1 : wr.cell? ⟨b1, off + i * 4 + 1, none⟩ = some (.int .i64 k2) := hc 1 _ rfl
      have d2 : wr.cell? ⟨b1, off + i * 4 + 2, none⟩ = some (.int .i64 k3) := hc 2 _ rfl
      have d3 : wr.cell? ⟨b1, off + i * 4 + 3, none⟩ = some (.bool k4) := hc 3 _ rfl
      have e0 : wr.cell? ⟨b2, off2 + i * 4, none⟩ = some (.int .i64 m1) := hc2 0 _ rfl
      have e1 : wr.cell? ⟨b2, off2 + i * 4 + 1, none⟩ = some (.int .i64 m2) := hc2 1 _ rfl
      have e2 : wr.cell? ⟨b2, off2 + i * 4 + 2, none⟩ = some (.int .i64 m3) := hc2 2 _ rfl
      have e3 : wr.cell? ⟨b2, off2 + i * 4 + 3, none⟩ = some (.bool m4) := hc2 3 _ rfl
      have hi0 : (0 : Int) ≤ i := by omega
      have hi1 : (i : Int) < a.length := by omega
      have hi2 : (i : Int) < b.length := by omega
      clear hc hc2 ht hu HA HB HR
      have HQ := fun W => neqT k1 k2 k3 m1 m2 m3 k4 m4 W
      by_cases hq : Tx.mk k1 k2 k3 k4 = Tx.mk m1 m2 m3 m4
      · have HX := Lib.hid (HST.out hq)
        rw [decide_eq_true hq] at HQ
        clear hq HNO HST HT
        go_wp2_with fail
        go_quiet (fail)
        go_wp2_with fail
        go_roundw
        case rel => exact ⟨i + 1, by omega, by omega, by go_num, hbw.drewN _, HX⟩
        case measure => simp [intOf]; omega
      · have HX := Lib.hid (HNO.out hq)
        rw [decide_eq_false hq] at HQ
        clear hq HNO HST HT
        go_wp2_with fail
        go_quiet (fail)
        go_wp2_with fail
        go_ret
        exact ⟨ret_bool HX.out, hbw.drewN _⟩
    · have HX : Hid (R = ((a.length : Int) == (b.length : Int))) := by
        show _ = _
        have h := HT.out
        rw [← HR.out]
        by_cases hab : a = b
        · subst hab; simp
        · rw [decide_eq_false hab]
          symm
          rw [beq_eq_false_iff_ne]
          intro e
          have e2 : a.length = b.length := by omega
          refine hab ?_
          rw [List.take_of_length_le (by omega), List.take_of_length_le (by omega)] at h
          exact h
      clear HA HB HR HT
      by_cases h1 : i < a.length
      · have h2 : ¬ (i : Int) < b.length := by omega
        have h1' : (i : Int) < a.length := by omega
        clear hlt
        go_wp2_with fail
        go_ret
        exact ⟨ret_bool HX.out, hbw⟩
      · have h2 : ¬ (i : Int) < a.length := by omega
        clear hlt h1
        go_wp2_with fail
        go_ret
        exact ⟨ret_bool HX.out, hbw⟩
set_option maxHeartbeats 4000000 in
set_option maxRecDepth 100000 in
theorem requalD_any (a b : List Dy) (va vb : Value) (w : World) (ha : ElAt w 2 va (dyC a)) (hb : ElAt w 2 vb (dyC b)) (hs : a.length ≤ 100000) :
    Calls Try.prog 46 #[va, vb] w (Ret (.bool (decide (a = b))) w) := by
  have HA := Lib.hid ha
  have HB := Lib.hid hb
  obtain ⟨ao, cap, rfl⟩ := ha.nil
  obtain ⟨bo, cap2, rfl⟩ := hb.nil
  obtain ⟨R, hR⟩ : ∃ R, decide (a = b) = R := ⟨_, rfl⟩
  have HR := Lib.hid hR
  rw [hR]
  rw [dyC_len] at *
  rw [dyC_len] at *
  clear ha hb hR
  go_enter Try.func46, Try.ntmps46
  go_wp2_with fail
  go_loopw [5] (fun iv wr => ∃ i : Nat, i ≤ a.length ∧ i ≤ b.length ∧ iv = .int .i64 (i : Int) ∧ Below w.heap.size w wr ∧ Hid (a.take i = b.take i)) (fun iv _ => a.length - (intOf iv).toNat)
  case atStart => exact ⟨0, Nat.zero_le _, Nat.zero_le _, rfl, Below.refl _ _, by show _ = _; simp⟩
  case round =>
    obtain ⟨i, hi, hib, rfl, hbw, HT⟩ := hrel
    by_cases hlt : i < a.length ∧ i < b.length
    · obtain ⟨hlt, hlb⟩ := hlt
      obtain ⟨b1, off, c1, hv1, _, hc⟩ := (HA.out.below hbw).get i (by rw [dyC_len]; exact hlt)
      rw [dyC_len] at hv1
      injection hv1 with e1 _ e3
      subst e1 e3
      obtain ⟨b2, off2, c2, hv2, _, hc2⟩ := (HB.out.below hbw).get i (by rw [dyC_len]; exact hlb)
      rw [dyC_len] at hv2
      injection hv2 with e1 _ e3
      subst e1 e3
      rw [dyC_get a i hlt] at hc
      rw [dyC_get b i hlb] at hc2
      have HST : Hid (a[i]'hlt = b[i]'hlb → a.take (i + 1) = b.take (i + 1)) := fun h => eq_step a b i hlt hlb HT.out h
      have HNO : Hid (a[i]'hlt ≠ b[i]'hlb → R = false) := by
        show _ → _
        intro h
        rw [← HR.out, decide_eq_false_iff_not]
        rintro rfl
        exact h rfl
      obtain ⟨t, ht⟩ : ∃ t, a[i]'hlt = t := ⟨_, rfl⟩
      obtain ⟨u, hu⟩ : ∃ t, b[i]'hlb = t := ⟨_, rfl⟩
      rw [ht] at hc HST HNO
      rw [hu] at hc2 HST HNO
      obtain ⟨k1, k2⟩ := t
      obtain ⟨m1, m2⟩ := u
      simp only [Dy.cells] at hc hc2
      have d0 : wr.cell? ⟨b1, off + i * 2, none⟩ = some (.int .i64 k1) := hc 0 _ rfl
      have d1 : wr.cell? ⟨b1, off + i * 2 + 1, none⟩ = some (.int .i64 k2) := hc 1 _ rfl
      have e0 : wr.cell? ⟨b2, off2 + i * 2, none⟩ = some (.int .i64 m1) := hc2 0 _ rfl
      have e1 : wr.cell? ⟨b2, off2 + i * 2 + 1, none⟩ = some (.int .i64 m2) := hc2 1 _ rfl
      have hi0 : (0 : Int) ≤ i := by omega
      have hi1 : (i : Int) < a.length := by omega
      have hi2 : (i : Int) < b.length := by omega
      clear hc hc2 ht hu HA HB HR
      have HQ := fun W => neqD k1 k2 m1 m2 W
      by_cases hq : Dy.mk k1 k2 = Dy.mk m1 m2
      · have HX := Lib.hid (HST.out hq)
        rw [decide_eq_true hq] at HQ
        clear hq HNO HST HT
        go_wp2_with fail
        go_quiet (fail)
        go_wp2_with fail
        go_roundw
        case rel => exact ⟨i + 1, by omega, by omega, by go_num, hbw.drewN _, HX⟩
        case measure => simp [intOf]; omega
      · have HX := Lib.hid (HNO.out hq)
        rw [decide_eq_false hq] at HQ
        clear hq HNO HST HT
        go_wp2_with fail
        go_quiet (fail)
        go_wp2_with fail
        go_ret
        exact ⟨ret_bool HX.out, hbw.drewN _⟩
    · have HX : Hid (R = ((a.length : Int) == (b.length : Int))) := by
        show _ = _
        have h := HT.out
        rw [← HR.out]
        by_cases hab : a = b
        · subst hab; simp
        · rw [decide_eq_false hab]
          symm
          rw [beq_eq_false_iff_ne]
          intro e
          have e2 : a.length = b.length := by omega
          refine hab ?_
          rw [List.take_of_length_le (by omega), List.take_of_length_le (by omega)] at h
          exact h
      clear HA HB HR HT
      by_cases h1 : i < a.length
      · have h2 : ¬ (i : Int) < b.length := by omega
        have h1' : (i : Int) < a.length := by omega
        clear hlt
        go_wp2_with fail
        go_ret
        exact ⟨ret_bool HX.out, hbw⟩
      · have h2 : ¬ (i : Int) < a.length := by omega
        clear hlt h1
        go_wp2_with fail
        go_ret
        exact ⟨ret_bool HX.out, hbw⟩
end Go.Proofs.Ytloengjcniefgaa.Rec
namespace Go.Proofs.Ytloengjcniefgaa.Rec
set_option linter.unusedVariables false
set_option linter.unusedSimpArgs false
open Go.RowKit
open Oct (S beN putL U I getI sumN S_size S_data)
set_option maxHeartbeats 8000000 in
set_option maxRecDepth 100000 in
theorem rsame_any (a b : Rc) (va vb ua ub : Value) (w : World) (ha : ElAt w 4 va (txC a.txns)) (hb : ElAt w 2 vb (dyC a.dirty)) (hc : ElAt w 4 ua (txC b.txns)) (hd : ElAt w 2 ub (dyC b.dirty)) (hs : a.txns.length ≤ 100000) (hs2 : a.dirty.length ≤ 100000) :
    Calls Try.prog 16 #[.agg (rcC a va vb), .agg (rcC b ua ub)] w (Ret (.bool (decide (a = b))) w) := by
  obtain ⟨lsn, prev, txn, kind, page, next, num, ok, os, old, new, how, root, key, rp, rs, txns, dirty⟩ := a
  obtain ⟨lsn', prev', txn', kind', page', next', num', ok', os', old', new', how', root', key', rp', rs', txns', dirty'⟩ := b
  obtain ⟨R, hR⟩ : ∃ R, decide (Rc.mk lsn prev txn kind page next num ok os old new how root key rp rs txns dirty = Rc.mk lsn' prev' txn' kind' page' next' num' ok' os' old' new' how' root' key' rp' rs' txns' dirty') = R := ⟨_, rfl⟩
  rw [hR]
  have HE1 := fun W => eqlOp ok os ok' os' old new old' new' W
  have HE2 := fun W => eqlEn rp rs rp' rs' key key' W
  obtain ⟨q1, hq1⟩ : ∃ q, decide (ok = ok' ∧ os = os' ∧ old = old' ∧ new = new') = q := ⟨_, rfl⟩
  obtain ⟨q2, hq2⟩ : ∃ q, decide (key = key' ∧ rp = rp' ∧ rs = rs') = q := ⟨_, rfl⟩
  obtain ⟨q3, hq3⟩ : ∃ q, decide (txns = txns') = q := ⟨_, rfl⟩
  obtain ⟨q4, hq4⟩ : ∃ q, decide (dirty = dirty') = q := ⟨_, rfl⟩
  have HB : Hid (R = (lsn == lsn' && prev == prev' && txn == txn' && kind == kind' && page == page' && next == next' && num == num' && q1 && how == how' && root == root' && q2 && q3 && q4)) := by
    show _ = _
    rw [← hR, ← hq1, ← hq2, ← hq3, ← hq4, Bool.eq_iff_iff]
    simp
    constructor
    · rintro ⟨rfl, rfl, rfl, rfl, rfl, rfl, rfl, rfl, rfl, rfl, rfl, rfl, rfl, rfl, rfl, rfl, rfl, rfl⟩
      simp
    · simp only [and_imp]
      rintro rfl rfl rfl rfl rfl rfl rfl rfl rfl rfl rfl rfl rfl rfl rfl rfl rfl rfl
      simp
  have HT := Lib.hid (fun W h1 h2 => requalT_any txns txns' va ua W h1 h2 hs)
  have HD := Lib.hid (fun W h1 h2 => requalD_any dirty dirty' vb ub W h1 h2 hs2)
  rw [hq1] at HE1
  rw [hq2] at HE2
  rw [hq3] at HT
  rw [hq4] at HD
  have HA := Lib.hid ha
  have HB2 := Lib.hid hb
  have HC := Lib.hid hc
  have HD2 := Lib.hid hd
  simp only [rcC]
  obtain ⟨s1, e1⟩ : ∃ x, S old = x := ⟨_, rfl⟩
  obtain ⟨s2, e2⟩ : ∃ x, S new = x := ⟨_, rfl⟩
  obtain ⟨s3, e3⟩ : ∃ x, S key = x := ⟨_, rfl⟩
  obtain ⟨s1', e1'⟩ : ∃ x, S old' = x := ⟨_, rfl⟩
  obtain ⟨s2', e2'⟩ : ∃ x, S new' = x := ⟨_, rfl⟩
  obtain ⟨s3', e3'⟩ : ∃ x, S key' = x := ⟨_, rfl⟩
  rw [e1, e2, e1', e2'] at HE1
  rw [e3, e3'] at HE2
  rw [e1, e2, e3, e1', e2', e3']
  clear e1 e2 e3 e1' e2' e3' hq1 hq2 hq3 hq4 hR
  obtain ⟨ao, cap, hva⟩ := ha.nil
  obtain ⟨bo, cap2, hvb⟩ := hb.nil
  obtain ⟨co, cap3, hua⟩ := hc.nil
  obtain ⟨dO, cap4, hub⟩ := hd.nil
  obtain ⟨n1, hn1⟩ : ∃ n, (txC txns).length = n := ⟨_, rfl⟩
  obtain ⟨n2, hn2⟩ : ∃ n, (dyC dirty).length = n := ⟨_, rfl⟩
  obtain ⟨n3, hn3⟩ : ∃ n, (txC txns').length = n := ⟨_, rfl⟩
  obtain ⟨n4, hn4⟩ : ∃ n, (dyC dirty').length = n := ⟨_, rfl⟩
  simp only at hva hvb hua hub
  rw [hn1] at hva
  rw [hn2] at hvb
  rw [hn3] at hua
  rw [hn4] at hub
  subst hva hvb hua hub
  clear ha hb hc hd hn1 hn2 hn3 hn4 hs hs2
  have hbb := ((Below.refl w.heap.size w).alloc (Nat.le_refl _) (.cells #[.int .i64 lsn, .int .i64 prev, .int .i64 txn, .int .i64 kind, .int .i64 page, .int .i64 next, .int .i64 num, .int .i64 ok, .int .i64 os, .string s1, .string s2, .int .i64 how, .int .i64 root, .string s3, .int .i64 rp, .int .i64 rs, .slice ao n1 cap, .slice bo n2 cap2] 31)).alloc (by simp) (.cells #[.int .i64 lsn', .int .i64 prev', .int .i64 txn', .int .i64 kind', .int .i64 page', .int .i64 next', .int .i64 num', .int .i64 ok', .int .i64 os', .string s1', .string s2', .int .i64 how', .int .i64 root', .string s3', .int .i64 rp', .int .i64 rs', .slice co n3 cap3, .slice dO n4 cap4] 31)
  have hN1 := (Blk.new w #[.int .i64 lsn, .int .i64 prev, .int .i64 txn, .int .i64 kind, .int .i64 page, .int .i64 next, .int .i64 num, .int .i64 ok, .int .i64 os, .string s1, .string s2, .int .i64 how, .int .i64 root, .string s3, .int .i64 rp, .int .i64 rs, .slice ao n1 cap, .slice bo n2 cap2] 31).alloc (.cells #[.int .i64 lsn', .int .i64 prev', .int .i64 txn', .int .i64 kind', .int .i64 page', .int .i64 next', .int .i64 num', .int .i64 ok', .int .i64 os', .string s1', .string s2', .int .i64 how', .int .i64 root', .string s3', .int .i64 rp', .int .i64 rs', .slice co n3 cap3, .slice dO n4 cap4] 31)
  have hN2 : Blk ((w.alloc (.cells #[.int .i64 lsn, .int .i64 prev, .int .i64 txn, .int .i64 kind, .int .i64 page, .int .i64 next, .int .i64 num, .int .i64 ok, .int .i64 os, .string s1, .string s2, .int .i64 how, .int .i64 root, .string s3, .int .i64 rp, .int .i64 rs, .slice ao n1 cap, .slice bo n2 cap2] 31)).alloc (.cells #[.int .i64 lsn', .int .i64 prev', .int .i64 txn', .int .i64 kind', .int .i64 page', .int .i64 next', .int .i64 num', .int .i64 ok', .int .i64 os', .string s1', .string s2', .int .i64 how', .int .i64 root', .string s3', .int .i64 rp', .int .i64 rs', .slice co n3 cap3, .slice dO n4 cap4] 31)) (w.heap.size + 1) #[.int .i64 lsn', .int .i64 prev', .int .i64 txn', .int .i64 kind', .int .i64 page', .int .i64 next', .int .i64 num', .int .i64 ok', .int .i64 os', .string s1', .string s2', .int .i64 how', .int .i64 root', .string s3', .int .i64 rp', .int .i64 rs', .slice co n3 cap3, .slice dO n4 cap4] 31 := by have := Blk.new (w.alloc (.cells #[.int .i64 lsn, .int .i64 prev, .int .i64 txn, .int .i64 kind, .int .i64 page, .int .i64 next, .int .i64 num, .int .i64 ok, .int .i64 os, .string s1, .string s2, .int .i64 how, .int .i64 root, .string s3, .int .i64 rp, .int .i64 rs, .slice ao n1 cap, .slice bo n2 cap2] 31)) #[.int .i64 lsn', .int .i64 prev', .int .i64 txn', .int .i64 kind', .int .i64 page', .int .i64 next', .int .i64 num', .int .i64 ok', .int .i64 os', .string s1', .string s2', .int .i64 how', .int .i64 root', .string s3', .int .i64 rp', .int .i64 rs', .slice co n3 cap3, .slice dO n4 cap4] 31; simpa using this
  by_cases h : lsn ≠ lsn'
  · have d1 : (lsn != lsn') = true := by simpa using h
    have d2 : (lsn == lsn') = false := by simpa using h
    clear HE1 HE2 HT HD HA HC HB2 HD2 hN1 hN2
    go_enter Try.func16, Try.ntmps16
    go_wp2_with fail
    go_ret
    exact ⟨ret_bool (by rw [HB.out, d2]; simp), hbb⟩
  obtain rfl := Decidable.not_not.1 h
  clear h
  by_cases h : prev ≠ prev'
  · have d1 : (prev != prev') = true := by simpa using h
    have d2 : (prev == prev') = false := by simpa using h
    clear HE1 HE2 HT HD HA HC HB2 HD2 hN1 hN2
    go_enter Try.func16, Try.ntmps16
    go_wp2_with fail
    go_ret
    exact ⟨ret_bool (by rw [HB.out, d2]; simp), hbb⟩
  obtain rfl := Decidable.not_not.1 h
  clear h
  by_cases h : txn ≠ txn'
  · have d1 : (txn != txn') = true := by simpa using h
    have d2 : (txn == txn') = false := by simpa using h
    clear HE1 HE2 HT HD HA HC HB2 HD2 hN1 hN2
    go_enter Try.func16, Try.ntmps16
    go_wp2_with fail
    go_ret
    exact ⟨ret_bool (by rw [HB.out, d2]; simp), hbb⟩
  obtain rfl := Decidable.not_not.1 h
  clear h
  by_cases h : kind ≠ kind'
  · have d1 : (kind != kind') = true := by simpa using h
    have d2 : (kind == kind') = false := by simpa using h
    clear HE1 HE2 HT HD HA HC HB2 HD2 hN1 hN2
    go_enter Try.func16, Try.ntmps16
    go_wp2_with fail
    go_ret
    exact ⟨ret_bool (by rw [HB.out, d2]; simp), hbb⟩
  obtain rfl := Decidable.not_not.1 h
  clear h
  by_cases h : page ≠ page'
  · have d1 : (page != page') = true := by simpa using h
    have d2 : (page == page') = false := by simpa using h
    clear HE1 HE2 HT HD HA HC HB2 HD2 hN1 hN2
    go_enter Try.func16, Try.ntmps16
    go_wp2_with fail
    go_ret
    exact ⟨ret_bool (by rw [HB.out, d2]; simp), hbb⟩
  obtain rfl := Decidable.not_not.1 h
  clear h
  by_cases h : next ≠ next'
  · have d1 : (next != next') = true := by simpa using h
    have d2 : (next == next') = false := by simpa using h
    clear HE1 HE2 HT HD HA HC HB2 HD2 hN1 hN2
    go_enter Try.func16, Try.ntmps16
    go_wp2_with fail
    go_ret
    exact ⟨ret_bool (by rw [HB.out, d2]; simp), hbb⟩
  obtain rfl := Decidable.not_not.1 h
  clear h
  by_cases h : num ≠ num'
  · have d1 : (num != num') = true := by simpa using h
    have d2 : (num == num') = false := by simpa using h
    clear HE1 HE2 HT HD HA HC HB2 HD2 hN1 hN2
    go_enter Try.func16, Try.ntmps16
    go_wp2_with fail
    go_ret
    exact ⟨ret_bool (by rw [HB.out, d2]; simp), hbb⟩
  obtain rfl := Decidable.not_not.1 h
  clear h
  go_enter Try.func16, Try.ntmps16
  go_upto_region 3 with fail
  have HB1 : Hid (R = (q1 && how == how' && root == root' && q2 && q3 && q4)) := by show _ = _; rw [HB.out]; simp only [beq_self_eq_true, Bool.true_and]
  clear HB
  generalize (World.alloc (World.alloc w _) _) = W at hbb hN1 hN2 ⊢
  obtain ⟨c0, c1, c2, c3, c4, c5, c6, c7, c8, c9, c10, c11, c12, c13, c14, c15, c16, c17⟩ := Blk18 hN1
  obtain ⟨e0, e1, e2, e3, e4, e5, e6, e7, e8, e9, e10, e11, e12, e13, e14, e15, e16, e17⟩ := Blk18 hN2
  clear c0 c1 c2 c3 c4 c5 c6 e0 e1 e2 e3 e4 e5 e6
  have HT3 := Lib.hid (HT.out W (HA.out.below hbb) (HC.out.below hbb))
  clear HT
  cases q1 with
  | false =>
    clear HT3 HD HA HC HB2 HD2 hN1 hN2
    go_wp2_with fail
    go_ret
    exact ⟨ret_bool (by rw [HB1.out]; simp [*]), hbb⟩
  | true =>
    by_cases hhow : how ≠ how'
    · have d1 : (how != how') = true := by simpa using hhow
      have d2 : (how == how') = false := by simpa using hhow
      clear HT3 HD HA HC HB2 HD2 hN1 hN2
      go_wp2_with fail
      go_ret
      exact ⟨ret_bool (by rw [HB1.out]; simp [*]), hbb⟩
    obtain rfl := Decidable.not_not.1 hhow
    clear hhow
    by_cases hroot : root ≠ root'
    · have d1 : (root != root') = true := by simpa using hroot
      have d2 : (root == root') = false := by simpa using hroot
      clear HT3 HD HA HC HB2 HD2 hN1 hN2
      go_wp2_with fail
      go_ret
      exact ⟨ret_bool (by rw [HB1.out]; simp [*]), hbb⟩
    obtain rfl := Decidable.not_not.1 hroot
    clear hroot
    cases q2 with
    | false =>
      clear HT3 HD HA HC HB2 HD2 hN1 hN2
      go_wp2_with fail
      go_ret
      exact ⟨ret_bool (by rw [HB1.out]; simp [*]), hbb⟩
    | true =>
      have HB3 : Hid (R = (q3 && q4)) := by show _ = _; rw [HB1.out]; simp
      clear HB1
      go_wp2_with fail
      refine HT3.out.mono ?_
      rintro e w1 ⟨rfl, hb4⟩
      have k17 := (hN1.below hb4).cell 17 (v := .slice bo n2 cap2) rfl
      have k17' := (hN2.below hb4).cell 17 (v := .slice dO n4 cap4) rfl
      have hb5 := hbb.next hb4
      have HD3 := Lib.hid (HD.out _ (HB2.out.below hb5) (HD2.out.below hb5))
      clear hN1 hN2 hb4 HT3 HA HC HD HB2 HD2
      cases q3 with
      | false =>
        go_wp2_with fail
        go_ret
        exact ⟨ret_bool (by rw [HB3.out]; rfl), hb5⟩
      | true =>
        go_wp2_with fail
        refine HD3.out.mono ?_
        rintro e w2 ⟨rfl, hb6⟩
        go_wp2_with fail
        go_ret
        exact ⟨ret_bool (by rw [HB3.out]; simp), hb5.next hb6⟩
end Go.Proofs.Ytloengjcniefgaa.Rec
namespace Go.Proofs.Ytloengjcniefgaa.Rec
set_option linter.unusedVariables false
set_option linter.unusedSimpArgs false
open Go.RowKit
open Oct (S beN putL U I getI sumN S_size S_data)
theorem rsmall_any (n b : Int) (w : World) : Calls Try.prog 68 #[.int .i64 n, .int .i64 b] w (Ret (.bool (decide (0 ≤ n) && decide (n < b))) w) := by
  by_cases h : 0 ≤ n
  · go_enter Try.func68, Try.ntmps68
    go_wp2_with fail
    go_ret
    exact ⟨ret_bool (by simp [h]), Below.refl _ _⟩
  · go_enter Try.func68, Try.ntmps68
    go_wp2_with fail
    go_ret
    exact ⟨ret_bool (by simp; intros; omega), Below.refl _ _⟩
theorem rnumber_any (n : Int) (w : World) : Calls Try.prog 37 #[.int .i64 n] w (Ret (.bool (numB n)) w) := by
  have HS := Lib.hid (fun W => rsmall_any n 1099511627776 W)
  have e : (decide (0 ≤ n) && decide (n < 1099511627776)) = numB n := by
    unfold numB inB
    congr 1
    rw [decide_eq_decide]
    omega
  rw [e] at HS
  go_enter Try.func37, Try.ntmps37
  go_wp2_with fail
  refine (HS.out _).mono ?_
  rintro e w1 ⟨rfl, hb⟩
  go_wp2_with fail
  go_ret
  exact ⟨rfl, hb⟩
theorem rpage_any (n : Int) (w : World) : Calls Try.prog 40 #[.int .i64 n] w (Ret (.bool (pageB n)) w) := by
  have HS := Lib.hid (fun W => rsmall_any n 8388608 W)
  have e : (decide (0 ≤ n) && decide (n < 8388608)) = pageB n := by
    unfold pageB inB
    congr 1
    rw [decide_eq_decide]
    omega
  rw [e] at HS
  go_enter Try.func40, Try.ntmps40
  go_wp2_with fail
  refine (HS.out _).mono ?_
  rintro e w1 ⟨rfl, hb⟩
  go_wp2_with fail
  go_ret
  exact ⟨rfl, hb⟩
theorem rslot_any (n : Int) (w : World) : Calls Try.prog 70 #[.int .i64 n] w (Ret (.bool (slotB n)) w) := by
  have HS := Lib.hid (fun W => rsmall_any n 32768 W)
  have e : (decide (0 ≤ n) && decide (n < 32768)) = slotB n := by
    unfold slotB inB
    congr 1
    rw [decide_eq_decide]
    omega
  rw [e] at HS
  go_enter Try.func70, Try.ntmps70
  go_wp2_with fail
  refine (HS.out _).mono ?_
  rintro e w1 ⟨rfl, hb⟩
  go_wp2_with fail
  go_ret
  exact ⟨rfl, hb⟩
set_option maxHeartbeats 2000000 in
set_option maxRecDepth 100000 in
theorem rOp_any (k s : Int) (o n : List UInt8) (so sn : ByteArray) (ho : S o = so) (hn : S n = sn) (w : World) :
    Calls Try.prog 41 #[.agg #[.int .i64 k, .int .i64 s, .string so, .string sn]] w (Ret (.bool (opB k s o n)) w) := by
  have HB : Hid (opB k s o n = (decide (1 ≤ k) && decide (k ≤ 7) && slotB s && decide ((so.size : Int) ≤ 512) && decide ((sn.size : Int) ≤ 512))) := by
    show _ = _
    have z1 : so.size = o.length := by rw [← ho, S_size]
    have z2 : sn.size = n.length := by rw [← hn, S_size]
    rw [z1, z2]
    unfold opB
    congr 1
    · congr 1
      rw [decide_eq_decide]; omega
    · rw [decide_eq_decide]; omega
  obtain ⟨R, hR⟩ : ∃ R, opB k s o n = R := ⟨_, rfl⟩
  rw [hR] at HB ⊢
  have HS := Lib.hid (fun W => rslot_any s W)
  obtain ⟨q, hq⟩ : ∃ q, slotB s = q := ⟨_, rfl⟩
  rw [hq] at HB HS
  clear hR hq ho hn
  have hN := Blk.new w #[.int .i64 k, .int .i64 s, .string so, .string sn] 23
  have hbb := (Below.refl w.heap.size w).alloc (Nat.le_refl _) (.cells #[.int .i64 k, .int .i64 s, .string so, .string sn] 23)
  go_enter Try.func41, Try.ntmps41
  go_upto_region 1 with fail
  generalize (w.alloc (.cells #[.int .i64 k, .int .i64 s, .string so, .string sn] 23)) = W at hN hbb ⊢
  obtain ⟨⟨c0, c1, c2, c3⟩, _⟩ := Blk4 hN
  by_cases h1 : 1 ≤ k
  · by_cases h2 : k ≤ 7
    · go_wp2_with fail
      refine (HS.out _).mono ?_
      rintro e w1 ⟨rfl, hb1⟩
      have hN1 := hN.below hb1
      replace hbb := hbb.next hb1
      clear c0 c1 c2 c3 hN hb1 HS
      obtain ⟨⟨c0, c1, c2, c3⟩, _⟩ := Blk4 hN1
      cases q with
      | false =>
        go_wp2_with fail
        go_ret
        exact ⟨ret_bool (by rw [HB.out]; simp), hbb⟩
      | true =>
        by_cases h3 : (so.size : Int) ≤ 512
        · go_wp2_with fail
          go_ret
          exact ⟨ret_bool (by rw [HB.out]; simp [h1, h2, h3]), hbb⟩
        · go_wp2_with fail
          go_ret
          exact ⟨ret_bool (by rw [HB.out]; simp; intros; omega), hbb⟩
    · go_wp2_with fail
      go_ret
      exact ⟨ret_bool (by rw [HB.out]; simp; intros; omega), hbb⟩
  · go_wp2_with fail
    go_ret
    exact ⟨ret_bool (by rw [HB.out]; simp; intros; omega), hbb⟩
def entB (key : List UInt8) (rp rs : Int) : Bool := decide (key.length ≤ 100) && pageB rp && slotB rs
theorem Blk3c {W : World} {g : Nat} {T : TypeId} {x0 x1 x2 : Value} (h : Blk W g #[x0, x1, x2] T) : W.cell? ⟨g, 0, none⟩ = some x0 ∧ W.cell? ⟨g, 1, none⟩ = some x1 ∧ W.cell? ⟨g, 2, none⟩ = some x2 := ⟨h.cell 0 rfl, h.cell 1 rfl, h.cell 2 rfl⟩
set_option maxHeartbeats 2000000 in
set_option maxRecDepth 100000 in
theorem rEntry_any (key : List UInt8) (rp rs : Int) (sk : ByteArray) (hk : S key = sk) (w : World) :
    Calls Try.prog 69 #[.agg #[.string sk, .int .i64 rp, .int .i64 rs]] w (Ret (.bool (entB key rp rs)) w) := by
  have HB : Hid (entB key rp rs = (decide ((sk.size : Int) ≤ 100) && pageB rp && slotB rs)) := by
    show _ = _
    have z1 : sk.size = key.length := by rw [← hk, S_size]
    rw [z1]
    unfold entB
    congr 2
    rw [decide_eq_decide]; omega
  obtain ⟨R, hR⟩ : ∃ R, entB key rp rs = R := ⟨_, rfl⟩
  rw [hR] at HB ⊢
  have HP := Lib.hid (fun W => rpage_any rp W)
  have HS := Lib.hid (fun W => rslot_any rs W)
  obtain ⟨q, hq⟩ : ∃ q, slotB rs = q := ⟨_, rfl⟩
  obtain ⟨q2, hq2⟩ : ∃ q, pageB rp = q := ⟨_, rfl⟩
  rw [hq] at HB HS
  rw [hq2] at HB HP
  clear hR hq hk hq2
  have hN := Blk.new w #[.string sk, .int .i64 rp, .int .i64 rs] 27
  have hbb := (Below.refl w.heap.size w).alloc (Nat.le_refl _) (.cells #[.string sk, .int .i64 rp, .int .i64 rs] 27)
  go_enter Try.func69, Try.ntmps69
  go_upto_region 1 with fail
  generalize (w.alloc (.cells #[.string sk, .int .i64 rp, .int .i64 rs] 27)) = W at hN hbb ⊢
  obtain ⟨c0, c1, c2⟩ := Blk3c hN
  by_cases h1 : (sk.size : Int) ≤ 100
  · go_wp2_with fail
    refine (HP.out _).mono ?_
    rintro e w1 ⟨rfl, hb1⟩
    have hN1 := hN.below hb1
    replace hbb := hbb.next hb1
    clear c0 c1 c2 hN hb1 HP
    obtain ⟨c0, c1, c2⟩ := Blk3c hN1
    cases q2 with
    | false =>
      go_wp2_with fail
      go_ret
      exact ⟨ret_bool (by rw [HB.out]; simp), hbb⟩
    | true =>
      go_wp2_with fail
      refine (HS.out _).mono ?_
      rintro e w2 ⟨rfl, hb2⟩
      go_wp2_with fail
      go_ret
      exact ⟨ret_bool (by rw [HB.out]; simp [h1]), hbb.next hb2⟩
  · go_wp2_with fail
    go_ret
    exact ⟨ret_bool (by rw [HB.out]; simp; intros; omega), hbb⟩
end Go.Proofs.Ytloengjcniefgaa.Rec
namespace Go.Proofs.Ytloengjcniefgaa.Rec
set_option linter.unusedVariables false
set_option linter.unusedSimpArgs false
open Go.RowKit
open Oct (S beN putL U I getI sumN S_size S_data)
set_option maxHeartbeats 2000000 in
set_option maxRecDepth 100000 in
theorem rbare_any (lsn prev txn kind : Int) (x4 x5 x6 x7 x8 x9 x10 x11 x12 x13 x14 x15 x16 x17 : Value) (w : World) :
    Calls Try.prog 38 #[.agg #[.int .i64 lsn, .int .i64 prev, .int .i64 txn, .int .i64 kind, x4, x5, x6, x7, x8, x9, x10, x11, x12, x13, x14, x15, x16, x17]] w (Ret (.agg #[.int .i64 lsn, .int .i64 prev, .int .i64 txn, .int .i64 kind, .int .i64 0, .int .i64 0, .int .i64 0, .int .i64 0, .int .i64 0, .string ⟨#[]⟩, .string ⟨#[]⟩, .int .i64 0, .int .i64 0, .string ⟨#[]⟩, .int .i64 0, .int .i64 0, .slice none 0 0, .slice none 0 0]) w) := by
  have hX := (Blk.new w #[.int .i64 lsn, .int .i64 prev, .int .i64 txn, .int .i64 kind, x4, x5, x6, x7, x8, x9, x10, x11, x12, x13, x14, x15, x16, x17] 31).alloc (.cells #[.int .i64 0, .int .i64 0, .int .i64 0, .int .i64 0, .int .i64 0, .int .i64 0, .int .i64 0, .int .i64 0, .int .i64 0, .string ⟨#[]⟩, .string ⟨#[]⟩, .int .i64 0, .int .i64 0, .string ⟨#[]⟩, .int .i64 0, .int .i64 0, .slice none 0 0, .slice none 0 0] 31)
  have hRes := Blk.new (w.alloc (.cells #[.int .i64 lsn, .int .i64 prev, .int .i64 txn, .int .i64 kind, x4, x5, x6, x7, x8, x9, x10, x11, x12, x13, x14, x15, x16, x17] 31)) #[.int .i64 0, .int .i64 0, .int .i64 0, .int .i64 0, .int .i64 0, .int .i64 0, .int .i64 0, .int .i64 0, .int .i64 0, .string ⟨#[]⟩, .string ⟨#[]⟩, .int .i64 0, .int .i64 0, .string ⟨#[]⟩, .int .i64 0, .int .i64 0, .slice none 0 0, .slice none 0 0] 31
  have hbb := ((Below.refl w.heap.size w).alloc (Nat.le_refl _) (.cells #[.int .i64 lsn, .int .i64 prev, .int .i64 txn, .int .i64 kind, x4, x5, x6, x7, x8, x9, x10, x11, x12, x13, x14, x15, x16, x17] 31)).alloc (by simp) (.cells #[.int .i64 0, .int .i64 0, .int .i64 0, .int .i64 0, .int .i64 0, .int .i64 0, .int .i64 0, .int .i64 0, .int .i64 0, .string ⟨#[]⟩, .string ⟨#[]⟩, .int .i64 0, .int .i64 0, .string ⟨#[]⟩, .int .i64 0, .int .i64 0, .slice none 0 0, .slice none 0 0] 31)
  simp only [World.size_alloc] at hRes
  go_enter Try.func38, Try.ntmps38
  go_upto_region 1 with fail
  generalize ((w.alloc (.cells #[.int .i64 lsn, .int .i64 prev, .int .i64 txn, .int .i64 kind, x4, x5, x6, x7, x8, x9, x10, x11, x12, x13, x14, x15, x16, x17] 31)).alloc (.cells #[.int .i64 0, .int .i64 0, .int .i64 0, .int .i64 0, .int .i64 0, .int .i64 0, .int .i64 0, .int .i64 0, .int .i64 0, .string ⟨#[]⟩, .string ⟨#[]⟩, .int .i64 0, .int .i64 0, .string ⟨#[]⟩, .int .i64 0, .int .i64 0, .slice none 0 0, .slice none 0 0] 31)) = W at hX hRes hbb ⊢
  have c0 := hX.cell 0 (v := .int .i64 lsn) rfl
  have c1 := hX.cell 1 (v := .int .i64 prev) rfl
  have c2 := hX.cell 2 (v := .int .i64 txn) rfl
  have c3 := hX.cell 3 (v := .int .i64 kind) rfl
  go_wp2_with (first | (with_reducible refine wpList_buildC rfl 31 _ rfl #[.int .i64 lsn, .int .i64 prev, .int .i64 txn, .int .i64 kind, .int .i64 0, .int .i64 0, .int .i64 0, .int .i64 0, .int .i64 0, .string ⟨#[]⟩, .string ⟨#[]⟩, .int .i64 0, .int .i64 0, .string ⟨#[]⟩, .int .i64 0, .int .i64 0, .slice none 0 0, .slice none 0 0] (by kernel_rfl) ?_) | ((with_reducible refine wpList_store18 hRes (by kernel_rfl) (by kernel_rfl) (by kernel_rfl) rfl _ _ rfl rfl rfl ?_); intro W9 hW9 hgr9))
  have HV := rec_val hW9 rfl
  refine bodyPost_ret (v := .agg #[.int .i64 lsn, .int .i64 prev, .int .i64 txn, .int .i64 kind, .int .i64 0, .int .i64 0, .int .i64 0, .int .i64 0, .int .i64 0, .string ⟨#[]⟩, .string ⟨#[]⟩, .int .i64 0, .int .i64 0, .string ⟨#[]⟩, .int .i64 0, .int .i64 0, .slice none 0 0, .slice none 0 0]) ?_ rfl ⟨rfl, Below.ofGrown hbb hgr9 (by omega) hbb.size⟩
  simp [results, Try.results38, asAddr, Act.put, HV]
theorem eqlEz (rp rs : Int) (key : List UInt8) (W : World) : (binOp .eql 27 (.agg #[.string (S key), .int .i64 rp, .int .i64 rs]) (.agg #[.string ⟨#[]⟩, .int .i64 0, .int .i64 0])).run Try.prog W = .ok (.bool (decide (key = [] ∧ rp = 0 ∧ rs = 0))) W :=
  eqlEn rp rs 0 0 key [] W
def chgB (r : Rc) : Bool := pageB r.page && opB r.ok r.os r.old r.new && treeB r.how r.root r.key r.rp r.rs
set_option maxHeartbeats 4000000 in
set_option maxRecDepth 100000 in
theorem rchg_any (r : Rc) (vt vd : Value) (w : World) (hv : ElAt w 4 vt (txC r.txns)) (hd : ElAt w 2 vd (dyC r.dirty)) :
    Calls Try.prog 39 #[.agg (rcC r vt vd)] w (Ret (.bool (chgB r)) w) := by
  obtain ⟨ao, cap, rfl⟩ := hv.nil
  obtain ⟨bo, cap2, rfl⟩ := hd.nil
  clear hv hd
  obtain ⟨lsn, prev, txn, kind, page, next, num, ok, os, old, new, how, root, key, rp, rs, txns, dirty⟩ := r
  have HB : Hid (chgB (Rc.mk lsn prev txn kind page next num ok os old new how root key rp rs txns dirty) = (pageB page && opB ok os old new && (if how = 1 then (decide (root = 0) && decide (key = [] ∧ rp = 0 ∧ rs = 0)) else (decide (how = 2) || decide (how = 3)) && (pageB root && entB key rp rs)))) := by
    show _ = _
    unfold chgB treeB entB
    simp only
    congr 1
    by_cases hh : how = 1
    · rw [if_pos hh, if_pos hh]
      congr 1
      rw [Bool.eq_iff_iff]
      simp [and_assoc]
    · rw [if_neg hh, if_neg hh]
      rw [Bool.eq_iff_iff]
      simp only [Bool.and_eq_true]
      constructor
      · rintro ⟨⟨⟨h1, h2, h3⟩, h4⟩, h5⟩; exact ⟨h1, h2, ⟨h5, h3⟩, h4⟩
      · rintro ⟨h1, h2, ⟨h5, h3⟩, h4⟩; exact ⟨⟨⟨h1, h2, h3⟩, h4⟩, h5⟩
  obtain ⟨R, hR⟩ : ∃ R, chgB (Rc.mk lsn prev txn kind page next num ok os old new how root key rp rs txns dirty) = R := ⟨_, rfl⟩
  rw [hR] at HB ⊢
  clear hR
  simp only [rcC]
  have HEZ := fun W => eqlEz rp rs key W
  obtain ⟨s1, e1⟩ : ∃ x, S old = x := ⟨_, rfl⟩
  obtain ⟨s2, e2⟩ : ∃ x, S new = x := ⟨_, rfl⟩
  obtain ⟨s3, e3⟩ : ∃ x, S key = x := ⟨_, rfl⟩
  have HO := Lib.hid (fun W => rOp_any ok os old new s1 s2 e1 e2 W)
  have HEn := Lib.hid (fun W => rEntry_any key rp rs s3 e3 W)
  have HP := Lib.hid (fun W => rpage_any page W)
  have HRt := Lib.hid (fun W => rpage_any root W)
  rw [e3] at HEZ
  rw [e1, e2, e3]
  obtain ⟨q1, hq1⟩ : ∃ q, pageB page = q := ⟨_, rfl⟩
  obtain ⟨q2, hq2⟩ : ∃ q, opB ok os old new = q := ⟨_, rfl⟩
  obtain ⟨q3, hq3⟩ : ∃ q, decide (key = [] ∧ rp = 0 ∧ rs = 0) = q := ⟨_, rfl⟩
  obtain ⟨q4, hq4⟩ : ∃ q, pageB root = q := ⟨_, rfl⟩
  obtain ⟨q5, hq5⟩ : ∃ q, entB key rp rs = q := ⟨_, rfl⟩
  rw [hq1, hq2, hq3, hq4, hq5] at HB
  rw [hq1] at HP
  rw [hq2] at HO
  rw [hq3] at HEZ
  rw [hq4] at HRt
  rw [hq5] at HEn
  obtain ⟨n1, hn1⟩ : ∃ n, (txC txns).length = n := ⟨_, rfl⟩
  obtain ⟨n2, hn2⟩ : ∃ n, (dyC dirty).length = n := ⟨_, rfl⟩
  rw [hn1, hn2]
  clear e1 e2 e3 hq1 hq2 hq3 hq4 hq5 hn1 hn2
  have hN := Blk.new w #[.int .i64 lsn, .int .i64 prev, .int .i64 txn, .int .i64 kind, .int .i64 page, .int .i64 next, .int .i64 num, .int .i64 ok, .int .i64 os, .string s1, .string s2, .int .i64 how, .int .i64 root, .string s3, .int .i64 rp, .int .i64 rs, .slice ao n1 cap, .slice bo n2 cap2] 31
  have hbb := (Below.refl w.heap.size w).alloc (Nat.le_refl _) (.cells #[.int .i64 lsn, .int .i64 prev, .int .i64 txn, .int .i64 kind, .int .i64 page, .int .i64 next, .int .i64 num, .int .i64 ok, .int .i64 os, .string s1, .string s2, .int .i64 how, .int .i64 root, .string s3, .int .i64 rp, .int .i64 rs, .slice ao n1 cap, .slice bo n2 cap2] 31)
  go_enter Try.func39, Try.ntmps39
  go_upto_region 1 with fail
  generalize (w.alloc (.cells #[.int .i64 lsn, .int .i64 prev, .int .i64 txn, .int .i64 kind, .int .i64 page, .int .i64 next, .int .i64 num, .int .i64 ok, .int .i64 os, .string s1, .string s2, .int .i64 how, .int .i64 root, .string s3, .int .i64 rp, .int .i64 rs, .slice ao n1 cap, .slice bo n2 cap2] 31)) = W at hN hbb ⊢
  obtain ⟨c0, c1, c2, c3, c4, c5, c6, c7, c8, c9, c10, c11, c12, c13, c14, c15, c16, c17⟩ := Blk18 hN
  go_wp2_with fail
  refine (HP.out _).mono ?_
  rintro e w1 ⟨rfl, hb1⟩
  replace hN := hN.below hb1
  replace hbb := hbb.next hb1
  clear hb1
  clear c0 c1 c2 c3 c4 c5 c6 c7 c8 c9 c10 c11 c12 c13 c14 c15 c16 c17
  obtain ⟨c0, c1, c2, c3, c4, c5, c6, c7, c8, c9, c10, c11, c12, c13, c14, c15, c16, c17⟩ := Blk18 hN
  clear HP
  cases q1 with
  | false =>
    go_wp2_with fail
    go_ret
    exact ⟨ret_bool (by rw [HB.out]; simp), hbb⟩
  | true =>
    go_wp2_with fail
    refine (HO.out _).mono ?_
    rintro e w2 ⟨rfl, hb1⟩
    replace hN := hN.below hb1
    replace hbb := hbb.next hb1
    clear hb1
    clear c0 c1 c2 c3 c4 c5 c6 c7 c8 c9 c10 c11 c12 c13 c14 c15 c16 c17
    obtain ⟨c0, c1, c2, c3, c4, c5, c6, c7, c8, c9, c10, c11, c12, c13, c14, c15, c16, c17⟩ := Blk18 hN
    clear HO
    cases q2 with
    | false =>
      go_wp2_with fail
      go_ret
      exact ⟨ret_bool (by rw [HB.out]; simp), hbb⟩
    | true =>
      have HB2 : Hid (R = (if how = 1 then (decide (root = 0) && q3) else (decide (how = 2) || decide (how = 3)) && (q4 && q5))) := by show _ = _; rw [HB.out]; simp
      clear HB
      by_cases h1 : how = 1
      · subst h1
        replace HB2 : Hid (R = (decide (root = 0) && q3)) := by show _ = _; rw [HB2.out, if_pos rfl]
        by_cases h2 : root = 0
        · subst h2
          go_wp2_with fail
          go_ret
          exact ⟨ret_bool (by rw [HB2.out]; simp [*]), hbb⟩
        · have d2 : (root == 0) = false := by simpa using h2
          go_wp2_with fail
          go_ret
          exact ⟨ret_bool (by rw [HB2.out]; simp [*]), hbb⟩
      · have d1 : (how == 1) = false := by simpa using h1
        replace HB2 : Hid (R = ((decide (how = 2) || decide (how = 3)) && (q4 && q5))) := by show _ = _; rw [HB2.out, if_neg h1]
        clear HEZ
        by_cases h2 : how = 2
        · subst h2
          replace HB2 : Hid (R = (q4 && q5)) := by show _ = _; rw [HB2.out]; simp
          go_wp2_with fail
          refine (HRt.out _).mono ?_
          rintro e w3 ⟨rfl, hb1⟩
          replace hN := hN.below hb1
          replace hbb := hbb.next hb1
          clear hb1
          clear c0 c1 c2 c3 c4 c5 c6 c7 c8 c9 c10 c11 c12 c13 c14 c15 c16 c17
          obtain ⟨c0, c1, c2, c3, c4, c5, c6, c7, c8, c9, c10, c11, c12, c13, c14, c15, c16, c17⟩ := Blk18 hN
          cases q4 with
          | false =>
            go_wp2_with fail
            go_ret
            exact ⟨ret_bool (by rw [HB2.out]; rfl), hbb⟩
          | true =>
            go_wp2_with fail
            refine (HEn.out _).mono ?_
            rintro e w4 ⟨rfl, hb4⟩
            go_wp2_with fail
            go_ret
            exact ⟨ret_bool (by rw [HB2.out]; rfl), hbb.next hb4⟩
        · have d2 : (how == 2) = false := by simpa using h2
          by_cases h3 : how = 3
          · subst h3
            replace HB2 : Hid (R = (q4 && q5)) := by show _ = _; rw [HB2.out]; simp
            go_wp2_with fail
            refine (HRt.out _).mono ?_
            rintro e w3 ⟨rfl, hb1⟩
            replace hN := hN.below hb1
            replace hbb := hbb.next hb1
            clear hb1
            clear c0 c1 c2 c3 c4 c5 c6 c7 c8 c9 c10 c11 c12 c13 c14 c15 c16 c17
            obtain ⟨c0, c1, c2, c3, c4, c5, c6, c7, c8, c9, c10, c11, c12, c13, c14, c15, c16, c17⟩ := Blk18 hN
            cases q4 with
            | false =>
              go_wp2_with fail
              go_ret
              exact ⟨ret_bool (by rw [HB2.out]; rfl), hbb⟩
            | true =>
              go_wp2_with fail
              refine (HEn.out _).mono ?_
              rintro e w4 ⟨rfl, hb4⟩
              go_wp2_with fail
              go_ret
              exact ⟨ret_bool (by rw [HB2.out]; rfl), hbb.next hb4⟩
          · have d3 : (how == 3) = false := by simpa using h3
            go_wp2_with fail
            go_ret
            exact ⟨ret_bool (by rw [HB2.out]; simp [*]), hbb⟩
set_option maxHeartbeats 4000000 in
set_option maxRecDepth 100000 in
theorem rlists_any (r : Rc) (vt vd : Value) (w : World) (hv : ElAt w 4 vt (txC r.txns)) (hd : ElAt w 2 vd (dyC r.dirty)) (hs : r.txns.length ≤ 100000) (hs2 : r.dirty.length ≤ 100000) :
    Calls Try.prog 42 #[.agg (rcC r vt vd)] w (Ret (.bool (r.txns.all txB && r.dirty.all dyB && (decide (r.txns.length ≤ 1000) && decide (r.dirty.length ≤ 2000)))) w) := by
  have HV := Lib.hid hv
  have HDV := Lib.hid hd
  have HNU := Lib.hid (fun n W => rnumber_any n W)
  have HPA := Lib.hid (fun n W => rpage_any n W)
  obtain ⟨ao, cap, rfl⟩ := hv.nil
  obtain ⟨bo, cap2, rfl⟩ := hd.nil
  clear hv hd
  obtain ⟨lsn, prev, txn, kind, page, next, num, ok, os, old, new, how, root, key, rp, rs, txns, dirty⟩ := r
  simp only [rcC, txC_len, dyC_len] at *
  obtain ⟨s1, e1⟩ : ∃ x, S old = x := ⟨_, rfl⟩
  obtain ⟨s2, e2⟩ : ∃ x, S new = x := ⟨_, rfl⟩
  obtain ⟨s3, e3⟩ : ∃ x, S key = x := ⟨_, rfl⟩
  rw [e1, e2, e3]
  clear e1 e2 e3
  obtain ⟨R, hR⟩ : ∃ R, (txns.all txB && dirty.all dyB && (decide (txns.length ≤ 1000) && decide (dirty.length ≤ 2000))) = R := ⟨_, rfl⟩
  have HR := Lib.hid hR
  rw [hR]
  clear hR
  have hN := Blk.new w #[.int .i64 lsn, .int .i64 prev, .int .i64 txn, .int .i64 kind, .int .i64 page, .int .i64 next, .int .i64 num, .int .i64 ok, .int .i64 os, .string s1, .string s2, .int .i64 how, .int .i64 root, .string s3, .int .i64 rp, .int .i64 rs, .slice ao txns.length cap, .slice bo dirty.length cap2] 31
  have hbb := (Below.refl w.heap.size w).alloc (Nat.le_refl _) (.cells #[.int .i64 lsn, .int .i64 prev, .int .i64 txn, .int .i64 kind, .int .i64 page, .int .i64 next, .int .i64 num, .int .i64 ok, .int .i64 os, .string s1, .string s2, .int .i64 how, .int .i64 root, .string s3, .int .i64 rp, .int .i64 rs, .slice ao txns.length cap, .slice bo dirty.length cap2] 31)
  go_enter Try.func42, Try.ntmps42
  go_upto_region 2 with fail
  obtain ⟨gx, HGX⟩ : ∃ x, w.heap.size = x := ⟨_, rfl⟩
  have hgx : w.heap.size ≤ gx := by omega
  rw [HGX] at hN ⊢
  clear HGX
  generalize (w.alloc (.cells #[.int .i64 lsn, .int .i64 prev, .int .i64 txn, .int .i64 kind, .int .i64 page, .int .i64 next, .int .i64 num, .int .i64 ok, .int .i64 os, .string s1, .string s2, .int .i64 how, .int .i64 root, .string s3, .int .i64 rp, .int .i64 rs, .slice ao txns.length cap, .slice bo dirty.length cap2] 31)) = W at hN hbb ⊢
  go_loopw [3] (fun iv wr => ∃ i : Nat, i ≤ txns.length ∧ iv = .int .i64 (i : Int) ∧ Below w.heap.size w wr ∧ Blk wr gx #[.int .i64 lsn, .int .i64 prev, .int .i64 txn, .int .i64 kind, .int .i64 page, .int .i64 next, .int .i64 num, .int .i64 ok, .int .i64 os, .string s1, .string s2, .int .i64 how, .int .i64 root, .string s3, .int .i64 rp, .int .i64 rs, .slice ao txns.length cap, .slice bo dirty.length cap2] 31 ∧ Hid ((txns.take i).all txB = true)) (fun iv _ => txns.length - (intOf iv).toNat)
  case atStart => exact ⟨0, Nat.zero_le _, rfl, hbb, hN, by show _ = _; simp⟩
  case round =>
    clear hbb hN
    obtain ⟨i, hi, rfl, hbb, hN, HT⟩ := hrel
    have c16 := hN.cell 16 (v := .slice ao txns.length cap) rfl
    by_cases hlt : i < txns.length
    · obtain ⟨b, off, c1, hv1, _, hc⟩ := (HV.out.below hbb).get i (by rw [txC_len]; exact hlt)
      rw [txC_len] at hv1
      injection hv1 with e1 _ e3
      subst e1 e3
      rw [txC_get txns i hlt] at hc
      have HNX : Hid ((txns.take (i + 1)).all txB = ((txns.take i).all txB && txB txns[i])) := by
        show _ = _
        rw [List.take_succ_eq_append_getElem hlt, List.all_append]
        simp
      have HALL : Hid (txB txns[i] = false → R = false) := by
        show _ → _
        intro h
        have : txns.all txB = false := by
          rw [List.all_eq_false]
          exact ⟨_, List.getElem_mem hlt, by rw [h]; simp⟩
        rw [← HR.out, this]
        rfl
      obtain ⟨n, hn⟩ : ∃ n, txns[i] = n := ⟨_, rfl⟩
      rw [hn] at hc HNX HALL
      obtain ⟨n1, n2, n3, n4⟩ := n
      simp only [Tx.cells] at hc
      have d0 : wr.cell? ⟨b, off + i * 4, none⟩ = some (.int .i64 n1) := hc 0 _ rfl
      have d1 : wr.cell? ⟨b, off + i * 4 + 1, none⟩ = some (.int .i64 n2) := hc 1 _ rfl
      have d2 : wr.cell? ⟨b, off + i * 4 + 2, none⟩ = some (.int .i64 n3) := hc 2 _ rfl
      have d3 : wr.cell? ⟨b, off + i * 4 + 3, none⟩ = some (.bool n4) := hc 3 _ rfl
      have hi0 : (0 : Int) ≤ i := by omega
      have hi1 : (i : Int) < txns.length := by omega
      have hTB : Hid (txB ⟨n1, n2, n3, n4⟩ = (numB n1 && numB n2 && numB n3)) := rfl
      obtain ⟨q1, hq1⟩ : ∃ q, numB n1 = q := ⟨_, rfl⟩
      obtain ⟨q2, hq2⟩ : ∃ q, numB n2 = q := ⟨_, rfl⟩
      obtain ⟨q3, hq3⟩ : ∃ q, numB n3 = q := ⟨_, rfl⟩
      have H1 := Lib.hid (fun W => HNU.out n1 W)
      have H2 := Lib.hid (fun W => HNU.out n2 W)
      have H3 := Lib.hid (fun W => HNU.out n3 W)
      rw [hq1] at hTB H1
      rw [hq2] at hTB H2
      rw [hq3] at hTB H3
      rw [hTB.out] at HALL HNX
      clear hc hn hq1 hq2 hq3 hTB
      have hT := Blk.new wr #[.int .i64 n1, .int .i64 n2, .int .i64 n3, .bool n4] 67
      have hbx := (Below.refl wr.heap.size wr).alloc (Nat.le_refl _) (.cells #[.int .i64 n1, .int .i64 n2, .int .i64 n3, .bool n4] 67)
      go_upto_region 5 with fail
      clear d0 d1 d2 d3 c16
      generalize (wr.alloc (.cells #[.int .i64 n1, .int .i64 n2, .int .i64 n3, .bool n4] 67)) = W5 at hT hbx ⊢
      replace hN := hN.below hbx
      replace hbb := hbb.next hbx
      clear hbx
      obtain ⟨⟨c0, c1, c2, c3⟩, _⟩ := Blk4 hT
      go_wp2_with fail
      refine (H1.out _).mono ?_
      rintro e w6 ⟨rfl, hb6⟩
      replace hN := hN.below hb6
      replace hbb := hbb.next hb6
      replace hT := hT.below hb6
      clear hb6 c0 c1 c2 c3 H1
      obtain ⟨⟨c0, c1, c2, c3⟩, _⟩ := Blk4 hT
      cases q1 with
      | false =>
        go_wp2_with fail
        go_ret
        exact ⟨ret_bool (HALL.out rfl), hbb⟩
      | true =>
        go_wp2_with fail
        refine (H2.out _).mono ?_
        rintro e w7 ⟨rfl, hb6⟩
        replace hN := hN.below hb6
        replace hbb := hbb.next hb6
        replace hT := hT.below hb6
        clear hb6 c0 c1 c2 c3 H2
        obtain ⟨⟨c0, c1, c2, c3⟩, _⟩ := Blk4 hT
        cases q2 with
        | false =>
          go_wp2_with fail
          go_ret
          exact ⟨ret_bool (HALL.out rfl), hbb⟩
        | true =>
          go_wp2_with fail
          refine (H3.out _).mono ?_
          rintro e w8 ⟨rfl, hb6⟩
          replace hN := hN.below hb6
          replace hbb := hbb.next hb6
          clear hb6 c0 c1 c2 c3 H3 hT
          cases q3 with
          | false =>
            go_wp2_with fail
            go_ret
            exact ⟨ret_bool (HALL.out rfl), hbb⟩
          | true =>
            have HT2 : Hid ((txns.take (i + 1)).all txB = true) := by show _ = _; rw [HNX.out, HT.out]; rfl
            clear HT HNX HALL
            go_wp2_with fail
            go_roundw
            case rel => exact ⟨i + 1, by omega, by go_num, hbb, hN, HT2⟩
            case measure => simp [intOf]; omega
    · have hin : i = txns.length := by omega
      have HT1 : Hid (txns.all txB = true) := by
        show _ = _
        have h := HT.out
        rwa [List.take_of_length_le (by omega)] at h
      clear HT hlt hi
      have hni : ¬ (i : Int) < txns.length := by omega
      clear hin
      go_upto_region 8 with fail
      clear c16 hni
      go_loopw [5] (fun iv wr => ∃ i : Nat, i ≤ dirty.length ∧ iv = .int .i64 (i : Int) ∧ Below w.heap.size w wr ∧ Blk wr gx #[.int .i64 lsn, .int .i64 prev, .int .i64 txn, .int .i64 kind, .int .i64 page, .int .i64 next, .int .i64 num, .int .i64 ok, .int .i64 os, .string s1, .string s2, .int .i64 how, .int .i64 root, .string s3, .int .i64 rp, .int .i64 rs, .slice ao txns.length cap, .slice bo dirty.length cap2] 31 ∧ Hid ((dirty.take i).all dyB = true)) (fun iv _ => dirty.length - (intOf iv).toNat)
      case atStart => exact ⟨0, Nat.zero_le _, rfl, hbb, hN, by show _ = _; simp⟩
      case round =>
        clear hbb hN
        obtain ⟨j, hj, rfl, hbb, hN, HT⟩ := hrel
        have c17 := hN.cell 17 (v := .slice bo dirty.length cap2) rfl
        by_cases hlt : j < dirty.length
        · obtain ⟨b, off, c1, hv1, _, hc⟩ := (HDV.out.below hbb).get j (by rw [dyC_len]; exact hlt)
          rw [dyC_len] at hv1
          injection hv1 with e1 _ e3
          subst e1 e3
          rw [dyC_get dirty j hlt] at hc
          have HNX : Hid ((dirty.take (j + 1)).all dyB = ((dirty.take j).all dyB && dyB dirty[j])) := by
            show _ = _
            rw [List.take_succ_eq_append_getElem hlt, List.all_append]
            simp
          have HALL : Hid (dyB dirty[j] = false → R = false) := by
            show _ → _
            intro h
            have : dirty.all dyB = false := by
              rw [List.all_eq_false]
              exact ⟨_, List.getElem_mem hlt, by rw [h]; simp⟩
            rw [← HR.out, this]
            simp
          obtain ⟨n, hn⟩ : ∃ n, dirty[j] = n := ⟨_, rfl⟩
          rw [hn] at hc HNX HALL
          obtain ⟨n1, n2⟩ := n
          simp only [Dy.cells] at hc
          have d0 : wr.cell? ⟨b, off + j * 2, none⟩ = some (.int .i64 n1) := hc 0 _ rfl
          have d1 : wr.cell? ⟨b, off + j * 2 + 1, none⟩ = some (.int .i64 n2) := hc 1 _ rfl
          have hi0 : (0 : Int) ≤ j := by omega
          have hi1 : (j : Int) < dirty.length := by omega
          have hblt : b < wr.heap.size := by
            by_cases hq : b < wr.heap.size
            · exact hq
            · exfalso
              have : wr.cell? ⟨b, off + j * 2, none⟩ = none := by
                unfold World.cell?
                rw [Array.getElem?_eq_none (by omega)]
              rw [this] at d0
              cases d0
          have hTB : Hid (dyB ⟨n1, n2⟩ = (pageB n1 && numB n2)) := rfl
          obtain ⟨q1, hq1⟩ : ∃ q, pageB n1 = q := ⟨_, rfl⟩
          obtain ⟨q2, hq2⟩ : ∃ q, numB n2 = q := ⟨_, rfl⟩
          have H1 := Lib.hid (fun W => HPA.out n1 W)
          have H2 := Lib.hid (fun W => HNU.out n2 W)
          rw [hq1] at hTB H1
          rw [hq2] at hTB H2
          rw [hTB.out] at HALL HNX
          clear hc hn hq1 hq2 hTB
          go_wp2_with fail
          refine (H1.out _).mono ?_
          rintro e w6 ⟨rfl, hb6⟩
          have d1' : w6.cell? ⟨b, off + j * 2 + 1, none⟩ = some (.int .i64 n2) := (hb6.cell (p := ⟨b, off + j * 2 + 1, none⟩) hblt).trans d1
          replace hN := hN.below hb6
          replace hbb := hbb.next hb6
          clear hb6 c17 H1 d0 d1
          have c17 := hN.cell 17 (v := .slice _ _ _) rfl
          cases q1 with
          | false =>
            go_wp2_with fail
            go_ret
            exact ⟨ret_bool (HALL.out rfl), hbb⟩
          | true =>
            go_wp2_with fail
            refine (H2.out _).mono ?_
            rintro e w7 ⟨rfl, hb6⟩
            replace hN := hN.below hb6
            replace hbb := hbb.next hb6
            clear hb6 c17 H2 d1'
            cases q2 with
            | false =>
              go_wp2_with fail
              go_ret
              exact ⟨ret_bool (HALL.out rfl), hbb⟩
            | true =>
              have HT2 : Hid ((dirty.take (j + 1)).all dyB = true) := by show _ = _; rw [HNX.out, HT.out]; rfl
              clear HT HNX HALL
              go_wp2_with fail
              go_roundw
              case rel => exact ⟨j + 1, by omega, by go_num, hbb, hN, HT2⟩
              case measure => simp [intOf]; omega
        · have HD1 : Hid (dirty.all dyB = true) := by
            show _ = _
            have h := HT.out
            rwa [List.take_of_length_le (by omega)] at h
          have hni : ¬ (j : Int) < dirty.length := by omega
          have c16 := hN.cell 16 (v := .slice ao txns.length cap) rfl
          have HF : Hid (R = (decide (txns.length ≤ 1000) && decide (dirty.length ≤ 2000))) := by show _ = _; rw [← HR.out, HT1.out, HD1.out]; simp
          clear HT hlt hj HD1 HT1 HR
          by_cases h1 : (txns.length : Int) ≤ 1000
          · by_cases h2 : (dirty.length : Int) ≤ 2000
            · go_wp2_with fail
              go_ret
              exact ⟨ret_bool (by rw [HF.out]; simp; omega), hbb⟩
            · go_wp2_with fail
              go_ret
              exact ⟨ret_bool (by rw [HF.out]; simp; omega), hbb⟩
          · go_wp2_with fail
            go_ret
            exact ⟨ret_bool (by rw [HF.out]; simp; omega), hbb⟩
end Go.Proofs.Ytloengjcniefgaa.Rec
