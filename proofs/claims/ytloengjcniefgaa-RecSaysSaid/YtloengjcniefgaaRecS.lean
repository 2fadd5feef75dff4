/- rec: Same: are two records alike? -/
import Derived.Test.YtloengjcniefgaaRecE
namespace Go.Proofs.Ytloengjcniefgaa.Rec
set_option linter.unusedVariables false
set_option linter.unusedSimpArgs false
open Go.RowKit
open Oct (S beN putL U I getI sumN S_size S_data)
theorem S_list (l m : List UInt8) : (S l).toList = (S m).toList ↔ l = m := by rw [ByteArray.toList_eq, ByteArray.toList_eq, S_data, S_data]
set_option maxRecDepth 100000 in
theorem eqlOp (k s k' s' : Int) (o n o' n' : List UInt8) (W : World) : (binOp .eql 23 (.agg #[.int .i64 k, .int .i64 s, .string (S o), .string (S n)]) (.agg #[.int .i64 k', .int .i64 s', .string (S o'), .string (S n')])).run Try.prog W = .ok (.bool (decide (k = k' ∧ s = s' ∧ o = o' ∧ n = n'))) W := by
  have e1 := S_list o o'
  have e2 := S_list n n'
  go_simp
  by_cases h1 : k = k' <;> by_cases h2 : s = s' <;> by_cases h3 : o = o' <;> by_cases h4 : n = n' <;> simp [*]
set_option maxRecDepth 100000 in
theorem eqlEn (p s p' s' : Int) (k k' : List UInt8) (W : World) : (binOp .eql 27 (.agg #[.string (S k), .int .i64 p, .int .i64 s]) (.agg #[.string (S k'), .int .i64 p', .int .i64 s'])).run Try.prog W = .ok (.bool (decide (k = k' ∧ p = p' ∧ s = s'))) W := by
  have e1 := S_list k k'
  go_simp
  by_cases h1 : k = k' <;> by_cases h2 : p = p' <;> by_cases h3 : s = s' <;> simp [*]
set_option maxHeartbeats 8000000 in
set_option maxRecDepth 100000 in
theorem same_any (a b : Rc) (va vb ua ub : Value) (w : World) (ha : ElAt w 4 va (txC a.txns)) (hb : ElAt w 2 vb (dyC a.dirty)) (hc : ElAt w 4 ua (txC b.txns)) (hd : ElAt w 2 ub (dyC b.dirty)) (hs : a.txns.length ≤ 100000) (hs2 : a.dirty.length ≤ 100000) :
    Calls Try.prog 15 #[.agg (rcC a va vb), .agg (rcC b ua ub)] w (Ret (.bool (decide (a = b))) w) := by
  obtain ⟨lsn, prev, txn, kind, page, next, num, ok, os, old, new, how, root, key, rp, rs, txns, dirty⟩ := a
  obtain ⟨lsn', prev', txn', kind', page', next', num', ok', os', old', new', how', root', key', rp', rs', txns', dirty'⟩ := b
  obtain ⟨R, hR⟩ : ∃ R, decide (Rc.mk lsn prev txn kind page next num ok os old new how root key rp rs txns dirty = Rc.mk lsn' prev' txn' kind' page' next' num' ok' os' old' new' how' root' key' rp' rs' txns' dirty') = R := ⟨_, rfl⟩
  rw [hR]
  have HE1 := fun W => eqlOp ok os ok' os' old new old' new' W
  have HE2 := fun W => eqlEn rp rs rp' rs' key key' W
  obtain ⟨q1, hq1⟩ : ∃ q, decide (ok = ok' ∧ os = os' ∧ old = old' ∧ new = new') = q := ⟨_, rfl⟩
  obtain ⟨q2, hq2⟩ : ∃ q, decide (key = key' ∧ rp = rp' ∧ rs = rs') = q := ⟨_, rfl⟩
  obtain ⟨q3, hq3⟩ : ∃ q, decide (txns = txns') = q := ⟨_, rfl⟩
  obtain ⟨q4, hq4⟩ : ∃ q, decide (dirty = dirty') = q := ⟨_, rfl⟩
  have HB : Hid (R = (lsn == lsn' && prev == prev' && txn == txn' && kind == kind' && page == page' && next == next' && num == num' && q1 && how == how' && root == root' && q2 && q3 && q4)) := by
    show _ = _
    rw [← hR, ← hq1, ← hq2, ← hq3, ← hq4, Bool.eq_iff_iff]
    simp
    constructor
    · rintro ⟨rfl, rfl, rfl, rfl, rfl, rfl, rfl, rfl, rfl, rfl, rfl, rfl, rfl, rfl, rfl, rfl, rfl, rfl⟩
      simp
    · simp only [and_imp]
      rintro rfl rfl rfl rfl rfl rfl rfl rfl rfl rfl rfl rfl rfl rfl rfl rfl rfl rfl
      simp
  have HT := Lib.hid (fun W h1 h2 => equalT_any txns txns' va ua W h1 h2 hs)
  have HD := Lib.hid (fun W h1 h2 => equalD_any dirty dirty' vb ub W h1 h2 hs2)
  rw [hq1] at HE1
  rw [hq2] at HE2
  rw [hq3] at HT
  rw [hq4] at HD
  have HA := Lib.hid ha
  have HB2 := Lib.hid hb
  have HC := Lib.hid hc
  have HD2 := Lib.hid hd
  simp only [rcC]
  obtain ⟨s1, e1⟩ : ∃ x, S old = x := ⟨_, rfl⟩
  obtain ⟨s2, e2⟩ : ∃ x, S new = x := ⟨_, rfl⟩
  obtain ⟨s3, e3⟩ : ∃ x, S key = x := ⟨_, rfl⟩
  obtain ⟨s1', e1'⟩ : ∃ x, S old' = x := ⟨_, rfl⟩
  obtain ⟨s2', e2'⟩ : ∃ x, S new' = x := ⟨_, rfl⟩
  obtain ⟨s3', e3'⟩ : ∃ x, S key' = x := ⟨_, rfl⟩
  rw [e1, e2, e1', e2'] at HE1
  rw [e3, e3'] at HE2
  rw [e1, e2, e3, e1', e2', e3']
  clear e1 e2 e3 e1' e2' e3' hq1 hq2 hq3 hq4 hR
  obtain ⟨ao, cap, hva⟩ := ha.nil
  obtain ⟨bo, cap2, hvb⟩ := hb.nil
  obtain ⟨co, cap3, hua⟩ := hc.nil
  obtain ⟨dO, cap4, hub⟩ := hd.nil
  obtain ⟨n1, hn1⟩ : ∃ n, (txC txns).length = n := ⟨_, rfl⟩
  obtain ⟨n2, hn2⟩ : ∃ n, (dyC dirty).length = n := ⟨_, rfl⟩
  obtain ⟨n3, hn3⟩ : ∃ n, (txC txns').length = n := ⟨_, rfl⟩
  obtain ⟨n4, hn4⟩ : ∃ n, (dyC dirty').length = n := ⟨_, rfl⟩
  simp only at hva hvb hua hub
  rw [hn1] at hva
  rw [hn2] at hvb
  rw [hn3] at hua
  rw [hn4] at hub
  subst hva hvb hua hub
  clear ha hb hc hd hn1 hn2 hn3 hn4 hs hs2
  have hbb := ((Below.refl w.heap.size w).alloc (Nat.le_refl _) (.cells #[.int .i64 lsn, .int .i64 prev, .int .i64 txn, .int .i64 kind, .int .i64 page, .int .i64 next, .int .i64 num, .int .i64 ok, .int .i64 os, .string s1, .string s2, .int .i64 how, .int .i64 root, .string s3, .int .i64 rp, .int .i64 rs, .slice ao n1 cap, .slice bo n2 cap2] 31)).alloc (by simp) (.cells #[.int .i64 lsn', .int .i64 prev', .int .i64 txn', .int .i64 kind', .int .i64 page', .int .i64 next', .int .i64 num', .int .i64 ok', .int .i64 os', .string s1', .string s2', .int .i64 how', .int .i64 root', .string s3', .int .i64 rp', .int .i64 rs', .slice co n3 cap3, .slice dO n4 cap4] 31)
  go_enter Try.func15, Try.ntmps15
  go_wp2_with fail
  · have hb3 := ((Below.refl w.heap.size w).alloc (Nat.le_refl _) (.cells #[.int .i64 lsn', .int .i64 prev', .int .i64 txn', .int .i64 kind', .int .i64 page', .int .i64 next', .int .i64 num', .int .i64 ok, .int .i64 os, .string s1, .string s2, .int .i64 how', .int .i64 root', .string s3, .int .i64 rp, .int .i64 rs, .slice ao n1 cap, .slice bo n2 cap2] 31)).alloc (by simp) (.cells #[.int .i64 lsn', .int .i64 prev', .int .i64 txn', .int .i64 kind', .int .i64 page', .int .i64 next', .int .i64 num', .int .i64 ok', .int .i64 os', .string s1', .string s2', .int .i64 how', .int .i64 root', .string s3', .int .i64 rp', .int .i64 rs', .slice co n3 cap3, .slice dO n4 cap4] 31)
    have hN1 := (Blk.new w #[.int .i64 lsn', .int .i64 prev', .int .i64 txn', .int .i64 kind', .int .i64 page', .int .i64 next', .int .i64 num', .int .i64 ok, .int .i64 os, .string s1, .string s2, .int .i64 how', .int .i64 root', .string s3, .int .i64 rp, .int .i64 rs, .slice ao n1 cap, .slice bo n2 cap2] 31).alloc (.cells #[.int .i64 lsn', .int .i64 prev', .int .i64 txn', .int .i64 kind', .int .i64 page', .int .i64 next', .int .i64 num', .int .i64 ok', .int .i64 os', .string s1', .string s2', .int .i64 how', .int .i64 root', .string s3', .int .i64 rp', .int .i64 rs', .slice co n3 cap3, .slice dO n4 cap4] 31)
    have hN2 := Blk.new (w.alloc (.cells #[.int .i64 lsn', .int .i64 prev', .int .i64 txn', .int .i64 kind', .int .i64 page', .int .i64 next', .int .i64 num', .int .i64 ok, .int .i64 os, .string s1, .string s2, .int .i64 how', .int .i64 root', .string s3, .int .i64 rp, .int .i64 rs, .slice ao n1 cap, .slice bo n2 cap2] 31)) #[.int .i64 lsn', .int .i64 prev', .int .i64 txn', .int .i64 kind', .int .i64 page', .int .i64 next', .int .i64 num', .int .i64 ok', .int .i64 os', .string s1', .string s2', .int .i64 how', .int .i64 root', .string s3', .int .i64 rp', .int .i64 rs', .slice co n3 cap3, .slice dO n4 cap4] 31
    have hz : (w.alloc (.cells #[.int .i64 lsn', .int .i64 prev', .int .i64 txn', .int .i64 kind', .int .i64 page', .int .i64 next', .int .i64 num', .int .i64 ok, .int .i64 os, .string s1, .string s2, .int .i64 how', .int .i64 root', .string s3, .int .i64 rp, .int .i64 rs, .slice ao n1 cap, .slice bo n2 cap2] 31)).heap.size = w.heap.size + 1 := by simp
    rw [hz] at hN2
    have HB1 : Hid (R = (q3 && q4)) := by show _ = _; rw [HB.out]; clear hbb hb3 hN1 hN2 hz HE1 HE2; simp [*]
    clear HB hbb HE1 HE2 hz
    refine (HT.out _ (HA.out.below hb3) (HC.out.below hb3)).mono ?_
    rintro e w1 ⟨rfl, hb4⟩
    have c17 := (hN1.below hb4).cell 17 (v := .slice bo n2 cap2) rfl
    have c17' := (hN2.below hb4).cell 17 (v := .slice dO n4 cap4) rfl
    have hb5 := hb3.next hb4
    have HD3 := Lib.hid (HD.out _ (HB2.out.below hb5) (HD2.out.below hb5))
    clear hN1 hN2 hb3 hb4 HT HA HC HD HB2 HD2
    cases q3 with
    | false =>
      go_wp2_with fail
      go_ret
      exact ⟨ret_bool (by rw [HB1.out]; rfl), hb5⟩
    | true =>
      go_wp2_with fail
      refine HD3.out.mono ?_
      rintro e w2 ⟨rfl, hb6⟩
      go_wp2_with fail
      go_ret
      exact ⟨ret_bool (by rw [HB1.out]; simp), hb5.next hb6⟩
  all_goals clear hbb HE1 HE2 HT HD HA HC HB2 HD2
  all_goals go_ret
  all_goals exact ⟨ret_bool (by rw [HB.out]; simp [*]), ((Below.refl w.heap.size w).alloc (Nat.le_refl _) _).alloc (by simp) _⟩
end Go.Proofs.Ytloengjcniefgaa.Rec
