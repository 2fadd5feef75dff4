/- The reference's order of values and of rows. -/
import Derived.Test.YtcboeggfincakaaOrdP
import Derived.Test.YtcboeggfincakaaKitW
import Derived.Test.YtcboeggfincakaaKitQ
import Derived.BigQuiet
namespace Go.Proofs.Ytcboeggfincakaa
set_option linter.unusedVariables false
set_option linter.unusedSimpArgs false
open Go.RowKit Go.Sort
theorem rints_any (a b : Int) (w : World) : Calls Try.prog 46 #[.int .i64 a, .int .i64 b] w (Eq1 (.int .i64 (cmpI a b)) w) := by
  by_cases h1 : a < b
  · have HC : Hid (cmpI a b = -1) := by show _ = _; rw [cmpI, if_pos h1]
    go_enter Try.func46, Try.ntmps46
    go_wp2
    go_ret
    exact ⟨ret_int (by rw [HC.out]), rfl⟩
  · by_cases h2 : b < a
    · have HC : Hid (cmpI a b = 1) := by show _ = _; rw [cmpI, if_neg h1, if_pos h2]
      go_enter Try.func46, Try.ntmps46
      go_wp2
      go_ret
      exact ⟨ret_int (by rw [HC.out]), rfl⟩
    · have HC : Hid (cmpI a b = 0) := by show _ = _; rw [cmpI, if_neg h1, if_neg h2]
      go_enter Try.func46, Try.ntmps46
      go_wp2
      go_ret
      exact ⟨ret_int (by rw [HC.out]), rfl⟩
theorem cmp_skip {a b : ByteArray} {k : Nat} (h1 : k < a.size) (h2 : k < b.size) (h : a[k] = b[k]) : Lib.compareBytes (a.data.toList.drop k) (b.data.toList.drop k) = Lib.compareBytes (a.data.toList.drop (k + 1)) (b.data.toList.drop (k + 1)) := by
  have e1 : k < a.data.toList.length := by simpa using h1
  have e2 : k < b.data.toList.length := by simpa using h2
  rw [List.drop_eq_getElem_cons e1, List.drop_eq_getElem_cons e2, Lib.compareBytes]
  have h3 : a.data.toList[k] = b.data.toList[k] := h
  rw [h3, if_neg (UInt8.lt_irrefl _), if_neg (UInt8.lt_irrefl _)]
theorem cmp_here {a b : ByteArray} {k : Nat} (h1 : k < a.size) (h2 : k < b.size) (h : a[k].toNat ≠ b[k].toNat) : Lib.compareBytes (a.data.toList.drop k) (b.data.toList.drop k) = cmpI a[k].toNat b[k].toNat := by
  have e1 : k < a.data.toList.length := by simpa using h1
  have e2 : k < b.data.toList.length := by simpa using h2
  rw [List.drop_eq_getElem_cons e1, List.drop_eq_getElem_cons e2, Lib.compareBytes]
  have h3 : a.data.toList[k] = a[k] := rfl
  have h4 : b.data.toList[k] = b[k] := rfl
  rw [h3, h4, cmpI]
  by_cases h5 : a[k] < b[k]
  · have := UInt8.lt_iff_toNat_lt.1 h5
    rw [if_pos h5, if_pos (by omega)]
  · have : ¬ a[k].toNat < b[k].toNat := fun hh => h5 (UInt8.lt_iff_toNat_lt.2 hh)
    have h6 : b[k] < a[k] := UInt8.lt_iff_toNat_lt.2 (by omega)
    rw [if_neg h5, if_pos h6, if_neg (by omega), if_pos (by omega)]
theorem cmp_end {a b : ByteArray} {k : Nat} (h1 : k ≤ a.size) (h2 : k ≤ b.size) (h : ¬ (k < a.size ∧ k < b.size)) : Lib.compareBytes (a.data.toList.drop k) (b.data.toList.drop k) = cmpI a.size b.size := by
  have l1 : a.data.toList.length = a.size := by simp
  have l2 : b.data.toList.length = b.size := by simp
  unfold cmpI
  by_cases h3 : k < a.size
  · have e2 : b.data.toList.drop k = [] := List.drop_of_length_le (by omega)
    rw [List.drop_eq_getElem_cons (by omega : k < a.data.toList.length), e2, Lib.compareBytes, if_neg (by omega), if_pos (by omega)]
  · have e1 : a.data.toList.drop k = [] := List.drop_of_length_le (by omega)
    by_cases h4 : k < b.size
    · rw [List.drop_eq_getElem_cons (by omega : k < b.data.toList.length), e1, Lib.compareBytes, if_pos (by omega)]
    · have e2 : b.data.toList.drop k = [] := List.drop_of_length_le (by omega)
      rw [e1, e2, Lib.compareBytes, if_neg (by omega), if_neg (by omega)]
theorem rtexts_any (a b : ByteArray) (w : World) (ha : a.size ≤ maxLen) (hb : b.size ≤ maxLen) : Calls Try.prog 60 #[.string a, .string b] w (Ret (.int .i64 (Lib.compareBytes a.data.toList b.data.toList)) w) := by
  unfold maxLen at ha hb
  have HI := Lib.hid (fun x y W => rints_any x y W)
  go_enter Try.func60, Try.ntmps60
  go_wp2
  go_loopw [5] (fun i wr => ∃ k : Nat, k ≤ a.size ∧ k ≤ b.size ∧ i = .int .i64 k ∧ Below w.heap.size w wr ∧ Hid (Lib.compareBytes a.data.toList b.data.toList = Lib.compareBytes (a.data.toList.drop k) (b.data.toList.drop k))) (fun i _ => a.size - (intOf i).toNat)
  case atStart => exact ⟨0, Nat.zero_le _, Nat.zero_le _, rfl, Below.refl _ _, rfl⟩
  case round =>
    obtain ⟨k, hk, hkb, rfl, hbw, HQ⟩ := hrel
    by_cases hlt : k < a.size ∧ k < b.size
    · obtain ⟨h1, h2⟩ := hlt
      by_cases he : a[k].toNat = b[k].toNat
      · have HQ2 : Hid (Lib.compareBytes a.data.toList b.data.toList = Lib.compareBytes (a.data.toList.drop (k + 1)) (b.data.toList.drop (k + 1))) := by
          show _ = _; rw [HQ.out, cmp_skip h1 h2 (UInt8.toNat_inj.1 he)]
        have hd : ((a[k].toNat : Int) == (b[k].toNat : Int)) = true := by rw [he]; exact beq_self_eq_true _
        have hd2 : ((a[k].toNat : Int) != (b[k].toNat : Int)) = false := by rw [he]; exact bne_self_eq_false _
        clear he
        go_wp2
        go_quiet (fail)
        go_wp2
        go_roundw
        case rel => exact ⟨k + 1, by omega, by omega, by go_num, hbw.drewN _, HQ2⟩
        case measure => simp [intOf]; omega
      · have HR : Hid (Lib.compareBytes a.data.toList b.data.toList = cmpI a[k].toNat b[k].toNat) := by
          show _ = _; rw [HQ.out, cmp_here h1 h2 he]
        have HI2 := HI.out (a[k].toNat : Int) (b[k].toNat : Int)
        rw [← HR.out] at HI2
        have HI3 := Lib.hid HI2
        have hd : ((a[k].toNat : Int) == (b[k].toNat : Int)) = false := by rw [beq_eq_false_iff_ne]; omega
        have hd2 : ((a[k].toNat : Int) != (b[k].toNat : Int)) = true := by rw [bne_iff_ne]; omega
        have hl1 : a[k].toNat < 256 := UInt8.toNat_lt _
        have hl2 : b[k].toNat < 256 := UInt8.toNat_lt _
        clear he HI2
        go_wp2
        go_quiet (fail)
        go_wp2
        refine wp_region_quiet_below (by kernel_rfl) (by kernel_rfl) ?_
        repeat (go_big_quiet_step ((go_at_call 46; exact Eq1.regrown (HI3.out _))))
        refine wpQuiet_nil ?_
        intro w2 hw2
        have hb2 := below_of_regrown hw2
        clear hw2
        go_wp2
        go_ret
        exact ⟨rfl, (hbw.drewN _).next hb2⟩
    · have HR : Hid (Lib.compareBytes a.data.toList b.data.toList = cmpI a.size b.size) := by
        show _ = _; rw [HQ.out, cmp_end hk hkb hlt]
      have HI2 := HI.out (a.size : Int) (b.size : Int)
      rw [← HR.out] at HI2
      have HI3 := Lib.hid HI2
      clear HI2
      by_cases h1 : k < a.size
      · have h2 : ¬ k < b.size := fun h => hlt ⟨h1, h⟩
        clear hlt
        go_wp2_with fail
        refine (HI3.out _).mono ?_
        rintro e w2 ⟨rfl, rfl⟩
        go_wp2
        go_ret
        exact ⟨rfl, hbw⟩
      · clear hlt
        go_wp2_with fail
        refine (HI3.out _).mono ?_
        rintro e w2 ⟨rfl, rfl⟩
        go_wp2
        go_ret
        exact ⟨rfl, hbw⟩
theorem ordV_1 {u v : Vl} (h : u.k ≠ v.k) : ordV u v = cmpI u.k v.k := by
  rw [ordV, orI, if_neg (fun hh => h ((cmpI_zero _ _).1 hh))]
theorem ordV_2 {u v : Vl} (h : u.k = v.k) (h2 : u.n ≠ v.n) : ordV u v = cmpI u.n v.n := by
  rw [ordV, orI, if_pos ((cmpI_zero _ _).2 h), if_neg (fun hh => h2 ((cmpI_zero _ _).1 hh))]
theorem ordV_3 {u v : Vl} (h : u.k = v.k) (h2 : u.n = v.n) : ordV u v = Lib.compareBytes u.s.data.toList v.s.data.toList := by
  rw [ordV, orI, if_pos ((cmpI_zero _ _).2 h), if_pos ((cmpI_zero _ _).2 h2)]
theorem rorder_any (u v : Vl) (w : World) (hu : u.ok) (hv : v.ok) : Calls Try.prog 45 #[.agg u.cells.toArray, .agg v.cells.toArray] w (Ret (.int .i64 (ordV u v)) w) := by
  obtain ⟨uk, un, us⟩ := u
  obtain ⟨vk, vn, vs⟩ := v
  have hus := hu.2.2
  have hvs := hv.2.2
  have hb : Below w.heap.size w ((w.alloc (.cells #[.int .i64 uk, .int .i64 un, .string us] 49)).alloc (.cells #[.int .i64 vk, .int .i64 vn, .string vs] 49)) := ((Below.refl _ _).alloc (Nat.le_refl _) _).alloc (by simp) _
  by_cases h1 : uk = vk
  · have t1 : (uk == vk) = true := by rw [beq_iff_eq]; exact h1
    have t1' : (uk != vk) = false := by rw [bne_eq_false_iff_eq]; exact h1
    by_cases h2 : un = vn
    · have t2 : (un == vn) = true := by rw [beq_iff_eq]; exact h2
      have t2' : (un != vn) = false := by rw [bne_eq_false_iff_eq]; exact h2
      have HO := Lib.hid (ordV_3 (u := ⟨uk, un, us⟩) (v := ⟨vk, vn, vs⟩) h1 h2)
      have HC := Lib.hid (fun W => rtexts_any us vs W hus hvs)
      rw [HO.out]
      show Calls Try.prog 45 #[.agg #[.int .i64 uk, .int .i64 un, .string us], .agg #[.int .i64 vk, .int .i64 vn, .string vs]] w (Ret (.int .i64 (Lib.compareBytes us.data.toList vs.data.toList)) w)
      clear h1 h2 hu hv hus hvs
      go_enter Try.func45, Try.ntmps45
      go_wp2_with fail
      refine (HC.out _).mono ?_
      rintro e w2 ⟨rfl, hb2⟩
      replace hb := hb.next hb2
      go_wp2_with fail
      go_ret
      exact ⟨rfl, hb⟩
    · have t2 : (un == vn) = false := by rw [beq_eq_false_iff_ne]; exact h2
      have t2' : (un != vn) = true := by rw [bne_iff_ne]; exact h2
      have HO := Lib.hid (ordV_2 (u := ⟨uk, un, us⟩) (v := ⟨vk, vn, vs⟩) h1 h2)
      have HC := Lib.hid (fun W => rints_any un vn W)
      rw [HO.out]
      show Calls Try.prog 45 #[.agg #[.int .i64 uk, .int .i64 un, .string us], .agg #[.int .i64 vk, .int .i64 vn, .string vs]] w (Ret (.int .i64 (cmpI un vn)) w)
      clear h1 h2 hu hv hus hvs
      go_enter Try.func45, Try.ntmps45
      go_wp2_with fail
      refine (HC.out _).mono ?_
      rintro e w2 ⟨rfl, rfl⟩
      go_wp2_with fail
      go_ret
      exact ⟨rfl, hb⟩
  · have t1 : (uk == vk) = false := by rw [beq_eq_false_iff_ne]; exact h1
    have t1' : (uk != vk) = true := by rw [bne_iff_ne]; exact h1
    have HO := Lib.hid (ordV_1 (u := ⟨uk, un, us⟩) (v := ⟨vk, vn, vs⟩) h1)
    have HC := Lib.hid (fun W => rints_any uk vk W)
    rw [HO.out]
    show Calls Try.prog 45 #[.agg #[.int .i64 uk, .int .i64 un, .string us], .agg #[.int .i64 vk, .int .i64 vn, .string vs]] w (Ret (.int .i64 (cmpI uk vk)) w)
    clear h1 hu hv hus hvs
    go_enter Try.func45, Try.ntmps45
    go_wp2_with fail
    refine (HC.out _).mono ?_
    rintro e w2 ⟨rfl, rfl⟩
    go_wp2_with fail
    go_ret
    exact ⟨rfl, hb⟩
theorem ordL_len {a b : List Vl} {k : Nat} (h1 : k ≤ a.length) (h2 : k ≤ b.length) (h : ¬ (k < a.length ∧ k < b.length)) : ordL (a.drop k) (b.drop k) = cmpI a.length b.length := by
  unfold cmpI
  by_cases h3 : k < a.length
  · rw [ordL_more h3 (fun h4 => h ⟨h3, h4⟩), if_neg (by omega), if_pos (by omega)]
  · by_cases h4 : k < b.length
    · rw [ordL_less h3 h4, if_pos (by omega)]
    · rw [ordL_both h3 h4, if_neg (by omega), if_neg (by omega)]
set_option maxHeartbeats 1000000 in
theorem rorders_any (a b : List Vl) (va vb : Value) (w : World) (ha : RowAt w va a) (hb : RowAt w vb b) (hao : Oks a) (hbo : Oks b) :
    Calls Try.prog 31 #[va, vb] w (Ret (.int .i64 (ordL a b)) w) := by
  obtain ⟨ao, cap, rfl⟩ := ha.nil
  obtain ⟨bo, cap2, rfl⟩ := hb.nil
  have hsa := ha.small
  have hsb := hb.small
  have HI := Lib.hid (fun W => rints_any (a.length : Int) (b.length : Int) W)
  go_enter Try.func31, Try.ntmps31
  go_wp2_with fail
  go_loopw [5] (fun i wr => ∃ k : Nat, k ≤ a.length ∧ k ≤ b.length ∧ i = .int .i64 k ∧ Below w.heap.size w wr ∧ Hid (ordL a b = ordL (a.drop k) (b.drop k))) (fun i _ => a.length - (intOf i).toNat)
  case atStart => exact ⟨0, Nat.zero_le _, Nat.zero_le _, rfl, Below.refl _ _, rfl⟩
  case round =>
    obtain ⟨k, hk, hkb, rfl, hbw, HQ⟩ := hrel
    by_cases hlt : k < a.length ∧ k < b.length
    · obtain ⟨hla, hlb⟩ := hlt
      obtain ⟨p, off, cap', hv2, c0, c1, c2⟩ := (ha.below hbw).get k hla
      injection hv2 with h1 h2 h3
      subst h1
      subst h3
      obtain ⟨p2, off2, cap2', hv3, d0, d1, d2⟩ := (hb.below hbw).get k hlb
      injection hv3 with h1 h2 h3
      subst h1
      subst h3
      have HO := Lib.hid (fun W => rorder_any a[k] b[k] W (hao _ (List.getElem_mem hla)) (hbo _ (List.getElem_mem hlb)))
      obtain ⟨u, hu⟩ : ∃ u, a[k] = u := ⟨_, rfl⟩
      obtain ⟨v, hv⟩ : ∃ v, b[k] = v := ⟨_, rfl⟩
      rw [hu] at c0 c1 c2
      rw [hv] at d0 d1 d2
      rw [hu, hv] at HO
      have e0 : ∀ p' : Regrown, (grow (redrawn wr p'.d) p'.os).cell? ⟨p, off + k * 3, none⟩ = some (.int .i64 u.k) := fun q => cell_regrown c0 q.d q.os
      have e1 : ∀ p' : Regrown, (grow (redrawn wr p'.d) p'.os).cell? ⟨p, off + k * 3 + 1, none⟩ = some (.int .i64 u.n) := fun q => cell_regrown c1 q.d q.os
      have e2 : ∀ p' : Regrown, (grow (redrawn wr p'.d) p'.os).cell? ⟨p, off + k * 3 + 2, none⟩ = some (.string u.s) := fun q => cell_regrown c2 q.d q.os
      have f0 : ∀ p' : Regrown, (grow (redrawn wr p'.d) p'.os).cell? ⟨p2, off2 + k * 3, none⟩ = some (.int .i64 v.k) := fun q => cell_regrown d0 q.d q.os
      have f1 : ∀ p' : Regrown, (grow (redrawn wr p'.d) p'.os).cell? ⟨p2, off2 + k * 3 + 1, none⟩ = some (.int .i64 v.n) := fun q => cell_regrown d1 q.d q.os
      have f2 : ∀ p' : Regrown, (grow (redrawn wr p'.d) p'.os).cell? ⟨p2, off2 + k * 3 + 2, none⟩ = some (.string v.s) := fun q => cell_regrown d2 q.d q.os
      by_cases hz : ordV u v = 0
      · have HQ2 : Hid (ordL a b = ordL (a.drop (k + 1)) (b.drop (k + 1))) := by show _ = _; rw [HQ.out, ordL_skip hla hlb (by rw [hu, hv]; exact hz)]
        rw [hz] at HO
        clear hz hu hv ha hb hao hbo c0 c1 c2 d0 d1 d2
        go_wp2_with fail
        refine wp_region_quiet_below (by kernel_rfl) (by kernel_rfl) ?_
        repeat (go_big_quiet_step ((go_at_call 45; exact Ret.regrown (HO.out _))))
        refine wpQuiet_nil ?_
        intro w2 hw2
        have hb2 := below_of_regrown hw2
        clear hw2 e0 e1 e2 f0 f1 f2
        go_wp2_with fail
        go_roundw
        case rel => exact ⟨k + 1, by omega, by omega, by go_num, hbw.next hb2, HQ2⟩
        case measure => simp [intOf]; omega
      · have HR : Hid (ordV u v = ordL a b) := by show _ = _; rw [HQ.out, ordL_here hla hlb (by rw [hu, hv]; exact hz), hu, hv]
        rw [HR.out] at HO hz
        have hzb : (ordL a b == 0) = false := by rw [beq_eq_false_iff_ne]; exact hz
        clear hz hu hv ha hb hao hbo c0 c1 c2 d0 d1 d2
        go_wp2_with fail
        refine wp_region_quiet_below (by kernel_rfl) (by kernel_rfl) ?_
        repeat (go_big_quiet_step ((go_at_call 45; exact Ret.regrown (HO.out _))))
        refine wpQuiet_nil ?_
        intro w2 hw2
        have hb2 := below_of_regrown hw2
        have g0 : ∀ p' : Regrown, (grow (redrawn w2 p'.d) p'.os).cell? ⟨p, off + k * 3, none⟩ = some (.int .i64 u.k) := fun q => by obtain ⟨r, rfl⟩ := hw2; exact cell_regrown (e0 r) q.d q.os
        have g1 : ∀ p' : Regrown, (grow (redrawn w2 p'.d) p'.os).cell? ⟨p, off + k * 3 + 1, none⟩ = some (.int .i64 u.n) := fun q => by obtain ⟨r, rfl⟩ := hw2; exact cell_regrown (e1 r) q.d q.os
        have g2 : ∀ p' : Regrown, (grow (redrawn w2 p'.d) p'.os).cell? ⟨p, off + k * 3 + 2, none⟩ = some (.string u.s) := fun q => by obtain ⟨r, rfl⟩ := hw2; exact cell_regrown (e2 r) q.d q.os
        have j0 : ∀ p' : Regrown, (grow (redrawn w2 p'.d) p'.os).cell? ⟨p2, off2 + k * 3, none⟩ = some (.int .i64 v.k) := fun q => by obtain ⟨r, rfl⟩ := hw2; exact cell_regrown (f0 r) q.d q.os
        have j1 : ∀ p' : Regrown, (grow (redrawn w2 p'.d) p'.os).cell? ⟨p2, off2 + k * 3 + 1, none⟩ = some (.int .i64 v.n) := fun q => by obtain ⟨r, rfl⟩ := hw2; exact cell_regrown (f1 r) q.d q.os
        have j2 : ∀ p' : Regrown, (grow (redrawn w2 p'.d) p'.os).cell? ⟨p2, off2 + k * 3 + 2, none⟩ = some (.string v.s) := fun q => by obtain ⟨r, rfl⟩ := hw2; exact cell_regrown (f2 r) q.d q.os
        clear hw2 e0 e1 e2 f0 f1 f2
        go_wp2_with fail
        refine wp_region_quiet_below (by kernel_rfl) (by kernel_rfl) ?_
        repeat (go_big_quiet_step ((go_at_call 45; exact Ret.regrown (HO.out _))))
        refine wpQuiet_nil ?_
        intro w3 hw3
        have hb3 := below_of_regrown hw3
        clear hw3 g0 g1 g2 j0 j1 j2
        go_wp2_with fail
        go_ret
        exact ⟨rfl, (hbw.next hb2).next hb3⟩
    · have HR : Hid (ordL a b = cmpI a.length b.length) := by show _ = _; rw [HQ.out, ordL_len hk hkb hlt]
      rw [← HR.out] at HI
      by_cases h1 : k < a.length
      · have h2 : ¬ k < b.length := fun h => hlt ⟨h1, h⟩
        clear hlt ha hb hao hbo
        go_wp2_with fail
        refine (HI.out _).mono ?_
        rintro e w2 ⟨rfl, rfl⟩
        go_wp2_with fail
        go_ret
        exact ⟨rfl, hbw⟩
      · clear hlt ha hb hao hbo
        go_wp2_with fail
        refine (HI.out _).mono ?_
        rintro e w2 ⟨rfl, rfl⟩
        go_wp2_with fail
        go_ret
        exact ⟨rfl, hbw⟩
end Go.Proofs.Ytcboeggfincakaa
