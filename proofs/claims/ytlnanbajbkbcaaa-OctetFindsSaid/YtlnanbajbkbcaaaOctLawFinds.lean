/- The walk of OctetFinds. -/
import Derived.Test.YtlnanbajbkbcaaaOctA
import Derived.Test.YtlnanbajbkbcaaaOctR
import Derived.Test.YtlnanbajbkbcaaaKitQ
import Derived.OpenShut
namespace Go.Proofs.Ytlnanbajbkbcaaa
set_option linter.unusedVariables false
set_option linter.unusedSimpArgs false
open Go.RowKit Go.Sort Go.BigFrame
open Oct (S beN putL U I getI sumN)
theorem openR_two (a b : List UInt8) (ha : a.length = 4) : openR (a ++ b) = if beN a = sumN b then (b, true) else ([], false) := by
  rw [openR, List.take_left' ha, List.drop_left' ha]
  by_cases h : beN a = sumN b
  · rw [if_pos h, if_pos ⟨by simp [ha], h⟩]
  · rw [if_neg h, if_neg (fun h2 => h h2.2)]
theorem beN_sum (l : List UInt8) : beN (putL (sumN l) 4) = sumN l := by
  have h2 := Oct.sumN_lt l
  have h5 : (256 : Nat) ^ 4 = 4294967296 := by decide
  rw [Oct.beN_putL, h5]; omega
theorem openR_turned (l : List UInt8) (at_ : Int) (mask : Nat) : openR (putL (sumN l) 4 ++ turnS l at_ mask) = if turnS l at_ mask = l then (l, true) else ([], false) := by
  rw [openR_two _ _ (Oct.putL_length _ _), beN_sum]
  by_cases h : turnS l at_ mask = l
  · rw [if_pos h, h]; simp
  · rw [if_neg h, if_neg (fun h2 => h ((turnS_sum l at_ mask).1 h2.symm))]
theorem openR_turned_sum (l : List UInt8) (at_ : Int) (mask : Nat) : openR (turnS (putL (sumN l) 4) at_ mask ++ l) = if turnS (putL (sumN l) 4) at_ mask = putL (sumN l) 4 then (l, true) else ([], false) := by
  rw [openR_two _ _ (by rw [turnS_length, Oct.putL_length])]
  by_cases h : turnS (putL (sumN l) 4) at_ mask = putL (sumN l) 4
  · rw [if_pos h, h, beN_sum]; simp
  · rw [if_neg h, if_neg]
    intro h2
    apply h
    apply Oct.putL_inj (by rw [turnS_length])
    rw [h2, beN_sum]
theorem seal_front (l : List UInt8) : (S (sealL l)).extract 0 4 = S (putL (sumN l) 4) := by
  apply ByteArray.ext
  apply Array.toList_inj.1
  have h1 : (putL (sumN l) 4).length = 4 := Oct.putL_length _ _
  simp [S, sealL, List.extract_eq_take_drop, List.take_left' h1]
theorem seal_back (l : List UInt8) : (S (sealL l)).extract 4 (S (sealL l)).size = S l := by
  have h := drop4 (S (sealL l))
  rw [Oct.S_data] at h
  have h1 : (putL (sumN l) 4).length = 4 := Oct.putL_length _ _
  rw [sealL, List.drop_left' h1] at h
  rw [← Oct.S_of ((S (sealL l)).extract 4 (S (sealL l)).size), sealL, h]
theorem finds_yy (s : ByteArray) (at_ : Int) (mask : Nat) (w : World) (hs : s.size ≤ 4000) (h1 : (Lit.int .i64 at_).wf = true) (hm : mask < 4294967296) (l a b q : List UInt8) 
    (HL : Hid (l = s.data.toList)) (HA : Hid (turnS l at_ mask = a)) (HQ : Hid (q = putL (sumN l) 4)) (HB : Hid (turnS q at_ mask = b)) (HR1 : Hid (openR (q ++ a) = (l, true))) (HR2 : Hid (openR (b ++ l) = (l, true))) (hal : (a == l) = true) (hbq : (b == q) = true) (hl : l.length ≤ 4000) (hal2 : a.length ≤ 4000) (hbl : b.length ≤ 4) (hql : q.length ≤ 4) :
    Calls Try.prog 6 #[.string s, .int .i64 at_, .int .u32 mask] w (Ret (.bool true) w) := by
  obtain ⟨t, HT⟩ : ∃ t, Hid (t = S (sealL l)) := ⟨_, rfl⟩
  have HF : Hid (t.extract 0 4 = S q) := by show _ = _; rw [HT.out, seal_front, HQ.out]
  have HBk : Hid (t.extract 4 t.size = S l) := by show _ = _; rw [HT.out, seal_back]
  have ht : 4 ≤ t.size := by rw [HT.out, Oct.S_size, sealL]; simp [Oct.putL_length]
  have ht2 : t.size ≤ 5000 := by rw [HT.out, Oct.S_size, sealL]; simp [Oct.putL_length]; omega
  have hz1 : (S q).size + (S a).size ≤ 9223372036854775807 := by rw [Oct.S_size, Oct.S_size]; omega
  have hz2 : (S b).size + (S l).size ≤ 9223372036854775807 := by rw [Oct.S_size, Oct.S_size]; omega
  have cT : Hid (∀ w, Calls Try.prog 19 #[.string (S l), .int .i64 at_, .int .u32 mask] w (Ret (.string (S a)) w)) := by
    intro w; have := turned_any (S l) at_ mask w (by rw [Oct.S_size]; omega) hm; rw [Oct.S_data, HA.out] at this; exact this
  have cU : Hid (∀ w, Calls Try.prog 19 #[.string (S q), .int .i64 at_, .int .u32 mask] w (Ret (.string (S b)) w)) := by
    intro w; have := turned_any (S q) at_ mask w (by rw [Oct.S_size]; omega) hm; rw [Oct.S_data, HB.out] at this; exact this
  have cO : Hid (∀ w, Calls Try.prog 13 #[.string (S q ++ S a)] w (Ret (.tuple #[.string (S l), .bool true]) w)) := by
    intro w; have := open_any (S (q ++ a)) w (by rw [Oct.S_size, List.length_append]; unfold maxLen; omega); rw [Oct.S_data, HR1.out] at this; rw [Oct.S_append]; exact this
  have cP : Hid (∀ w, Calls Try.prog 13 #[.string (S b ++ S l)] w (Ret (.tuple #[.string (S l), .bool true]) w)) := by
    intro w; have := open_any (S (b ++ l)) w (by rw [Oct.S_size, List.length_append]; unfold maxLen; omega); rw [Oct.S_data, HR2.out] at this; rw [Oct.S_append]; exact this
  go_enter Try.func6, Try.ntmps6
  go_wp2_with fail
  refine (awake_any _).mono ?_
  rintro e w1 ⟨rfl, hb1⟩
  go_wp2_with fail
  refine (seal_any s _ (by omega)).mono ?_
  rintro e w5 ⟨rfl, hb⟩
  replace hb1 := hb1.next hb; clear hb
  rw [← HL.out, ← HT.out]
  go_wp2_with fail
  have e1 := HF.out
  have e2 := HBk.out
  refine wp_region_quiet_below (by kernel_rfl) (by kernel_rfl) ?_
  repeat (go_big_quiet_step (first | (go_at_call 19; exact Ret.regrown (cT.out _)) | (go_at_call 13; exact Ret.regrown (cO.out _))))
  refine wpQuiet_nil ?_
  intro w2 hw2
  replace hb1 := hb1.next (below_of_regrown hw2)
  clear hw2
  go_wp2_with fail
  refine wp_region_quiet_below (by kernel_rfl) (by kernel_rfl) ?_
  repeat (go_big_quiet_step ((go_at_call 19; exact Ret.regrown (cT.out _))))
  refine wpQuiet_nil ?_
  intro w3 hw2
  replace hb1 := hb1.next (below_of_regrown hw2)
  clear hw2
  go_wp2_with fail
  refine wp_region_quiet_below (by kernel_rfl) (by kernel_rfl) ?_
  repeat (go_big_quiet_step (first | (go_at_call 19; exact Ret.regrown (cU.out _)) | (go_at_call 13; exact Ret.regrown (cP.out _))))
  refine wpQuiet_nil ?_
  intro w4 hw2
  replace hb1 := hb1.next (below_of_regrown hw2)
  clear hw2
  go_wp2_with fail
  refine wp_region_quiet_below (by kernel_rfl) (by kernel_rfl) ?_
  repeat (go_big_quiet_step ((go_at_call 19; exact Ret.regrown (cU.out _))))
  refine wpQuiet_nil ?_
  intro w5 hw2
  replace hb1 := hb1.next (below_of_regrown hw2)
  clear hw2
  go_wp2_with fail
  go_ret
  exact ⟨rfl, hb1⟩
theorem finds_yn (s : ByteArray) (at_ : Int) (mask : Nat) (w : World) (hs : s.size ≤ 4000) (h1 : (Lit.int .i64 at_).wf = true) (hm : mask < 4294967296) (l a b q : List UInt8) 
    (HL : Hid (l = s.data.toList)) (HA : Hid (turnS l at_ mask = a)) (HQ : Hid (q = putL (sumN l) 4)) (HB : Hid (turnS q at_ mask = b)) (HR1 : Hid (openR (q ++ a) = (l, true))) (HR2 : Hid (openR (b ++ l) = ([], false))) (hal : (a == l) = true) (hbq : (b == q) = false) (hl : l.length ≤ 4000) (hal2 : a.length ≤ 4000) (hbl : b.length ≤ 4) (hql : q.length ≤ 4) :
    Calls Try.prog 6 #[.string s, .int .i64 at_, .int .u32 mask] w (Ret (.bool true) w) := by
  obtain ⟨t, HT⟩ : ∃ t, Hid (t = S (sealL l)) := ⟨_, rfl⟩
  have HF : Hid (t.extract 0 4 = S q) := by show _ = _; rw [HT.out, seal_front, HQ.out]
  have HBk : Hid (t.extract 4 t.size = S l) := by show _ = _; rw [HT.out, seal_back]
  have ht : 4 ≤ t.size := by rw [HT.out, Oct.S_size, sealL]; simp [Oct.putL_length]
  have ht2 : t.size ≤ 5000 := by rw [HT.out, Oct.S_size, sealL]; simp [Oct.putL_length]; omega
  have hz1 : (S q).size + (S a).size ≤ 9223372036854775807 := by rw [Oct.S_size, Oct.S_size]; omega
  have hz2 : (S b).size + (S l).size ≤ 9223372036854775807 := by rw [Oct.S_size, Oct.S_size]; omega
  have cT : Hid (∀ w, Calls Try.prog 19 #[.string (S l), .int .i64 at_, .int .u32 mask] w (Ret (.string (S a)) w)) := by
    intro w; have := turned_any (S l) at_ mask w (by rw [Oct.S_size]; omega) hm; rw [Oct.S_data, HA.out] at this; exact this
  have cU : Hid (∀ w, Calls Try.prog 19 #[.string (S q), .int .i64 at_, .int .u32 mask] w (Ret (.string (S b)) w)) := by
    intro w; have := turned_any (S q) at_ mask w (by rw [Oct.S_size]; omega) hm; rw [Oct.S_data, HB.out] at this; exact this
  have cO : Hid (∀ w, Calls Try.prog 13 #[.string (S q ++ S a)] w (Ret (.tuple #[.string (S l), .bool true]) w)) := by
    intro w; have := open_any (S (q ++ a)) w (by rw [Oct.S_size, List.length_append]; unfold maxLen; omega); rw [Oct.S_data, HR1.out] at this; rw [Oct.S_append]; exact this
  have cP : Hid (∀ w, Calls Try.prog 13 #[.string (S b ++ S l)] w (Ret (.tuple #[.string (S []), .bool false]) w)) := by
    intro w; have := open_any (S (b ++ l)) w (by rw [Oct.S_size, List.length_append]; unfold maxLen; omega); rw [Oct.S_data, HR2.out] at this; rw [Oct.S_append]; exact this
  go_enter Try.func6, Try.ntmps6
  go_wp2_with fail
  refine (awake_any _).mono ?_
  rintro e w1 ⟨rfl, hb1⟩
  go_wp2_with fail
  refine (seal_any s _ (by omega)).mono ?_
  rintro e w5 ⟨rfl, hb⟩
  replace hb1 := hb1.next hb; clear hb
  rw [← HL.out, ← HT.out]
  go_wp2_with fail
  have e1 := HF.out
  have e2 := HBk.out
  refine wp_region_quiet_below (by kernel_rfl) (by kernel_rfl) ?_
  repeat (go_big_quiet_step (first | (go_at_call 19; exact Ret.regrown (cT.out _)) | (go_at_call 13; exact Ret.regrown (cO.out _))))
  refine wpQuiet_nil ?_
  intro w2 hw2
  replace hb1 := hb1.next (below_of_regrown hw2)
  clear hw2
  go_wp2_with fail
  refine wp_region_quiet_below (by kernel_rfl) (by kernel_rfl) ?_
  repeat (go_big_quiet_step ((go_at_call 19; exact Ret.regrown (cT.out _))))
  refine wpQuiet_nil ?_
  intro w3 hw2
  replace hb1 := hb1.next (below_of_regrown hw2)
  clear hw2
  go_wp2_with fail
  refine wp_region_quiet_below (by kernel_rfl) (by kernel_rfl) ?_
  repeat (go_big_quiet_step (first | (go_at_call 19; exact Ret.regrown (cU.out _)) | (go_at_call 13; exact Ret.regrown (cP.out _))))
  refine wpQuiet_nil ?_
  intro w4 hw2
  replace hb1 := hb1.next (below_of_regrown hw2)
  clear hw2
  go_wp2_with fail
  refine wp_region_quiet_below (by kernel_rfl) (by kernel_rfl) ?_
  repeat (go_big_quiet_step ((go_at_call 19; exact Ret.regrown (cU.out _))))
  refine wpQuiet_nil ?_
  intro w5 hw2
  replace hb1 := hb1.next (below_of_regrown hw2)
  clear hw2
  go_wp2_with fail
  go_ret
  exact ⟨rfl, hb1⟩
theorem finds_ny (s : ByteArray) (at_ : Int) (mask : Nat) (w : World) (hs : s.size ≤ 4000) (h1 : (Lit.int .i64 at_).wf = true) (hm : mask < 4294967296) (l a b q : List UInt8) 
    (HL : Hid (l = s.data.toList)) (HA : Hid (turnS l at_ mask = a)) (HQ : Hid (q = putL (sumN l) 4)) (HB : Hid (turnS q at_ mask = b)) (HR1 : Hid (openR (q ++ a) = ([], false))) (HR2 : Hid (openR (b ++ l) = (l, true))) (hal : (a == l) = false) (hbq : (b == q) = true) (hl : l.length ≤ 4000) (hal2 : a.length ≤ 4000) (hbl : b.length ≤ 4) (hql : q.length ≤ 4) :
    Calls Try.prog 6 #[.string s, .int .i64 at_, .int .u32 mask] w (Ret (.bool true) w) := by
  obtain ⟨t, HT⟩ : ∃ t, Hid (t = S (sealL l)) := ⟨_, rfl⟩
  have HF : Hid (t.extract 0 4 = S q) := by show _ = _; rw [HT.out, seal_front, HQ.out]
  have HBk : Hid (t.extract 4 t.size = S l) := by show _ = _; rw [HT.out, seal_back]
  have ht : 4 ≤ t.size := by rw [HT.out, Oct.S_size, sealL]; simp [Oct.putL_length]
  have ht2 : t.size ≤ 5000 := by rw [HT.out, Oct.S_size, sealL]; simp [Oct.putL_length]; omega
  have hz1 : (S q).size + (S a).size ≤ 9223372036854775807 := by rw [Oct.S_size, Oct.S_size]; omega
  have hz2 : (S b).size + (S l).size ≤ 9223372036854775807 := by rw [Oct.S_size, Oct.S_size]; omega
  have cT : Hid (∀ w, Calls Try.prog 19 #[.string (S l), .int .i64 at_, .int .u32 mask] w (Ret (.string (S a)) w)) := by
    intro w; have := turned_any (S l) at_ mask w (by rw [Oct.S_size]; omega) hm; rw [Oct.S_data, HA.out] at this; exact this
  have cU : Hid (∀ w, Calls Try.prog 19 #[.string (S q), .int .i64 at_, .int .u32 mask] w (Ret (.string (S b)) w)) := by
    intro w; have := turned_any (S q) at_ mask w (by rw [Oct.S_size]; omega) hm; rw [Oct.S_data, HB.out] at this; exact this
  have cO : Hid (∀ w, Calls Try.prog 13 #[.string (S q ++ S a)] w (Ret (.tuple #[.string (S []), .bool false]) w)) := by
    intro w; have := open_any (S (q ++ a)) w (by rw [Oct.S_size, List.length_append]; unfold maxLen; omega); rw [Oct.S_data, HR1.out] at this; rw [Oct.S_append]; exact this
  have cP : Hid (∀ w, Calls Try.prog 13 #[.string (S b ++ S l)] w (Ret (.tuple #[.string (S l), .bool true]) w)) := by
    intro w; have := open_any (S (b ++ l)) w (by rw [Oct.S_size, List.length_append]; unfold maxLen; omega); rw [Oct.S_data, HR2.out] at this; rw [Oct.S_append]; exact this
  go_enter Try.func6, Try.ntmps6
  go_wp2_with fail
  refine (awake_any _).mono ?_
  rintro e w1 ⟨rfl, hb1⟩
  go_wp2_with fail
  refine (seal_any s _ (by omega)).mono ?_
  rintro e w5 ⟨rfl, hb⟩
  replace hb1 := hb1.next hb; clear hb
  rw [← HL.out, ← HT.out]
  go_wp2_with fail
  have e1 := HF.out
  have e2 := HBk.out
  refine wp_region_quiet_below (by kernel_rfl) (by kernel_rfl) ?_
  repeat (go_big_quiet_step (first | (go_at_call 19; exact Ret.regrown (cT.out _)) | (go_at_call 13; exact Ret.regrown (cO.out _))))
  refine wpQuiet_nil ?_
  intro w2 hw2
  replace hb1 := hb1.next (below_of_regrown hw2)
  clear hw2
  go_wp2_with fail
  refine wp_region_quiet_below (by kernel_rfl) (by kernel_rfl) ?_
  repeat (go_big_quiet_step ((go_at_call 19; exact Ret.regrown (cT.out _))))
  refine wpQuiet_nil ?_
  intro w3 hw2
  replace hb1 := hb1.next (below_of_regrown hw2)
  clear hw2
  go_wp2_with fail
  refine wp_region_quiet_below (by kernel_rfl) (by kernel_rfl) ?_
  repeat (go_big_quiet_step (first | (go_at_call 19; exact Ret.regrown (cU.out _)) | (go_at_call 13; exact Ret.regrown (cP.out _))))
  refine wpQuiet_nil ?_
  intro w4 hw2
  replace hb1 := hb1.next (below_of_regrown hw2)
  clear hw2
  go_wp2_with fail
  refine wp_region_quiet_below (by kernel_rfl) (by kernel_rfl) ?_
  repeat (go_big_quiet_step ((go_at_call 19; exact Ret.regrown (cU.out _))))
  refine wpQuiet_nil ?_
  intro w5 hw2
  replace hb1 := hb1.next (below_of_regrown hw2)
  clear hw2
  go_wp2_with fail
  go_ret
  exact ⟨rfl, hb1⟩
theorem finds_nn (s : ByteArray) (at_ : Int) (mask : Nat) (w : World) (hs : s.size ≤ 4000) (h1 : (Lit.int .i64 at_).wf = true) (hm : mask < 4294967296) (l a b q : List UInt8) 
    (HL : Hid (l = s.data.toList)) (HA : Hid (turnS l at_ mask = a)) (HQ : Hid (q = putL (sumN l) 4)) (HB : Hid (turnS q at_ mask = b)) (HR1 : Hid (openR (q ++ a) = ([], false))) (HR2 : Hid (openR (b ++ l) = ([], false))) (hal : (a == l) = false) (hbq : (b == q) = false) (hl : l.length ≤ 4000) (hal2 : a.length ≤ 4000) (hbl : b.length ≤ 4) (hql : q.length ≤ 4) :
    Calls Try.prog 6 #[.string s, .int .i64 at_, .int .u32 mask] w (Ret (.bool true) w) := by
  obtain ⟨t, HT⟩ : ∃ t, Hid (t = S (sealL l)) := ⟨_, rfl⟩
  have HF : Hid (t.extract 0 4 = S q) := by show _ = _; rw [HT.out, seal_front, HQ.out]
  have HBk : Hid (t.extract 4 t.size = S l) := by show _ = _; rw [HT.out, seal_back]
  have ht : 4 ≤ t.size := by rw [HT.out, Oct.S_size, sealL]; simp [Oct.putL_length]
  have ht2 : t.size ≤ 5000 := by rw [HT.out, Oct.S_size, sealL]; simp [Oct.putL_length]; omega
  have hz1 : (S q).size + (S a).size ≤ 9223372036854775807 := by rw [Oct.S_size, Oct.S_size]; omega
  have hz2 : (S b).size + (S l).size ≤ 9223372036854775807 := by rw [Oct.S_size, Oct.S_size]; omega
  have cT : Hid (∀ w, Calls Try.prog 19 #[.string (S l), .int .i64 at_, .int .u32 mask] w (Ret (.string (S a)) w)) := by
    intro w; have := turned_any (S l) at_ mask w (by rw [Oct.S_size]; omega) hm; rw [Oct.S_data, HA.out] at this; exact this
  have cU : Hid (∀ w, Calls Try.prog 19 #[.string (S q), .int .i64 at_, .int .u32 mask] w (Ret (.string (S b)) w)) := by
    intro w; have := turned_any (S q) at_ mask w (by rw [Oct.S_size]; omega) hm; rw [Oct.S_data, HB.out] at this; exact this
  have cO : Hid (∀ w, Calls Try.prog 13 #[.string (S q ++ S a)] w (Ret (.tuple #[.string (S []), .bool false]) w)) := by
    intro w; have := open_any (S (q ++ a)) w (by rw [Oct.S_size, List.length_append]; unfold maxLen; omega); rw [Oct.S_data, HR1.out] at this; rw [Oct.S_append]; exact this
  have cP : Hid (∀ w, Calls Try.prog 13 #[.string (S b ++ S l)] w (Ret (.tuple #[.string (S []), .bool false]) w)) := by
    intro w; have := open_any (S (b ++ l)) w (by rw [Oct.S_size, List.length_append]; unfold maxLen; omega); rw [Oct.S_data, HR2.out] at this; rw [Oct.S_append]; exact this
  go_enter Try.func6, Try.ntmps6
  go_wp2_with fail
  refine (awake_any _).mono ?_
  rintro e w1 ⟨rfl, hb1⟩
  go_wp2_with fail
  refine (seal_any s _ (by omega)).mono ?_
  rintro e w5 ⟨rfl, hb⟩
  replace hb1 := hb1.next hb; clear hb
  rw [← HL.out, ← HT.out]
  go_wp2_with fail
  have e1 := HF.out
  have e2 := HBk.out
  refine wp_region_quiet_below (by kernel_rfl) (by kernel_rfl) ?_
  repeat (go_big_quiet_step (first | (go_at_call 19; exact Ret.regrown (cT.out _)) | (go_at_call 13; exact Ret.regrown (cO.out _))))
  refine wpQuiet_nil ?_
  intro w2 hw2
  replace hb1 := hb1.next (below_of_regrown hw2)
  clear hw2
  go_wp2_with fail
  refine wp_region_quiet_below (by kernel_rfl) (by kernel_rfl) ?_
  repeat (go_big_quiet_step ((go_at_call 19; exact Ret.regrown (cT.out _))))
  refine wpQuiet_nil ?_
  intro w3 hw2
  replace hb1 := hb1.next (below_of_regrown hw2)
  clear hw2
  go_wp2_with fail
  refine wp_region_quiet_below (by kernel_rfl) (by kernel_rfl) ?_
  repeat (go_big_quiet_step (first | (go_at_call 19; exact Ret.regrown (cU.out _)) | (go_at_call 13; exact Ret.regrown (cP.out _))))
  refine wpQuiet_nil ?_
  intro w4 hw2
  replace hb1 := hb1.next (below_of_regrown hw2)
  clear hw2
  go_wp2_with fail
  refine wp_region_quiet_below (by kernel_rfl) (by kernel_rfl) ?_
  repeat (go_big_quiet_step ((go_at_call 19; exact Ret.regrown (cU.out _))))
  refine wpQuiet_nil ?_
  intro w5 hw2
  replace hb1 := hb1.next (below_of_regrown hw2)
  clear hw2
  go_wp2_with fail
  go_ret
  exact ⟨rfl, hb1⟩
theorem walk_OctetFinds (s : ByteArray) (at_ mask : Int) (w : World) (hs : s.size ≤ 140737488351232) (h1 : (Lit.int .i64 at_).wf = true) (h2 : (Lit.int .u32 mask).wf = true) :
    Calls Try.prog 6 #[.string s, .int .i64 at_, .int .u32 mask] w (Ret (.bool true) w) := by
  by_cases h4 : s.size ≤ 4000
  · have hm := Go.bounds_u32 h2
    obtain ⟨m, rfl⟩ := Int.eq_ofNat_of_zero_le hm.1
    have hl : s.data.toList.length ≤ 4000 := by simp; exact h4
    have hq : (putL (sumN s.data.toList) 4).length = 4 := Oct.putL_length _ _
    have ha : (turnS s.data.toList at_ m).length ≤ 4000 := by rw [turnS_length]; exact hl
    have hb : (turnS (putL (sumN s.data.toList) 4) at_ m).length ≤ 4 := by rw [turnS_length, hq]; exact Nat.le_refl _
    have r1 := openR_turned s.data.toList at_ m
    have r2 := openR_turned_sum s.data.toList at_ m
    by_cases e1 : turnS s.data.toList at_ m = s.data.toList <;> by_cases e2 : turnS (putL (sumN s.data.toList) 4) at_ m = putL (sumN s.data.toList) 4
    · rw [if_pos e1] at r1; rw [if_pos e2] at r2
      exact finds_yy s at_ m w h4 h1 (by omega) _ _ _ _ rfl rfl rfl rfl r1 r2 (by simpa using e1) (by simpa using e2) hl ha hb (by omega)
    · rw [if_pos e1] at r1; rw [if_neg e2] at r2
      exact finds_yn s at_ m w h4 h1 (by omega) _ _ _ _ rfl rfl rfl rfl r1 r2 (by simpa using e1) (by simpa using e2) hl ha hb (by omega)
    · rw [if_neg e1] at r1; rw [if_pos e2] at r2
      exact finds_ny s at_ m w h4 h1 (by omega) _ _ _ _ rfl rfl rfl rfl r1 r2 (by simpa using e1) (by simpa using e2) hl ha hb (by omega)
    · rw [if_neg e1] at r1; rw [if_neg e2] at r2
      exact finds_nn s at_ m w h4 h1 (by omega) _ _ _ _ rfl rfl rfl rfl r1 r2 (by simpa using e1) (by simpa using e2) hl ha hb (by omega)
  · go_enter Try.func6, Try.ntmps6
    go_wp2_with fail
    refine (awake_any _).mono ?_
    rintro e w1 ⟨rfl, hb1⟩
    go_wp2_with fail
    refine (awake_any _).mono ?_
    rintro e w2 ⟨rfl, hb⟩
    replace hb1 := hb1.next hb; clear hb
    go_wp2_with fail
    go_ret
    exact ⟨rfl, hb1⟩
end Go.Proofs.Ytlnanbajbkbcaaa
