/- The walk of OctetTexts. -/
import Derived.Test.YtlnanbajbkbcaaaOctA
namespace Go.Proofs.Ytlnanbajbkbcaaa
set_option linter.unusedVariables false
set_option linter.unusedSimpArgs false
open Go.RowKit
open Oct (S beN putL U I getI sumN)
theorem textR_put (m l n : List UInt8) : textR (m ++ textL l ++ n) (m.length : Nat) = (l.take 65535, (m.length : Int) + 2 + (l.take 65535).length, true) := by
  have hk : (l.take 65535).length ≤ 65535 := by simp; omega
  have h1 : (putL (l.take 65535).length 2).length = 2 := Oct.putL_length _ _
  have h5 : (256 : Nat) ^ 2 = 65536 := by decide
  have e0 : m ++ textL l ++ n = m ++ (putL (l.take 65535).length 2 ++ (l.take 65535 ++ n)) := by simp [textL]
  have e1 : ((m ++ textL l ++ n).drop m.length).take 2 = putL (l.take 65535).length 2 := by
    rw [e0, List.drop_left, List.take_left' h1]
  have e2 : (m ++ textL l ++ n).drop (m.length + 2) = l.take 65535 ++ n := by
    rw [e0, ← List.drop_drop, List.drop_left, List.drop_left' h1]
  have e3 : beN (putL (l.take 65535).length 2) = (l.take 65535).length := by
    rw [Oct.beN_putL, h5]; exact Nat.mod_eq_of_lt (by omega)
  rw [textR, Int.toNat_natCast, e1, e2, e3, if_pos, List.take_left]
  refine ⟨by omega, ?_, ?_⟩
  · rw [e0]; simp only [List.length_append, h1]; omega
  · rw [e0]; simp only [List.length_append, h1]; omega
theorem data_append (a b : ByteArray) : (a ++ b).data.toList = a.data.toList ++ b.data.toList := by simp
theorem walk_OctetTexts (s : ByteArray) (at_ : Int) (more : ByteArray) (w : World) (hs : s.size ≤ 140737488351232) (h1 : (Lit.int .i64 at_).wf = true) (hm : more.size ≤ 140737488351232) :
    Calls Try.prog 7 #[.string s, .int .i64 at_, .string more] w (Ret (.bool true) w) := by
  obtain ⟨r, HR⟩ : ∃ r, Hid (r = textR s.data.toList at_) := ⟨_, rfl⟩
  obtain ⟨x, k, b⟩ := r
  obtain ⟨t, HT⟩ : ∃ t, Hid (t = textL s.data.toList) := ⟨_, rfl⟩
  have HZ : t.length ≤ 65537 := by rw [HT.out, textL]; simp [Oct.putL_length]; omega
  have HO : Hid (textR (more.data.toList ++ t ++ more.data.toList) (more.size : Int) = (s.data.toList.take 65535, (more.size : Int) + 2 + (s.data.toList.take 65535).length, true)) := by
    show _ = _
    have := textR_put more.data.toList s.data.toList more.data.toList
    rw [HT.out]
    have e : more.data.toList.length = more.size := by simp
    rw [e] at this
    exact this
  have HW : (Lit.int .i64 (more.size : Int)).wf = true := WalkArith.wf_i64 (by omega)
  have HST := Oct.S_size t
  have hst : (S t).size ≤ 65537 := by omega
  clear HST
  have hlarge : ((more ++ S t) ++ more).size ≤ maxLen := by unfold maxLen; simp [ByteArray.size_append]; omega
  by_cases hlt : s.size ≤ 65535
  · have HT2 : Hid (s.data.toList.take 65535 = s.data.toList) := by
      show _ = _
      exact List.take_of_length_le (by simp; exact hlt)
    have HN : Hid (s.data.toList.length = s.size) := by show _ = _; simp
    go_enter Try.func7, Try.ntmps7
    go_wp2_with fail
    refine (gettext_any s at_ _ (by unfold maxLen; omega) h1).mono ?_
    rintro e w1 ⟨rfl, hb1⟩
    rw [← HR.out]
    go_wp2_with fail
    refine (rgettext_any s at_ _ (by unfold maxLen; omega) h1).mono ?_
    rintro e w2 ⟨rfl, hb⟩
    replace hb1 := hb1.next hb; clear hb
    rw [← HR.out]
    go_wp2_with fail
    refine (awake_any _).mono ?_
    rintro e w5 ⟨rfl, hb⟩
    replace hb1 := hb1.next hb; clear hb
    go_wp2_with fail
    refine (puttext_any s _ (by unfold maxLen; omega)).mono ?_
    rintro e w5 ⟨rfl, hb⟩
    replace hb1 := hb1.next hb; clear hb
    go_wp2_with fail
    refine (rputtext_any s _ (by unfold maxLen; omega)).mono ?_
    rintro e w5 ⟨rfl, hb⟩
    replace hb1 := hb1.next hb; clear hb
    go_wp2_with fail
    refine (puttext_any s _ (by unfold maxLen; omega)).mono ?_
    rintro e w5 ⟨rfl, hb⟩
    replace hb1 := hb1.next hb; clear hb
    rw [← HT.out]
    go_wp2_with fail
    refine (gettext_any (more ++ S t ++ more) _ _ hlarge HW).mono ?_
    rintro e w5 ⟨rfl, hb⟩
    replace hb1 := hb1.next hb; clear hb
    rw [data_append, data_append, Oct.S_data, HO.out]
    rw [HT2.out, Oct.S_of, HN.out]
    go_wp2_with fail
    go_ret
    exact ⟨rfl, hb1⟩
  · have HS : Hid (S (s.data.toList.take 65535) = s.extract 0 65535) := by
      show _ = _
      apply ByteArray.ext
      apply Array.toList_inj.1
      simp [S, List.extract_eq_take_drop]
    go_enter Try.func7, Try.ntmps7
    go_wp2_with fail
    refine (gettext_any s at_ _ (by unfold maxLen; omega) h1).mono ?_
    rintro e w1 ⟨rfl, hb1⟩
    rw [← HR.out]
    go_wp2_with fail
    refine (rgettext_any s at_ _ (by unfold maxLen; omega) h1).mono ?_
    rintro e w2 ⟨rfl, hb⟩
    replace hb1 := hb1.next hb; clear hb
    rw [← HR.out]
    go_wp2_with fail
    refine (awake_any _).mono ?_
    rintro e w5 ⟨rfl, hb⟩
    replace hb1 := hb1.next hb; clear hb
    go_wp2_with fail
    refine (puttext_any s _ (by unfold maxLen; omega)).mono ?_
    rintro e w5 ⟨rfl, hb⟩
    replace hb1 := hb1.next hb; clear hb
    go_wp2_with fail
    refine (rputtext_any s _ (by unfold maxLen; omega)).mono ?_
    rintro e w5 ⟨rfl, hb⟩
    replace hb1 := hb1.next hb; clear hb
    go_wp2_with fail
    refine (puttext_any s _ (by unfold maxLen; omega)).mono ?_
    rintro e w5 ⟨rfl, hb⟩
    replace hb1 := hb1.next hb; clear hb
    rw [← HT.out]
    go_wp2_with fail
    refine (gettext_any (more ++ S t ++ more) _ _ hlarge HW).mono ?_
    rintro e w5 ⟨rfl, hb⟩
    replace hb1 := hb1.next hb; clear hb
    rw [data_append, data_append, Oct.S_data, HO.out]
    rw [HS.out]
    go_wp2_with fail
    go_ret
    exact ⟨rfl, hb1⟩
end Go.Proofs.Ytlnanbajbkbcaaa
