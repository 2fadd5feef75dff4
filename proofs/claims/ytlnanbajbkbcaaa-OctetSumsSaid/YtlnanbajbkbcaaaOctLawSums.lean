/- The walks of OctetSums and OctetTexts. -/
import Derived.Test.YtlnanbajbkbcaaaOctA
namespace Go.Proofs.Ytlnanbajbkbcaaa
set_option linter.unusedVariables false
set_option linter.unusedSimpArgs false
open Go.RowKit
open Oct (S beN putL U I getI sumN)
theorem openR_seal (l : List UInt8) : openR (sealL l) = (l, true) := by
  have h1 : (putL (sumN l) 4).length = 4 := Oct.putL_length _ _
  have h2 := Oct.sumN_lt l
  have h3 : (sealL l).take 4 = putL (sumN l) 4 := by
    rw [sealL]
    exact List.take_left' h1
  have h4 : (sealL l).drop 4 = l := by
    rw [sealL]
    exact List.drop_left' h1
  have h5 : (256 : Nat) ^ 4 = 4294967296 := by decide
  rw [openR, if_pos, h4]
  refine ⟨by simp [sealL, h1], ?_⟩
  rw [h3, h4, Oct.beN_putL, h5]
  omega
theorem walk_OctetSums (s : ByteArray) (w : World) (hs : s.size ≤ 140737488351232) :
    Calls Try.prog 5 #[.string s] w (Ret (.bool true) w) := by
  obtain ⟨r, HR⟩ : ∃ r, Hid (r = openR s.data.toList) := ⟨_, rfl⟩
  obtain ⟨x, b⟩ := r
  obtain ⟨t, HT⟩ : ∃ t, Hid (t = sealL s.data.toList) := ⟨_, rfl⟩
  have HO : Hid (openR t = (s.data.toList, true)) := by show _ = _; rw [HT.out, openR_seal]
  have HZ : t.length ≤ 140737488351236 := by rw [HT.out, sealL]; simp [Oct.putL_length]; omega
  go_enter Try.func5, Try.ntmps5
  go_wp2_with fail
  refine (open_any s _ (by unfold maxLen; omega)).mono ?_
  rintro e w1 ⟨rfl, hb1⟩
  rw [← HR.out]
  go_wp2_with fail
  refine (ropen_any s _ (by unfold maxLen; omega)).mono ?_
  rintro e w2 ⟨rfl, hb⟩
  replace hb1 := hb1.next hb; clear hb
  rw [← HR.out]
  go_wp2_with fail
  refine (seal_any s _ (by omega)).mono ?_
  rintro e w3 ⟨rfl, hb⟩
  replace hb1 := hb1.next hb; clear hb
  rw [← HT.out]
  go_wp2_with fail
  refine (open_any (S t) _ (by rw [Oct.S_size]; unfold maxLen; omega)).mono ?_
  rintro e w4 ⟨rfl, hb⟩
  replace hb1 := hb1.next hb; clear hb
  rw [Oct.S_data, HO.out, Oct.S_of s]
  go_wp2_with fail
  refine (awake_any _).mono ?_
  rintro e w5 ⟨rfl, hb⟩
  replace hb1 := hb1.next hb; clear hb
  go_wp2_with fail
  refine (sum_any s _ (by unfold maxLen; omega)).mono ?_
  rintro e w6 ⟨rfl, rfl⟩
  go_wp2_with fail
  refine (rsum_any s _ (by unfold maxLen; omega)).mono ?_
  rintro e w6 ⟨rfl, rfl⟩
  go_wp2_with fail
  refine (seal_any s _ (by omega)).mono ?_
  rintro e w6 ⟨rfl, hb⟩
  replace hb1 := hb1.next hb; clear hb
  go_wp2_with fail
  refine (rseal_any s _ (by omega)).mono ?_
  rintro e w7 ⟨rfl, hb⟩
  replace hb1 := hb1.next hb; clear hb
  go_wp2_with fail
  go_ret
  exact ⟨rfl, hb1⟩
end Go.Proofs.Ytlnanbajbkbcaaa
