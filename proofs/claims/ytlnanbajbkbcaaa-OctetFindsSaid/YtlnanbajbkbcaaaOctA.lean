/- The law's own examples hold. -/
import Derived.Test.YtlnanbajbkbcaaaOctX
namespace Go.Proofs.Ytlnanbajbkbcaaa
set_option linter.unusedVariables false
set_option linter.unusedSimpArgs false
open Go.RowKit
open Oct (S beN putL U I getI sumN)
theorem ex1 : getR [255, 255] 0 2 = (65535, true) := by decide +kernel
theorem ex2 : openR (sealL [97, 98]) = ([97, 98], true) := by decide +kernel
theorem ex3 : putL (U 258) 3 = [0, 1, 2] := by decide +kernel
theorem ex4 : sumN [49, 50, 51, 52, 53, 54, 55, 56, 57] = 3421780262 := by decide +kernel
theorem ex5 : textL [97, 98] = [0, 2, 97, 98] := by decide +kernel
theorem awake_any (w : World) : Calls Try.prog 9 #[] w (Ret (.bool true) w) := by
  have e1 := Lib.hid ex1
  have e2 := Lib.hid ex2
  go_enter Try.func9, Try.ntmps9
  go_wp2_with fail
  refine (get_any ⟨#[255, 255]⟩ 0 2 _ (by decide) wf0 wf2).mono ?_
  rintro e w1 ⟨rfl, hb1⟩
  rw [show (ByteArray.mk #[255, 255]).data.toList = [255, 255] from rfl, e1.out]
  go_wp2_with fail
  refine (seal_any ⟨#[97, 98]⟩ _ (by decide)).mono ?_
  rintro e w2 ⟨rfl, hb2⟩
  go_wp2_with fail
  refine (open_any (S (sealL [97, 98])) _ (by decide +kernel)).mono ?_
  rintro e w3 ⟨rfl, hb3⟩
  rw [Oct.S_data, e2.out]
  go_wp2_with fail
  refine (put_at 258 3 3 rfl (by omega) _).mono ?_
  rintro e w4 ⟨rfl, hb4⟩
  rw [ex3]
  go_wp2_with fail
  go_goals
  refine (sum_any ⟨#[49, 50, 51, 52, 53, 54, 55, 56, 57]⟩ _ (by decide)).mono ?_
  rintro e w5 ⟨rfl, rfl⟩
  rw [show (ByteArray.mk #[49, 50, 51, 52, 53, 54, 55, 56, 57]).data.toList = [49, 50, 51, 52, 53, 54, 55, 56, 57] from rfl, ex4]
  go_wp2_with fail
  go_goals
  refine (puttext_any ⟨#[97, 98]⟩ _ (by decide)).mono ?_
  rintro e w6 ⟨rfl, hb6⟩
  rw [show (ByteArray.mk #[97, 98]).data.toList = [97, 98] from rfl, ex5]
  go_wp2_with fail
  go_ret
  refine ⟨rfl, ?_⟩
  exact (((hb1.trans (hb2.mono hb1.size)).trans (hb3.mono (Nat.le_trans hb1.size hb2.size))).trans (hb4.mono (Nat.le_trans hb1.size (Nat.le_trans hb2.size hb3.size)))).trans (hb6.mono (Nat.le_trans hb1.size (Nat.le_trans hb2.size (Nat.le_trans hb3.size hb4.size))))
end Go.Proofs.Ytlnanbajbkbcaaa
