/- The walk of OctetPuts. -/
import Derived.Test.YtlnanbajbkbcaaaOctA
import Derived.OpenShut
namespace Go.Proofs.Ytlnanbajbkbcaaa
set_option linter.unusedVariables false
set_option linter.unusedSimpArgs false
open Go.RowKit Go.ChangeShapes
open Oct (S beN putL U I getI sumN)
/-- Put at any size. -/
def putS (n size : Int) : List UInt8 := if 0 ≤ size ∧ size ≤ 8 then putL (U n) size.toNat else []
theorem put_any (n size : Int) (w : World) :
    Calls Try.prog 8 #[.int .i64 n, .int .i64 size] w (Ret (.string (S (putS n size))) w) := by
  unfold putS
  by_cases h : 0 ≤ size ∧ size ≤ 8
  · rw [if_pos h]
    exact put_at n size _ (by omega) (by omega) w
  · rw [if_neg h]
    exact (put_no n size w (by omega)).mono fun e w' ⟨he, hw⟩ => ⟨he, hw ▸ Below.refl _ _⟩
theorem rput_any (n size : Int) (w : World) :
    Calls Try.prog 10 #[.int .i64 n, .int .i64 size] w (Ret (.string (S (putS n size))) w) := by
  unfold putS
  by_cases h : 0 ≤ size ∧ size ≤ 8
  · rw [if_pos h]
    exact rput_at n size _ (by omega) (by omega) w
  · rw [if_neg h]
    exact (rput_no n size w (by omega)).mono fun e w' ⟨he, hw⟩ => ⟨he, hw ▸ Below.refl _ _⟩
theorem putS_size (n size : Int) : (putS n size).length ≤ 8 := by
  unfold putS
  split
  · rw [Oct.putL_length]; omega
  · simp
theorem pow_fits (k : Nat) (h : k ≤ 8) : (256 : Nat) ^ k ≤ 18446744073709551616 := by
  have : (256 : Nat) ^ k ≤ 256 ^ 8 := Nat.pow_le_pow_right (by omega) h
  omega
theorem getR_putS (n : Int) (size : Int) (h1 : 1 ≤ size) (h2 : size ≤ 8) : getR (putS n size) 0 size = (I (U n % 256 ^ size.toNat), true) := by
  have hp : putS n size = putL (U n) size.toNat := if_pos ⟨by omega, h2⟩
  rw [hp, getR, if_pos (by rw [Oct.putL_length]; omega)]
  rw [show (0 : Int).toNat = 0 from rfl, List.drop_zero, List.take_of_length_le (by rw [Oct.putL_length]; omega), getI, Oct.beN_putL]
theorem putS_back (n : Int) (size : Int) (h1 : 1 ≤ size) (h2 : size ≤ 8) : putS (I (U n % 256 ^ size.toNat)) size = putS n size := by
  have h3 := pow_fits size.toNat (by omega)
  have h4 : 0 < (256 : Nat) ^ size.toNat := Nat.pow_pos (by omega)
  have h5 := Nat.mod_lt (U n) h4
  unfold putS
  rw [if_pos ⟨by omega, h2⟩, if_pos ⟨by omega, h2⟩, Oct.U_I _ (by omega), Oct.putL_mod]
theorem getR_none (l : List UInt8) (size : Int) (h : size < 1 ∨ 8 < size) : getR l 0 size = (0, false) := by
  rw [getR, if_neg (by omega)]
theorem put_last (n size x : Int) (h1 : (Lit.int .i64 n).wf = true) (hs1 : 1 ≤ size) (hs8 : size ≤ 8) (hx : x = I (U n % 256 ^ size.toNat)) : (size < 8 ∧ (n < 0 ∨ 256 ^ size.toNat ≤ n)) ∨ x = n := by
  have hb : -9223372036854775808 ≤ n ∧ n < 9223372036854775808 := by
    have := bounds_i64 h1
    omega
  by_cases h8 : size = 8
  · subst h8
    refine .inr ?_
    rw [hx, show (8 : Int).toNat = 8 from rfl, show (256 : Nat) ^ 8 = 18446744073709551616 from rfl, Nat.mod_eq_of_lt (Oct.U_lt n), Oct.I_U n hb.1 hb.2]
  · by_cases hn : n < 0 ∨ 256 ^ size.toNat ≤ n
    · exact .inl ⟨by omega, hn⟩
    · refine .inr ?_
      obtain ⟨m, rfl⟩ := Int.eq_ofNat_of_zero_le (show 0 ≤ n by omega)
      have hm : m < 256 ^ size.toNat := by
        have h : ¬ ((256 ^ size.toNat : Nat) : Int) ≤ (m : Int) := by
          intro h
          apply hn
          right
          simpa using h
        omega
      have hU : U (m : Int) = m := Oct.U_nat m (by omega)
      rw [hx, hU, Nat.mod_eq_of_lt hm, Oct.I_small m (by omega)]
theorem puts_no (n size : Int) (h2 : (Lit.int .i64 size).wf = true) (w : World) (l : List UInt8) (HL : Hid (l = putS n size)) (hl : (S l).size ≤ maxLen) (HG : Hid (getR l 0 size = (0, false))) (ht : (decide (size < 1) || decide (8 < size)) = true) :
    Calls Try.prog 3 #[.int .i64 n, .int .i64 size] w (Ret (.bool true) w) := by
  go_enter Try.func3, Try.ntmps3
  go_wp2_with fail
  refine (put_any _ _ _).mono ?_
  rintro e w1 ⟨rfl, hb1⟩
  rw [← HL.out]
  go_wp2_with fail
  refine (awake_any _).mono ?_
  rintro e w5 ⟨rfl, hb⟩
  replace hb1 := hb1.next hb; clear hb
  go_wp2_with fail
  refine (rput_any _ _ _).mono ?_
  rintro e w5 ⟨rfl, hb⟩
  replace hb1 := hb1.next hb; clear hb
  rw [← HL.out]
  go_wp2_with fail
  refine (get_any (S l) 0 _ _ hl wf0 h2).mono ?_
  rintro e w5 ⟨rfl, hb⟩
  replace hb1 := hb1.next hb; clear hb
  rw [Oct.S_data, HG.out]
  go_wp2_with fail
  all_goals (go_ret; exact ⟨rfl, hb1⟩)
theorem puts_eq (n size : Int) (h2 : (Lit.int .i64 size).wf = true) (w : World) (l : List UInt8) (HL : Hid (l = putS n size)) (hl : (S l).size ≤ maxLen) (HG : Hid (getR l 0 size = (n, true))) (HB : Hid (putS n size = l)) (hs1 : 1 ≤ size) (hs8 : size ≤ 8) :
    Calls Try.prog 3 #[.int .i64 n, .int .i64 size] w (Ret (.bool true) w) := by
  go_enter Try.func3, Try.ntmps3
  go_wp2_with fail
  refine (put_any _ _ _).mono ?_
  rintro e w1 ⟨rfl, hb1⟩
  rw [← HL.out]
  go_wp2_with fail
  refine (awake_any _).mono ?_
  rintro e w5 ⟨rfl, hb⟩
  replace hb1 := hb1.next hb; clear hb
  go_wp2_with fail
  refine (rput_any _ _ _).mono ?_
  rintro e w5 ⟨rfl, hb⟩
  replace hb1 := hb1.next hb; clear hb
  rw [← HL.out]
  go_wp2_with fail
  refine (get_any (S l) 0 _ _ hl wf0 h2).mono ?_
  rintro e w5 ⟨rfl, hb⟩
  replace hb1 := hb1.next hb; clear hb
  rw [Oct.S_data, HG.out]
  go_wp2_with fail
  refine (put_any _ _ _).mono ?_
  rintro e w5 ⟨rfl, hb⟩
  replace hb1 := hb1.next hb; clear hb
  rw [HB.out]
  go_wp2_with fail
  all_goals (go_ret; exact ⟨rfl, hb1⟩)
theorem puts_neg (n size x : Int) (h2 : (Lit.int .i64 size).wf = true) (w : World) (l : List UInt8) (HL : Hid (l = putS n size)) (hl : (S l).size ≤ maxLen) (HG : Hid (getR l 0 size = (x, true))) (HB : Hid (putS x size = l)) (hs1 : 1 ≤ size) (hs8 : size < 8) (hn : n < 0) :
    Calls Try.prog 3 #[.int .i64 n, .int .i64 size] w (Ret (.bool true) w) := by
  go_enter Try.func3, Try.ntmps3
  go_wp2_with fail
  refine (put_any _ _ _).mono ?_
  rintro e w1 ⟨rfl, hb1⟩
  rw [← HL.out]
  go_wp2_with fail
  refine (awake_any _).mono ?_
  rintro e w5 ⟨rfl, hb⟩
  replace hb1 := hb1.next hb; clear hb
  go_wp2_with fail
  refine (rput_any _ _ _).mono ?_
  rintro e w5 ⟨rfl, hb⟩
  replace hb1 := hb1.next hb; clear hb
  rw [← HL.out]
  go_wp2_with fail
  refine (get_any (S l) 0 _ _ hl wf0 h2).mono ?_
  rintro e w5 ⟨rfl, hb⟩
  replace hb1 := hb1.next hb; clear hb
  rw [Oct.S_data, HG.out]
  go_wp2_with fail
  refine (put_any _ _ _).mono ?_
  rintro e w5 ⟨rfl, hb⟩
  replace hb1 := hb1.next hb; clear hb
  rw [HB.out]
  go_wp2_with fail
  all_goals (go_ret; exact ⟨rfl, hb1⟩)
theorem puts_big1 (n x : Int) (h2 : (Lit.int .i64 1).wf = true) (w : World) (l : List UInt8) (HL : Hid (l = putS n 1)) (hl : (S l).size ≤ maxLen) (HG : Hid (getR l 0 1 = (x, true))) (HB : Hid (putS x 1 = l)) (hn : 256 ≤ n) :
    Calls Try.prog 3 #[.int .i64 n, .int .i64 1] w (Ret (.bool true) w) := by
  go_enter Try.func3, Try.ntmps3
  go_wp2_with fail
  refine (put_any _ _ _).mono ?_
  rintro e w1 ⟨rfl, hb1⟩
  rw [← HL.out]
  go_wp2_with fail
  refine (awake_any _).mono ?_
  rintro e w5 ⟨rfl, hb⟩
  replace hb1 := hb1.next hb; clear hb
  go_wp2_with fail
  refine (rput_any _ _ _).mono ?_
  rintro e w5 ⟨rfl, hb⟩
  replace hb1 := hb1.next hb; clear hb
  rw [← HL.out]
  go_wp2_with fail
  refine (get_any (S l) 0 _ _ hl wf0 h2).mono ?_
  rintro e w5 ⟨rfl, hb⟩
  replace hb1 := hb1.next hb; clear hb
  rw [Oct.S_data, HG.out]
  go_wp2_with fail
  refine (put_any _ _ _).mono ?_
  rintro e w5 ⟨rfl, hb⟩
  replace hb1 := hb1.next hb; clear hb
  rw [HB.out]
  go_wp2_with fail
  all_goals (go_ret; exact ⟨rfl, hb1⟩)
theorem puts_big2 (n x : Int) (h2 : (Lit.int .i64 2).wf = true) (w : World) (l : List UInt8) (HL : Hid (l = putS n 2)) (hl : (S l).size ≤ maxLen) (HG : Hid (getR l 0 2 = (x, true))) (HB : Hid (putS x 2 = l)) (hn : 65536 ≤ n) :
    Calls Try.prog 3 #[.int .i64 n, .int .i64 2] w (Ret (.bool true) w) := by
  go_enter Try.func3, Try.ntmps3
  go_wp2_with fail
  refine (put_any _ _ _).mono ?_
  rintro e w1 ⟨rfl, hb1⟩
  rw [← HL.out]
  go_wp2_with fail
  refine (awake_any _).mono ?_
  rintro e w5 ⟨rfl, hb⟩
  replace hb1 := hb1.next hb; clear hb
  go_wp2_with fail
  refine (rput_any _ _ _).mono ?_
  rintro e w5 ⟨rfl, hb⟩
  replace hb1 := hb1.next hb; clear hb
  rw [← HL.out]
  go_wp2_with fail
  refine (get_any (S l) 0 _ _ hl wf0 h2).mono ?_
  rintro e w5 ⟨rfl, hb⟩
  replace hb1 := hb1.next hb; clear hb
  rw [Oct.S_data, HG.out]
  go_wp2_with fail
  refine (put_any _ _ _).mono ?_
  rintro e w5 ⟨rfl, hb⟩
  replace hb1 := hb1.next hb; clear hb
  rw [HB.out]
  go_wp2_with fail
  all_goals (go_ret; exact ⟨rfl, hb1⟩)
theorem puts_big3 (n x : Int) (h2 : (Lit.int .i64 3).wf = true) (w : World) (l : List UInt8) (HL : Hid (l = putS n 3)) (hl : (S l).size ≤ maxLen) (HG : Hid (getR l 0 3 = (x, true))) (HB : Hid (putS x 3 = l)) (hn : 16777216 ≤ n) :
    Calls Try.prog 3 #[.int .i64 n, .int .i64 3] w (Ret (.bool true) w) := by
  go_enter Try.func3, Try.ntmps3
  go_wp2_with fail
  refine (put_any _ _ _).mono ?_
  rintro e w1 ⟨rfl, hb1⟩
  rw [← HL.out]
  go_wp2_with fail
  refine (awake_any _).mono ?_
  rintro e w5 ⟨rfl, hb⟩
  replace hb1 := hb1.next hb; clear hb
  go_wp2_with fail
  refine (rput_any _ _ _).mono ?_
  rintro e w5 ⟨rfl, hb⟩
  replace hb1 := hb1.next hb; clear hb
  rw [← HL.out]
  go_wp2_with fail
  refine (get_any (S l) 0 _ _ hl wf0 h2).mono ?_
  rintro e w5 ⟨rfl, hb⟩
  replace hb1 := hb1.next hb; clear hb
  rw [Oct.S_data, HG.out]
  go_wp2_with fail
  refine (put_any _ _ _).mono ?_
  rintro e w5 ⟨rfl, hb⟩
  replace hb1 := hb1.next hb; clear hb
  rw [HB.out]
  go_wp2_with fail
  all_goals (go_ret; exact ⟨rfl, hb1⟩)
theorem puts_big4 (n x : Int) (h2 : (Lit.int .i64 4).wf = true) (w : World) (l : List UInt8) (HL : Hid (l = putS n 4)) (hl : (S l).size ≤ maxLen) (HG : Hid (getR l 0 4 = (x, true))) (HB : Hid (putS x 4 = l)) (hn : 4294967296 ≤ n) :
    Calls Try.prog 3 #[.int .i64 n, .int .i64 4] w (Ret (.bool true) w) := by
  go_enter Try.func3, Try.ntmps3
  go_wp2_with fail
  refine (put_any _ _ _).mono ?_
  rintro e w1 ⟨rfl, hb1⟩
  rw [← HL.out]
  go_wp2_with fail
  refine (awake_any _).mono ?_
  rintro e w5 ⟨rfl, hb⟩
  replace hb1 := hb1.next hb; clear hb
  go_wp2_with fail
  refine (rput_any _ _ _).mono ?_
  rintro e w5 ⟨rfl, hb⟩
  replace hb1 := hb1.next hb; clear hb
  rw [← HL.out]
  go_wp2_with fail
  refine (get_any (S l) 0 _ _ hl wf0 h2).mono ?_
  rintro e w5 ⟨rfl, hb⟩
  replace hb1 := hb1.next hb; clear hb
  rw [Oct.S_data, HG.out]
  go_wp2_with fail
  refine (put_any _ _ _).mono ?_
  rintro e w5 ⟨rfl, hb⟩
  replace hb1 := hb1.next hb; clear hb
  rw [HB.out]
  go_wp2_with fail
  all_goals (go_ret; exact ⟨rfl, hb1⟩)
theorem puts_big5 (n x : Int) (h2 : (Lit.int .i64 5).wf = true) (w : World) (l : List UInt8) (HL : Hid (l = putS n 5)) (hl : (S l).size ≤ maxLen) (HG : Hid (getR l 0 5 = (x, true))) (HB : Hid (putS x 5 = l)) (hn : 1099511627776 ≤ n) :
    Calls Try.prog 3 #[.int .i64 n, .int .i64 5] w (Ret (.bool true) w) := by
  go_enter Try.func3, Try.ntmps3
  go_wp2_with fail
  refine (put_any _ _ _).mono ?_
  rintro e w1 ⟨rfl, hb1⟩
  rw [← HL.out]
  go_wp2_with fail
  refine (awake_any _).mono ?_
  rintro e w5 ⟨rfl, hb⟩
  replace hb1 := hb1.next hb; clear hb
  go_wp2_with fail
  refine (rput_any _ _ _).mono ?_
  rintro e w5 ⟨rfl, hb⟩
  replace hb1 := hb1.next hb; clear hb
  rw [← HL.out]
  go_wp2_with fail
  refine (get_any (S l) 0 _ _ hl wf0 h2).mono ?_
  rintro e w5 ⟨rfl, hb⟩
  replace hb1 := hb1.next hb; clear hb
  rw [Oct.S_data, HG.out]
  go_wp2_with fail
  refine (put_any _ _ _).mono ?_
  rintro e w5 ⟨rfl, hb⟩
  replace hb1 := hb1.next hb; clear hb
  rw [HB.out]
  go_wp2_with fail
  all_goals (go_ret; exact ⟨rfl, hb1⟩)
theorem puts_big6 (n x : Int) (h2 : (Lit.int .i64 6).wf = true) (w : World) (l : List UInt8) (HL : Hid (l = putS n 6)) (hl : (S l).size ≤ maxLen) (HG : Hid (getR l 0 6 = (x, true))) (HB : Hid (putS x 6 = l)) (hn : 281474976710656 ≤ n) :
    Calls Try.prog 3 #[.int .i64 n, .int .i64 6] w (Ret (.bool true) w) := by
  go_enter Try.func3, Try.ntmps3
  go_wp2_with fail
  refine (put_any _ _ _).mono ?_
  rintro e w1 ⟨rfl, hb1⟩
  rw [← HL.out]
  go_wp2_with fail
  refine (awake_any _).mono ?_
  rintro e w5 ⟨rfl, hb⟩
  replace hb1 := hb1.next hb; clear hb
  go_wp2_with fail
  refine (rput_any _ _ _).mono ?_
  rintro e w5 ⟨rfl, hb⟩
  replace hb1 := hb1.next hb; clear hb
  rw [← HL.out]
  go_wp2_with fail
  refine (get_any (S l) 0 _ _ hl wf0 h2).mono ?_
  rintro e w5 ⟨rfl, hb⟩
  replace hb1 := hb1.next hb; clear hb
  rw [Oct.S_data, HG.out]
  go_wp2_with fail
  refine (put_any _ _ _).mono ?_
  rintro e w5 ⟨rfl, hb⟩
  replace hb1 := hb1.next hb; clear hb
  rw [HB.out]
  go_wp2_with fail
  all_goals (go_ret; exact ⟨rfl, hb1⟩)
theorem puts_big7 (n x : Int) (h2 : (Lit.int .i64 7).wf = true) (w : World) (l : List UInt8) (HL : Hid (l = putS n 7)) (hl : (S l).size ≤ maxLen) (HG : Hid (getR l 0 7 = (x, true))) (HB : Hid (putS x 7 = l)) (hn : 72057594037927936 ≤ n) :
    Calls Try.prog 3 #[.int .i64 n, .int .i64 7] w (Ret (.bool true) w) := by
  go_enter Try.func3, Try.ntmps3
  go_wp2_with fail
  refine (put_any _ _ _).mono ?_
  rintro e w1 ⟨rfl, hb1⟩
  rw [← HL.out]
  go_wp2_with fail
  refine (awake_any _).mono ?_
  rintro e w5 ⟨rfl, hb⟩
  replace hb1 := hb1.next hb; clear hb
  go_wp2_with fail
  refine (rput_any _ _ _).mono ?_
  rintro e w5 ⟨rfl, hb⟩
  replace hb1 := hb1.next hb; clear hb
  rw [← HL.out]
  go_wp2_with fail
  refine (get_any (S l) 0 _ _ hl wf0 h2).mono ?_
  rintro e w5 ⟨rfl, hb⟩
  replace hb1 := hb1.next hb; clear hb
  rw [Oct.S_data, HG.out]
  go_wp2_with fail
  refine (put_any _ _ _).mono ?_
  rintro e w5 ⟨rfl, hb⟩
  replace hb1 := hb1.next hb; clear hb
  rw [HB.out]
  go_wp2_with fail
  all_goals (go_ret; exact ⟨rfl, hb1⟩)
theorem walk_OctetPuts (n size : Int) (w : World) (h1 : (Lit.int .i64 n).wf = true) (h2 : (Lit.int .i64 size).wf = true) :
    Calls Try.prog 3 #[.int .i64 n, .int .i64 size] w (Ret (.bool true) w) := by
  obtain ⟨l, HL⟩ : ∃ l, Hid (l = putS n size) := ⟨_, rfl⟩
  have hl : (S l).size ≤ maxLen := by rw [Oct.S_size, HL.out]; have := putS_size n size; unfold maxLen; omega
  by_cases h : size < 1 ∨ 8 < size
  · have HG : Hid (getR l 0 size = (0, false)) := getR_none l size h
    have ht : (decide (size < 1) || decide (8 < size)) = true := by simpa using h
    exact puts_no n size h2 w l HL hl HG ht
  · obtain ⟨x, HX⟩ : ∃ x, Hid (x = I (U n % 256 ^ size.toNat)) := ⟨_, rfl⟩
    have HG : Hid (getR l 0 size = (x, true)) := by show _ = _; rw [HL.out, HX.out]; exact getR_putS n size (by omega) (by omega)
    have HB : Hid (putS x size = l) := by show _ = _; rw [HL.out, HX.out]; exact putS_back n size (by omega) (by omega)
    have hs1 : 1 ≤ size := by omega
    have hs8 : size ≤ 8 := by omega
    clear h
    rcases put_last n size x h1 hs1 hs8 HX.out with ⟨hlt, hn⟩ | rfl
    · rcases hn with hn | hn
      · exact puts_neg n size x h2 w l HL hl HG HB hs1 hlt hn
      · have hsz : size = 1 ∨ size = 2 ∨ size = 3 ∨ size = 4 ∨ size = 5 ∨ size = 6 ∨ size = 7 := by omega
        rcases hsz with rfl | rfl | rfl | rfl | rfl | rfl | rfl
        · exact puts_big1 n x h2 w l HL hl HG HB hn
        · exact puts_big2 n x h2 w l HL hl HG HB hn
        · exact puts_big3 n x h2 w l HL hl HG HB hn
        · exact puts_big4 n x h2 w l HL hl HG HB hn
        · exact puts_big5 n x h2 w l HL hl HG HB hn
        · exact puts_big6 n x h2 w l HL hl HG HB hn
        · exact puts_big7 n x h2 w l HL hl HG HB hn
    · exact puts_eq x size h2 w l HL hl HG HB hs1 hs8
end Go.Proofs.Ytlnanbajbkbcaaa
