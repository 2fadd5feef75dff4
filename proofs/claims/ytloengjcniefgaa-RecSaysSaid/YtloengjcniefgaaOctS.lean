/- octet.Sum and the reference's: what they answer. -/
import Derived.Test.YtloengjcniefgaaRows
import Derived.Test.YtloengjcniefgaaKit
import Derived.Test.YtloengjcniefgaaOctC
import Derived.IntWalk
namespace Go.Proofs.Ytloengjcniefgaa
set_option linter.unusedVariables false
set_option linter.unusedSimpArgs false
open Go.RowKit
open Oct (S stepN stepsN regN sumN)

theorem not_u32 (l : List UInt8) : wrap64 (bits BinOp.xor IntKind.u32 IntKind.u32.max (regN 4294967295 l : Nat)) = (sumN l : Nat) := by
  have h1 := Oct.regN_lt 4294967295 l (by omega)
  have h2 := Oct.sumN_lt l
  have h3 := u32_xor_nat 4294967295 (regN 4294967295 l) (by omega) h1
  have h4 : ((4294967295 : Nat) : Int) = IntKind.u32.max := rfl
  rw [h4] at h3
  rw [h3, Nat.xor_comm]
  show wrap64 (sumN l : Nat) = _
  exact IntWalk.wrap64_in _ (by omega)
theorem not_u64 (l : List UInt8) : wrap64 (bits BinOp.xor IntKind.u64 (regN 4294967295 l : Nat) 4294967295) = (sumN l : Nat) := by
  have h1 := Oct.regN_lt 4294967295 l (by omega)
  have h2 := Oct.sumN_lt l
  have h3 := u64_xor_nat (regN 4294967295 l) 4294967295 (by omega) (by omega)
  have h4 : ((4294967295 : Nat) : Int) = 4294967295 := rfl
  rw [h4] at h3
  rw [h3]
  show wrap64 (sumN l : Nat) = _
  exact IntWalk.wrap64_in _ (by omega)
theorem step_u32 (y : Nat) (hy : y < 4294967296) : bits BinOp.xor IntKind.u32 ((y : Int) / 2) (3988292384 * bits BinOp.and IntKind.u32 (y : Int) 1 % 4294967296) = (stepN y : Nat) := by
  have h1 := u32_and_nat y 1 hy (by omega)
  rw [show ((1 : Nat) : Int) = 1 from rfl, nat_mask1] at h1
  rw [h1, show ((y : Int) / 2) = ((y / 2 : Nat) : Int) from by omega, show (3988292384 * ((y % 2 : Nat) : Int) % 4294967296) = ((3988292384 * (y % 2) % 4294967296 : Nat) : Int) from by omega]
  rw [u32_xor_nat _ _ (by omega) (by omega), Oct.stepN_mul y hy]
theorem sum_any (s : ByteArray) (w : World) (hs : s.size ≤ maxLen) :
    Calls Try.prog 51 #[.string s] w (Eq1 (.int .i64 (sumN s.data.toList : Nat)) w) := by
  unfold maxLen at hs
  obtain ⟨l, HL⟩ : ∃ l, Hid (l = s.data.toList) := ⟨_, rfl⟩
  rw [← HL.out]
  have HN : Hid (l.length = s.size) := by show _ = _; rw [HL.out]; simp
  go_enter Try.func51, Try.ntmps51
  go_wp2
  go_loop [3, 4, 5, 18] (fun n i _ _ => ∃ k : Nat, k ≤ s.size ∧ i = .int .i64 k ∧ n = .int .u32 (regN 4294967295 (l.take k) : Nat)) (fun _ i _ _ => s.size - (intOf i).toNat)
  case atStart => exact ⟨0, Nat.zero_le _, rfl, rfl⟩
  case round =>
    obtain ⟨k, hk, rfl, rfl⟩ := hrel
    by_cases hlt : k < s.size
    · obtain ⟨r, HR⟩ : ∃ r, Hid (r = regN 4294967295 (l.take k)) := ⟨_, rfl⟩
      rw [← HR.out]
      have hr : r < 4294967296 := by rw [HR.out]; exact Oct.regN_lt _ _ (by omega)
      have hbyte : (s[k]'hlt).toNat < 256 := UInt8.toNat_lt _
      obtain ⟨x, HX⟩ : ∃ x, Hid (x = r ^^^ (s[k]'hlt).toNat) := ⟨_, rfl⟩
      have hx : x < 4294967296 := by rw [HX.out]; exact Oct.xorByte_lt _ _ hr
      have HXS : Hid (regN 4294967295 (l.take (k + 1)) = stepsN 8 x) := by
        show _ = _
        have hkl : k < l.length := by rw [HN.out]; exact hlt
        rw [List.take_succ_eq_append_getElem hkl, Oct.regN_snoc, ← HR.out, HX.out]
        have : l[k] = s[k] := by have := HL.out; subst this; simp; rfl
        rw [this]
      go_wp2
      go_loop [3, 5, 18] (fun n _ j => ∃ i : Nat, i ≤ 8 ∧ j = .int .i64 i ∧ n = .int .u32 (stepsN i x : Nat)) (fun _ _ j => 8 - (intOf j).toNat)
      case atStart => exact ⟨0, by omega, rfl, by rw [show stepsN 0 x = x from rfl, HX.out, u32_xor_nat _ _ hr (by omega)]⟩
      case round =>
        obtain ⟨i, hi, rfl, rfl⟩ := hrel
        by_cases h8 : i < 8
        · obtain ⟨y, HY⟩ : ∃ y, Hid (y = stepsN i x) := ⟨_, rfl⟩
          have hy : y < 4294967296 := by rw [HY.out]; exact Oct.stepsN_lt _ _ hx
          rw [← HY.out]
          have hy2 : y % 2 < 2 := by omega
          go_wp2
          go_round
          case rel => exact ⟨i + 1, by omega, by go_num, by rw [step_u32 y hy, show stepsN (i + 1) x = stepN (stepsN i x) from rfl, HY.out]⟩
          case measure => simp [intOf]; omega
        · have hi8 : i = 8 := by omega
          subst hi8
          go_wp2
          go_round
          case rel => exact ⟨k + 1, by omega, by go_num, by rw [HXS.out]⟩
          case measure => simp [intOf]; omega
    · have HK : Hid (l.take k = l) := by
        show _ = _
        rw [List.take_of_length_le]; rw [HN.out]; omega
      rw [HK.out]
      have hsg : IntKind.u32.signed = false := rfl
      go_wp2
      go_ret
      exact ⟨ret_int (not_u32 l), rfl⟩

theorem rstep_any (c : Nat) (w : World) (hc : c < 4294967296) :
    Calls Try.prog 55 #[.int .u64 c] w (Eq1 (.int .u64 (stepN c : Nat)) w) := by
  have h1 := u64_and_nat c 1 (by omega) (by omega)
  rw [show ((1 : Nat) : Int) = 1 from rfl, nat_mask1] at h1
  by_cases h : c % 2 = 1
  · have HV : Hid (bits BinOp.xor IntKind.u64 ((c : Int) / 2) 3988292384 = (stepN c : Nat)) := by
      show _ = _
      have := u64_xor_nat (c / 2) 3988292384 (by omega) (by omega)
      rw [stepN, if_pos h, ← this]
      simp
    have h2 : (bits BinOp.and IntKind.u64 (c : Int) 1 == 1) = true := by rw [h1, h]; rfl
    clear h1
    go_enter Try.func55, Try.ntmps55
    go_wp2
    go_ret
    exact ⟨ret_int HV.out, rfl⟩
  · have HV : Hid (((c : Int) / 2) = (stepN c : Nat)) := by
      show _ = _
      rw [stepN, if_neg h]; simp
    have h2 : (bits BinOp.and IntKind.u64 (c : Int) 1 == 1) = false := by rw [h1, show c % 2 = 0 from by omega]; rfl
    clear h1
    go_enter Try.func55, Try.ntmps55
    go_wp2
    go_ret
    exact ⟨ret_int HV.out, rfl⟩
theorem rsum_any (s : ByteArray) (w : World) (hs : s.size ≤ maxLen) :
    Calls Try.prog 22 #[.string s] w (Eq1 (.int .i64 (sumN s.data.toList : Nat)) w) := by
  unfold maxLen at hs
  obtain ⟨l, HL⟩ : ∃ l, Hid (l = s.data.toList) := ⟨_, rfl⟩
  rw [← HL.out]
  have HN : Hid (l.length = s.size) := by show _ = _; rw [HL.out]; simp
  go_enter Try.func22, Try.ntmps22
  go_wp2
  go_loop [3, 4, 5] (fun n i _ => ∃ k : Nat, k ≤ s.size ∧ i = .int .i64 k ∧ n = .int .u64 (regN 4294967295 (l.take k) : Nat)) (fun _ i _ => s.size - (intOf i).toNat)
  case atStart => exact ⟨0, Nat.zero_le _, rfl, rfl⟩
  case round =>
    obtain ⟨k, hk, rfl, rfl⟩ := hrel
    by_cases hlt : k < s.size
    · obtain ⟨r, HR⟩ : ∃ r, Hid (r = regN 4294967295 (l.take k)) := ⟨_, rfl⟩
      rw [← HR.out]
      have hr : r < 4294967296 := by rw [HR.out]; exact Oct.regN_lt _ _ (by omega)
      have hbyte : (s[k]'hlt).toNat < 256 := UInt8.toNat_lt _
      obtain ⟨x, HX⟩ : ∃ x, Hid (x = r ^^^ (s[k]'hlt).toNat) := ⟨_, rfl⟩
      have hx : x < 4294967296 := by rw [HX.out]; exact Oct.xorByte_lt _ _ hr
      have HXS : Hid (regN 4294967295 (l.take (k + 1)) = stepsN 8 x) := by
        show _ = _
        have hkl : k < l.length := by rw [HN.out]; exact hlt
        rw [List.take_succ_eq_append_getElem hkl, Oct.regN_snoc, ← HR.out, HX.out]
        have : l[k] = s[k] := by have := HL.out; subst this; simp; rfl
        rw [this]
      go_wp2
      go_loop [3, 5] (fun n j => ∃ i : Nat, i ≤ 8 ∧ j = .int .i64 i ∧ n = .int .u64 (stepsN i x : Nat)) (fun _ j => 8 - (intOf j).toNat)
      case atStart => exact ⟨0, by omega, rfl, by rw [show stepsN 0 x = x from rfl, HX.out, u64_xor_nat _ _ (by omega) (by omega)]⟩
      case round =>
        obtain ⟨i, hi, rfl, rfl⟩ := hrel
        by_cases h8 : i < 8
        · obtain ⟨y, HY⟩ : ∃ y, Hid (y = stepsN i x) := ⟨_, rfl⟩
          have hy : y < 4294967296 := by rw [HY.out]; exact Oct.stepsN_lt _ _ hx
          rw [← HY.out]
          go_wp2_with (go_at_call 55; refine (rstep_any y _ hy).mono ?_; rintro e w' ⟨rfl, rfl⟩)
          go_round
          case rel => exact ⟨i + 1, by omega, by go_num, by rw [show stepsN (i + 1) x = stepN (stepsN i x) from rfl, HY.out]⟩
          case measure => simp [intOf]; omega
        · have hi8 : i = 8 := by omega
          subst hi8
          go_wp2_with fail
          go_round
          case rel => exact ⟨k + 1, by omega, by go_num, by rw [HXS.out]⟩
          case measure => simp [intOf]; omega
    · have HK : Hid (l.take k = l) := by
        show _ = _
        rw [List.take_of_length_le]; rw [HN.out]; omega
      rw [HK.out]
      have hsg : IntKind.u32.signed = false := rfl
      go_wp2_with fail
      go_ret
      exact ⟨ret_int (not_u64 l), rfl⟩
end Go.Proofs.Ytloengjcniefgaa
