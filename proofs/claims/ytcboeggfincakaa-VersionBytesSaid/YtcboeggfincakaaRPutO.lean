/- The reference's Put: what it answers. -/
import Derived.Test.YtcboeggfincakaaPutO
namespace Go.Proofs.Ytcboeggfincakaa
set_option linter.unusedVariables false
set_option linter.unusedSimpArgs false
open Go.RowKit
open Oct (S beN putL U I getI)
theorem rput_no (n size : Int) (w : World) (h : size < 0 ∨ 8 < size) :
    Calls Try.prog 26 #[.int .i64 n, .int .i64 size] w (Eq1 (.string (S [])) w) := by
  go_enter Try.func26, Try.ntmps26
  go_wp2_with (fail)
  all_goals first | (go_ret; exact ⟨rfl, rfl⟩) | (exfalso; omega)
theorem rput_yes (n : Int) (size : Nat) (w : World) (hb : size ≤ 8) :
    Calls Try.prog 26 #[.int .i64 n, .int .i64 size] w (Ret (.string (S (putL (U n) size))) w) := by
  go_enter Try.func26, Try.ntmps26
  go_wp2_with fail
  go_loopw [5, 6, 7] (fun o u i wr => ∃ k : Nat, k ≤ size ∧ i = .int .i64 k ∧ o = .string (S (putL (U n) k)) ∧ u = .int .u64 (U n / 256 ^ k : Nat) ∧ Below w.heap.size w wr) (fun _ _ i _ => size - (intOf i).toNat)
  case atStart => exact ⟨0, Nat.zero_le _, rfl, rfl, by simp [Oct.U_cast, IntKind.wrap_u64], Below.refl _ _⟩
  case round =>
    obtain ⟨k, hk, rfl, rfl, rfl, hb2⟩ := hrel
    by_cases hlt : k < size
    · have hBd := hb2.size
      obtain ⟨m, HM⟩ : ∃ m, Hid (m = U n / 256 ^ k) := ⟨_, rfl⟩
      rw [← HM.out]
      have hm : m < 18446744073709551616 := by rw [HM.out]; exact Nat.lt_of_le_of_lt (Nat.div_le_self _ _) (Oct.U_lt n)
      obtain ⟨l, HL⟩ : ∃ l, Hid (l = putL (U n) k) := ⟨_, rfl⟩
      rw [← HL.out]
      have HN : l.length ≤ 8 := by rw [HL.out, Oct.putL_length]; omega
      go_wp2_with (first | ((with_reducible refine wpList_stringOf 60 9 5 Try.underlying60 Try.underlying5 Try.underlying9 [UInt8.ofNat (m % 256)] ?_); refine ⟨_, _, _, rfl, rfl, bytesAt_one _ _ _ _ ?_, ?_⟩; (rw [Oct.ofNat_toNat, and_255 m hm]; omega)) | ((with_reducible refine wpList_concat _ ?_); refine ⟨_, _, rfl, rfl, ?_, ?_⟩; (simp [S]; omega)))
      go_roundw
      case rel =>
        refine ⟨k + 1, by omega, by go_num, ?_, ?_, hb2.alloc hBd _⟩
        · rw [Oct.putL_cons, ← HM.out, ← HL.out]
          exact congrArg Value.string (Oct.S_append [_] l)
        · have := HM.out
          rw [Nat.pow_succ, ← Nat.div_div_eq_div_mul, ← this]
          simp
      case measure => simp [intOf]; omega
    · have hks : k = size := by omega
      subst hks
      go_wp2
      go_ret
      exact ⟨rfl, hb2⟩
theorem rput_at (n size : Int) (k : Nat) (hk : size = k) (hb : k ≤ 8) (w : World) :
    Calls Try.prog 26 #[.int .i64 n, .int .i64 size] w (Ret (.string (S (putL (U n) k))) w) := by
  subst hk; exact rput_yes n k w hb
end Go.Proofs.Ytcboeggfincakaa
