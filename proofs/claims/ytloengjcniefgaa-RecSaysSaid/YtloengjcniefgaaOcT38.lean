/- octet's PutText, GetText, Seal, Open, and the reference's: what they answer. -/
import Derived.Test.YtloengjcniefgaaOctG
import Derived.Test.YtloengjcniefgaaOctH
import Derived.Test.YtloengjcniefgaaOctU
import Derived.Test.YtloengjcniefgaaOctS
namespace Go.Proofs.Ytloengjcniefgaa
set_option linter.unusedVariables false
set_option linter.unusedSimpArgs false
open Go.RowKit
open Oct (S beN putL U I getI sumN)
theorem put_at (n size : Int) (k : Nat) (hk : size = k) (hb : k ≤ 8) (w : World) :
    Calls Try.prog 18 #[.int .i64 n, .int .i64 size] w (Ret (.string (S (putL (U n) k))) w) := by
  subst hk; exact put_yes n k w hb
theorem rput_at (n size : Int) (k : Nat) (hk : size = k) (hb : k ≤ 8) (w : World) :
    Calls Try.prog 21 #[.int .i64 n, .int .i64 size] w (Ret (.string (S (putL (U n) k))) w) := by
  subst hk; exact rput_yes n k w hb
/-- A text behind its length. -/
def textL (l : List UInt8) : List UInt8 := putL (l.take 65535).length 2 ++ l.take 65535
theorem textL_short (s : ByteArray) (h : s.size ≤ 65535) : Hid (S (putL (U (s.size : Int)) 2) ++ s = S (textL s.data.toList)) := by
  show _ = _
  have h1 : s.data.toList.take 65535 = s.data.toList := List.take_of_length_le (by simp; exact h)
  have h2 : U (s.size : Int) = s.data.toList.length := by rw [Oct.U_nat _ (by omega)]; simp
  rw [textL, h1, h2, ← Oct.S_append, Oct.S_of]
theorem textL_long (s : ByteArray) (h : ¬ s.size ≤ 65535) : Hid (S (putL (U ((min 65535 s.size : Nat) : Int)) 2) ++ s.extract 0 65535 = S (textL s.data.toList)) := by
  show _ = _
  have h2 : (s.data.toList.take 65535).length = 65535 := by have : s.data.size = s.size := rfl; simp; omega
  rw [textL, h2, ← Oct.S_append, show min 65535 s.size = 65535 from by omega, show U ((65535 : Nat) : Int) = 65535 from Oct.U_nat 65535 (by omega)]
  congr 1
  apply ByteArray.ext
  simp [S, List.extract_eq_take_drop]
  apply Array.toList_inj.1
  simp [List.extract_eq_take_drop]
theorem puttext_any (s : ByteArray) (w : World) (hs : s.size ≤ maxLen) :
    Calls Try.prog 72 #[.string s] w (Ret (.string (S (textL s.data.toList))) w) := by
  unfold maxLen at hs
  by_cases hlt : s.size ≤ 65535
  · have HV := textL_short s hlt
    go_enter Try.func72, Try.ntmps72
    go_wp2_with (first | (go_at_call 18; refine (put_at _ _ 2 rfl (by omega) _).mono ?_; rintro e w1 ⟨rfl, hb1⟩) | ((with_reducible refine wpList_concat _ ?_); refine ⟨_, _, rfl, rfl, ?_, ?_⟩; (rw [Oct.S_size, Oct.putL_length]; omega)))
    go_ret
    exact ⟨ret_str HV.out, hb1⟩
  · have HV := textL_long s hlt
    have HZ : (s.extract 0 65535).size ≤ 65535 := by simp; omega
    go_enter Try.func72, Try.ntmps72
    go_wp2_with (first | (go_at_call 18; refine (put_at _ _ 2 rfl (by omega) _).mono ?_; rintro e w1 ⟨rfl, hb1⟩) | ((with_reducible refine wpList_concat _ ?_); refine ⟨_, _, rfl, rfl, ?_, ?_⟩; (rw [Oct.S_size, Oct.putL_length]; omega)))
    go_ret
    exact ⟨ret_str HV.out, hb1⟩
theorem rputtext_any (s : ByteArray) (w : World) (hs : s.size ≤ maxLen) :
    Calls Try.prog 53 #[.string s] w (Ret (.string (S (textL s.data.toList))) w) := by
  unfold maxLen at hs
  by_cases hlt : s.size ≤ 65535
  · have HV := textL_short s hlt
    go_enter Try.func53, Try.ntmps53
    go_wp2_with (first | (go_at_call 21; refine (rput_at _ _ 2 rfl (by omega) _).mono ?_; rintro e w1 ⟨rfl, hb1⟩) | ((with_reducible refine wpList_concat _ ?_); refine ⟨_, _, rfl, rfl, ?_, ?_⟩; (rw [Oct.S_size, Oct.putL_length]; omega)))
    go_ret
    exact ⟨ret_str HV.out, hb1⟩
  · have HV := textL_long s hlt
    have HZ : (s.extract 0 65535).size ≤ 65535 := by simp; omega
    go_enter Try.func53, Try.ntmps53
    go_wp2_with (first | (go_at_call 21; refine (rput_at _ _ 2 rfl (by omega) _).mono ?_; rintro e w1 ⟨rfl, hb1⟩) | ((with_reducible refine wpList_concat _ ?_); refine ⟨_, _, rfl, rfl, ?_, ?_⟩; (rw [Oct.S_size, Oct.putL_length]; omega)))
    go_ret
    exact ⟨ret_str HV.out, hb1⟩
/-- Bytes behind their sum. -/
def sealL (l : List UInt8) : List UInt8 := putL (sumN l) 4 ++ l
theorem sealL_eq (s : ByteArray) : Hid (S (putL (U (sumN s.data.toList : Nat)) 4) ++ s = S (sealL s.data.toList)) := by
  show _ = _
  have := Oct.sumN_lt s.data.toList
  rw [sealL, Oct.U_nat _ (by omega), ← Oct.S_append, Oct.S_of]
theorem seal_any (s : ByteArray) (w : World) (hs : s.size ≤ 9223372036854775800) :
    Calls Try.prog 19 #[.string s] w (Ret (.string (S (sealL s.data.toList))) w) := by
  have HV := sealL_eq s
  go_enter Try.func19, Try.ntmps19
  go_wp2_with (first | (go_at_call 51; refine (sum_any s _ (by unfold maxLen; omega)).mono ?_; rintro e w1 ⟨rfl, rfl⟩) | (go_at_call 18; refine (put_at _ _ 4 rfl (by omega) _).mono ?_; rintro e w1 ⟨rfl, hb1⟩) | ((with_reducible refine wpList_concat _ ?_); refine ⟨_, _, rfl, rfl, ?_, ?_⟩; (rw [Oct.S_size, Oct.putL_length]; omega)))
  go_ret
  exact ⟨ret_str HV.out, hb1⟩
end Go.Proofs.Ytloengjcniefgaa
