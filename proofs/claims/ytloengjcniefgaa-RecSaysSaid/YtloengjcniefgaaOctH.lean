/- The reference's there and Get: what they answer. -/
import Derived.Test.YtloengjcniefgaaOctG
namespace Go.Proofs.Ytloengjcniefgaa
set_option linter.unusedVariables false
set_option linter.unusedSimpArgs false
open Go.RowKit
open Oct (S beN putL U I getI)
theorem piece {s : ByteArray} {a n : Nat} {l : List UInt8} (hl : l = (s.data.toList.drop a).take n) (k : Nat) (h : k < n) (h2 : a + k < s.data.size) (h3 : k < l.length) : l[k] = s.data[a + k] := by
  subst hl; simp
theorem there_any (s : ByteArray) (at_ size : Int) (w : World) (hs : s.size ≤ maxLen) (h1 : (Lit.int .i64 at_).wf = true) (h2 : (Lit.int .i64 size).wf = true) (b : Bool) (hb : Hid (b = decide (0 ≤ at_ ∧ 0 ≤ size ∧ at_ + size ≤ s.size))):
    Calls Try.prog 58 #[.string s, .int .i64 at_, .int .i64 size] w (Eq1 (.bool b) w) := by
  unfold maxLen at hs
  go_enter Try.func58, Try.ntmps58
  go_wp2
  all_goals (go_ret; refine ⟨ret_bool ?_, rfl⟩; rw [hb.out]; first | (apply decide_eq_true; omega) | (apply decide_eq_false; omega) | (rw [decide_eq_decide]; omega))
theorem rget_no (s : ByteArray) (at_ size : Int) (w : World) (hs : s.size ≤ maxLen) (h1 : (Lit.int .i64 at_).wf = true) (h2 : (Lit.int .i64 size).wf = true)
   (h : size < 1 ∨ 8 < size ∨ at_ < 0 ∨ s.size < at_ + size) :
    Calls Try.prog 26 #[.string s, .int .i64 at_, .int .i64 size] w (Eq1 (.tuple #[.int .i64 0, .bool false]) w) := by
  unfold maxLen at hs
  by_cases h3 : 1 ≤ size ∧ size ≤ 8
  · obtain ⟨h3, h4⟩ := h3
    go_enter Try.func26, Try.ntmps26
    go_wp2_with (go_at_call 58; refine (there_any s at_ size _ hs h1 h2 false ?_).mono ?_; (show _ = _; symm; apply decide_eq_false; omega); rintro e w' ⟨rfl, rfl⟩)
    go_ret2
    exact ⟨rfl, rfl⟩
  · go_enter Try.func26, Try.ntmps26
    go_wp2_with (fail)
    all_goals first | (go_ret2; exact ⟨rfl, rfl⟩) | (exfalso; omega)
theorem rget_yes (s : ByteArray) (at_ size : Nat) (w : World) (hs : s.size ≤ maxLen) 
   (ha : 1 ≤ size) (hb : size ≤ 8) (hc : at_ + size ≤ s.size) :
    Calls Try.prog 26 #[.string s, .int .i64 at_, .int .i64 size] w (Eq1 (.tuple #[.int .i64 (getI ((s.data.toList.drop at_).take size)), .bool true]) w) := by
  unfold maxLen at hs
  obtain ⟨l, HL⟩ : ∃ l, Hid (l = (s.data.toList.drop at_).take size) := ⟨_, rfl⟩
  rw [← HL.out]
  have HN : Hid (l.length = size) := by show _ = _; rw [HL.out]; simp; omega
  go_enter Try.func26, Try.ntmps26
  go_wp2_with (go_at_call 58; refine (there_any s at_ size _ hs (WalkArith.wf_i64 (by omega)) (WalkArith.wf_i64 (by omega)) true ?_).mono ?_; (show _ = _; symm; apply decide_eq_true; omega); rintro e w' ⟨rfl, rfl⟩)

  go_loop [8, 9] (fun n i => ∃ k : Nat, k ≤ size ∧ i = .int .i64 k ∧ n = .int .u64 (beN (l.take k))) (fun _ i => size - (intOf i).toNat)
  case atStart => exact ⟨0, Nat.zero_le _, rfl, rfl⟩
  case round =>
    obtain ⟨k, hk, rfl, rfl⟩ := hrel
    by_cases hlt : k < size
    · have hkl : k < l.length := by rw [HN.out]; exact hlt
      have hbd : beN (l.take k) < 72057594037927936 := by
        have h1 := Oct.beN_lt (l.take k)
        have h2 : (l.take k).length ≤ 7 := by rw [List.length_take]; omega
        have h3 : 256 ^ (l.take k).length ≤ 256 ^ 7 := Nat.pow_le_pow_right (by omega) h2
        have h4 : 256 ^ 7 = 72057594037927936 := by decide
        omega
      have HS : Hid (beN (l.take (k + 1)) = beN (l.take k) * 256 + l[k].toNat) := by
        show _ = _
        rw [List.take_succ_eq_append_getElem hkl, Oct.beN_snoc]
      have hb2 : l[k].toNat < 256 := l[k].toNat_lt
      go_wp2
      go_round
      case rel => exact ⟨k + 1, by omega, by go_num, by rw [HS.out, ← or_u64w _ _ hbd hb2, piece HL.out k hlt (by have : s.data.size = s.size := rfl; omega) hkl]; rfl⟩
      case measure => simp [intOf]; omega
    · have HK : Hid (l.take k = l) := by
        show _ = _
        rw [List.take_of_length_le]; rw [HN.out]; omega
      go_wp2
      go_ret2
      exact ⟨ret2_int (by rw [HK.out]; rfl), rfl⟩
end Go.Proofs.Ytloengjcniefgaa
