/- octet.Get and the reference's Get: what they answer. -/
import Derived.Test.YtloengjcniefgaaRows
import Derived.Test.YtloengjcniefgaaKit
import Derived.Test.YtloengjcniefgaaOctP
import Derived.IntWalk
namespace Go.Proofs.Ytloengjcniefgaa
set_option linter.unusedVariables false
set_option linter.unusedSimpArgs false
open Go.RowKit
open Oct (S beN putL U I getI)

theorem or_u64 (n c : Nat) (hn : n < 72057594037927936) (hc : c < 256) : bits BinOp.or IntKind.u64 ((n : Int) * 256) (c : Int) = ((n * 256 + c : Nat) : Int) := by
  have := u64_or_nat (n * 256) c (by omega) (by omega)
  rw [show ((n : Int) * 256) = ((n * 256 : Nat) : Int) from by simp, this, nat_join 8 (n * 256) c (by omega) (by omega)]

theorem or_u64w (n c : Nat) (hn : n < 72057594037927936) (hc : c < 256) : bits BinOp.or IntKind.u64 ((n : Int) * 256) (IntKind.u64.wrap (c : Int)) = ((n * 256 + c : Nat) : Int) := by
  rw [wraps_u64 _ (by omega) (by omega), or_u64 n c hn hc]
theorem get_no (s : ByteArray) (at_ size : Int) (w : World) (hs : s.size ≤ maxLen) (h1 : (Lit.int .i64 at_).wf = true) (h2 : (Lit.int .i64 size).wf = true)
   (h : size < 1 ∨ 8 < size ∨ at_ < 0 ∨ s.size < at_ + size) :
    Calls Try.prog 23 #[.string s, .int .i64 at_, .int .i64 size] w (Eq1 (.tuple #[.int .i64 0, .bool false]) w) := by
  unfold maxLen at hs
  go_enter Try.func23, Try.ntmps23
  go_wp2_with (fail)
  all_goals first | (go_ret2; exact ⟨rfl, rfl⟩) | (exfalso; omega)
theorem get_yes (s : ByteArray) (at_ size : Nat) (w : World) (hs : s.size ≤ maxLen) 
   (ha : 1 ≤ size) (hb : size ≤ 8) (hc : at_ + size ≤ s.size) :
    Calls Try.prog 23 #[.string s, .int .i64 at_, .int .i64 size] w (Ret (.tuple #[.int .i64 (getI ((s.data.toList.drop at_).take size)), .bool true]) w) := by
  unfold maxLen at hs
  have HL : Hid ((s.extract at_ (at_ + size)).data.toList = (s.data.toList.drop at_).take size) := by
    show _ = _
    simp [List.extract_eq_take_drop]
  have hlen : ((s.data.toList.drop at_).take size).length = size := by simp; omega
  have HN : Hid (((s.data.toList.drop at_).take size).length = size) := hlen
  obtain ⟨l, hl⟩ : ∃ l, l = (s.data.toList.drop at_).take size := ⟨_, rfl⟩
  rw [← hl] at HL HN ⊢
  clear hlen hl
  go_enter Try.func23, Try.ntmps23
  go_wp2_with ((with_reducible refine wpList_bytes 9 42 5 Try.underlying9 Try.underlying42 Try.underlying5 ?_); refine ⟨_, rfl, ?_⟩; intro g cap w1 hg hz hb1 hcl; rw [HL.out] at hcl)
  go_loop [8, 10, 43] (fun n _ i => ∃ k : Nat, k ≤ size ∧ i = .int .i64 k ∧ n = .int .u64 (beN (l.take k))) (fun _ _ i => size - (intOf i).toNat)
  case atStart => exact ⟨0, Nat.zero_le _, rfl, rfl⟩
  case round =>
    obtain ⟨k, hk, rfl, rfl⟩ := hrel
    by_cases hlt : k < size
    · have hkl : k < l.length := by rw [HN.out]; exact hlt
      have hc := (hcl k hkl).1
      have hbd : beN (l.take k) < 72057594037927936 := by
        have h1 := Oct.beN_lt (l.take k)
        have h2 : (l.take k).length ≤ 7 := by rw [List.length_take]; omega
        have h3 : 256 ^ (l.take k).length ≤ 256 ^ 7 := Nat.pow_le_pow_right (by omega) h2
        have h4 : 256 ^ 7 = 72057594037927936 := by decide
        omega
      have HS : Hid (beN (l.take (k + 1)) = beN (l.take k) * 256 + l[k].toNat) := by
        show _ = _
        rw [List.take_succ_eq_append_getElem hkl, Oct.beN_snoc]
      have hb2 : l[k].toNat < 256 := l[k].toNat_lt
      go_wp2
      go_round
      case rel => exact ⟨k + 1, by omega, by go_num, by rw [HS.out, or_u64 _ _ hbd hb2]⟩
      case measure => simp [intOf]; omega
    · have HK : Hid (l.take k = l) := by
        show _ = _
        rw [List.take_of_length_le]; rw [HN.out]; omega
      go_wp2
      go_ret2
      exact ⟨ret2_int (by rw [HK.out]; rfl), hb1⟩
end Go.Proofs.Ytloengjcniefgaa
