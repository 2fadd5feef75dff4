/- The reference's Turned: what it answers. -/
import Derived.Test.YtlnanbajbkbcaaaRows
import Derived.Test.YtlnanbajbkbcaaaKit
import Derived.Test.YtlnanbajbkbcaaaOctF
import Derived.IntWalk
import Derived.StillTailTactics
import Derived.Deep.QuietTactic
import Derived.BigQuiet
namespace Go.Proofs.Ytlnanbajbkbcaaa
set_option linter.unusedVariables false
set_option linter.unusedSimpArgs false
open Go.RowKit
open Oct (S turnL turnN)
theorem bit_of (mask k : Nat) (hm : mask < 4294967296) : bits BinOp.and IntKind.u32 ((mask : Int) / 2 ^ k) 1 = ((mask / 2 ^ k % 2 : Nat) : Int) := by
  have h1 : mask / 2 ^ k < 4294967296 := Nat.lt_of_le_of_lt (Nat.div_le_self _ _) hm
  have := u32_and_nat (mask / 2 ^ k) 1 h1 (by omega)
  rw [show ((1 : Nat) : Int) = 1 from rfl, nat_mask1] at this
  rw [← this]
  simp
theorem xor_byte (b : UInt8) (j : Nat) : bits BinOp.xor IntKind.u8 (b.toNat : Int) (2 ^ j % 256) = ((b ^^^ UInt8.ofNat (2 ^ j)).toNat : Int) := by
  have h1 : ((2 : Int) ^ j % 256) = ((2 ^ j % 256 : Nat) : Int) := by simp
  rw [h1, u8_xor_nat _ _ b.toNat_lt (by omega), UInt8.toNat_xor, Oct.ofNat_toNat]
theorem turned_no (s : ByteArray) (at_ : Int) (mask : Nat) (w : World) (hs : s.size ≤ 100000) (h : at_ < 0 ∨ 8 * (s.size : Int) ≤ at_) :
    Calls Try.prog 19 #[.string s, .int .i64 at_, .int .u32 mask] w (Ret (.string s) w) := by
  go_enter Try.func19, Try.ntmps19
  go_wp2_with ((with_reducible refine wpList_bytes 9 39 5 Try.underlying9 Try.underlying39 Try.underlying5 ?_); refine ⟨_, rfl, ?_⟩; intro g cap w1 hg hz hb1 hcl)
  all_goals first | (go_ret; exact ⟨rfl, hb1⟩) | (exfalso; omega)
theorem turned_yes (s : ByteArray) (at_ mask : Nat) (w : World) (hs : s.size ≤ 100000) (hm : mask < 4294967296) (h : at_ < 8 * s.size) :
    Calls Try.prog 19 #[.string s, .int .i64 at_, .int .u32 mask] w (Ret (.string (S (turnL s.data.toList at_ mask (min 32 (8 * s.size - at_))))) w) := by
  obtain ⟨l, HL⟩ : ∃ l, Hid (l = s.data.toList) := ⟨_, rfl⟩
  rw [← HL.out]
  have HN : Hid (l.length = s.size) := by show _ = _; rw [HL.out]; simp
  go_enter Try.func19, Try.ntmps19
  go_wp2_with ((with_reducible refine wpList_bytes 9 39 5 Try.underlying9 Try.underlying39 Try.underlying5 ?_); refine ⟨_, rfl, ?_⟩; intro g cap w1 hg hz hb1 hcl; rw [← HL.out] at hcl)
  go_loopw [8, 9] (fun i _ wr => ∃ k : Nat, k ≤ 32 ∧ at_ + k ≤ 8 * s.size ∧ i = .int .i64 k ∧ g < wr.heap.size ∧ Below w.heap.size w wr ∧ BytesAt wr g (turnL l at_ mask k)) (fun i _ _ => 32 - (intOf i).toNat)
  case atStart => exact ⟨0, by omega, by omega, rfl, hz, hb1, hcl⟩
  case round =>
    obtain ⟨k, hk, hk2, rfl, hz1, hb2, hcl2⟩ := hrel
    by_cases hlt : k < 32 ∧ at_ + k < 8 * s.size
    · obtain ⟨hlt, hlt2⟩ := hlt
      have hkl : (at_ + k) / 8 < (turnL l at_ mask k).length := by rw [Oct.turnL_length, HN.out]; omega
      have hc0 := hcl2 ((at_ + k) / 8) hkl
      obtain ⟨hc1, hc2⟩ := hc0
      by_cases hbit : mask / 2 ^ k % 2 = 1
      · have hbt : (bits BinOp.and IntKind.u32 ((mask : Int) / 2 ^ k) 1 == 1) = true := by rw [bit_of mask k hm, hbit]; rfl
        have hlo : (0 : Int) ≤ ((at_ : Int) + k) / 8 := by omega
        have hhi : ((at_ : Int) + k) / 8 < s.size := by omega
        have heq : (((at_ : Int) + k) / 8).toNat = (at_ + k) / 8 := by omega
        have hwr : IntKind.i64.wrap ((at_ : Int) + k) = (at_ : Int) + k := IntWalk.i64_in _ (by omega)
        have htm : ((at_ : Int) + k).tmod 8 = ((at_ : Int) + k) % 8 := Int.tmod_eq_emod_of_nonneg (by omega)
        have hsh : (0 : Int) ≤ ((at_ : Int) + k) % 8 := by omega
        go_wp2
        go_still_tail 12, (by kernel_rfl)
        change wpList _ _ _ _ _ wr.drew
        generalize hw2 : wr.drew = w2
        clear hlo hhi heq hc1 hc2 hwr htm hsh
        have hc1 : w2.cell? { block := g, off := (at_ + k) / 8 } = some (Value.int IntKind.u8 ((turnL l at_ mask k)[(at_ + k) / 8]'hkl).toNat) := by rw [← hw2]; exact (hcl2 _ hkl).1
        have hc2 : w2.frozen? { block := g, off := (at_ + k) / 8 } = false := by rw [← hw2]; exact (hcl2 _ hkl).2
        replace hz1 : g < w2.heap.size := by rw [← hw2]; exact hz1
        replace hb2 : Below w.heap.size w w2 := by rw [← hw2]; exact hb2.drew
        replace hcl2 : BytesAt w2 g (turnL l at_ mask k) := by rw [← hw2]; exact hcl2
        clear hw2
        go_wp2
        go_roundw
        case rel =>
          refine ⟨k + 1, by omega, by omega, by go_num, by simpa using hz1, hb2.setCell hg _, ?_⟩
          rw [xor_byte, turnL, if_pos hbit, Oct.flipL, ← List.getElem_eq_getD (h := hkl) 0]
          exact hcl2.set _ hkl _
        case measure => simp [intOf]; omega
      · have hbt : (bits BinOp.and IntKind.u32 ((mask : Int) / 2 ^ k) 1 == 1) = false := by rw [bit_of mask k hm, show mask / 2 ^ k % 2 = 0 from by omega]; rfl
        go_wp2
        go_roundw
        case rel =>
          refine ⟨k + 1, by omega, by omega, by go_num, hz1, hb2, ?_⟩
          rw [turnL, if_neg hbit]
          exact hcl2
        case measure => simp [intOf]; omega
    · have hkk : k = min 32 (8 * s.size - at_) := by omega
      have HF : Hid ((turnL l at_ mask k).length = s.size) := by show _ = _; rw [Oct.turnL_length, HN.out]
      have HK := Lib.hid hkk
      clear hkk
      by_cases h32 : k = 32
      · have hk32 : ¬ k < 32 := by omega
        clear h32
        go_wp2_with ((with_reducible refine wpList_stringOf 39 9 5 Try.underlying39 Try.underlying5 Try.underlying9 (turnL l at_ mask k) ?_); refine ⟨g, _, _, rfl, HF.out.symm, hcl2, ?_⟩)
        go_ret
        refine ⟨?_, hb2⟩
        rw [← HK.out]
        rfl
      · have hk32 : k < 32 := by omega
        have hat : ¬ ((at_ : Int) + k < 8 * s.size) := by omega
        clear h32 hlt
        go_wp2_with ((with_reducible refine wpList_stringOf 39 9 5 Try.underlying39 Try.underlying5 Try.underlying9 (turnL l at_ mask k) ?_); refine ⟨g, _, _, rfl, HF.out.symm, hcl2, ?_⟩)
        go_ret
        refine ⟨?_, hb2⟩
        rw [← HK.out]
        rfl
/-- At any place. -/
def turnS (l : List UInt8) (at_ : Int) (mask : Nat) : List UInt8 := if at_ < 0 ∨ 8 * (l.length : Int) ≤ at_ then l else turnL l at_.toNat mask (min 32 (8 * l.length - at_.toNat))
theorem turned_any (s : ByteArray) (at_ : Int) (mask : Nat) (w : World) (hs : s.size ≤ 100000) (hm : mask < 4294967296) :
    Calls Try.prog 19 #[.string s, .int .i64 at_, .int .u32 mask] w (Ret (.string (S (turnS s.data.toList at_ mask))) w) := by
  have hl : (s.data.toList.length : Int) = (s.size : Int) := by simp
  have hl' : s.data.toList.length = s.size := by simp
  unfold turnS
  rw [hl, hl']
  by_cases h : at_ < 0 ∨ 8 * (s.size : Int) ≤ at_
  · rw [if_pos h, Oct.S_of]
    exact turned_no s at_ mask w hs h
  · rw [if_neg h]
    obtain ⟨a, rfl⟩ := Int.eq_ofNat_of_zero_le (show 0 ≤ at_ by omega)
    exact turned_yes s a mask w hs hm (by omega)
theorem turnS_sum (l : List UInt8) (at_ : Int) (mask : Nat) : Oct.sumN (turnS l at_ mask) = Oct.sumN l ↔ turnS l at_ mask = l := by
  unfold turnS
  split
  · simp
  · exact Oct.sum_turn _ _ _ _ (by omega) (by omega)
theorem turnS_length (l : List UInt8) (at_ : Int) (mask : Nat) : (turnS l at_ mask).length = l.length := by
  unfold turnS
  split
  · rfl
  · exact Oct.turnL_length _ _ _ _
end Go.Proofs.Ytlnanbajbkbcaaa
