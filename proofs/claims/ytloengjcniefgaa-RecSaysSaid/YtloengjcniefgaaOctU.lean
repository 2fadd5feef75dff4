/- octet.Put and the reference's Put: what they answer. -/
import Derived.Test.YtloengjcniefgaaRows
import Derived.Test.YtloengjcniefgaaKit
import Derived.Test.YtloengjcniefgaaOctP
import Derived.IntWalk
namespace Go.Proofs.Ytloengjcniefgaa
set_option linter.unusedVariables false
set_option linter.unusedSimpArgs false
open Go.RowKit
open Oct (S beN putL U I getI)
theorem info_u8 : (Try.prog.info? 5).map (fun i => (i.zero, i.size, i.bytes)) = some (some (.int .u8 0), 1, 1) := by kernel_rfl

theorem byte_of (n : Int) (j : Nat) : IntKind.u64.wrap n / 2 ^ (8 * j) % 256 = ((UInt8.ofNat (U n / 256 ^ j % 256)).toNat : Int) := by
  rw [Oct.ofNat_toNat, Nat.mod_mod, IntKind.wrap_u64, ← Oct.U_cast]
  have h : (256 : Nat) ^ j = 2 ^ (8 * j) := by rw [Nat.pow_mul]
  rw [h]
  simp
theorem put_step {n : Int} {size k : Nat} {l : List UInt8} (hl : l = putL (U n) size) (hk : k < size) :
    l.take (k + 1) ++ List.replicate (size - (k + 1)) 0 = (l.take k ++ List.replicate (size - k) 0).set k (UInt8.ofNat (U n / 256 ^ (size - 1 - k) % 256)) := by
  have hlen : l.length = size := by rw [hl, Oct.putL_length]
  have hg := Oct.putL_get (U n) size k hk
  rw [← hl] at hg
  obtain ⟨hk2, hg⟩ := List.getElem?_eq_some_iff.1 hg
  rw [List.take_succ_eq_append_getElem hk2, hg, show size - k = (size - (k + 1)) + 1 from by omega, List.replicate_succ]
  rw [List.set_append_right _ _ (by simp; omega)]
  simp [show min k l.length = k from by omega]
theorem and_255 (m : Nat) (hm : m < 18446744073709551616) : bits BinOp.and IntKind.u64 (m : Int) 255 = ((m % 256 : Nat) : Int) := by
  have := u64_and_nat m 255 hm (by omega)
  rw [show ((255 : Nat) : Int) = 255 from rfl] at this
  rw [this, nat_mask8]
theorem put_no (n size : Int) (w : World) (h : size < 0 ∨ 8 < size) :
    Calls Try.prog 18 #[.int .i64 n, .int .i64 size] w (Eq1 (.string (S [])) w) := by
  go_enter Try.func18, Try.ntmps18
  go_wp2_with (fail)
  all_goals first | (go_ret; exact ⟨rfl, rfl⟩) | (exfalso; omega)
theorem put_yes (n : Int) (size : Nat) (w : World) (hb : size ≤ 8) :
    Calls Try.prog 18 #[.int .i64 n, .int .i64 size] w (Ret (.string (S (putL (U n) size))) w) := by
  obtain ⟨l, HL⟩ : ∃ l, Hid (l = putL (U n) size) := ⟨_, rfl⟩
  rw [← HL.out]
  have HN : Hid (l.length = size) := by show _ = _; rw [HL.out, Oct.putL_length]
  go_enter Try.func18, Try.ntmps18
  go_wp2_with ((with_reducible refine wpList_makeBytes 42 5 Try.underlying42 info_u8 ?_); refine ⟨size, _, _, rfl, rfl, by omega, ?_⟩; intro g w1 hg hz hb1 hcl)
  go_loopw [6, 17] (fun _ i wr => ∃ k : Nat, k ≤ size ∧ i = .int .i64 k ∧ g < wr.heap.size ∧ Below w.heap.size w wr ∧ BytesAt wr g (l.take k ++ List.replicate (size - k) 0)) (fun _ i _ => size - (intOf i).toNat)
  case atStart => exact ⟨0, Nat.zero_le _, rfl, hz, hb1, by simpa using hcl⟩
  case round =>
    obtain ⟨k, hk, rfl, hz1, hb2, hcl2⟩ := hrel
    by_cases hlt : k < size
    · have h := hcl2 k (by simp; rw [HN.out]; omega)
      obtain ⟨hc1, hc2⟩ := h
      go_wp2
      go_roundw
      case rel =>
        refine ⟨k + 1, by omega, by go_num, by simpa using hz1, hb2.setCell hg _, ?_⟩
        rw [byte_of n (size - 1 - k), put_step HL.out hlt]
        exact hcl2.set k (by simp; rw [HN.out]; omega) _
      case measure => simp [intOf]; omega
    · have HK : Hid (l.take k ++ List.replicate (size - k) 0 = l) := by
        show _ = _
        rw [List.take_of_length_le (by rw [HN.out]; omega), show size - k = 0 from by omega]; simp
      rw [HK.out] at hcl2
      go_wp2_with ((with_reducible refine wpList_stringOf 42 9 5 Try.underlying42 Try.underlying5 Try.underlying9 l ?_); refine ⟨g, _, _, rfl, HN.out.symm, hcl2, ?_⟩)
      go_ret
      exact ⟨rfl, hb2⟩

theorem rput_no (n size : Int) (w : World) (h : size < 0 ∨ 8 < size) :
    Calls Try.prog 21 #[.int .i64 n, .int .i64 size] w (Eq1 (.string (S [])) w) := by
  go_enter Try.func21, Try.ntmps21
  go_wp2_with (fail)
  all_goals first | (go_ret; exact ⟨rfl, rfl⟩) | (exfalso; omega)
theorem rput_yes (n : Int) (size : Nat) (w : World) (hb : size ≤ 8) :
    Calls Try.prog 21 #[.int .i64 n, .int .i64 size] w (Ret (.string (S (putL (U n) size))) w) := by
  go_enter Try.func21, Try.ntmps21
  go_wp2_with fail
  go_loopw [5, 6, 7] (fun o u i wr => ∃ k : Nat, k ≤ size ∧ i = .int .i64 k ∧ o = .string (S (putL (U n) k)) ∧ u = .int .u64 (U n / 256 ^ k : Nat) ∧ Below w.heap.size w wr) (fun _ _ i _ => size - (intOf i).toNat)
  case atStart => exact ⟨0, Nat.zero_le _, rfl, rfl, by simp [Oct.U_cast, IntKind.wrap_u64], Below.refl _ _⟩
  case round =>
    obtain ⟨k, hk, rfl, rfl, rfl, hb2⟩ := hrel
    by_cases hlt : k < size
    · have hBd := hb2.size
      obtain ⟨m, HM⟩ : ∃ m, Hid (m = U n / 256 ^ k) := ⟨_, rfl⟩
      rw [← HM.out]
      have hm : m < 18446744073709551616 := by rw [HM.out]; exact Nat.lt_of_le_of_lt (Nat.div_le_self _ _) (Oct.U_lt n)
      obtain ⟨l, HL⟩ : ∃ l, Hid (l = putL (U n) k) := ⟨_, rfl⟩
      rw [← HL.out]
      have HN : l.length ≤ 8 := by rw [HL.out, Oct.putL_length]; omega
      go_wp2_with (first | ((with_reducible refine wpList_stringOf 42 9 5 Try.underlying42 Try.underlying5 Try.underlying9 [UInt8.ofNat (m % 256)] ?_); refine ⟨_, _, _, rfl, rfl, bytesAt_one _ _ _ _ ?_, ?_⟩; (rw [Oct.ofNat_toNat, and_255 m hm]; omega)) | ((with_reducible refine wpList_concat _ ?_); refine ⟨_, _, rfl, rfl, ?_, ?_⟩; (simp [S]; omega)))
      go_roundw
      case rel =>
        refine ⟨k + 1, by omega, by go_num, ?_, ?_, hb2.alloc hBd _⟩
        · rw [Oct.putL_cons, ← HM.out, ← HL.out]
          exact congrArg Value.string (Oct.S_append [_] l)
        · have := HM.out
          rw [Nat.pow_succ, ← Nat.div_div_eq_div_mul, ← this]
          simp
      case measure => simp [intOf]; omega
    · have hks : k = size := by omega
      subst hks
      go_wp2
      go_ret
      exact ⟨rfl, hb2⟩
end Go.Proofs.Ytloengjcniefgaa
