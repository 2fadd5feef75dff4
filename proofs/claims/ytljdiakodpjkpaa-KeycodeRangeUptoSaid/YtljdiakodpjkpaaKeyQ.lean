/- Keys of rows: plain facts for Put. -/
import Derived.Test.YtljdiakodpjkpaaKeyP
import Derived.Test.YtljdiakodpjkpaaRgt07
namespace Go.Proofs.Ytljdiakodpjkpaa
set_option linter.unusedVariables false
set_option linter.unusedSimpArgs false
open Go.RowKit
open Oct (S beN putL U I getI)
theorem xor_pow (k u : Nat) (hu : u < 2 ^ (k + 1)) : u ^^^ 2 ^ k = (2 ^ k + u) % 2 ^ (k + 1) := by
  apply Nat.eq_of_testBit_eq
  intro i
  rw [Nat.testBit_xor, Nat.testBit_mod_two_pow, Nat.testBit_two_pow]
  rcases Nat.lt_trichotomy i k with h | h | h
  · rw [Nat.testBit_two_pow_add_gt h]
    have h1 : ¬ k = i := by omega
    have h2 : i < k + 1 := by omega
    simp [h1, h2]
  · subst h
    rw [Nat.testBit_two_pow_add_eq]
    simp
  · have h1 : ¬ k = i := by omega
    have h2 : ¬ i < k + 1 := by omega
    have h3 : u.testBit i = false := Nat.testBit_lt_two_pow (Nat.lt_of_lt_of_le hu (Nat.pow_le_pow_right (by decide) (by omega)))
    simp [h1, h2, h3]
theorem xor_top (u : Nat) (hu : u < 18446744073709551616) : u ^^^ 9223372036854775808 = (u + 9223372036854775808) % 18446744073709551616 := by
  have := xor_pow 63 u (by simpa using hu)
  rw [show (2 : Nat) ^ 63 = 9223372036854775808 from rfl, show (2 : Nat) ^ (63 + 1) = 18446744073709551616 from rfl] at this
  rw [this, Nat.add_comm]
theorem key_u (n : Int) : IntKind.u64.wrap n = (U n : Int) := by rw [Oct.U_cast, IntKind.wrap_u64]
theorem key_x (n : Int) : bits BinOp.xor IntKind.u64 (U n : Int) 9223372036854775808 = ((U n ^^^ 9223372036854775808 : Nat) : Int) := by
  have e9 := u64_xor_nat (U n) 9223372036854775808 (Oct.U_lt n) (by omega)
  exact e9
theorem key_i (n : Int) (z : Nat) (h1 : -9223372036854775808 ≤ n) (h2 : n ≤ 9223372036854775807) (hz2 : (U n + 9223372036854775808) % 18446744073709551616 = z) : U (IntKind.i64.wrap (z : Int)) = offs n := by
  have e3 := Oct.U_cast n
  have e4 := Oct.U_lt n
  rw [IntKind.wrap_i64]
  unfold offs U
  unfold U at hz2 e3 e4
  omega
theorem key_num (n : Int) (h1 : -9223372036854775808 ≤ n) (h2 : n ≤ 9223372036854775807) : U (IntKind.i64.wrap (bits BinOp.xor IntKind.u64 (IntKind.u64.wrap n) 9223372036854775808)) = offs n := by
  rw [key_u, key_x]
  exact key_i n _ h1 h2 (xor_top _ (Oct.U_lt n)).symm
theorem inB_bounds {n : Int} (h : inB n = true) : -9223372036854775808 ≤ n ∧ n ≤ 9223372036854775807 := by
  unfold inB at h
  simp only [Bool.and_eq_true, decide_eq_true_eq] at h
  omega
theorem encV_null : encV ⟨0, 0, ⟨#[]⟩⟩ = [0] := rfl
theorem encV_b0 : encV ⟨1, 0, ⟨#[]⟩⟩ = [1, 0] := rfl
theorem encV_b1 : encV ⟨1, 1, ⟨#[]⟩⟩ = [1, 1] := rfl
theorem encV_int (n : Int) : encV ⟨2, n, ⟨#[]⟩⟩ = [2] ++ putL (offs n) 8 := by simp [encV]
theorem encV_text (s : ByteArray) : encV ⟨3, 0, s⟩ = [3] ++ (s.data.toList ++ [0]) := by simp [encV]
theorem enc_take (l : List Vl) (k : Nat) (hk : k < l.length) : encL (l.take (k + 1)) = encL (l.take k) ++ encV l[k] := by
  rw [encL, encL, List.take_succ_eq_append_getElem hk, List.flatMap_append, List.flatMap_singleton]
theorem encV_len (v : Vl) (h : rightV v = true) : (encV v).length ≤ 102 := by
  rcases right_cases v h with rfl | rfl | rfl | ⟨n, hn, rfl⟩ | ⟨s, h1, h2, rfl⟩
  · decide
  · decide
  · decide
  · show (2 :: putL (offs n) 8).length ≤ _; simp [Oct.putL_length]
  · show (3 :: (s.data.toList ++ [0])).length ≤ _
    have : s.data.toList.length = s.size := by simp
    simp only [List.length_cons, List.length_append, this, List.length_nil]; omega
theorem encL_len (l : List Vl) (h : ∀ v ∈ l, rightV v = true) : (encL l).length ≤ 102 * l.length := by
  induction l with
  | nil => simp [encL]
  | cons v l ih =>
    rw [encL_cons, List.length_append, List.length_cons]
    have h1 := encV_len v (h v (List.mem_cons_self ..))
    have h2 := ih fun x hx => h x (List.mem_cons_of_mem _ hx)
    omega
theorem rights_mem7 {l : List Vl} (h : rightsL l = true) : ∀ v ∈ l, rightV v = true := fun v hv => List.all_eq_true.1 h v hv
theorem enc_take_len {l : List Vl} (h : rightsL l = true) (hl : l.length ≤ 1000000000000) (k : Nat) : (encL (l.take k)).length ≤ 102000000000000 := by
  have h1 := encL_len (l.take k) (fun v hv => rights_mem7 h v (List.mem_of_mem_take hv))
  have h2 : (l.take k).length ≤ l.length := by rw [List.length_take]; omega
  omega
end Go.Proofs.Ytljdiakodpjkpaa
