/- Plain: what turned bits do to the sum: bits that are turned within 32 in a row change it. No program here. -/
import Derived.Test.YtloengjcniefgaaOctC
namespace Go.Proofs.Ytloengjcniefgaa.Oct
set_option linter.unusedVariables false
set_option linter.unusedSimpArgs false
theorem xor_mod2 (a b : Nat) : (a ^^^ b) % 2 = (a % 2) ^^^ (b % 2) := by
  have := Nat.xor_mod_two_pow (a := a) (b := b) (n := 1)
  simpa using this
theorem xor_div2 (a b : Nat) : (a ^^^ b) / 2 = (a / 2) ^^^ (b / 2) := by
  have := Nat.xor_div_two_pow (a := a) (b := b) (n := 1)
  simpa using this
theorem stepN_xor (a b : Nat) : stepN (a ^^^ b) = stepN a ^^^ stepN b := by
  unfold stepN
  rw [xor_mod2, xor_div2]
  rcases Nat.mod_two_eq_zero_or_one a with ha | ha <;> rcases Nat.mod_two_eq_zero_or_one b with hb | hb <;> simp [ha, hb]
  · rw [Nat.xor_assoc]
  · rw [Nat.xor_assoc, Nat.xor_assoc, Nat.xor_comm (b / 2)]
  · rw [Nat.xor_assoc, ← Nat.xor_assoc 3988292384, Nat.xor_comm 3988292384, Nat.xor_assoc (b / 2)]; simp
theorem stepsN_xor (k a b : Nat) : stepsN k (a ^^^ b) = stepsN k a ^^^ stepsN k b := by
  induction k with
  | zero => rfl
  | succ k ih => simp only [stepsN, ih, stepN_xor]
theorem stepsN_add (j k a : Nat) : stepsN (j + k) a = stepsN j (stepsN k a) := by
  induction j with
  | zero => simp [stepsN]
  | succ j ih => rw [Nat.succ_add]; simp only [stepsN, ih]
theorem regN_cons (c : Nat) (b : UInt8) (l : List UInt8) : regN c (b :: l) = regN (stepsN 8 (c ^^^ b.toNat)) l := by simp [regN]
theorem regN_append (c : Nat) (a b : List UInt8) : regN c (a ++ b) = regN (regN c a) b := by simp [regN]
theorem regN_xor (c d : Nat) (l : List UInt8) : regN (c ^^^ d) l = regN c l ^^^ stepsN (8 * l.length) d := by
  induction l generalizing c d with
  | nil => rfl
  | cons b l ih =>
    rw [regN_cons, regN_cons]
    have e : c ^^^ d ^^^ b.toNat = (c ^^^ b.toNat) ^^^ d := by rw [Nat.xor_assoc, Nat.xor_comm d, ← Nat.xor_assoc]
    rw [e, stepsN_xor, ih, ← stepsN_add]
    simp only [List.length_cons]
    congr 2
theorem stepN_ne (c : Nat) (h : c < 4294967296) (h0 : c ≠ 0) : stepN c ≠ 0 := by
  unfold stepN
  split
  · intro h1
    have h2 : (c / 2 ^^^ 3988292384) ^^^ 3988292384 = 0 ^^^ 3988292384 := by rw [h1]
    rw [Nat.xor_assoc, Nat.xor_self, Nat.xor_zero, Nat.zero_xor] at h2
    omega
  · omega
theorem stepsN_ne (k c : Nat) (h : c < 4294967296) (h0 : c ≠ 0) : stepsN k c ≠ 0 := by
  induction k with
  | zero => exact h0
  | succ k ih => exact stepN_ne _ (stepsN_lt _ _ h) ih
theorem stepsN_pow (i : Nat) (h : i < 32) : stepsN i (2 ^ i) = 1 := by
  have : ∀ i : Fin 32, stepsN i.val (2 ^ i.val) = 1 := by decide +kernel
  exact this ⟨i, h⟩
theorem stepsN_at (m i : Nat) (h : i < 32) (him : i ≤ m) : stepsN (m - i) 1 = stepsN m (2 ^ i) := by
  rw [← stepsN_pow i h, ← stepsN_add, show m - i + i = m from by omega]

/-- One bit turned: bit p of the bytes, counted from the lowest of the first. -/
def flipL (l : List UInt8) (p : Nat) : List UInt8 := l.set (p / 8) (l.getD (p / 8) 0 ^^^ UInt8.ofNat (2 ^ (p % 8)))
theorem flipL_length (l : List UInt8) (p : Nat) : (flipL l p).length = l.length := by simp [flipL]
theorem regN_flip (c : Nat) (l : List UInt8) (p : Nat) (h : p < 8 * l.length) : regN c (flipL l p) = regN c l ^^^ stepsN (8 * l.length - p) 1 := by
  have hk : p / 8 < l.length := by omega
  have e1 : l = l.take (p / 8) ++ l[p / 8] :: l.drop (p / 8 + 1) := by simp
  have e2 : flipL l p = l.take (p / 8) ++ (l[p / 8] ^^^ UInt8.ofNat (2 ^ (p % 8))) :: l.drop (p / 8 + 1) := by
    rw [flipL, ← List.getElem_eq_getD (h := hk) 0, List.set_eq_take_append_cons_drop, if_pos hk]
  have h8 : 2 ^ (p % 8) < 256 := by
    have : 2 ^ (p % 8) ≤ 2 ^ 7 := Nat.pow_le_pow_right (by omega) (by omega)
    omega
  have e3 : (l[p / 8] ^^^ UInt8.ofNat (2 ^ (p % 8))).toNat = l[p / 8].toNat ^^^ 2 ^ (p % 8) := by
    rw [UInt8.toNat_xor, ofNat_toNat, Nat.mod_eq_of_lt h8]
  rw [e2, regN_append, regN_cons, e3, ← Nat.xor_assoc, stepsN_xor, regN_xor, ← stepsN_add]
  conv => rhs; rw [e1]
  rw [regN_append, regN_cons]
  simp only [List.length_append, List.length_cons, List.length_take, List.length_drop]
  congr 1
  have h2 := stepsN_at (8 * (l.length - (p / 8 + 1)) + 8) (p % 8) (by omega) (by omega)
  rw [← h2]
  congr 1
  omega

/-- The bits from one on turned where a mask has ones: the first n of the mask. -/
def turnL (l : List UInt8) (at_ mask : Nat) : Nat → List UInt8
  | 0 => l
  | n + 1 => if mask / 2 ^ n % 2 = 1 then flipL (turnL l at_ mask n) (at_ + n) else turnL l at_ mask n
theorem turnL_length (l : List UInt8) (at_ mask n : Nat) : (turnL l at_ mask n).length = l.length := by
  induction n with
  | zero => rfl
  | succ n ih => rw [turnL]; split <;> simp [flipL_length, ih]
theorem regN_turn (c : Nat) (l : List UInt8) (at_ mask n : Nat) (h : at_ + n ≤ 8 * l.length) (h32 : n ≤ 32) :
    regN c (turnL l at_ mask n) = regN c l ^^^ stepsN (8 * l.length - at_) (mask % 2 ^ n) := by
  induction n with
  | zero =>
    have : ∀ k, stepsN k 0 = 0 := by
      intro k
      induction k with
      | zero => rfl
      | succ k ih => simp [stepsN, ih, stepN]
    simp [turnL, Nat.mod_one, this]
  | succ n ih =>
    have ih := ih (by omega) (by omega)
    rw [turnL, Nat.mod_pow_succ]
    by_cases hb : mask / 2 ^ n % 2 = 1
    · rw [if_pos hb, regN_flip _ _ _ (by rw [turnL_length]; omega), ih, turnL_length, Nat.xor_assoc]
      have h2 := stepsN_at (8 * l.length - at_) n (by omega) (by omega)
      rw [show 8 * l.length - (at_ + n) = 8 * l.length - at_ - n from by omega, h2, ← stepsN_xor, hb]
      congr 2
      have h3 : mask % 2 ^ n < 2 ^ n := Nat.mod_lt _ (Nat.two_pow_pos n)
      have h4 := Nat.two_pow_add_eq_or_of_lt h3 1
      simp only [Nat.mul_one] at h4 ⊢
      rw [Nat.add_comm, h4]
      apply Nat.eq_of_testBit_eq
      intro i
      rw [Nat.testBit_xor, Nat.testBit_or, Nat.testBit_two_pow, Nat.testBit_mod_two_pow]
      by_cases hi : n = i
      · subst hi; simp
      · simp [hi]
    · rw [if_neg hb, ih, show mask / 2 ^ n % 2 = 0 from by omega]
      simp
/-- How many bits of the mask count. -/
def turnN (l : List UInt8) (at_ : Int) : Nat := if at_ < 0 ∨ 8 * (l.length : Int) ≤ at_ then 0 else min 32 (8 * l.length - at_.toNat)
theorem turnL_none (l : List UInt8) (at_ mask n : Nat) (h : mask % 2 ^ n = 0) : turnL l at_ mask n = l := by
  induction n with
  | zero => rfl
  | succ n ih =>
    have hd : 2 ^ (n + 1) ∣ mask := Nat.dvd_of_mod_eq_zero h
    have hd1 : 2 ^ n ∣ mask := Nat.dvd_trans (Nat.pow_dvd_pow 2 (Nat.le_succ n)) hd
    have hm : mask / 2 ^ n % 2 ≠ 1 := by
      obtain ⟨k, hk⟩ := hd
      rw [hk, Nat.pow_succ, Nat.mul_assoc, Nat.mul_div_cancel_left _ (Nat.two_pow_pos n)]
      omega
    rw [turnL, if_neg hm, ih (Nat.mod_eq_zero_of_dvd hd1)]
/-- The sum tells whether the bytes are as they were. -/
theorem sum_turn (l : List UInt8) (at_ mask n : Nat) (h : at_ + n ≤ 8 * l.length) (h32 : n ≤ 32) : sumN (turnL l at_ mask n) = sumN l ↔ turnL l at_ mask n = l := by
  constructor
  · intro he
    have hlt : mask % 2 ^ n < 4294967296 := by
      have h1 : mask % 2 ^ n < 2 ^ n := Nat.mod_lt _ (Nat.two_pow_pos n)
      have h2 : 2 ^ n ≤ 2 ^ 32 := Nat.pow_le_pow_right (by omega) h32
      omega
    by_cases h0 : mask % 2 ^ n = 0
    · exact turnL_none l at_ mask n h0
    · exfalso
      have h1 := stepsN_ne (8 * l.length - at_) _ hlt h0
      apply h1
      unfold sumN at he
      rw [regN_turn _ _ _ _ _ h h32] at he
      have h2 : ∀ a b c : Nat, a ^^^ b ^^^ c = a ^^^ c → b = 0 := by
        intro a b c hh
        have h3 : (a ^^^ b ^^^ c) ^^^ c = (a ^^^ c) ^^^ c := by rw [hh]
        rw [Nat.xor_assoc, Nat.xor_self, Nat.xor_zero, Nat.xor_assoc, Nat.xor_self, Nat.xor_zero] at h3
        have h4 : a ^^^ (a ^^^ b) = a ^^^ a := by rw [h3]
        rw [← Nat.xor_assoc, Nat.xor_self, Nat.zero_xor] at h4
        exact h4
      exact h2 _ _ _ he
  · intro he; rw [he]
end Go.Proofs.Ytloengjcniefgaa.Oct
