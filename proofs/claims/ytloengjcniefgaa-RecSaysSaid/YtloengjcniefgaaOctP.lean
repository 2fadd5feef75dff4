/- Plain facts on numbers in bytes, the highest first: how many they are, what each is, what they tell. No program here. -/
import Derived.Laws.BitsAllLaws
import Derived.Lib.EndianBits
import Derived.RowKit
namespace Go.Proofs.Ytloengjcniefgaa.Oct
set_option linter.unusedVariables false
set_option linter.unusedSimpArgs false
/-- A string of bytes. -/
abbrev S (l : List UInt8) : ByteArray := ⟨l.toArray⟩
theorem S_data (l : List UInt8) : (S l).data.toList = l := rfl
theorem S_size (l : List UInt8) : (S l).size = l.length := by show l.toArray.size = _; simp
theorem S_of (s : ByteArray) : S s.data.toList = s := by cases s; simp [S]
theorem size_of (s : ByteArray) : s.data.toList.length = s.size := by simp
theorem S_append (a b : List UInt8) : S a ++ S b = S (a ++ b) := by apply ByteArray.ext; simp [S]
theorem S_inj {a b : List UInt8} (h : S a = S b) : a = b := by have := congrArg (fun s : ByteArray => s.data.toList) h; simpa using this

theorem snoc_ind {α : Type} {p : List α → Prop} (h0 : p []) (h1 : ∀ l a, p l → p (l ++ [a])) (l : List α) : p l := by
  have : ∀ n, ∀ l : List α, l.length = n → p l := by
    intro n
    induction n with
    | zero => intro l hl; rw [List.eq_nil_of_length_eq_zero hl]; exact h0
    | succ n ih =>
      intro l hl
      have hne : l ≠ [] := by intro e; simp [e] at hl
      rw [← List.dropLast_concat_getLast hne]
      exact h1 _ _ (ih _ (by simp [hl]))
  exact this _ l rfl

/-- The number that bytes tell. -/
def beN (l : List UInt8) : Nat := l.foldl (fun n c => n * 256 + c.toNat) 0
theorem beN_snoc (l : List UInt8) (c : UInt8) : beN (l ++ [c]) = beN l * 256 + c.toNat := by simp [beN]
theorem beN_nil : beN [] = 0 := rfl
theorem beN_lt (l : List UInt8) : beN l < 256 ^ l.length := by
  refine snoc_ind (p := fun l => beN l < 256 ^ l.length) (by simp [beN]) ?_ l
  intro l c ih
  rw [beN_snoc, List.length_append, List.length_singleton, Nat.pow_succ]
  have := c.toNat_lt
  omega
/-- The lowest k bytes of u. -/
def putL (u : Nat) : Nat → List UInt8
  | 0 => []
  | k + 1 => putL (u / 256) k ++ [UInt8.ofNat (u % 256)]
theorem putL_length (u k : Nat) : (putL u k).length = k := by
  induction k generalizing u with
  | zero => rfl
  | succ k ih => simp [putL, ih]
theorem putL_cons (u k : Nat) : putL u (k + 1) = UInt8.ofNat (u / 256 ^ k % 256) :: putL u k := by
  induction k generalizing u with
  | zero => simp [putL]
  | succ k ih =>
    rw [putL, ih, putL]
    simp [Nat.div_div_eq_div_mul, Nat.pow_succ, Nat.mul_comm]
theorem putL_get (u k i : Nat) (h : i < k) : (putL u k)[i]? = some (UInt8.ofNat (u / 256 ^ (k - 1 - i) % 256)) := by
  induction k generalizing i with
  | zero => omega
  | succ k ih =>
    rw [putL_cons]
    cases i with
    | zero => simp
    | succ i => simp only [List.getElem?_cons_succ]; rw [ih i (by omega)]; congr 5; omega
theorem ofNat_toNat (n : Nat) : (UInt8.ofNat n).toNat = n % 256 := by simp
theorem beN_putL (u k : Nat) : beN (putL u k) = u % 256 ^ k := by
  induction k generalizing u with
  | zero => simp [putL, beN, Nat.mod_one]
  | succ k ih =>
    rw [putL, beN_snoc, ih, ofNat_toNat, Nat.mod_mod, Nat.pow_succ, Nat.mul_comm (256 ^ k) 256, Nat.mod_mul]
    omega
theorem putL_mod (u k : Nat) : putL (u % 256 ^ k) k = putL u k := by
  induction k generalizing u with
  | zero => rfl
  | succ k ih =>
    have e1 : u % 256 ^ (k + 1) / 256 = u / 256 % 256 ^ k := by
      rw [Nat.pow_succ, Nat.mul_comm (256 ^ k) 256, Nat.mod_mul]; omega
    have e2 : u % 256 ^ (k + 1) % 256 = u % 256 := by
      rw [Nat.pow_succ, Nat.mul_comm (256 ^ k) 256, Nat.mod_mul]; omega
    rw [putL, putL, e1, e2, ih]
theorem putL_beN (l : List UInt8) : putL (beN l) l.length = l := by
  refine snoc_ind (p := fun l => putL (beN l) l.length = l) rfl ?_ l
  intro l c ih
  rw [beN_snoc, List.length_append, List.length_singleton, putL]
  have := c.toNat_lt
  have e1 : (beN l * 256 + c.toNat) / 256 = beN l := by omega
  have e2 : (beN l * 256 + c.toNat) % 256 = c.toNat := by omega
  rw [e1, e2, ih]
  simp
theorem putL_inj {a b : List UInt8} (hl : a.length = b.length) (h : beN a = beN b) : a = b := by
  rw [← putL_beN a, ← putL_beN b, h, hl]

/-- A number of Go's int as one of 64 bits without a sign. -/
def U (n : Int) : Nat := (n % 18446744073709551616).toNat
theorem U_lt (n : Int) : U n < 18446744073709551616 := by unfold U; omega
theorem U_cast (n : Int) : (U n : Int) = n % 18446744073709551616 := by unfold U; omega
theorem U_nat (n : Nat) (h : n < 18446744073709551616) : U n = n := by unfold U; omega
/-- And back. -/
def I (u : Nat) : Int := RowKit.wrap64 (u : Int)
theorem I_eq (u : Nat) : I u = ((u : Int) + 9223372036854775808) % 18446744073709551616 - 9223372036854775808 := rfl
theorem I_small (u : Nat) (h : u < 9223372036854775808) : I u = u := by rw [I_eq]; omega
theorem U_I (u : Nat) (h : u < 18446744073709551616) : U (I u) = u := by
  rw [I_eq]; unfold U; omega
theorem I_U (n : Int) (h1 : -9223372036854775808 ≤ n) (h2 : n < 9223372036854775808) : I (U n) = n := by
  rw [I_eq, U_cast]; omega
/-- What Get answers: the number of the bytes. -/
def getI (l : List UInt8) : Int := I (beN l)
end Go.Proofs.Ytloengjcniefgaa.Oct
