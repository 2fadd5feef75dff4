/- Plain: the sum CRC-32, bit by bit, on natural numbers. No program here. -/
import Derived.Test.YtloengjcniefgaaOctP
namespace Go.Proofs.Ytloengjcniefgaa.Oct
set_option linter.unusedVariables false
set_option linter.unusedSimpArgs false
/-- The register one bit on. -/
def stepN (c : Nat) : Nat := if c % 2 = 1 then (c / 2) ^^^ 3988292384 else c / 2
def stepsN : Nat → Nat → Nat
  | 0, c => c
  | k + 1, c => stepN (stepsN k c)
def regN (c : Nat) (l : List UInt8) : Nat := l.foldl (fun c b => stepsN 8 (c ^^^ b.toNat)) c
def sumN (l : List UInt8) : Nat := regN 4294967295 l ^^^ 4294967295
theorem stepN_lt (c : Nat) (h : c < 4294967296) : stepN c < 4294967296 := by
  unfold stepN
  split
  · exact Nat.xor_lt_two_pow (n := 32) (by omega) (by omega)
  · omega
theorem stepsN_lt (k c : Nat) (h : c < 4294967296) : stepsN k c < 4294967296 := by
  induction k with
  | zero => exact h
  | succ k ih => exact stepN_lt _ ih
theorem xorByte_lt (c : Nat) (b : UInt8) (h : c < 4294967296) : c ^^^ b.toNat < 4294967296 :=
  Nat.xor_lt_two_pow (n := 32) (by omega) (by have := b.toNat_lt; omega)
theorem regN_snoc (c : Nat) (l : List UInt8) (b : UInt8) : regN c (l ++ [b]) = stepsN 8 (regN c l ^^^ b.toNat) := by simp [regN]
theorem regN_lt (c : Nat) (l : List UInt8) (h : c < 4294967296) : regN c l < 4294967296 := by
  refine snoc_ind (p := fun l => regN c l < 4294967296) h ?_ l
  intro l b ih
  rw [regN_snoc]
  exact stepsN_lt _ _ (xorByte_lt _ _ ih)
theorem sumN_lt (l : List UInt8) : sumN l < 4294967296 := Nat.xor_lt_two_pow (n := 32) (regN_lt _ _ (by omega)) (by omega)
theorem stepN_mul (c : Nat) (h : c < 4294967296) : c / 2 ^^^ (3988292384 * (c % 2) % 4294967296) = stepN c := by
  unfold stepN
  by_cases h1 : c % 2 = 1
  · rw [if_pos h1, h1]
  · rw [if_neg h1, show c % 2 = 0 from by omega]; simp
end Go.Proofs.Ytloengjcniefgaa.Oct
