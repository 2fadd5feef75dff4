/- The least text above all that begin with another one: plain. -/
import Derived.Test.YtljdiakodpjkpaaOrdP
namespace Go.Proofs.Ytljdiakodpjkpaa
set_option linter.unusedVariables false
set_option linter.unusedSimpArgs false
open Go.RowKit
open Lib (compareBytes)
/-- The least text above all that begin with this one. -/
def afterF : List UInt8 → Option (List UInt8)
  | [] => none
  | c :: l => match afterF l with
    | some m => some (c :: m)
    | none => if c = 255 then none else some [c + 1]
theorem afterF_full (l : List UInt8) : afterF (l ++ [255]) = afterF l := by
  induction l with
  | nil => rfl
  | cons c l ih => rw [List.cons_append, afterF, ih, afterF]
theorem afterF_last (l : List UInt8) (c : UInt8) (hc : c ≠ 255) : afterF (l ++ [c]) = some (l ++ [c + 1]) := by
  induction l with
  | nil => rw [List.nil_append, afterF, afterF, if_neg hc]; rfl
  | cons d l ih => rw [List.cons_append, afterF, ih]; rfl
theorem cmpB_self (l : List UInt8) : compareBytes l l = 0 := (compareBytes_zero l l).2 rfl
theorem cmpB_nil (l : List UInt8) : 0 ≤ compareBytes l [] := by
  cases l with
  | nil => decide
  | cons c l => simp [compareBytes]
theorem cmpB_same (c : UInt8) (a b : List UInt8) : compareBytes (c :: a) (c :: b) = compareBytes a b := by
  rw [compareBytes, if_neg (by simp), if_neg (by simp)]
theorem cmpB_lt {c d : UInt8} (h : c < d) (a b : List UInt8) : compareBytes (c :: a) (d :: b) = -1 := by rw [compareBytes, if_pos h]
theorem cmpB_gt {c d : UInt8} (h : d < c) (a b : List UInt8) : compareBytes (c :: a) (d :: b) = 1 := by
  rw [compareBytes, if_neg (by intro h2; rw [UInt8.lt_iff_toNat_lt] at h h2; omega), if_pos h]
theorem succ_toNat {c : UInt8} (hc : c ≠ 255) : (c + 1).toNat = c.toNat + 1 := by
  have h1 := c.toNat_lt
  have h2 : c.toNat ≠ 255 := fun e => hc (by rw [← UInt8.toNat_inj]; exact e)
  rw [UInt8.toNat_add]
  simp
  omega
/-- A text lies from another one on and below what stands behind it just if it begins with it. -/
theorem after_law (s : List UInt8) : ∀ t : List UInt8, (0 ≤ compareBytes t s ∧ ∀ a, afterF s = some a → compareBytes t a < 0) ↔ s <+: t := by
  induction s with
  | nil => intro t; simp [afterF, cmpB_nil]
  | cons c l ih =>
    intro t
    cases t with
    | nil => simp [compareBytes]
    | cons d u =>
      rcases Nat.lt_trichotomy d.toNat c.toNat with h | h | h
      · have hlt : d < c := UInt8.lt_iff_toNat_lt.2 h
        rw [cmpB_lt hlt, List.cons_prefix_cons]
        have : c ≠ d := fun e => by subst e; omega
        simp [this]
      · have hdc : d = c := UInt8.toNat_inj.1 h
        subst hdc
        rw [cmpB_same, List.cons_prefix_cons, ← ih u]
        simp only [true_and]
        cases ha : afterF l with
        | some m =>
          simp only [afterF, ha]
          constructor
          · rintro ⟨h1, h2⟩
            refine ⟨h1, fun a e => ?_⟩
            injection e with e
            subst e
            have := h2 _ rfl
            rwa [cmpB_same] at this
          · rintro ⟨h1, h2⟩
            refine ⟨h1, fun a e => ?_⟩
            injection e with e
            subst e
            rw [cmpB_same]
            exact h2 _ rfl
        | none =>
          simp only [afterF, ha]
          by_cases hd : d = 255
          · simp [hd]
          · rw [if_neg hd]
            constructor
            · rintro ⟨h1, _⟩
              exact ⟨h1, fun a e => by cases e⟩
            · rintro ⟨h1, _⟩
              refine ⟨h1, fun a e => ?_⟩
              injection e with e
              subst e
              rw [cmpB_lt (UInt8.lt_iff_toNat_lt.2 (by rw [succ_toNat hd]; omega))]
              decide
      · have hgt : c < d := UInt8.lt_iff_toNat_lt.2 h
        rw [cmpB_gt hgt, List.cons_prefix_cons]
        have hne : c ≠ d := fun e => by subst e; omega
        constructor
        · rintro ⟨_, h2⟩
          exfalso
          cases ha : afterF l with
          | some m =>
            have := h2 (c :: m) (by simp [afterF, ha])
            rw [cmpB_gt hgt] at this
            omega
          | none =>
            have hc : c ≠ 255 := by
              intro e
              subst e
              have := d.toNat_lt
              have h3 : (255 : UInt8).toNat = 255 := rfl
              omega
            have := h2 [c + 1] (by simp [afterF, ha, hc])
            rcases Nat.lt_or_ge (c + 1).toNat d.toNat with h3 | h3
            · rw [cmpB_gt (UInt8.lt_iff_toNat_lt.2 h3)] at this
              omega
            · have h4 : d = c + 1 := UInt8.toNat_inj.1 (by rw [succ_toNat hc] at h3 ⊢; omega)
              rw [h4, cmpB_same] at this
              have := cmpB_nil u
              omega
        · rintro ⟨e, _⟩
          exact (hne e).elim
theorem after_above (s : List UInt8) : ∀ a, afterF s = some a → 0 < compareBytes a s := by
  induction s with
  | nil => intro a h; cases h
  | cons c l ih =>
    intro a h
    rw [afterF] at h
    cases ha : afterF l with
    | some m =>
      rw [ha] at h
      injection h with h
      subst h
      rw [cmpB_same]
      exact ih m ha
    | none =>
      rw [ha] at h
      simp only at h
      split at h
      · cases h
      · rename_i hc
        injection h with h
        subst h
        rw [cmpB_gt (UInt8.lt_iff_toNat_lt.2 (by rw [succ_toNat hc]; omega))]
        decide
end Go.Proofs.Ytljdiakodpjkpaa
