/- Keys of rows: plain: their bytes, and how these stand. -/
import Derived.Test.YtljdiakodpjkpaaAftP
import Derived.Test.YtljdiakodpjkpaaOut
import Derived.Test.YtljdiakodpjkpaaOctP
namespace Go.Proofs.Ytljdiakodpjkpaa
set_option linter.unusedVariables false
set_option linter.unusedSimpArgs false
open Go.RowKit
open Oct (S beN putL U I getI putL_cons putL_length)
open Lib (compareBytes)
/-- A number from 0 on. -/
def offs (n : Int) : Nat := (n + 9223372036854775808).toNat
/-- A value's bytes. -/
def encV (v : Vl) : List UInt8 := UInt8.ofNat v.k.toNat :: (if v.k = 1 then [UInt8.ofNat v.n.toNat] else if v.k = 2 then putL (offs v.n) 8 else if v.k = 3 then v.s.data.toList ++ [0] else [])
def encL (l : List Vl) : List UInt8 := l.flatMap encV
theorem encL_cons (v : Vl) (l : List Vl) : encL (v :: l) = encV v ++ encL l := by simp [encL]
theorem encL_snoc (l : List Vl) (v : Vl) : encL (l ++ [v]) = encL l ++ encV v := by simp [encL]
theorem encL_append (a b : List Vl) : encL (a ++ b) = encL a ++ encL b := by simp [encL]
/-- A key. -/
def keyR (l : List Vl) : List UInt8 := if rightsL l then encL l else []
theorem putL_mod (u k : Nat) : putL (u % 256 ^ k) k = putL u k := by
  induction k generalizing u with
  | zero => rfl
  | succ k ih =>
    rw [putL_cons, putL_cons]
    have h1 : u % 256 ^ (k + 1) / 256 ^ k % 256 = u / 256 ^ k % 256 := by
      rw [Nat.pow_succ, Nat.mod_mul_right_div_self, Nat.mod_mod]
    have h2 : putL (u % 256 ^ (k + 1)) k = putL u k := by
      rw [← ih (u % 256 ^ (k + 1)), ← ih u, Nat.pow_succ, Nat.mod_mul_right_mod]
    rw [h1, h2]
theorem cmpB_put (k : Nat) : ∀ (u v : Nat), u < 256 ^ k → v < 256 ^ k → ∀ a b, compareBytes (putL u k ++ a) (putL v k ++ b) = if u = v then compareBytes a b else cmpI u v := by
  induction k with
  | zero =>
    intro u v hu hv a b
    have : u = v := by simp at hu hv; omega
    simp [this, putL]
  | succ k ih =>
    intro u v hu hv a b
    have hp : 0 < 256 ^ k := Nat.pow_pos (by decide)
    have hu1 : u / 256 ^ k < 256 := Nat.div_lt_of_lt_mul (by rwa [Nat.pow_succ] at hu)
    have hv1 : v / 256 ^ k < 256 := Nat.div_lt_of_lt_mul (by rwa [Nat.pow_succ] at hv)
    have eu := Nat.div_add_mod u (256 ^ k)
    have ev := Nat.div_add_mod v (256 ^ k)
    have ru := Nat.mod_lt u hp
    have rv := Nat.mod_lt v hp
    rw [putL_cons, putL_cons, Nat.mod_eq_of_lt hu1, Nat.mod_eq_of_lt hv1, List.cons_append, List.cons_append]
    have tu : (UInt8.ofNat (u / 256 ^ k)).toNat = u / 256 ^ k := by rw [Oct.ofNat_toNat, Nat.mod_eq_of_lt hu1]
    have tv : (UInt8.ofNat (v / 256 ^ k)).toNat = v / 256 ^ k := by rw [Oct.ofNat_toNat, Nat.mod_eq_of_lt hv1]
    rcases Nat.lt_trichotomy (u / 256 ^ k) (v / 256 ^ k) with h | h | h
    · have hlt : u < v := by
        have := Nat.mul_le_mul_left (256 ^ k) h
        rw [Nat.mul_succ] at this
        omega
      rw [cmpB_lt (UInt8.lt_iff_toNat_lt.2 (by rw [tu, tv]; exact h)), if_neg (by omega), cmpI, if_pos (by omega)]
    · rw [h, cmpB_same, ← putL_mod u, ← putL_mod v, ih _ _ ru rv]
      have e1 : (u % 256 ^ k = v % 256 ^ k) ↔ u = v := by rw [h] at eu; omega
      by_cases e : u = v
      · rw [if_pos (e1.2 e), if_pos e]
      · rw [if_neg (fun x => e (e1.1 x)), if_neg e, cmpI, cmpI]
        rw [h] at eu
        by_cases e2 : u < v
        · rw [if_pos (by omega), if_pos (by omega)]
        · rw [if_neg (by omega), if_pos (by omega), if_neg (by omega), if_pos (by omega)]
    · have hlt : v < u := by
        have := Nat.mul_le_mul_left (256 ^ k) h
        rw [Nat.mul_succ] at this
        omega
      rw [cmpB_gt (UInt8.lt_iff_toNat_lt.2 (by rw [tu, tv]; exact h)), if_neg (by omega), cmpI, if_neg (by omega), if_pos (by omega)]
theorem cmpB_text (s : List UInt8) : ∀ (t a b : List UInt8), (∀ c ∈ s, c ≠ 0) → (∀ c ∈ t, c ≠ 0) → compareBytes (s ++ 0 :: a) (t ++ 0 :: b) = if s = t then compareBytes a b else compareBytes s t := by
  have pos : ∀ c : UInt8, c ≠ 0 → 0 < c := fun c h => UInt8.lt_iff_toNat_lt.2 (by
    have : c.toNat ≠ 0 := fun e => h (UInt8.toNat_inj.1 (by rw [e]; rfl))
    show (0 : UInt8).toNat < c.toNat
    have h0 : (0 : UInt8).toNat = 0 := rfl
    omega)
  induction s with
  | nil =>
    intro t a b hs ht
    cases t with
    | nil => simp [cmpB_same]
    | cons d u =>
      have := pos d (ht d (List.mem_cons_self ..))
      rw [List.nil_append, List.cons_append, cmpB_lt this, if_neg (by simp)]
      rfl
  | cons c l ih =>
    intro t a b hs ht
    cases t with
    | nil =>
      have := pos c (hs c (List.mem_cons_self ..))
      rw [List.nil_append, List.cons_append, cmpB_gt this, if_neg (by simp)]
      rfl
    | cons d u =>
      rw [List.cons_append, List.cons_append]
      by_cases h : c = d
      · subst h
        rw [cmpB_same, cmpB_same, ih u a b (fun x hx => hs x (List.mem_cons_of_mem _ hx)) (fun x hx => ht x (List.mem_cons_of_mem _ hx))]
        simp
      · rw [if_neg (by simp [h]), compareBytes, compareBytes]
        by_cases h1 : c < d
        · simp [h1]
        · have h2 : d < c := UInt8.lt_iff_toNat_lt.2 (by
            have e1 : c.toNat ≠ d.toNat := fun e => h (UInt8.toNat_inj.1 e)
            have e2 : ¬ c.toNat < d.toNat := fun e => h1 (UInt8.lt_iff_toNat_lt.2 e)
            omega)
          simp [h1, h2]
end Go.Proofs.Ytljdiakodpjkpaa
