/- octet's Open and GetText, and the reference's: what they answer. -/
import Derived.Test.YtloengjcniefgaaOcT38
namespace Go.Proofs.Ytloengjcniefgaa
set_option linter.unusedVariables false
set_option linter.unusedSimpArgs false
open Go.RowKit
open Oct (S beN putL U I getI sumN)
/-- Get at any place. -/
def getR (l : List UInt8) (at_ size : Int) : Int × Bool :=
  if 1 ≤ size ∧ size ≤ 8 ∧ 0 ≤ at_ ∧ at_ + size ≤ l.length then (getI ((l.drop at_.toNat).take size.toNat), true) else (0, false)
theorem get_any (s : ByteArray) (at_ size : Int) (w : World) (hs : s.size ≤ maxLen) (h1 : (Lit.int .i64 at_).wf = true) (h2 : (Lit.int .i64 size).wf = true) :
    Calls Try.prog 23 #[.string s, .int .i64 at_, .int .i64 size] w (Ret (.tuple #[.int .i64 (getR s.data.toList at_ size).1, .bool (getR s.data.toList at_ size).2]) w) := by
  have hl : (s.data.toList.length : Int) = (s.size : Int) := by simp
  unfold getR
  rw [hl]
  by_cases h : 1 ≤ size ∧ size ≤ 8 ∧ 0 ≤ at_ ∧ at_ + size ≤ s.size
  · rw [if_pos h]
    obtain ⟨a, rfl⟩ := Int.eq_ofNat_of_zero_le h.2.2.1
    obtain ⟨k, rfl⟩ := Int.eq_ofNat_of_zero_le (show 0 ≤ size by omega)
    exact get_yes s a k w hs (by omega) (by omega) (by omega)
  · rw [if_neg h]
    exact (get_no s at_ size w hs h1 h2 (by omega)).mono fun e w' ⟨he, hw⟩ => ⟨he, hw ▸ Below.refl _ _⟩
theorem rget_any (s : ByteArray) (at_ size : Int) (w : World) (hs : s.size ≤ maxLen) (h1 : (Lit.int .i64 at_).wf = true) (h2 : (Lit.int .i64 size).wf = true) :
    Calls Try.prog 26 #[.string s, .int .i64 at_, .int .i64 size] w (Eq1 (.tuple #[.int .i64 (getR s.data.toList at_ size).1, .bool (getR s.data.toList at_ size).2]) w) := by
  have hl : (s.data.toList.length : Int) = (s.size : Int) := by simp
  unfold getR
  rw [hl]
  by_cases h : 1 ≤ size ∧ size ≤ 8 ∧ 0 ≤ at_ ∧ at_ + size ≤ s.size
  · rw [if_pos h]
    obtain ⟨a, rfl⟩ := Int.eq_ofNat_of_zero_le h.2.2.1
    obtain ⟨k, rfl⟩ := Int.eq_ofNat_of_zero_le (show 0 ≤ size by omega)
    exact rget_yes s a k w hs (by omega) (by omega) (by omega)
  · rw [if_neg h]
    exact rget_no s at_ size w hs h1 h2 (by omega)

/-- What Open answers. -/
def openR (l : List UInt8) : List UInt8 × Bool := if 4 ≤ l.length ∧ beN (l.take 4) = sumN (l.drop 4) then (l.drop 4, true) else ([], false)
theorem wf4 : (Lit.int .i64 4).wf = true := by decide
theorem wf0 : (Lit.int .i64 0).wf = true := by decide
theorem wf2 : (Lit.int .i64 2).wf = true := by decide
theorem getR_short (s : ByteArray) (h : s.size < 4) : Hid (getR s.data.toList 0 4 = (0, false)) := by
  show _ = _
  rw [getR, if_neg]; have : s.data.size = s.size := rfl; simp; omega
theorem getR_four (s : ByteArray) (h : 4 ≤ s.size) : Hid (getR s.data.toList 0 4 = (((beN (s.data.toList.take 4) : Nat) : Int), true)) := by
  show _ = _
  have h0 : s.data.size = s.size := rfl
  have h1 := Oct.beN_lt (s.data.toList.take 4)
  have h2 : (s.data.toList.take 4).length = 4 := by simp; omega
  rw [h2] at h1
  rw [getR, if_pos (by simp; omega)]
  simp only [getI]
  rw [show (0 : Int).toNat = 0 from rfl, show (4 : Int).toNat = 4 from rfl, List.drop_zero, Oct.I_small _ (by omega)]
theorem drop4 (s : ByteArray) : (s.extract 4 s.size).data.toList = s.data.toList.drop 4 := by
  have h0 : s.data.size = s.size := rfl
  simp [List.extract_eq_take_drop, h0]
  apply List.take_of_length_le
  simp
theorem open_any (s : ByteArray) (w : World) (hs : s.size ≤ maxLen) :
    Calls Try.prog 24 #[.string s] w (Ret (.tuple #[.string (S (openR s.data.toList).1), .bool (openR s.data.toList).2]) w) := by
  by_cases h4 : 4 ≤ s.size
  · have HG := getR_four s h4
    have HD := Lib.hid (drop4 s)
    obtain ⟨a, HA⟩ : ∃ a, Hid (a = beN (s.data.toList.take 4)) := ⟨_, rfl⟩
    obtain ⟨b, HB⟩ : ∃ b, Hid (b = sumN (s.data.toList.drop 4)) := ⟨_, rfl⟩
    by_cases hab : a = b
    · have HR : Hid (openR s.data.toList = (s.data.toList.drop 4, true)) := by
        show _ = _
        rw [openR, if_pos ⟨by simpa using h4, by rw [← HA.out, ← HB.out, hab]⟩]
      have HS : Hid (S (s.data.toList.drop 4) = s.extract 4 s.size) := by
        show _ = _
        rw [← drop4 s, Oct.S_of]
      have hne : ((a : Int) != (b : Int)) = false := by simp [hab]
      clear hab
      rw [HR.out, HS.out]
      go_enter Try.func24, Try.ntmps24
      go_wp2_with fail
      refine (get_any s 0 4 _ hs wf0 wf4).mono ?_
      rintro e w1 ⟨rfl, hb1⟩
      rw [HG.out, ← HA.out]
      unfold maxLen at hs
      go_wp2_with fail
      refine (sum_any (s.extract 4 s.size) _ (by unfold maxLen; simp; omega)).mono ?_
      rintro e w2 ⟨rfl, rfl⟩
      rw [HD.out, ← HB.out]
      go_wp2_with fail
      go_ret2
      exact ⟨rfl, hb1⟩
    · have HR : Hid (openR s.data.toList = ([], false)) := by
        show _ = _
        rw [openR, if_neg (fun h => hab (by rw [HA.out, HB.out, h.2]))]
      have hne : ((a : Int) != (b : Int)) = true := by rw [bne_iff_ne]; omega
      clear hab
      rw [HR.out]
      go_enter Try.func24, Try.ntmps24
      go_wp2_with fail
      refine (get_any s 0 4 _ hs wf0 wf4).mono ?_
      rintro e w1 ⟨rfl, hb1⟩
      rw [HG.out, ← HA.out]
      unfold maxLen at hs
      go_wp2_with fail
      refine (sum_any (s.extract 4 s.size) _ (by unfold maxLen; simp; omega)).mono ?_
      rintro e w2 ⟨rfl, rfl⟩
      rw [HD.out, ← HB.out]
      go_wp2_with fail
      go_ret2
      exact ⟨rfl, hb1⟩
  · have HG := getR_short s (by omega)
    have HR : Hid (openR s.data.toList = ([], false)) := by
      show _ = _
      rw [openR, if_neg (fun h => h4 (by simpa using h.1))]
    rw [HR.out]
    go_enter Try.func24, Try.ntmps24
    go_wp2_with fail
    refine (get_any s 0 4 _ hs wf0 wf4).mono ?_
    rintro e w1 ⟨rfl, hb1⟩
    rw [HG.out]
    unfold maxLen at hs
    go_wp2_with fail
    go_ret2
    exact ⟨rfl, hb1⟩
end Go.Proofs.Ytloengjcniefgaa
