/- octet's GetText and the reference's: what they answer. -/
import Derived.Test.YtloengjcniefgaaOcO38
namespace Go.Proofs.Ytloengjcniefgaa
set_option linter.unusedVariables false
set_option linter.unusedSimpArgs false
open Go.RowKit
open Oct (S beN putL U I getI sumN)
/-- What GetText answers. -/
def textR (l : List UInt8) (at_ : Int) : List UInt8 × Int × Bool :=
  if 0 ≤ at_ ∧ at_ + 2 ≤ l.length ∧ at_ + 2 + (beN ((l.drop at_.toNat).take 2) : Nat) ≤ l.length then
    ((l.drop (at_.toNat + 2)).take (beN ((l.drop at_.toNat).take 2)), at_ + 2 + (beN ((l.drop at_.toNat).take 2) : Nat), true) else ([], 0, false)
theorem getR_two_no (s : ByteArray) (at_ : Int) (h : ¬ (0 ≤ at_ ∧ at_ + 2 ≤ s.size)) : Hid (getR s.data.toList at_ 2 = (0, false)) := by
  show _ = _
  have : s.data.size = s.size := rfl
  rw [getR, if_neg]; simp; omega
theorem beN_two (l : List UInt8) (a : Nat) : beN ((l.drop a).take 2) < 65536 := by
  have h1 := Oct.beN_lt ((l.drop a).take 2)
  have h2 : ((l.drop a).take 2).length ≤ 2 := by simp; omega
  have h3 : 256 ^ ((l.drop a).take 2).length ≤ 256 ^ 2 := Nat.pow_le_pow_right (by omega) h2
  omega
theorem getR_two (s : ByteArray) (a : Nat) (h : a + 2 ≤ s.size) : Hid (getR s.data.toList (a : Int) 2 = (((beN ((s.data.toList.drop a).take 2) : Nat) : Int), true)) := by
  show _ = _
  have h0 : s.data.size = s.size := rfl
  have h1 := beN_two s.data.toList a
  rw [getR, if_pos (by simp; omega)]
  simp only [getI]
  rw [show (2 : Int).toNat = 2 from rfl, Int.toNat_natCast, Oct.I_small _ (by omega)]
theorem piece_of (s : ByteArray) (a n : Nat) (h : a + n ≤ s.size) : s.extract a (a + n) = S ((s.data.toList.drop a).take n) := by
  apply ByteArray.ext
  apply Array.toList_inj.1
  simp [S, List.extract_eq_take_drop]
theorem textR_no (s : ByteArray) (at_ : Int) (h : ¬ (0 ≤ at_ ∧ at_ + 2 ≤ s.size)) : Hid (textR s.data.toList at_ = ([], 0, false)) := by
  show _ = _
  have h0 : (s.data.toList.length : Int) = (s.size : Int) := by simp
  rw [textR, if_neg]; rw [h0]; exact fun h2 => h ⟨h2.1, h2.2.1⟩
theorem textR_long (s : ByteArray) (a n : Nat) (hn : n = beN ((s.data.toList.drop a).take 2)) (h : ¬ (a + 2 + n ≤ s.size)) : Hid (textR s.data.toList a = ([], 0, false)) := by
  show _ = _
  have h0 : (s.data.toList.length : Int) = (s.size : Int) := by simp
  rw [textR, if_neg]; rw [h0, Int.toNat_natCast, ← hn]; omega
theorem textR_yes (s : ByteArray) (a n : Nat) (hn : n = beN ((s.data.toList.drop a).take 2)) (h : a + 2 + n ≤ s.size) :
    Hid (textR s.data.toList a = ((s.data.toList.drop (a + 2)).take n, (a : Int) + 2 + n, true)) := by
  show _ = _
  have h0 : (s.data.toList.length : Int) = (s.size : Int) := by simp
  rw [textR, if_pos]
  · rw [Int.toNat_natCast, ← hn]
  · rw [h0, Int.toNat_natCast, ← hn]; omega
theorem ret3_si {v : Value} {a b : Int} {s t : ByteArray} (hs : s = t) (h : a = b) : Ending.returned (.tuple #[.string s, .int .i64 a, v]) = .returned (.tuple #[.string t, .int .i64 b, v]) := by rw [hs, h]
theorem gettext_any (s : ByteArray) (at_ : Int) (w : World) (hs : s.size ≤ maxLen) (h1 : (Lit.int .i64 at_).wf = true) :
    Calls Try.prog 73 #[.string s, .int .i64 at_] w (Ret (.tuple #[.string (S (textR s.data.toList at_).1), .int .i64 (textR s.data.toList at_).2.1, .bool (textR s.data.toList at_).2.2]) w) := by
  by_cases h4 : 0 ≤ at_ ∧ at_ + 2 ≤ s.size
  · obtain ⟨a, rfl⟩ := Int.eq_ofNat_of_zero_le h4.1
    have HG := getR_two s a (by omega)
    obtain ⟨n, HA⟩ : ∃ n, Hid (n = beN ((s.data.toList.drop a).take 2)) := ⟨_, rfl⟩
    have hn : n < 65536 := by rw [HA.out]; exact beN_two _ _
    have h5 := h4.2
    clear h4
    by_cases hab : a + 2 + n ≤ s.size
    · have HR := textR_yes s a n HA.out hab
      have HP := Lib.hid (piece_of s (a + 2) n hab)
      rw [HR.out]
      go_enter Try.func73, Try.ntmps73
      go_wp2_with fail
      refine (get_any s a 2 _ hs h1 wf2).mono ?_
      rintro e w1 ⟨rfl, hb1⟩
      rw [HG.out, ← HA.out]
      unfold maxLen at hs
      go_wp2_with fail
      go_ret3
      exact ⟨ret3_si HP.out (by omega), hb1⟩
    · have HR := textR_long s a n HA.out hab
      rw [HR.out]
      go_enter Try.func73, Try.ntmps73
      go_wp2_with fail
      refine (get_any s a 2 _ hs h1 wf2).mono ?_
      rintro e w1 ⟨rfl, hb1⟩
      rw [HG.out, ← HA.out]
      unfold maxLen at hs
      go_wp2_with fail
      go_ret3
      exact ⟨rfl, hb1⟩
  · have HG := getR_two_no s at_ h4
    have HR := textR_no s at_ h4
    rw [HR.out]
    go_enter Try.func73, Try.ntmps73
    go_wp2_with fail
    refine (get_any s at_ 2 _ hs h1 wf2).mono ?_
    rintro e w1 ⟨rfl, hb1⟩
    rw [HG.out]
    unfold maxLen at hs
    go_wp2_with fail
    go_ret3
    exact ⟨rfl, hb1⟩
theorem rgettext_any (s : ByteArray) (at_ : Int) (w : World) (hs : s.size ≤ maxLen) (h1 : (Lit.int .i64 at_).wf = true) :
    Calls Try.prog 78 #[.string s, .int .i64 at_] w (Ret (.tuple #[.string (S (textR s.data.toList at_).1), .int .i64 (textR s.data.toList at_).2.1, .bool (textR s.data.toList at_).2.2]) w) := by
  by_cases h4 : 0 ≤ at_ ∧ at_ + 2 ≤ s.size
  · obtain ⟨a, rfl⟩ := Int.eq_ofNat_of_zero_le h4.1
    have HG := getR_two s a (by omega)
    obtain ⟨n, HA⟩ : ∃ n, Hid (n = beN ((s.data.toList.drop a).take 2)) := ⟨_, rfl⟩
    have hn : n < 65536 := by rw [HA.out]; exact beN_two _ _
    have h5 := h4.2
    clear h4
    by_cases hab : a + 2 + n ≤ s.size
    · have HR := textR_yes s a n HA.out hab
      have HP := Lib.hid (piece_of s (a + 2) n hab)
      rw [HR.out]
      go_enter Try.func78, Try.ntmps78
      go_wp2_with fail
      refine (rget_any s a 2 _ hs h1 wf2).mono ?_
      rintro e w1 ⟨rfl, rfl⟩
      rw [HG.out, ← HA.out]
      unfold maxLen at hs
      go_wp2_with fail
      refine (there_any s _ _ _ hs (WalkArith.wf_i64 (by omega)) (WalkArith.wf_i64 (by omega)) true ?_).mono ?_
      · show _ = _; symm; apply decide_eq_true; omega
      rintro e w2 ⟨rfl, rfl⟩
      go_wp2_with fail
      go_ret3
      exact ⟨ret3_si HP.out (by omega), Below.refl _ _⟩
    · have HR := textR_long s a n HA.out hab
      rw [HR.out]
      go_enter Try.func78, Try.ntmps78
      go_wp2_with fail
      refine (rget_any s a 2 _ hs h1 wf2).mono ?_
      rintro e w1 ⟨rfl, rfl⟩
      rw [HG.out, ← HA.out]
      unfold maxLen at hs
      go_wp2_with fail
      refine (there_any s _ _ _ hs (WalkArith.wf_i64 (by omega)) (WalkArith.wf_i64 (by omega)) false ?_).mono ?_
      · show _ = _; symm; apply decide_eq_false; omega
      rintro e w2 ⟨rfl, rfl⟩
      go_wp2_with fail
      go_ret3
      exact ⟨rfl, Below.refl _ _⟩
  · have HG := getR_two_no s at_ h4
    have HR := textR_no s at_ h4
    rw [HR.out]
    go_enter Try.func78, Try.ntmps78
    go_wp2_with fail
    refine (rget_any s at_ 2 _ hs h1 wf2).mono ?_
    rintro e w1 ⟨rfl, rfl⟩
    rw [HG.out]
    unfold maxLen at hs
    go_wp2_with fail
    go_ret3
    exact ⟨rfl, Below.refl _ _⟩
end Go.Proofs.Ytloengjcniefgaa
