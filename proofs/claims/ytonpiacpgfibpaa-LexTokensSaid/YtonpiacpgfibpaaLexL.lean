/- Tokens: plain laws: blanks, sizes, pieces by themselves. -/
import Derived.Test.YtonpiacpgfibpaaLexP
namespace Go.Proofs.Ytonpiacpgfibpaa.Lex
set_option linter.unusedVariables false
set_option linter.unusedSimpArgs false
open Oct (S)
open Lib (indexByte)
theorem skip_nil (b : Bool) : skipF b [] = 0 := by cases b <;> rfl
theorem skip_t (c : UInt8) (r : List UInt8) : skipF true (c :: r) = if c = 10 then skipF false r + 1 else skipF true r + 1 := by rw [skipF]
theorem skip_f (c : UInt8) (r : List UInt8) : skipF false (c :: r) = if blankB c then skipF false r + 1 else if c = 45 ∧ r.head? = some 45 then skipF true r + 1 else 0 := by rw [skipF]
theorem idx_cons (c d : UInt8) (r : List UInt8) : indexByte (c :: r) d = if c == d then 0 else if indexByte r d == -1 then -1 else indexByte r d + 1 := by rw [indexByte]
theorem idx_ne {c d : UInt8} (h : c ≠ d) (r : List UInt8) : indexByte (c :: r) d = if indexByte r d < 0 then -1 else indexByte r d + 1 := by
  have e : (c == d) = false := by simpa using h
  have hge := Lib.indexByte_ge r d
  rw [idx_cons, e]
  by_cases h1 : indexByte r d = -1
  · simp [h1]
  · have e2 : (indexByte r d == -1) = false := by simpa using h1
    simp only [e2, Bool.false_eq_true, if_false]
    rw [if_neg (by omega)]
theorem skip_true (q : List UInt8) : skipF true q = if indexByte q 10 < 0 then q.length else (indexByte q 10).toNat + 1 + skipF false (q.drop ((indexByte q 10).toNat + 1)) := by
  induction q with
  | nil => rfl
  | cons c r ih =>
    rw [skip_t]
    by_cases h : c = 10
    · subst h
      rw [if_pos rfl, idx_cons]
      simp
      omega
    · rw [if_neg h, idx_ne h, ih]
      by_cases h1 : indexByte r 10 < 0
      · rw [if_pos h1, if_pos h1, if_pos (by decide), List.length_cons]
      · rw [if_neg h1, if_neg h1, if_neg (by omega)]
        have e : (indexByte r 10 + 1).toNat = (indexByte r 10).toNat + 1 := by omega
        rw [e, List.drop_succ_cons]
        omega
theorem idx_drop (l : List UInt8) (c : UInt8) (h : ¬ indexByte l c < 0) : l.drop (indexByte l c).toNat = c :: l.drop ((indexByte l c).toNat + 1) := by
  obtain ⟨k, hk⟩ : ∃ k : Nat, indexByte l c = k := ⟨(indexByte l c).toNat, by omega⟩
  obtain ⟨h1, h2⟩ := List.getElem?_eq_some_iff.1 (Lib.indexByte_some hk).1
  rw [hk]
  show l.drop k = c :: l.drop (k + 1)
  rw [List.drop_eq_getElem_cons h1, h2]
/-- A remark. -/
theorem skip_rem (q : List UInt8) : skipF false (45 :: 45 :: q) = if indexByte (45 :: 45 :: q) 10 < 0 then q.length + 2 else (indexByte (45 :: 45 :: q) 10).toNat + skipF false ((45 :: 45 :: q).drop (indexByte (45 :: 45 :: q) 10).toNat) := by
  have e0 : skipF false (45 :: 45 :: q) = skipF true q + 2 := by
    rw [skip_f, if_neg (by decide), if_pos ⟨rfl, rfl⟩, skip_t, if_neg (by decide)]
  have hi : indexByte (45 :: 45 :: q) 10 = if indexByte q 10 < 0 then -1 else indexByte q 10 + 2 := by
    rw [idx_ne (by decide), idx_ne (by decide)]
    by_cases h1 : indexByte q 10 < 0
    · rw [if_pos h1, if_pos (by decide), if_pos h1]
    · rw [if_neg h1, if_neg (by omega), if_neg h1]; omega
  rw [e0, skip_true, hi]
  by_cases h1 : indexByte q 10 < 0
  · rw [if_pos h1, if_pos h1, if_pos (by decide)]
  · rw [if_neg h1, if_neg h1, if_neg (by omega)]
    have e : (indexByte q 10 + 2).toNat = (indexByte q 10).toNat + 2 := by omega
    rw [e, List.drop_succ_cons, List.drop_succ_cons, idx_drop q 10 h1, skip_f, if_pos (by decide)]
    omega
theorem skip_le (q : List UInt8) : ∀ b, skipF b q ≤ q.length := by
  induction q with
  | nil => intro b; rw [skip_nil]; exact Nat.le_refl _
  | cons c r ih =>
    intro b
    have h1 := ih true
    have h2 := ih false
    cases b with
    | true => rw [skip_t]; split <;> simp <;> omega
    | false =>
      rw [skip_f]
      split
      · simp; omega
      · split
        · simp; omega
        · exact Nat.zero_le _
theorem skip_rest (q : List UInt8) : ∀ b, skipF false (q.drop (skipF b q)) = 0 := by
  induction q with
  | nil => intro b; rw [skip_nil]; rfl
  | cons c r ih =>
    intro b
    cases b with
    | true =>
      rw [skip_t]
      split
      · rw [List.drop_succ_cons]; exact ih false
      · rw [List.drop_succ_cons]; exact ih true
    | false =>
      rw [skip_f]
      split
      · rw [List.drop_succ_cons]; exact ih false
      · split
        · rw [List.drop_succ_cons]; exact ih true
        · rename_i h1 h2
          rw [List.drop_zero, skip_f, if_neg h1, if_neg h2]
/-- What ends a piece: a blank, or the text's end. -/
def Sep (g : List UInt8) : Prop := ∀ h t, g = h :: t → blankB h = true
theorem sep_nil : Sep [] := fun h t e => by cases e
theorem sep_cons {c : UInt8} (t : List UInt8) (h : blankB c = true) : Sep (c :: t) := fun x y e => by injection e with e1 _; rw [← e1]; exact h
theorem blank_cases {c : UInt8} (h : blankB c = true) : c = 32 ∨ c = 9 ∨ c = 10 ∨ c = 13 := by
  simpa [blankB, or_assoc] using h
theorem blank_word {c : UInt8} (h : blankB c = true) : wordB c = false := by
  rcases blank_cases h with rfl | rfl | rfl | rfl <;> decide
theorem blank_dig {c : UInt8} (h : blankB c = true) : digB c = false := by
  rcases blank_cases h with rfl | rfl | rfl | rfl <;> decide
theorem blank_39 {c : UInt8} (h : blankB c = true) : c ≠ 39 := by
  rcases blank_cases h with rfl | rfl | rfl | rfl <;> decide
theorem tw_take (p : UInt8 → Bool) (l : List UInt8) : l.take (l.takeWhile p).length = l.takeWhile p := by
  induction l with
  | nil => rfl
  | cons c r ih =>
    rw [List.takeWhile_cons]
    split
    · rw [List.length_cons, List.take_succ_cons, ih]
    · rfl
theorem tw_sep (p : UInt8 → Bool) (hp : ∀ c, blankB c = true → p c = false) (l g : List UInt8) (hg : Sep g) : (l.takeWhile p ++ g).takeWhile p = l.takeWhile p := by
  induction l with
  | nil =>
    rw [List.takeWhile_nil, List.nil_append]
    cases g with
    | nil => rfl
    | cons h t => rw [List.takeWhile_cons, hp h (hg h t rfl)]; rfl
  | cons c r ih =>
    rw [List.takeWhile_cons]
    split
    · rename_i hc
      rw [List.cons_append, List.takeWhile_cons, hc, ih]; rfl
    · rw [List.nil_append]
      cases g with
      | nil => rfl
      | cons h t => rw [List.takeWhile_cons, hp h (hg h t rfl)]; rfl
theorem tw_len (p : UInt8 → Bool) (l : List UInt8) : (l.takeWhile p).length ≤ l.length := by
  induction l with
  | nil => simp
  | cons c r ih => rw [List.takeWhile_cons]; split <;> simp; omega
theorem tw_pos (p : UInt8 → Bool) (c : UInt8) (r : List UInt8) (h : p c = true) : 1 ≤ ((c :: r).takeWhile p).length := by
  rw [List.takeWhile_cons, h]; simp
theorem letB_word {c : UInt8} (h : letB c = true) : wordB c = true := by simp [wordB, h]
theorem text_len (n : Nat) : ∀ (r : List UInt8), r.length ≤ n → ∀ w k, textF r = some (w, k) → 1 ≤ k ∧ k ≤ r.length := by
  induction n with
  | zero =>
    intro r hr w k h
    have : r = [] := List.eq_nil_of_length_eq_zero (by omega)
    subst this
    cases h
  | succ n ih =>
    intro r hr w k h
    match r, hr, h with
    | [], _, h => cases h
    | [c], _, h =>
      rw [textF] at h
      split at h
      · injection h with h; injection h with _ h; subst h; simp
      · cases h
    | c :: d :: r, hr, h =>
      rw [textF] at h
      simp only [List.length_cons] at hr ⊢
      split at h
      · split at h
        · obtain ⟨⟨w2, k2⟩, h1, h2⟩ := Option.map_eq_some_iff.1 h
          injection h2 with _ h2
          have := ih r (by omega) w2 k2 h1
          simp only at h2
          omega
        · injection h with h; injection h with _ h; omega
      · obtain ⟨⟨w2, k2⟩, h1, h2⟩ := Option.map_eq_some_iff.1 h
        injection h2 with _ h2
        have := ih (d :: r) (by simp; omega) w2 k2 h1
        simp only [List.length_cons] at h2 this
        omega
theorem sign_2 (c d : UInt8) : signN c d ≤ 2 := by
  unfold signN
  repeat' split
  all_goals omega
theorem sign_none (c : UInt8) : signN c 0 ≤ 1 := by
  unfold signN
  rw [if_neg (show ¬ (0 : UInt8) = 124 by decide), if_neg (show ¬ ((0 : UInt8) = 62 ∨ (0 : UInt8) = 61) by decide), if_neg (show ¬ (0 : UInt8) = 61 by decide)]
  repeat' split
  all_goals omega
theorem sign_blank (c d h : UInt8) (hh : blankB h = true ∨ h = 0) (h1 : signN c d = 1) : signN c h = 1 := by
  have h2 : h ≠ 124 ∧ h ≠ 62 ∧ h ≠ 61 := by
    rcases hh with hh | rfl
    · rcases blank_cases hh with rfl | rfl | rfl | rfl <;> decide
    · decide
  unfold signN at h1 ⊢
  split at h1
  · split at h1 <;> cases h1
  · rename_i h3
    rw [if_neg h3]
    split at h1
    · rename_i h4
      rw [if_pos h4, if_neg (by rintro (e | e); exact h2.2.1 e; exact h2.2.2 e)]
    · rename_i h4
      rw [if_neg h4]
      split at h1
      · rename_i h5
        rw [if_pos h5, if_neg h2.2.2]
      · rename_i h5
        rw [if_neg h5]
        exact h1
theorem tok_letter {c : UInt8} (r : List UInt8) (h : letB c = true) : tokF (c :: r) = wordF (c :: r) := by rw [tokF, if_pos h]
theorem tok_digit {c : UInt8} (r : List UInt8) (h : letB c = false) (h2 : digB c = true) : tokF (c :: r) = numF (c :: r) := by rw [tokF, if_neg (by simp [h]), if_pos h2]
theorem tok_quot (r : List UInt8) : tokF (34 :: r) = quotF r := by rw [tokF, if_neg (by decide), if_neg (by decide), if_pos rfl]
theorem tok_text (r : List UInt8) : tokF (39 :: r) = txtF r := by rw [tokF, if_neg (by decide), if_neg (by decide), if_neg (by decide), if_pos rfl]
theorem tok_sign {c : UInt8} (r : List UInt8) (h : letB c = false) (h2 : digB c = false) (h3 : c ≠ 34) (h4 : c ≠ 39) : tokF (c :: r) = signF c r := by
  rw [tokF, if_neg (by simp [h]), if_neg (by simp [h2]), if_neg h3, if_neg h4]
/-- A case for each kind of piece. -/
theorem tok_cases (c : UInt8) : (letB c = true) ∨ (letB c = false ∧ digB c = true) ∨ c = 34 ∨ c = 39 ∨ (letB c = false ∧ digB c = false ∧ c ≠ 34 ∧ c ≠ 39) := by
  cases h1 : letB c with
  | true => exact .inl rfl
  | false =>
    cases h2 : digB c with
    | true => exact .inr (.inl ⟨rfl, rfl⟩)
    | false =>
      by_cases h3 : c = 34
      · exact .inr (.inr (.inl h3))
      · by_cases h4 : c = 39
        · exact .inr (.inr (.inr (.inl h4)))
        · exact .inr (.inr (.inr (.inr ⟨rfl, rfl, h3, h4⟩)))
theorem word_ok {l : List UInt8} (h : (wordF l).e = 0) : (wordF l).z = (l.takeWhile wordB).length ∧ (wordF l).k ≠ 0 := by
  unfold wordF at h ⊢
  simp only at h ⊢
  split
  · simp
  · rename_i h1
    rw [if_neg h1] at h
    split
    · rename_i h2
      rw [if_pos h2] at h
      cases h
    · simp
theorem num_ok {l : List UInt8} (h : (numF l).e = 0) : (numF l).z = (l.takeWhile digB).length ∧ (numF l).k ≠ 0 := by
  unfold numF at h ⊢
  simp only at h ⊢
  split
  · rename_i h1
    rw [if_pos h1] at h
    cases h
  · simp
theorem quot_ok {r : List UInt8} (h : (quotF r).e = 0) : ¬ indexByte r 34 < 0 ∧ (quotF r).z = (indexByte r 34).toNat + 2 ∧ (indexByte r 34).toNat < r.length ∧ (quotF r).k ≠ 0 := by
  unfold quotF at h ⊢
  split at h
  · cases h
  · rename_i h1
    have hl : (indexByte r 34).toNat < r.length := by
      obtain ⟨k, hk⟩ : ∃ k : Nat, indexByte r 34 = k := ⟨(indexByte r 34).toNat, by omega⟩
      obtain ⟨h2, _⟩ := List.getElem?_eq_some_iff.1 (Lib.indexByte_some hk).1
      rw [hk]; exact h2
    rw [if_neg h1]
    simp only at h ⊢
    split at h
    · cases h
    · rename_i h2
      rw [if_neg h2]
      split at h
      · cases h
      · rename_i h3
        rw [if_neg h3]
        refine ⟨h1, ?_, hl, by simp⟩
        show (r.take _).length + 2 = _
        rw [List.length_take]; omega
theorem txt_ok {r : List UInt8} (h : (txtF r).e = 0) : ∃ w k, textF r = some (w, k) ∧ (txtF r).z = k + 1 ∧ (txtF r).k ≠ 0 := by
  unfold txtF at h ⊢
  cases ht : textF r with
  | none => rw [ht] at h; cases h
  | some p =>
    obtain ⟨w, k⟩ := p
    rw [ht] at h
    simp only at h ⊢
    split at h
    · cases h
    · rename_i h2
      rw [if_neg h2]
      split at h
      · cases h
      · rename_i h3
        rw [if_neg h3]
        exact ⟨w, k, rfl, rfl, by simp⟩
theorem sign_ok {c : UInt8} {r : List UInt8} (h : (signF c r).e = 0) : signN c (r.headD 0) ≠ 0 ∧ (signF c r).z = signN c (r.headD 0) ∧ (signF c r).k ≠ 0 := by
  unfold signF at h ⊢
  simp only at h ⊢
  split at h
  · cases h
  · rename_i h1
    rw [if_neg h1]
    exact ⟨h1, rfl, by simp⟩
/-- A piece's size, and that it is something. -/
theorem tok_size (c : UInt8) (r : List UInt8) (h : (tokF (c :: r)).e = 0) : 1 ≤ (tokF (c :: r)).z ∧ (tokF (c :: r)).z ≤ r.length + 1 ∧ (tokF (c :: r)).k ≠ 0 := by
  rcases tok_cases c with h1 | ⟨h1, h2⟩ | rfl | rfl | ⟨h1, h2, h3, h4⟩
  · rw [tok_letter r h1] at h ⊢
    obtain ⟨e1, e2⟩ := word_ok h
    rw [e1]
    exact ⟨tw_pos _ c r (letB_word h1), tw_len _ _, e2⟩
  · rw [tok_digit r h1 h2] at h ⊢
    obtain ⟨e1, e2⟩ := num_ok h
    rw [e1]
    exact ⟨tw_pos _ c r h2, tw_len _ _, e2⟩
  · rw [tok_quot r] at h ⊢
    obtain ⟨_, e1, e2, e3⟩ := quot_ok h
    rw [e1]
    exact ⟨by omega, by omega, e3⟩
  · rw [tok_text r] at h ⊢
    obtain ⟨w, k, e0, e1, e2⟩ := txt_ok h
    have := text_len _ r (Nat.le_refl _) w k e0
    rw [e1]
    exact ⟨by omega, by omega, e2⟩
  · rw [tok_sign r h1 h2 h3 h4] at h ⊢
    obtain ⟨e0, e1, e2⟩ := sign_ok h
    rw [e1]
    refine ⟨by omega, ?_, e2⟩
    cases r with
    | nil => have := sign_none c; simp only [List.headD_nil] at e0 ⊢; simp; omega
    | cons d q => have := sign_2 c d; simp only [List.headD_cons] at e0 ⊢; simp; omega
end Go.Proofs.Ytonpiacpgfibpaa.Lex
