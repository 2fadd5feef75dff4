/- Tokens: plain laws: a piece by itself, and what follows it; the row of tokens. -/
import Derived.Test.YtonpiacpgfibpaaLexL
namespace Go.Proofs.Ytonpiacpgfibpaa.Lex
set_option linter.unusedVariables false
set_option linter.unusedSimpArgs false
open Oct (S)
open Lib (indexByte)
theorem idx_mid (c : UInt8) (a g : List UInt8) (h : ∀ x ∈ a, x ≠ c) : indexByte (a ++ c :: g) c = a.length := by
  induction a with
  | nil => rw [List.nil_append, idx_cons]; simp
  | cons x a ih =>
    rw [List.cons_append, idx_ne (h x (List.mem_cons_self ..)), ih fun y hy => h y (List.mem_cons_of_mem _ hy), if_neg (by omega), List.length_cons]
    rfl
theorem idx_before (r : List UInt8) (c : UInt8) (h : ¬ indexByte r c < 0) : ∀ x ∈ r.take (indexByte r c).toNat, x ≠ c := by
  intro x hx e
  obtain ⟨k, hk⟩ : ∃ k : Nat, indexByte r c = k := ⟨(indexByte r c).toNat, by omega⟩
  have h2 := (Lib.indexByte_some hk).2
  rw [hk] at hx
  obtain ⟨j, hj, rfl⟩ := List.getElem_of_mem hx
  have hj2 : j < k := by have := List.length_take_le k r; have h3 : (↑k : Int).toNat = k := rfl; rw [h3] at hj; omega
  refine h2 j hj2 ?_
  rw [List.getElem?_eq_getElem (by simp at hj; omega)]
  rw [List.getElem_take] at e
  rw [e]
theorem text_cut (n : Nat) : ∀ (r : List UInt8), r.length ≤ n → ∀ w k g, Sep g → textF r = some (w, k) → textF (r.take k ++ g) = some (w, k) := by
  have h39 : ∀ g, Sep g → textF (39 :: g) = some ([], 1) := by
    intro g hg
    cases g with
    | nil => rfl
    | cons h t => rw [textF, if_pos rfl, if_neg (blank_39 (hg h t rfl))]
  induction n with
  | zero =>
    intro r hr w k g hg h
    have : r = [] := List.eq_nil_of_length_eq_zero (by omega)
    subst this
    cases h
  | succ n ih =>
    intro r hr w k g hg h
    match r, hr, h with
    | [], _, h => cases h
    | [c], _, h =>
      rw [textF] at h
      split at h
      · rename_i hc
        injection h with h; injection h with h1 h; subst h; subst h1; subst hc
        exact h39 g hg
      · cases h
    | c :: d :: r, hr, h =>
      rw [textF] at h
      simp only [List.length_cons] at hr
      split at h
      · rename_i hc
        subst hc
        split at h
        · rename_i hd
          subst hd
          obtain ⟨⟨w2, k2⟩, h1, h2⟩ := Option.map_eq_some_iff.1 h
          injection h2 with h3 h2
          simp only at h2 h3
          subst h2 h3
          rw [List.take_succ_cons, List.take_succ_cons, List.cons_append, List.cons_append, textF, if_pos rfl, if_pos rfl, ih r (by omega) w2 k2 g hg h1]
          rfl
        · injection h with h; injection h with h1 h; subst h; subst h1
          exact h39 g hg
      · rename_i hc
        obtain ⟨⟨w2, k2⟩, h1, h2⟩ := Option.map_eq_some_iff.1 h
        injection h2 with h3 h2
        simp only at h2 h3
        subst h2 h3
        have hk := text_len _ (d :: r) (Nat.le_refl _) w2 k2 h1
        have hi := ih (d :: r) (by simp; omega) w2 k2 g hg h1
        obtain ⟨j, rfl⟩ : ∃ j, k2 = j + 1 := ⟨k2 - 1, by omega⟩
        rw [List.take_succ_cons, List.cons_append] at hi
        rw [List.take_succ_cons, List.take_succ_cons, List.cons_append, List.cons_append, textF, if_neg hc, hi]
        rfl
/-- A piece by itself, or with a blank behind it, is the same. -/
theorem tok_cut (c : UInt8) (r g : List UInt8) (hg : Sep g) (h : (tokF (c :: r)).e = 0) : tokF ((c :: r).take (tokF (c :: r)).z ++ g) = tokF (c :: r) := by
  rcases tok_cases c with h1 | ⟨h1, h2⟩ | rfl | rfl | ⟨h1, h2, h3, h4⟩
  · rw [tok_letter r h1] at h ⊢
    obtain ⟨e1, _⟩ := word_ok h
    rw [e1, tw_take]
    have e2 := tw_sep wordB (fun _ => blank_word) (c :: r) g hg
    have e3 : (c :: r).takeWhile wordB = c :: r.takeWhile wordB := by rw [List.takeWhile_cons, letB_word h1]; rfl
    rw [e3, List.cons_append] at e2 ⊢
    rw [tok_letter _ h1]
    unfold wordF
    rw [e2, e3]
  · rw [tok_digit r h1 h2] at h ⊢
    obtain ⟨e1, _⟩ := num_ok h
    rw [e1, tw_take]
    have e2 := tw_sep digB (fun _ => blank_dig) (c :: r) g hg
    have e3 : (c :: r).takeWhile digB = c :: r.takeWhile digB := by rw [List.takeWhile_cons, h2]; rfl
    rw [e3, List.cons_append] at e2 ⊢
    rw [tok_digit _ h1 h2]
    unfold numF
    rw [e2, e3]
  · rw [tok_quot r] at h ⊢
    obtain ⟨h0, e1, e2, _⟩ := quot_ok h
    rw [e1, List.take_succ_cons, List.cons_append, tok_quot]
    have e3 : r.take ((indexByte r 34).toNat + 1) = r.take (indexByte r 34).toNat ++ [34] := by
      have := idx_drop r 34 h0
      rw [List.take_add_one]
      have h5 : r[(indexByte r 34).toNat]? = some 34 := by
        have h6 := congrArg (fun l => l[0]?) this
        simpa using h6
      rw [h5]; rfl
    have e4 : indexByte (r.take ((indexByte r 34).toNat + 1) ++ g) 34 = indexByte r 34 := by
      rw [e3, List.append_assoc, List.singleton_append, idx_mid 34 _ g (idx_before r 34 h0), List.length_take]
      omega
    unfold quotF
    rw [e4, if_neg h0, if_neg h0, e3, List.append_assoc, List.take_left' (by rw [List.length_take]; omega)]
  · rw [tok_text r] at h ⊢
    obtain ⟨w, k, e0, e1, _⟩ := txt_ok h
    rw [e1, List.take_succ_cons, List.cons_append, tok_text]
    unfold txtF
    rw [text_cut _ r (Nat.le_refl _) w k g hg e0, e0]
  · rw [tok_sign r h1 h2 h3 h4] at h ⊢
    obtain ⟨e0, e1, _⟩ := sign_ok h
    have e2 := sign_2 c (r.headD 0)
    rw [e1]
    by_cases hz : signN c (r.headD 0) = 1
    · have e5 : signN c (g.headD 0) = 1 := sign_blank c _ _ (by
        cases g with
        | nil => exact .inr rfl
        | cons h t => exact .inl (hg h t rfl)) hz
      rw [hz, List.take_succ_cons, List.take_zero, List.singleton_append, tok_sign g h1 h2 h3 h4]
      unfold signF
      rw [e5, hz]
      rfl
    · have hz2 : signN c (r.headD 0) = 2 := by omega
      cases r with
      | nil => have := sign_none c; simp only [List.headD_nil] at hz2; omega
      | cons d q =>
        rw [hz2, List.take_succ_cons, List.take_succ_cons, List.take_zero, List.cons_append, List.singleton_append, tok_sign _ h1 h2 h3 h4]
        unfold signF
        simp only [List.headD_cons] at hz2
        simp only [List.headD_cons, hz2]
        rfl
theorem skip0 {c : UInt8} {r : List UInt8} (h : skipF false (c :: r) = 0) : blankB c = false ∧ ¬ (c = 45 ∧ r.head? = some 45) := by
  rw [skip_f] at h
  split at h
  · cases h
  · rename_i h1
    split at h
    · cases h
    · rename_i h2
      exact ⟨by simpa using h1, h2⟩
theorem skip_cut (c : UInt8) (r g : List UInt8) (hg : Sep g) (h : (tokF (c :: r)).e = 0) (h0 : skipF false (c :: r) = 0) : skipF false ((c :: r).take (tokF (c :: r)).z ++ g) = 0 := by
  obtain ⟨h1, h2⟩ := skip0 h0
  obtain ⟨z1, z2, _⟩ := tok_size c r h
  obtain ⟨j, hj⟩ : ∃ j, (tokF (c :: r)).z = j + 1 := ⟨(tokF (c :: r)).z - 1, by omega⟩
  rw [hj, List.take_succ_cons, List.cons_append, skip_f, if_neg (by simp [h1]), if_neg]
  rintro ⟨rfl, hh⟩
  rw [tok_sign r (by decide) (by decide) (by decide) (by decide)] at h hj
  obtain ⟨e0, e1, _⟩ := sign_ok h
  have e2 : ∀ d, signN 45 d = 1 := fun d => by unfold signN; simp
  rw [e1, e2] at hj
  have hj0 : j = 0 := by omega
  subst hj0
  rw [List.take_zero, List.nil_append] at hh
  cases g with
  | nil => cases hh
  | cons x t =>
    have hb := hg x t rfl
    simp only [List.head?_cons, Option.some.injEq] at hh
    subst hh
    revert hb
    decide
/-- The token at or behind a place, within the text. -/
theorem next_in (l : List UInt8) (a : Nat) (ha : a ≤ l.length) : (l.drop (a + skipF false (l.drop a)) = [] ∧ nextF l a = (⟨0, l.length, 0, 0, []⟩, 0)) ∨
    (∃ c r, l.drop (a + skipF false (l.drop a)) = c :: r ∧ skipF false (c :: r) = 0 ∧ a + skipF false (l.drop a) + r.length + 1 = l.length ∧
      nextF l a = (⟨(tokF (c :: r)).k, ((a + skipF false (l.drop a) : Nat) : Int), (tokF (c :: r)).z, (tokF (c :: r)).n, (tokF (c :: r)).s⟩, (tokF (c :: r)).e)) := by
  have h1 := skip_le (l.drop a) false
  have h2 := skip_rest (l.drop a) false
  rw [List.length_drop] at h1
  rw [List.drop_drop] at h2
  have hn : nextF l a = (⟨(tokF (l.drop (a + skipF false (l.drop a)))).k, ((a + skipF false (l.drop a) : Nat) : Int), (tokF (l.drop (a + skipF false (l.drop a)))).z, (tokF (l.drop (a + skipF false (l.drop a)))).n, (tokF (l.drop (a + skipF false (l.drop a)))).s⟩, (tokF (l.drop (a + skipF false (l.drop a)))).e) := rfl
  have hi : a + skipF false (l.drop a) ≤ l.length := by omega
  generalize a + skipF false (l.drop a) = i at h1 h2 hn hi ⊢
  cases hd : l.drop i with
  | nil =>
    left
    have hl := congrArg List.length hd
    rw [List.length_drop, List.length_nil] at hl
    have : i = l.length := by omega
    subst this
    rw [hn, hd]
    exact ⟨rfl, rfl⟩
  | cons c r =>
    right
    have hl := congrArg List.length hd
    rw [List.length_drop, List.length_cons] at hl
    rw [hd] at h2 hn
    exact ⟨c, r, rfl, h2, by omega, hn⟩
/-- The row of tokens from a place on. -/
def chainF (l : List UInt8) : Nat → List Tk → Prop
  | a, [] => nextF l a = (⟨0, l.length, 0, 0, []⟩, 0)
  | a, t :: ts => nextF l a = (t, 0) ∧ t.k ≠ 0 ∧ (a : Int) ≤ t.a ∧ 1 ≤ t.z ∧ t.a + t.z ≤ l.length ∧ chainF l (t.a + t.z).toNat ts
theorem toks_succ (f : Nat) (l : List UInt8) (a : Nat) (acc : List Tk) : toksF (f + 1) l a acc = if (nextF l a).2 ≠ 0 then .error ((nextF l a).1.a, (nextF l a).2) else if (nextF l a).1.k = 0 then .ok acc else toksF f l ((nextF l a).1.a + (nextF l a).1.z).toNat (acc ++ [(nextF l a).1]) := by rw [toksF]
/-- A step of the row. -/
theorem next_cases (l : List UInt8) (a : Nat) (ha : a ≤ l.length) : (nextF l a = (⟨0, l.length, 0, 0, []⟩, 0)) ∨ ((nextF l a).2 ≠ 0 ∧ (a : Int) ≤ (nextF l a).1.a ∧ (nextF l a).1.a < l.length) ∨
    (∃ t, nextF l a = (t, 0) ∧ t.k ≠ 0 ∧ (a : Int) ≤ t.a ∧ 1 ≤ t.z ∧ t.a + t.z ≤ l.length) := by
  rcases next_in l a ha with ⟨_, h⟩ | ⟨c, r, h1, h2, h3, h4⟩
  · exact .inl h
  · by_cases he : (tokF (c :: r)).e = 0
    · obtain ⟨z1, z2, z3⟩ := tok_size c r he
      right; right
      rw [h4, he]
      exact ⟨_, rfl, z3, by simp; omega, by simp; omega, by simp; omega⟩
    · right; left
      rw [h4]
      exact ⟨he, by simp; omega, by simp; omega⟩
theorem toks_any (f : Nat) : ∀ (l : List UInt8) (a : Nat) (acc : List Tk), a ≤ l.length → l.length < a + f →
    (∃ ts, toksF f l a acc = .ok (acc ++ ts) ∧ chainF l a ts) ∨ (∃ p e, toksF f l a acc = .error (p, e) ∧ e ≠ 0 ∧ 0 ≤ p ∧ p < l.length) := by
  induction f with
  | zero => intro l a acc h1 h2; omega
  | succ f ih =>
    intro l a acc h1 h2
    rw [toks_succ]
    rcases next_cases l a h1 with h | ⟨h, h3, h4⟩ | ⟨t, h, h3, h4, h5, h6⟩
    · left
      rw [h]
      exact ⟨[], by simp, h⟩
    · right
      rw [if_pos h]
      exact ⟨_, _, rfl, h, by omega, h4⟩
    · rw [h]
      simp only [ne_eq, not_true_eq_false, if_false, h3]
      rcases ih l (t.a + t.z).toNat (acc ++ [t]) (by omega) (by omega) with ⟨ts, e1, e2⟩ | ⟨p, e, e1, e2⟩
      · left
        exact ⟨t :: ts, by rw [e1]; simp, h, h3, h4, h5, h6, e2⟩
      · right
        exact ⟨p, e, e1, e2⟩
theorem chain_toks (l : List UInt8) (ts : List Tk) : ∀ (f a : Nat) (acc : List Tk), a ≤ l.length → l.length < a + f → chainF l a ts → toksF f l a acc = .ok (acc ++ ts) := by
  induction ts with
  | nil =>
    intro f a acc h1 h2 h
    obtain ⟨f, rfl⟩ : ∃ g, f = g + 1 := ⟨f - 1, by omega⟩
    have h : nextF l a = (⟨0, l.length, 0, 0, []⟩, 0) := h
    rw [toks_succ, h]
    simp
  | cons t ts ih =>
    intro f a acc h1 h2 h
    obtain ⟨f, rfl⟩ : ∃ g, f = g + 1 := ⟨f - 1, by omega⟩
    obtain ⟨h, h3, h4, h5, h6, h7⟩ := h
    rw [toks_succ, h]
    simp only [ne_eq, not_true_eq_false, if_false, h3]
    rw [ih f (t.a + t.z).toNat (acc ++ [t]) (by omega) (by omega) h7]
    simp
end Go.Proofs.Ytonpiacpgfibpaa.Lex
