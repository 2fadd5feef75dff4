/- Plain: texts and patterns: a pattern's signs, what they match, what all matches begin with, a text's own pattern. No program here. -/
import Derived.Test.YtmkfgbbipckgiaaOctP
namespace Go.Proofs.Ytmkfgbbipckgiaa.Lik
set_option linter.unusedVariables false
set_option linter.unusedSimpArgs false
open Oct (S)
/-- May a backslash stand ahead of it? -/
def special (c : UInt8) : Bool := c == 37 || c == 95 || c == 92
/-- A pattern's signs: a byte's number; 256: any one byte; 257: any bytes. -/
def signsL : List UInt8 → List Nat
  | [] => []
  | [c] => [if c = 37 then 257 else if c = 95 then 256 else c.toNat]
  | c :: d :: r => if c = 37 then 257 :: signsL (d :: r) else if c = 95 then 256 :: signsL (d :: r) else if c = 92 ∧ special d = true then d.toNat :: signsL r else c.toNat :: signsL (d :: r)
theorem signs_any (r : List UInt8) : signsL (37 :: r) = 257 :: signsL r := by cases r <;> simp [signsL]
theorem signs_one (r : List UInt8) : signsL (95 :: r) = 256 :: signsL r := by cases r <;> simp [signsL]
theorem signs_esc (d : UInt8) (r : List UInt8) (h : special d = true) : signsL (92 :: d :: r) = d.toNat :: signsL r := by
  rw [signsL, if_neg (by decide), if_neg (by decide), if_pos ⟨rfl, h⟩]
theorem signs_byte (c : UInt8) (r : List UInt8) (h1 : c ≠ 37) (h2 : c ≠ 95) (h3 : c = 92 → ∀ d, r.head? = some d → special d = false) : signsL (c :: r) = c.toNat :: signsL r := by
  cases r with
  | nil => simp [signsL, h1, h2]
  | cons d r =>
    rw [signsL, if_neg h1, if_neg h2, if_neg]
    rintro ⟨rfl, hd⟩
    have := h3 rfl d rfl
    rw [this] at hd
    cases hd
theorem signs_length (p : List UInt8) : (signsL p).length ≤ p.length := by
  match p with
  | [] => simp [signsL]
  | [c] => simp [signsL]
  | c :: d :: r =>
    have h1 := signs_length (d :: r)
    have h2 := signs_length r
    simp only [List.length_cons] at h1
    unfold signsL
    split
    · simp only [List.length_cons]; omega
    · split
      · simp only [List.length_cons]; omega
      · split
        · simp only [List.length_cons]; omega
        · simp only [List.length_cons]; omega
/-- 'Any bytes', then what f says. -/
def tails (f : List UInt8 → Bool) : List UInt8 → Bool
  | [] => f []
  | c :: r => f (c :: r) || tails f r
def matchL : List Nat → List UInt8 → Bool
  | [], s => s.isEmpty
  | x :: p, s => if x = 257 then tails (matchL p) s else match s with
    | [] => false
    | c :: r => (x == 256 || x == c.toNat) && matchL p r
theorem matchL_any (p : List Nat) (s : List UInt8) : matchL (257 :: p) s = tails (matchL p) s := by cases s <;> simp [matchL]
theorem matchL_none (x : Nat) (hx : x ≠ 257) (p : List Nat) : matchL (x :: p) [] = false := by simp [matchL, hx]
theorem matchL_one (x : Nat) (hx : x ≠ 257) (p : List Nat) (c : UInt8) (r : List UInt8) : matchL (x :: p) (c :: r) = ((x == 256 || x == c.toNat) && matchL p r) := by simp [matchL, hx]
theorem tails_iff (f : List UInt8 → Bool) (s : List UInt8) : tails f s = true ↔ ∃ j, j ≤ s.length ∧ f (s.drop j) = true := by
  induction s with
  | nil => simp [tails]
  | cons c r ih =>
    simp only [tails, Bool.or_eq_true, ih]
    constructor
    · rintro (h | ⟨j, hj, h⟩)
      · exact ⟨0, by simp, h⟩
      · exact ⟨j + 1, by simp; omega, h⟩
    · rintro ⟨j, hj, h⟩
      cases j with
      | zero => exact .inl h
      | succ j => exact .inr ⟨j, by simp at hj; omega, h⟩
/-- The signs match. -/
def M (p : List Nat) (s : List UInt8) : Prop := matchL p s = true
theorem M_nil (s : List UInt8) : M [] s ↔ s = [] := by simp [M, matchL]
theorem M_any (p : List Nat) (s : List UInt8) : M (257 :: p) s ↔ ∃ j, j ≤ s.length ∧ M p (s.drop j) := by
  unfold M
  rw [matchL_any, tails_iff]
theorem M_one (x : Nat) (hx : x ≠ 257) (p : List Nat) (s : List UInt8) : M (x :: p) s ↔ ∃ c r, s = c :: r ∧ (x = 256 ∨ x = c.toNat) ∧ M p r := by
  unfold M
  cases s with
  | nil => simp [matchL_none x hx]
  | cons c r =>
    rw [matchL_one x hx]
    simp only [Bool.and_eq_true, Bool.or_eq_true, beq_iff_eq]
    constructor
    · rintro ⟨h1, h2⟩; exact ⟨c, r, rfl, h1, h2⟩
    · rintro ⟨d, t, he, h1, h2⟩
      simp only [List.cons.injEq] at he
      obtain ⟨rfl, rfl⟩ := he
      exact ⟨h1, h2⟩
theorem M_append (p q : List Nat) (s : List UInt8) : M (p ++ q) s ↔ ∃ k, k ≤ s.length ∧ M p (s.take k) ∧ M q (s.drop k) := by
  induction p generalizing s with
  | nil =>
    simp only [List.nil_append, M_nil]
    constructor
    · intro h; exact ⟨0, by omega, by simp, by simpa using h⟩
    · rintro ⟨k, hk, h1, h2⟩
      have : k = 0 ∨ s = [] := by simpa using h1
      rcases this with rfl | rfl
      · simpa using h2
      · simpa using h2
  | cons x p ih =>
    rw [List.cons_append]
    by_cases hx : x = 257
    · subst hx
      rw [M_any]
      constructor
      · rintro ⟨j, hj, h⟩
        obtain ⟨k, hk, h1, h2⟩ := (ih _).1 h
        simp only [List.length_drop] at hk
        refine ⟨j + k, by omega, (M_any _ _).2 ⟨j, by simp; omega, ?_⟩, by rwa [List.drop_drop] at h2⟩
        rw [List.drop_take]
        simpa using h1
      · rintro ⟨k, hk, h1, h2⟩
        obtain ⟨j, hj, h3⟩ := (M_any _ _).1 h1
        simp only [List.length_take] at hj
        refine ⟨j, by omega, (ih _).2 ⟨k - j, by simp; omega, ?_, ?_⟩⟩
        · rw [List.drop_take] at h3; exact h3
        · rw [List.drop_drop, show j + (k - j) = k from by omega]; exact h2
    · rw [M_one x hx]
      constructor
      · rintro ⟨c, r, rfl, hc, h⟩
        obtain ⟨k, hk, h1, h2⟩ := (ih _).1 h
        exact ⟨k + 1, by simp; omega, (M_one x hx _ _).2 ⟨c, r.take k, by simp, hc, h1⟩, by simpa using h2⟩
      · rintro ⟨k, hk, h1, h2⟩
        obtain ⟨c, r, he, hc, h⟩ := (M_one x hx _ _).1 h1
        cases s with
        | nil => simp at he
        | cons c' s =>
          cases k with
          | zero => simp at he
          | succ k =>
            simp only [List.take_succ_cons, List.cons.injEq] at he
            obtain ⟨rfl, rfl⟩ := he
            exact ⟨c', s, rfl, hc, (ih _).2 ⟨k, by simpa using hk, h, by simpa using h2⟩⟩
/-- One sign more, at the end. -/
theorem M_snoc_any (p : List Nat) (s : List UInt8) : M (p ++ [257]) s ↔ ∃ k, k ≤ s.length ∧ M p (s.take k) := by
  rw [M_append]
  constructor
  · rintro ⟨k, hk, h, _⟩; exact ⟨k, hk, h⟩
  · rintro ⟨k, hk, h⟩
    exact ⟨k, hk, h, (M_any _ _).2 ⟨(s.drop k).length, Nat.le_refl _, (M_nil _).2 (by simp; omega)⟩⟩
theorem M_snoc_one (p : List Nat) (x : Nat) (hx : x ≠ 257) (s : List UInt8) (c : UInt8) : M (p ++ [x]) (s ++ [c]) ↔ (x = 256 ∨ x = c.toNat) ∧ M p s := by
  rw [M_append]
  constructor
  · rintro ⟨k, hk, h1, h2⟩
    obtain ⟨d, r, he, hd, hr⟩ := (M_one x hx _ _).1 h2
    rw [M_nil] at hr
    subst hr
    have hlen := congrArg List.length he
    simp at hlen hk
    have hk' : k = s.length := by omega
    subst hk'
    simp at he h1
    subst he
    exact ⟨hd, h1⟩
  · rintro ⟨hc, h⟩
    exact ⟨s.length, by simp, by simpa using h, (M_one x hx _ _).2 ⟨c, [], by simp, hc, (M_nil _).2 rfl⟩⟩
theorem M_snoc_nil (p : List Nat) (x : Nat) (hx : x ≠ 257) : ¬ M (p ++ [x]) [] := by
  intro h
  obtain ⟨k, hk, h1, h2⟩ := (M_append _ _ _).1 h
  obtain ⟨d, r, he, _⟩ := (M_one x hx _ _).1 h2
  simp at he
/-- A text's signs are matched by it alone. -/
theorem M_bytes (t s : List UInt8) : M (t.map UInt8.toNat) s ↔ s = t := by
  induction t generalizing s with
  | nil => simp [M_nil]
  | cons c t ih =>
    have hc := c.toNat_lt
    rw [List.map_cons, M_one _ (by omega)]
    constructor
    · rintro ⟨d, r, rfl, h, h2⟩
      rw [ih] at h2
      rcases h with h | h
      · omega
      · rw [h2, UInt8.toNat_inj.1 h]
    · rintro rfl
      exact ⟨c, t, rfl, .inr rfl, (ih _).2 rfl⟩
/-- The bytes ahead of the first sign that is none. -/
def frontL : List Nat → List UInt8
  | [] => []
  | x :: p => if x < 256 then UInt8.ofNat x :: frontL p else []
def plainL (p : List Nat) : Bool := p.all (· < 256)
theorem M_front (p : List Nat) (s : List UInt8) (h : M p s) : ∃ r, s = frontL p ++ r := by
  induction p generalizing s with
  | nil => exact ⟨s, rfl⟩
  | cons x p ih =>
    unfold frontL
    split
    · rename_i hx
      obtain ⟨c, r, rfl, hc, h2⟩ := (M_one x (by omega) _ _).1 h
      obtain ⟨r', rfl⟩ := ih _ h2
      refine ⟨r', ?_⟩
      rcases hc with rfl | rfl
      · omega
      · simp
    · exact ⟨s, rfl⟩
theorem plain_front (p : List Nat) (h : plainL p = true) : (frontL p).map UInt8.toNat = p := by
  induction p with
  | nil => rfl
  | cons x p ih =>
    simp only [plainL, List.all_cons, Bool.and_eq_true, decide_eq_true_eq] at h
    rw [frontL, if_pos h.1, List.map_cons, ih (by simpa [plainL] using h.2)]
    simp
    omega
theorem plain_front_length (p : List Nat) : plainL p = decide (p.length ≤ (frontL p).length) := by
  induction p with
  | nil => rfl
  | cons x p ih =>
    unfold frontL
    split
    · rename_i hx
      simp only [List.length_cons, Nat.add_le_add_iff_right]
      rw [← ih]
      simp [plainL, hx]
    · rename_i hx
      simp [plainL, hx]
/-- The pattern of just one text. -/
def quoteL (s : List UInt8) : List UInt8 := s.flatMap fun c => if special c then [92, c] else [c]
theorem quote_cons (c : UInt8) (s : List UInt8) : quoteL (c :: s) = (if special c then [92, c] else [c]) ++ quoteL s := by simp [quoteL]
theorem quote_length (s : List UInt8) : (quoteL s).length ≤ 2 * s.length := by
  induction s with
  | nil => simp [quoteL]
  | cons c s ih => rw [quote_cons]; split <;> simp <;> omega
theorem signs_quote (s p : List UInt8) : signsL (quoteL s ++ p) = s.map UInt8.toNat ++ signsL p := by
  induction s with
  | nil => simp [quoteL]
  | cons c s ih =>
    rw [quote_cons]
    by_cases hc : special c = true
    · rw [if_pos hc]
      simp only [List.cons_append, List.nil_append, List.map_cons]
      rw [signs_esc _ _ hc, ih]
    · rw [if_neg hc]
      simp only [List.cons_append, List.nil_append, List.map_cons]
      rw [signs_byte c _ (fun h => hc (by subst h; rfl)) (fun h => hc (by subst h; rfl)) (fun h => (hc (by subst h; rfl)).elim), ih]
theorem signs_quote_only (s : List UInt8) : signsL (quoteL s) = s.map UInt8.toNat := by
  have := signs_quote s []
  simpa [signsL] using this
/-- Two patterns, one behind the other, of which the first does not end with a backslash. -/
theorem signs_append (p q : List UInt8) (h : p.getLast? ≠ some 92) : signsL (p ++ q) = signsL p ++ signsL q := by
  match p with
  | [] => simp [signsL]
  | [c] =>
    have hc : c ≠ 92 := by simpa using h
    by_cases h1 : c = 37
    · subst h1; rw [List.cons_append, signs_any]; simp [signsL]
    · by_cases h2 : c = 95
      · subst h2; rw [List.cons_append, signs_one]; simp [signsL]
      · rw [List.cons_append, signs_byte c _ h1 h2 (fun e => (hc e).elim)]; simp [signsL, h1, h2]
  | c :: d :: r =>
    have hd : (d :: r).getLast? ≠ some 92 := by simpa [List.getLast?_cons_cons] using h
    have ih1 := signs_append (d :: r) q hd
    have e1 : (c :: d :: r) ++ q = c :: ((d :: r) ++ q) := rfl
    by_cases h1 : c = 37
    · subst h1; rw [e1, signs_any, signs_any, ih1]; rfl
    · by_cases h2 : c = 95
      · subst h2; rw [e1, signs_one, signs_one, ih1]; rfl
      · by_cases h3 : c = 92 ∧ special d = true
        · obtain ⟨rfl, h4⟩ := h3
          have hr : r.getLast? ≠ some 92 := by
            cases r with
            | nil => simp
            | cons x r => simpa [List.getLast?_cons_cons] using hd
          have ih2 := signs_append r q hr
          rw [e1, List.cons_append, signs_esc _ _ h4, signs_esc _ _ h4, ih2]; rfl
        · have h5 : c = 92 → ∀ x, ((d :: r) ++ q).head? = some x → special x = false := by
            intro e x hx
            simp at hx
            subst hx
            cases hs : special d with
            | false => rfl
            | true => exact (h3 ⟨e, hs⟩).elim
          have h6 : c = 92 → ∀ x, (d :: r).head? = some x → special x = false := by
            intro e x hx
            simp at hx
            subst hx
            cases hs : special d with
            | false => rfl
            | true => exact (h3 ⟨e, hs⟩).elim
          rw [e1, signs_byte c _ h1 h2 h5, signs_byte c _ h1 h2 h6, ih1]; rfl
theorem signs_le (p : List UInt8) : ∀ x ∈ signsL p, x ≤ 257 := by
  match p with
  | [] => simp [signsL]
  | [c] =>
    have := c.toNat_lt
    intro x hx
    simp [signsL] at hx
    subst hx
    split
    · omega
    · split <;> omega
  | c :: d :: r =>
    have h1 := signs_le (d :: r)
    have h2 := signs_le r
    have hc := c.toNat_lt
    have hd := d.toNat_lt
    intro x hx
    unfold signsL at hx
    split at hx
    · rcases List.mem_cons.1 hx with rfl | hx
      · omega
      · exact h1 x hx
    · split at hx
      · rcases List.mem_cons.1 hx with rfl | hx
        · omega
        · exact h1 x hx
      · split at hx
        · rcases List.mem_cons.1 hx with rfl | hx
          · omega
          · exact h2 x hx
        · rcases List.mem_cons.1 hx with rfl | hx
          · omega
          · exact h1 x hx
end Go.Proofs.Ytmkfgbbipckgiaa.Lik
