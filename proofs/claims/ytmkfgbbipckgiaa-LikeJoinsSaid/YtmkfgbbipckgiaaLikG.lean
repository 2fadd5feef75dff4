/- Plain: matching with the last 'any bytes' as the place to which one goes back answers as the definition says. No program here. -/
import Derived.Test.YtmkfgbbipckgiaaLikP
namespace Go.Proofs.Ytmkfgbbipckgiaa.Lik
set_option linter.unusedVariables false
set_option linter.unusedSimpArgs false
/-- One sign takes one byte. -/
def one (x : Nat) (c : UInt8) : Prop := x ≠ 257 ∧ (x = 256 ∨ x = c.toNat)
/-- n signs from a on take n bytes from b on, one by one. -/
def run (l : List Nat) (s : List UInt8) (a b n : Nat) : Prop := ∀ i, i < n → ∃ x c, l[a + i]? = some x ∧ s[b + i]? = some c ∧ one x c
theorem drop_of_get {α : Type} {l : List α} {k : Nat} {x : α} (h : l[k]? = some x) : l.drop k = x :: l.drop (k + 1) := by
  obtain ⟨hk, rfl⟩ := List.getElem?_eq_some_iff.1 h
  exact List.drop_eq_getElem_cons hk
theorem M_step {l : List Nat} {s : List UInt8} {k b : Nat} {x : Nat} {c : UInt8} (hx : l[k]? = some x) (hc : s[b]? = some c) (h : one x c) : M (l.drop k) (s.drop b) ↔ M (l.drop (k + 1)) (s.drop (b + 1)) := by
  rw [drop_of_get hx, drop_of_get hc, M_one x h.1]
  constructor
  · rintro ⟨d, r, he, _, h2⟩
    simp only [List.cons.injEq] at he
    obtain ⟨_, rfl⟩ := he
    exact h2
  · intro h2
    exact ⟨c, _, rfl, h.2, h2⟩
theorem M_run {l : List Nat} {s : List UInt8} {a b : Nat} (n : Nat) (h : run l s a b n) : M (l.drop a) (s.drop b) ↔ M (l.drop (a + n)) (s.drop (b + n)) := by
  induction n with
  | zero => rfl
  | succ n ih =>
    rw [ih (fun i hi => h i (by omega))]
    obtain ⟨x, c, hx, hc, ho⟩ := h n (by omega)
    exact M_step hx hc ho
/-- Signs that take one byte each take as many bytes of whatever they match. -/
theorem M_run_any {l : List Nat} {a : Nat} (n : Nat) (h : ∀ i, i < n → ∃ x, l[a + i]? = some x ∧ x ≠ 257) (t : List UInt8) (hm : M (l.drop a) t) : n ≤ t.length ∧ M (l.drop (a + n)) (t.drop n) := by
  induction n generalizing a t with
  | zero => exact ⟨Nat.zero_le _, by simpa using hm⟩
  | succ n ih =>
    obtain ⟨x, hx, hne⟩ := h 0 (by omega)
    rw [Nat.add_zero] at hx
    rw [drop_of_get hx] at hm
    obtain ⟨c, r, rfl, _, h2⟩ := (M_one x hne _ _).1 hm
    have := ih (a := a + 1) (fun i hi => by have := h (i + 1) (by omega); rw [show a + 1 + i = a + (i + 1) from by omega]; exact this) r h2
    exact ⟨by simp; omega, by rw [show a + (n + 1) = a + 1 + n from by omega]; simpa using this.2⟩
/-- What holds ahead of each round. -/
def Inv (l : List Nat) (s : List UInt8) (at_ k : Nat) (star : Int) (from_ : Nat) : Prop :=
  k ≤ l.length ∧ at_ ≤ s.length ∧ from_ ≤ at_ ∧
  ((star = -1 ∧ from_ = 0 ∧ (M l s ↔ M (l.drop k) (s.drop at_))) ∨
   (∃ st : Nat, star = st ∧ st < k ∧ l[st]? = some 257 ∧ at_ = from_ + (k - (st + 1)) ∧ run l s (st + 1) from_ (k - (st + 1)) ∧ (M l s ↔ M (l.drop st) (s.drop from_))))
theorem Inv.start (l : List Nat) (s : List UInt8) : Inv l s 0 0 (-1) 0 := ⟨Nat.zero_le _, Nat.zero_le _, Nat.le_refl _, .inl ⟨rfl, rfl, by simp⟩⟩
theorem Inv.any {l : List Nat} {s : List UInt8} {at_ k from_ : Nat} {star : Int} (h : Inv l s at_ k star from_) (hk : l[k]? = some 257) : Inv l s at_ (k + 1) (k : Int) at_ := by
  obtain ⟨h1, h2, h3, h4⟩ := h
  have hkl := (List.getElem?_eq_some_iff.1 hk).1
  refine ⟨hkl, h2, Nat.le_refl _, .inr ⟨k, rfl, by omega, hk, by omega, fun i hi => by omega, ?_⟩⟩
  rcases h4 with ⟨_, _, h5⟩ | ⟨st, _, h6, h7, h8, h9, h10⟩
  · exact h5
  · rw [h10, drop_of_get h7, M_any]
    constructor
    · rintro ⟨j, hj, hm⟩
      have hm2 := M_run_any (k - (st + 1)) (fun i hi => by obtain ⟨x, c, hx, _, ho⟩ := h9 i hi; exact ⟨x, hx, ho.1⟩) _ hm
      rw [show st + 1 + (k - (st + 1)) = k from by omega, drop_of_get hk, M_any] at hm2
      obtain ⟨hl, i, hi, hm3⟩ := hm2
      simp only [List.length_drop, List.drop_drop] at hl hi hm3
      rw [drop_of_get hk, M_any]
      simp only [List.length_drop] at hj
      refine ⟨j + i, by simp only [List.length_drop]; omega, ?_⟩
      rw [List.drop_drop, show at_ + (j + i) = from_ + (j + (k - (st + 1) + i)) from by omega]
      have e : from_ + (j + (k - (st + 1) + i)) = from_ + j + (k - (st + 1)) + i := by omega
      rw [e]
      exact hm3
    · intro hm
      refine ⟨0, Nat.zero_le _, ?_⟩
      rw [List.drop_zero, M_run _ h9, show st + 1 + (k - (st + 1)) = k from by omega, ← h8]
      exact hm
theorem Inv.one {l : List Nat} {s : List UInt8} {at_ k from_ : Nat} {star : Int} {x : Nat} {c : UInt8} (h : Inv l s at_ k star from_) (hx : l[k]? = some x) (hc : s[at_]? = some c) (ho : one x c) : Inv l s (at_ + 1) (k + 1) star from_ := by
  obtain ⟨h1, h2, h3, h4⟩ := h
  have hkl := (List.getElem?_eq_some_iff.1 hx).1
  have hal := (List.getElem?_eq_some_iff.1 hc).1
  refine ⟨hkl, hal, by omega, ?_⟩
  rcases h4 with ⟨h5, h6, h7⟩ | ⟨st, h5, h6, h7, h8, h9, h10⟩
  · exact .inl ⟨h5, h6, h7.trans (M_step hx hc ho)⟩
  · refine .inr ⟨st, h5, by omega, h7, by omega, ?_, h10⟩
    intro i hi
    by_cases hi2 : i < k - (st + 1)
    · exact h9 i hi2
    · have : i = k - (st + 1) := by omega
      subst this
      refine ⟨x, c, ?_, ?_, ho⟩
      · rw [show st + 1 + (k - (st + 1)) = k from by omega]; exact hx
      · rw [← h8]; exact hc
/-- No sign takes the byte. -/
def stuck (l : List Nat) (k : Nat) (c : UInt8) : Prop := ∀ x, l[k]? = some x → x ≠ 257 ∧ ¬ (x = 256 ∨ x = c.toNat)
theorem stuck_M {l : List Nat} {s : List UInt8} {k b : Nat} {c : UInt8} (hc : s[b]? = some c) (h : stuck l k c) : ¬ M (l.drop k) (s.drop b) := by
  rw [drop_of_get hc]
  cases hx : l[k]? with
  | none =>
    rw [List.drop_eq_nil_of_le (List.getElem?_eq_none_iff.1 hx), M_nil]
    simp
  | some x =>
    rw [drop_of_get hx, M_one x (h x hx).1]
    rintro ⟨d, r, he, h2, _⟩
    simp only [List.cons.injEq] at he
    obtain ⟨rfl, _⟩ := he
    exact (h x hx).2 h2
theorem Inv.fail {l : List Nat} {s : List UInt8} {at_ k from_ : Nat} {c : UInt8} (h : Inv l s at_ k (-1) from_) (hc : s[at_]? = some c) (hs : stuck l k c) : matchL l s = false := by
  obtain ⟨h1, h2, h3, h4⟩ := h
  rcases h4 with ⟨_, _, h7⟩ | ⟨st, h5, _⟩
  · have := stuck_M hc hs
    rw [← h7] at this
    exact Bool.eq_false_iff.2 this
  · omega
theorem Inv.back {l : List Nat} {s : List UInt8} {at_ k from_ : Nat} {star : Int} {c : UInt8} (h : Inv l s at_ k star from_) (h0 : 0 ≤ star) (hc : s[at_]? = some c) (hs : stuck l k c) : Inv l s (from_ + 1) (star.toNat + 1) star (from_ + 1) := by
  obtain ⟨h1, h2, h3, h4⟩ := h
  have hal := (List.getElem?_eq_some_iff.1 hc).1
  rcases h4 with ⟨h5, _⟩ | ⟨st, rfl, h6, h7, h8, h9, h10⟩
  · omega
  · rw [Int.toNat_natCast]
    have hstl := (List.getElem?_eq_some_iff.1 h7).1
    refine ⟨hstl, by omega, Nat.le_refl _, .inr ⟨st, rfl, by omega, h7, by omega, fun i hi => by omega, ?_⟩⟩
    rw [h10, drop_of_get h7, M_any, M_any]
    constructor
    · rintro ⟨j, hj, hm⟩
      cases j with
      | zero =>
        exfalso
        rw [List.drop_zero, M_run _ h9, show st + 1 + (k - (st + 1)) = k from by omega, ← h8] at hm
        exact stuck_M hc hs hm
      | succ j =>
        simp only [List.length_drop] at hj
        exact ⟨j, by simp only [List.length_drop]; omega, by rw [List.drop_drop] at hm ⊢; rw [show from_ + 1 + j = from_ + (j + 1) from by omega]; exact hm⟩
    · rintro ⟨j, hj, hm⟩
      simp only [List.length_drop] at hj
      exact ⟨j + 1, by simp only [List.length_drop]; omega, by rw [List.drop_drop] at hm ⊢; rw [show from_ + (j + 1) = from_ + 1 + j from by omega]; exact hm⟩
/-- At the text's end: are all signs that are left 'any bytes'? -/
theorem M_end (p : List Nat) : M p [] ↔ ∀ x ∈ p, x = 257 := by
  induction p with
  | nil => simp [M_nil]
  | cons x p ih =>
    by_cases hx : x = 257
    · subst hx
      rw [M_any]
      constructor
      · rintro ⟨j, hj, h⟩
        simp only [List.drop_nil] at h
        intro y hy
        rcases List.mem_cons.1 hy with rfl | hy
        · rfl
        · exact ih.1 h y hy
      · intro h
        exact ⟨0, Nat.zero_le _, by simpa using ih.2 (fun y hy => h y (List.mem_cons_of_mem _ hy))⟩
    · rw [M_one x hx]
      constructor
      · rintro ⟨c, r, he, _⟩; cases he
      · intro h; exact (hx (h x (List.mem_cons_self))).elim
theorem Inv.last {l : List Nat} {s : List UInt8} {k from_ : Nat} {star : Int} (h : Inv l s s.length k star from_) : M l s ↔ ∀ x ∈ l.drop k, x = 257 := by
  obtain ⟨h1, h2, h3, h4⟩ := h
  rcases h4 with ⟨_, _, h7⟩ | ⟨st, h5, h6, h7, h8, h9, h10⟩
  · rw [h7, List.drop_length, M_end]
  · rw [h10, drop_of_get h7, M_any]
    constructor
    · rintro ⟨j, hj, hm⟩
      have hm2 := M_run_any (k - (st + 1)) (fun i hi => by obtain ⟨x, c, hx, _, ho⟩ := h9 i hi; exact ⟨x, hx, ho.1⟩) _ hm
      rw [show st + 1 + (k - (st + 1)) = k from by omega] at hm2
      obtain ⟨hl, hm3⟩ := hm2
      simp only [List.length_drop, List.drop_drop] at hl hj hm3
      have e0 : s.drop (from_ + j + (k - (st + 1))) = [] := List.drop_eq_nil_of_le (by omega)
      rw [e0, M_end] at hm3
      exact hm3
    · intro hall
      refine ⟨0, Nat.zero_le _, ?_⟩
      rw [List.drop_zero, M_run _ h9, show st + 1 + (k - (st + 1)) = k from by omega, ← h8, List.drop_length, M_end]
      exact hall
/-- The signs behind k that are 'any bytes' are passed over. -/
theorem last_step {l : List Nat} {k : Nat} (hk : l[k]? = some 257) : (∀ x ∈ l.drop k, x = 257) ↔ ∀ x ∈ l.drop (k + 1), x = 257 := by
  rw [drop_of_get hk]; simp
theorem last_end {l : List Nat} {k : Nat} {x : Nat} (hk : l[k]? = some x) (hx : x ≠ 257) : ¬ ∀ x ∈ l.drop k, x = 257 := by
  rw [drop_of_get hk]; simp [hx]
/-- How far it is to the end. -/
def way (L N : Nat) (k : Nat) (star : Int) (from_ : Nat) : Nat := (L + 1 - (star + 1).toNat) * ((N + 2) * (L + 2)) + (N + 1 - from_) * (L + 2) + (L + 1 - k)
theorem way_any {L N k from_ at_ : Nat} {star : Int} (h : star < k) (h2 : -1 ≤ star) (hk : k < L) (hf : from_ ≤ at_) (ha : at_ ≤ N) : way L N (k + 1) (k : Int) at_ < way L N k star from_ := by
  unfold way
  have e1 : ((k : Int) + 1).toNat = k + 1 := by omega
  rw [e1]
  obtain ⟨m, hm⟩ : ∃ m : Nat, (star + 1).toNat = m := ⟨_, rfl⟩
  rw [hm]
  have hmk : m ≤ k := by omega
  have h3 : (L + 1 - (k + 1)) * ((N + 2) * (L + 2)) + (N + 2) * (L + 2) ≤ (L + 1 - m) * ((N + 2) * (L + 2)) := by
    rw [← Nat.succ_mul]; exact Nat.mul_le_mul_right _ (by omega)
  have h4 : (N + 1 - at_) * (L + 2) ≤ (N + 1) * (L + 2) := Nat.mul_le_mul_right _ (by omega)
  have h5 : (N + 2) * (L + 2) = (N + 1) * (L + 2) + (L + 2) := by rw [← Nat.succ_mul]
  omega
theorem way_one {L N k from_ : Nat} {star : Int} (hk : k < L) : way L N (k + 1) star from_ < way L N k star from_ := by unfold way; omega
theorem way_back {L N k from_ st : Nat} {star : Int} (hst : st ≤ L) (hf : from_ ≤ N) : way L N st star (from_ + 1) < way L N k star from_ := by
  unfold way
  have h3 : (N + 1 - (from_ + 1)) * (L + 2) + (L + 2) ≤ (N + 1 - from_) * (L + 2) := by
    rw [← Nat.succ_mul]; exact Nat.mul_le_mul_right _ (by omega)
  omega
end Go.Proofs.Ytmkfgbbipckgiaa.Lik
