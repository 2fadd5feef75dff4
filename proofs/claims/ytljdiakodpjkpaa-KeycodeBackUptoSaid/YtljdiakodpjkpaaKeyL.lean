/- Keys: what take and Get tell of Put's bytes, and how keys stand: plain. -/
import Derived.Test.YtljdiakodpjkpaaKGet07
namespace Go.Proofs.Ytljdiakodpjkpaa
set_option linter.unusedVariables false
set_option linter.unusedSimpArgs false
open Go.RowKit
open Oct (S S_size S_data beN putL putL_length beN_putL putL_beN)
open Lib (compareBytes indexByte)
theorem idx_text (s q : List UInt8) (hs : ∀ c ∈ s, c ≠ 0) : indexByte (s ++ 0 :: q) 0 = s.length := by
  induction s with
  | nil => simp [indexByte]
  | cons c l ih =>
    have hc := hs c (List.mem_cons_self ..)
    have hi := ih (fun x hx => hs x (List.mem_cons_of_mem _ hx))
    rw [List.cons_append, indexByte, hi]
    have h1 : (c == 0) = false := by simpa using hc
    have h2 : ((l.length : Int) == -1) = false := by simp
    simp [h1, h2]
theorem cutB_text (s q : List UInt8) (hs : ∀ c ∈ s, c ≠ 0) : cutB (s ++ 0 :: q) 0 = (s, q, true) := by
  rw [cutB, idx_text s q hs, if_neg (by omega)]
  simp
theorem idx_split (l : List UInt8) (c : UInt8) (h : 0 ≤ indexByte l c) : l = l.take (indexByte l c).toNat ++ c :: l.drop ((indexByte l c).toNat + 1) := by
  induction l with
  | nil => simp [indexByte] at h
  | cons b l ih =>
    rw [indexByte] at h ⊢
    by_cases e : b = c
    · subst e; simp
    · have e1 : (b == c) = false := by simpa using e
      rw [e1] at h ⊢
      by_cases e2 : indexByte l c = -1
      · simp [e2] at h
      · have e3 : (indexByte l c == -1) = false := by simpa using e2
        have hge := Lib.indexByte_ge l c
        have h4 : 0 ≤ indexByte l c := by omega
        simp only [e3, Bool.false_eq_true, if_false]
        have h5 : (indexByte l c + 1).toNat = (indexByte l c).toNat + 1 := by omega
        rw [h5, List.take_succ_cons, List.cons_append, List.drop_succ_cons, ← ih h4]
theorem cutB_ok (l : List UInt8) (h : (cutB l 0).2.2 = true) : l = (cutB l 0).1 ++ 0 :: (cutB l 0).2.1 := by
  unfold cutB at h ⊢
  split at h
  · cases h
  · rename_i hn
    rw [if_neg hn]
    exact idx_split l 0 (by omega)
theorem plain_nz (s : ByteArray) (h : plainB s = true) : ∀ c ∈ s.data.toList, c ≠ 0 := by
  intro c hc e
  have := List.all_eq_true.1 h c hc
  subst e
  revert this
  decide
theorem offs_lt (n : Int) (h1 : -9223372036854775808 ≤ n) (h2 : n ≤ 9223372036854775807) : offs n < 256 ^ 8 := by
  unfold offs; omega
theorem unoff_offs (n : Int) (h1 : -9223372036854775808 ≤ n) (h2 : n ≤ 9223372036854775807) : unoff (putL (offs n) 8) = n := by
  rw [unoff, beN_putL, Nat.mod_eq_of_lt (offs_lt n h1 h2)]
  unfold offs
  omega
theorem offs_unoff (b : List UInt8) (h : b.length = 8) : putL (offs (unoff b)) 8 = b := by
  have e : offs (unoff b) = beN b := by unfold offs unoff; omega
  rw [e, ← h, putL_beN]
theorem takeK_2 (r : List UInt8) (h : 8 ≤ r.length) : takeK (2 :: r) = (⟨2, unoff (r.take 8), ⟨#[]⟩⟩, r.drop 8, true) := by
  unfold takeK; simp [h]
theorem takeK_3 (r : List UInt8) : takeK (3 :: r) = (⟨3, 0, S (cutB r 0).1⟩, (cutB r 0).2.1, (cutB r 0).2.2) := rfl
theorem takeK_enc (v : Vl) (hv : rightV v = true) (q : List UInt8) : takeK (encV v ++ q) = (v, q, true) := by
  rcases right_cases v hv with rfl | rfl | rfl | ⟨n, hn, rfl⟩ | ⟨s, h1, h2, rfl⟩
  · rfl
  · rfl
  · rfl
  · obtain ⟨b1, b2⟩ := inB_bounds hn
    rw [encV_int, List.append_assoc, List.singleton_append, takeK_2 _ (by simp [putL_length])]
    rw [List.take_left' (putL_length _ _), List.drop_left' (putL_length _ _), unoff_offs n b1 b2]
  · rw [encV_text, List.append_assoc, List.singleton_append, takeK_3, List.append_assoc, List.singleton_append]
    rw [cutB_text _ _ (plain_nz s h2)]
theorem takeK_back (c : UInt8) (r : List UInt8) (hok : (takeK (c :: r)).2.2 = true) : c :: r = encV (takeK (c :: r)).1 ++ (takeK (c :: r)).2.1 := by
  by_cases h0 : c = 0
  · subst h0; rfl
  by_cases h1 : c = 1
  · subst h1
    cases r with
    | nil => cases hok
    | cons d q =>
      show _ = encV ⟨1, d.toNat, ⟨#[]⟩⟩ ++ q
      simp [encV]
  by_cases h2 : c = 2
  · subst h2
    by_cases h8 : 8 ≤ r.length
    · have e : takeK (2 :: r) = (⟨2, unoff (r.take 8), ⟨#[]⟩⟩, r.drop 8, true) := by
        unfold takeK; simp [h8]
      rw [e]
      show _ = encV ⟨2, unoff (r.take 8), ⟨#[]⟩⟩ ++ r.drop 8
      rw [encV_int, offs_unoff _ (by rw [List.length_take]; omega), List.append_assoc, List.take_append_drop, List.singleton_append]
    · have e : takeK (2 :: r) = (⟨0, 0, ⟨#[]⟩⟩, [], false) := by
        unfold takeK; simp [h8]
      rw [e] at hok; cases hok
  by_cases h3 : c = 3
  · subst h3
    have e : takeK (3 :: r) = (⟨3, 0, S (cutB r 0).1⟩, (cutB r 0).2.1, (cutB r 0).2.2) := rfl
    rw [e] at hok ⊢
    have := cutB_ok r hok
    show _ = encV ⟨3, 0, S (cutB r 0).1⟩ ++ (cutB r 0).2.1
    rw [encV_text, S_data, List.append_assoc, List.singleton_append, List.append_assoc, List.singleton_append, ← this]
  have e : takeK (c :: r) = (⟨0, 0, ⟨#[]⟩⟩, [], false) := by
    unfold takeK; simp [h0, h1, h2, h3]
  rw [e] at hok; cases hok
theorem encV_cons (v : Vl) : ∃ c r, encV v = c :: r := ⟨_, _, rfl⟩
theorem rights_cons {v : Vl} {l : List Vl} : rightsL (v :: l) = true ↔ rightV v = true ∧ rightsL l = true := by simp [rightsL]
theorem getF_enc (l : List Vl) (h : rightsL l = true) : ∀ acc, getF (encL l).length (encL l) acc = some (acc ++ l) := by
  induction l with
  | nil => intro acc; simp [encL, getF]
  | cons v l ih =>
    intro acc
    obtain ⟨h1, h2⟩ := rights_cons.1 h
    have ht := takeK_enc v h1 (encL l)
    rw [encL_cons]
    obtain ⟨c, r, hc⟩ := encV_cons v
    rw [hc, List.cons_append] at ht ⊢
    rw [getF_step, ht]
    simp only [h1, and_self, if_true]
    rw [ih h2]
    simp
/-- Get gives back the row of a key. -/
theorem getK_enc (l : List Vl) (h : rightsL l = true) : getK (encL l) = some l := by
  rw [getK, getF_enc l h]; rfl
theorem getF_back : ∀ (f : Nat) (l : List UInt8) (acc x : List Vl), getF f l acc = some x → ∃ m, rightsL m = true ∧ x = acc ++ m ∧ l = encL m := by
  intro f
  induction f with
  | zero =>
    intro l acc x h
    rw [getF] at h
    split at h
    · rename_i hl
      injection h with h
      exact ⟨[], rfl, by simp [h], by simpa [encL] using hl⟩
    · cases h
  | succ f ih =>
    intro l acc x h
    cases l with
    | nil =>
      simp only [getF, if_true] at h
      injection h with h
      exact ⟨[], rfl, by simp [h], by simp [encL]⟩
    | cons c r =>
      rw [getF_succ] at h
      split at h
      · rename_i hc
        obtain ⟨m, h1, h2, h3⟩ := ih _ _ _ h
        refine ⟨(takeK (c :: r)).1 :: m, rights_cons.2 ⟨hc.2, h1⟩, by rw [h2]; simp, ?_⟩
        rw [encL_cons, ← h3]
        exact takeK_back c r hc.1
      · cases h
/-- Bytes that are some row's are that row's. -/
theorem getK_back (l : List UInt8) (x : List Vl) (h : getK l = some x) : rightsL x = true ∧ encL x = l := by
  obtain ⟨m, h1, h2, h3⟩ := getF_back _ _ _ _ h
  simp at h2
  subst h2
  exact ⟨h1, h3.symm⟩
theorem encL_inj (a b : List Vl) (ha : rightsL a = true) (hb : rightsL b = true) : encL a = encL b ↔ a = b := by
  constructor
  · intro h
    have h1 := getK_enc a ha
    rw [h, getK_enc b hb] at h1
    injection h1 with h1
    exact h1.symm
  · intro h; rw [h]
theorem right_kind (v : Vl) (h : rightV v = true) : 0 ≤ v.k ∧ v.k ≤ 3 := by
  rcases right_cases v h with rfl | rfl | rfl | ⟨n, hn, rfl⟩ | ⟨s, h1, h2, rfl⟩ <;> simp
theorem encV_kind (v : Vl) : ∃ r, encV v = UInt8.ofNat v.k.toNat :: r := ⟨_, rfl⟩
theorem cmpB_enc (u v : Vl) (hu : rightV u = true) (hv : rightV v = true) (a b : List UInt8) : compareBytes (encV u ++ a) (encV v ++ b) = if ordV u v = 0 then compareBytes a b else ordV u v := by
  by_cases hk : u.k = v.k
  · rcases right_cases u hu with rfl | rfl | rfl | ⟨n, hn, rfl⟩ | ⟨s, h1, h2, rfl⟩ <;> rcases right_cases v hv with rfl | rfl | rfl | ⟨m, hm, rfl⟩ | ⟨t, h3, h4, rfl⟩ <;> first | (exfalso; simp at hk; done) | skip
    · rw [(ordV_zero _ _).2 rfl, if_pos rfl]; exact cmpB_same _ _ _
    · rw [(ordV_zero _ _).2 rfl, if_pos rfl, encV_b0]; simp only [List.cons_append, List.nil_append, cmpB_same]
    · have e : ordV ⟨1, 0, ⟨#[]⟩⟩ ⟨1, 1, ⟨#[]⟩⟩ = -1 := by decide +kernel
      rw [e, if_neg (by decide), encV_b0, encV_b1]; simp only [List.cons_append, List.nil_append, cmpB_same]; exact cmpB_lt (by decide) _ _
    · have e : ordV ⟨1, 1, ⟨#[]⟩⟩ ⟨1, 0, ⟨#[]⟩⟩ = 1 := by decide +kernel
      rw [e, if_neg (by decide), encV_b0, encV_b1]; simp only [List.cons_append, List.nil_append, cmpB_same]; exact cmpB_gt (by decide) _ _
    · rw [(ordV_zero _ _).2 rfl, if_pos rfl, encV_b1]; simp only [List.cons_append, List.nil_append, cmpB_same]
    · obtain ⟨b1, b2⟩ := inB_bounds hn
      obtain ⟨b3, b4⟩ := inB_bounds hm
      have e : ordV ⟨2, n, ⟨#[]⟩⟩ ⟨2, m, ⟨#[]⟩⟩ = cmpI n m := by
        simp [ordV, orI, cmpI, compareBytes]
        intro h; rw [h]
      rw [e, encV_int, encV_int, List.append_assoc, List.append_assoc, List.singleton_append, List.singleton_append, cmpB_same, cmpB_put 8 _ _ (offs_lt n b1 b2) (offs_lt m b3 b4)]
      have e1 : (offs n : Int) = n + 9223372036854775808 := by unfold offs; omega
      have e2 : (offs m : Int) = m + 9223372036854775808 := by unfold offs; omega
      by_cases h : n = m
      · subst h; rw [if_pos rfl, if_pos ((cmpI_zero _ _).2 rfl)]
      · rw [if_neg (by omega), if_neg (fun x => h ((cmpI_zero _ _).1 x)), cmpI, cmpI, e1, e2]
        by_cases h5 : n < m
        · rw [if_pos (by omega), if_pos h5]
        · rw [if_neg (by omega), if_neg h5, if_pos (by omega), if_pos (by omega)]
    · have e : ordV ⟨3, 0, s⟩ ⟨3, 0, t⟩ = compareBytes s.data.toList t.data.toList := by simp [ordV, orI, cmpI]
      rw [e, encV_text, encV_text]
      simp only [List.append_assoc, List.cons_append, List.nil_append]
      rw [cmpB_same, cmpB_text _ _ _ _ (plain_nz s h2) (plain_nz t h4)]
      by_cases h : s.data.toList = t.data.toList
      · rw [if_pos h, if_pos ((compareBytes_zero _ _).2 h)]
      · rw [if_neg h, if_neg (fun x => h ((compareBytes_zero _ _).1 x))]
  · obtain ⟨k1, k2⟩ := right_kind u hu
    obtain ⟨k3, k4⟩ := right_kind v hv
    obtain ⟨r1, e1⟩ := encV_kind u
    obtain ⟨r2, e2⟩ := encV_kind v
    have t1 : (UInt8.ofNat u.k.toNat).toNat = u.k.toNat := by rw [Oct.ofNat_toNat]; omega
    have t2 : (UInt8.ofNat v.k.toNat).toNat = v.k.toNat := by rw [Oct.ofNat_toNat]; omega
    have e3 : ordV u v = cmpI u.k v.k := by rw [ordV, orI, if_neg (fun x => hk ((cmpI_zero _ _).1 x))]
    rw [e3, if_neg (fun x => hk ((cmpI_zero _ _).1 x)), e1, e2, List.cons_append, List.cons_append]
    by_cases h : u.k < v.k
    · rw [cmpB_lt (UInt8.lt_iff_toNat_lt.2 (by rw [t1, t2]; omega)), cmpI, if_pos h]
    · rw [cmpB_gt (UInt8.lt_iff_toNat_lt.2 (by rw [t1, t2]; omega)), cmpI, if_neg h, if_pos (by omega)]
/-- Keys stand as their rows do. -/
theorem cmpB_rows (a : List Vl) : ∀ b, rightsL a = true → rightsL b = true → compareBytes (encL a) (encL b) = ordL a b := by
  induction a with
  | nil =>
    intro b _ _
    cases b with
    | nil => rfl
    | cons v b => rw [encL_cons]; obtain ⟨c, r, hc⟩ := encV_cons v; rw [hc]; rfl
  | cons u a ih =>
    intro b ha hb
    obtain ⟨h1, h2⟩ := rights_cons.1 ha
    cases b with
    | nil => rw [encL_cons]; obtain ⟨c, r, hc⟩ := encV_cons u; rw [hc]; rfl
    | cons v b =>
      obtain ⟨h3, h4⟩ := rights_cons.1 hb
      rw [encL_cons, encL_cons, cmpB_enc u v h1 h3, ih b h2 h4, ordL]
/-- A key begins with another one just if the row does. -/
theorem prefix_rows (a : List Vl) : ∀ b, rightsL a = true → rightsL b = true → (encL a <+: encL b ↔ a.length ≤ b.length ∧ b.take a.length = a) := by
  induction a with
  | nil => intro b _ _; simp [encL]
  | cons u a ih =>
    intro b ha hb
    obtain ⟨h1, h2⟩ := rights_cons.1 ha
    cases b with
    | nil => rw [encL_cons]; obtain ⟨c, r, hc⟩ := encV_cons u; rw [hc]; simp [encL]
    | cons v b =>
      obtain ⟨h3, h4⟩ := rights_cons.1 hb
      rw [encL_cons, encL_cons]
      simp only [List.length_cons, List.take_succ_cons, List.cons.injEq]
      constructor
      · rintro ⟨t, ht⟩
        have e1 := takeK_enc u h1 (encL a ++ t)
        rw [← List.append_assoc, ht, takeK_enc v h3] at e1
        injection e1 with e2 e3
        injection e3 with e3 _
        subst e2
        have := (ih b h2 h4).1 ⟨t, e3.symm⟩
        exact ⟨by omega, rfl, this.2⟩
      · rintro ⟨e1, rfl, e2⟩
        obtain ⟨t, ht⟩ := (ih b h2 h4).2 ⟨by omega, e2⟩
        exact ⟨t, by rw [List.append_assoc, ht]⟩
theorem after_some (c : UInt8) (l : List UInt8) (h : c ≠ 255) : ∃ m, afterF (c :: l) = some m := by
  rw [afterF]
  cases afterF l with
  | some m => exact ⟨_, rfl⟩
  | none => exact ⟨_, if_neg h⟩
theorem after_row (a : List Vl) (ha : rightsL a = true) (h0 : a ≠ []) : ∃ m, afterF (encL a) = some m := by
  cases a with
  | nil => exact (h0 rfl).elim
  | cons u a =>
    obtain ⟨h1, _⟩ := rights_cons.1 ha
    obtain ⟨k1, k2⟩ := right_kind u h1
    obtain ⟨r1, e1⟩ := encV_kind u
    rw [encL_cons, e1, List.cons_append]
    refine after_some _ _ fun e => ?_
    have t1 : (UInt8.ofNat u.k.toNat).toNat = u.k.toNat := by rw [Oct.ofNat_toNat]; omega
    rw [e] at t1
    have : (255 : UInt8).toNat = 255 := rfl
    omega
theorem rights_append {a b : List Vl} : rightsL (a ++ b) = true ↔ rightsL a = true ∧ rightsL b = true := by simp [rightsL]
end Go.Proofs.Ytljdiakodpjkpaa
