/- Plain laws on a row's bytes: what bytes tell a row, cut bytes, one byte more. -/
import Derived.Test.YtcboeggfincakaaGetP
namespace Go.Proofs.Ytcboeggfincakaa
set_option linter.unusedVariables false
set_option linter.unusedSimpArgs false
open Go.RowKit
open Oct (S beN putL U I getI)
theorem drop_cons {s : ByteArray} {a : Nat} {c : UInt8} {t : List UInt8} (h : s.data.toList.drop a = c :: t) : a < s.size ∧ byteAt s a = c.toNat ∧ s.data.toList.drop (a + 1) = t := by
  have hl : a < s.data.toList.length := by
    apply Classical.byContradiction; intro hn
    rw [List.drop_of_length_le (by omega)] at h; cases h
  rw [List.drop_eq_getElem_cons hl] at h
  injection h with h1 h2
  refine ⟨by simpa using hl, ?_, h2⟩
  rw [byteAt, List.getD_eq_getElem?_getD, List.getElem?_eq_getElem hl, h1]; rfl
theorem drop_at {s : ByteArray} {a : Nat} (h : a < s.size) : ∃ c, c.toNat = byteAt s a ∧ s.data.toList.drop a = c :: s.data.toList.drop (a + 1) := by
  have hl : a < s.data.toList.length := by simpa using h
  refine ⟨s.data.toList[a], ?_, List.drop_eq_getElem_cons hl⟩
  rw [byteAt, List.getD_eq_getElem?_getD, List.getElem?_eq_getElem hl]; rfl
theorem drop_nil {s : ByteArray} {a : Nat} (h : s.data.toList.drop a = []) : ¬ a < s.size := by
  have := List.drop_eq_nil_iff.1 h
  have e : s.data.toList.length = s.size := by simp
  omega
def plainC (c : UInt8) : Bool := decide (32 ≤ c.toNat) && decide (c.toNat ≤ 126)
theorem plainB_eq (s : ByteArray) : plainB s = s.data.toList.all plainC := rfl
theorem plainC_iff (c : UInt8) : plainC c = true ↔ 32 ≤ c.toNat ∧ c.toNat ≤ 126 := by simp [plainC]
theorem scan_pre {s : ByteArray} {p r : List UInt8} {a : Nat} (m : Nat) (h : s.data.toList.drop a = p ++ r) (hp : p.all plainC = true) : scan s (p.length + m) a = scan s m (a + p.length) := by
  induction p generalizing a with
  | nil => simp
  | cons c p ih =>
    obtain ⟨h1, h2, h3⟩ := drop_cons h
    rw [List.all_cons, Bool.and_eq_true, plainC_iff] at hp
    have e : (c :: p).length + m = (p.length + m) + 1 := by simp; omega
    rw [e, scan, if_pos h1, if_pos (by rw [h2]; exact hp.1), ih h3 hp.2]
    congr 1
    simp; omega
theorem scan_zero {s : ByteArray} {n a : Nat} (h : scan s n a = 0) : ∃ p r, s.data.toList.drop a = p ++ r ∧ p.length = n ∧ p.all plainC = true := by
  induction n generalizing a with
  | zero => exact ⟨[], _, rfl, rfl, rfl⟩
  | succ n ih =>
    rw [scan] at h
    split at h
    · rename_i h1
      split at h
      · rename_i h2
        obtain ⟨p, r, e1, e2, e3⟩ := ih h
        obtain ⟨c, hc, hd⟩ := drop_at h1
        exact ⟨c :: p, r, by rw [hd, e1]; rfl, by simp [e2], by rw [List.all_cons, e3, (plainC_iff c).2 (by rw [hc]; exact h2)]; rfl⟩
      · cases h
    · cases h
theorem extract_of {s : ByteArray} {a n : Nat} {p r : List UInt8} (h : s.data.toList.drop a = p ++ r) (hn : p.length = n) : s.extract a (a + n) = S p := by
  have e : (s.extract a (a + n)).data.toList = p := by
    have : (s.extract a (a + n)).data.toList = (s.data.toList.drop a).take n := by simp [List.extract_eq_take_drop]
    rw [this, h, List.take_left' hn]
  rw [← e, Oct.S_of]
theorem S_all {p : List UInt8} : plainB (S p) = p.all plainC := rfl
theorem text_fwd {s : ByteArray} {a : Nat} {p r : List UInt8} (hl : p.length ≤ 100) (hp : p.all plainC = true) (h : s.data.toList.drop a = UInt8.ofNat p.length :: (p ++ r)) : textR s a = .ok (⟨3, 0, S p⟩, a + 1 + p.length) := by
  obtain ⟨h1, h2, h3⟩ := drop_cons h
  have hb : byteAt s a = p.length := by rw [h2, Oct.ofNat_toNat]; omega
  have hs := scan_pre 0 h3 hp
  rw [Nat.add_zero] at hs
  have h0 : scan s p.length (a + 1) = 0 := by rw [hs]; rfl
  rw [textR, if_pos h1, hb, if_neg (by omega), if_pos h0, extract_of h3 rfl]
theorem text_cut {s : ByteArray} {a n : Nat} {p : List UInt8} (hl : n ≤ 100) (hn : p.length < n) (hp : p.all plainC = true) (h : s.data.toList.drop a = UInt8.ofNat n :: p) : textR s a = .error 3 := by
  obtain ⟨h1, h2, h3⟩ := drop_cons h
  have hb : byteAt s a = n := by rw [h2, Oct.ofNat_toNat]; omega
  obtain ⟨m, rfl⟩ : ∃ m, n = p.length + (m + 1) := ⟨n - p.length - 1, by omega⟩
  have hs := scan_pre (r := []) (m + 1) (by rw [h3, List.append_nil]) hp
  have he : ¬ a + 1 + p.length < s.size := by
    apply drop_nil
    rw [← List.drop_drop, h3, List.drop_length]
  rw [scan, if_neg he] at hs
  rw [textR, if_pos h1, hb, if_neg (by omega), if_neg (by rw [hs]; decide), hs]
theorem text_back {s : ByteArray} {a b : Nat} {v : Vl} (h : textR s a = .ok (v, b)) : ∃ p r, s.data.toList.drop a = UInt8.ofNat p.length :: (p ++ r) ∧ p.length ≤ 100 ∧ p.all plainC = true ∧ v = ⟨3, 0, S p⟩ ∧ b = a + 1 + p.length := by
  unfold textR at h
  split at h
  · rename_i h1
    split at h
    · cases h
    · rename_i h2
      split at h
      · rename_i h3
        injection h with h
        simp only [Prod.mk.injEq] at h
        obtain ⟨rfl, rfl⟩ := h
        obtain ⟨p, r, e1, e2, e3⟩ := scan_zero h3
        obtain ⟨c, hc, hd⟩ := drop_at h1
        have hcc : c = UInt8.ofNat p.length := by rw [e2, ← hc, UInt8.ofNat_toNat]
        refine ⟨p, r, by rw [hd, e1, ← hcc], by omega, e3, ?_, by omega⟩
        rw [extract_of e1 e2]
      · cases h
  · cases h
theorem inB_wf {n : Int} (h : inB n = true) : -9223372036854775808 ≤ n ∧ n < 9223372036854775808 := by
  unfold inB at h; simp at h; omega
theorem getI_putL {n : Int} (h : inB n = true) : getI (putL (U n) 8) = n := by
  have := inB_wf h
  rw [getI, Oct.beN_putL, Nat.mod_eq_of_lt (Oct.U_lt n), Oct.I_U _ this.1 this.2]
theorem putL_getI {p : List UInt8} (h : p.length = 8) : putL (U (getI p)) 8 = p := by
  have h1 := Oct.beN_lt p
  rw [h] at h1
  rw [getI, Oct.U_I _ h1]
  have := Oct.putL_beN p
  rw [h] at this; exact this
theorem take_fwd {s : ByteArray} {a : Nat} {v : Vl} {r : List UInt8} (hv : rightV v = true) (h : s.data.toList.drop a = oneL v ++ r) : takeR s a = .ok (v, a + (oneL v).length) := by
  rcases right_cases v hv with rfl | rfl | rfl | ⟨n, hn, rfl⟩ | ⟨t, h1, h2, rfl⟩
  · obtain ⟨h1, h2, h3⟩ := drop_cons h
    rw [takeR, if_pos h1, if_pos (by rw [h2]; rfl)]; rfl
  · obtain ⟨h1, h2, h3⟩ := drop_cons h
    obtain ⟨h4, h5, h6⟩ := drop_cons h3
    rw [takeR, if_pos h1, if_neg (by rw [h2]; decide), if_pos (by rw [h2]; rfl), if_pos h4, if_pos (by rw [h5]; decide), h5]; rfl
  · obtain ⟨h1, h2, h3⟩ := drop_cons h
    obtain ⟨h4, h5, h6⟩ := drop_cons h3
    rw [takeR, if_pos h1, if_neg (by rw [h2]; decide), if_pos (by rw [h2]; rfl), if_pos h4, if_pos (by rw [h5]; decide), h5]; rfl
  · have h' : s.data.toList.drop a = 2 :: (putL (U n) 8 ++ r) := h
    obtain ⟨h1, h2, h3⟩ := drop_cons h'
    have hl := Oct.putL_length (U n) 8
    have hz : a + 9 ≤ s.size := by
      have e := congrArg List.length h'
      have e2 : s.data.toList.length = s.size := by simp
      simp only [List.length_drop, List.length_cons, List.length_append, hl, e2] at e
      omega
    have hnum : num8 s (a + 1) = n := by rw [num8, h3, List.take_left' hl, getI_putL hn]
    rw [takeR, if_pos h1, if_neg (by rw [h2]; decide), if_neg (by rw [h2]; decide), if_pos (by rw [h2]; rfl), if_pos hz, hnum, if_pos hn]
    have : (oneL ⟨2, n, ⟨#[]⟩⟩).length = 9 := by show (2 :: putL (U n) 8).length = 9; simp [hl]
    rw [this]
  · have h' : s.data.toList.drop a = 3 :: (UInt8.ofNat t.data.toList.length :: (t.data.toList ++ r)) := by rw [h, Oct.size_of]; rfl
    obtain ⟨h3, h4, h5⟩ := drop_cons h'
    have e2 : t.data.toList.length = t.size := by simp
    have := text_fwd (by rw [e2]; exact h1) (by rw [← plainB_eq]; exact h2) h5
    rw [takeR, if_pos h3, if_neg (by rw [h4]; decide), if_neg (by rw [h4]; decide), if_neg (by rw [h4]; decide), if_pos (by rw [h4]; rfl), this, Oct.S_of]
    have : (oneL ⟨3, 0, t⟩).length = 2 + t.data.toList.length := by show (3 :: UInt8.ofNat t.size :: t.data.toList).length = _; simp; omega
    rw [this]
    congr 2
    omega
theorem prefix_cons {c : UInt8} {p t : List UInt8} (h : p <+: c :: t) : p = [] ∨ ∃ q, p = c :: q ∧ q <+: t := by
  cases p with
  | nil => exact .inl rfl
  | cons d q =>
    obtain ⟨r, hr⟩ := h
    injection hr with h1 h2
    exact .inr ⟨q, by rw [h1], ⟨r, h2⟩⟩
theorem take_none {s : ByteArray} {a : Nat} (h : s.data.toList.drop a = []) : takeR s a = .error 3 := by rw [takeR, if_neg (drop_nil h)]
theorem take_cut {s : ByteArray} {a : Nat} {v : Vl} {p : List UInt8} (hv : rightV v = true) (h : s.data.toList.drop a = p) (hp : p <+: oneL v) (hn : p.length < (oneL v).length) : takeR s a = .error 3 := by
  subst h
  rcases right_cases v hv with rfl | rfl | rfl | ⟨n, hN, rfl⟩ | ⟨t, h1, h2, rfl⟩
  · rcases prefix_cons hp with h0 | ⟨q, h0, hq⟩
    · exact take_none h0
    · rw [h0] at hn; simp [oneL] at hn
  · rcases prefix_cons hp with h0 | ⟨q, h0, hq⟩
    · exact take_none h0
    · obtain ⟨h3, h4, h5⟩ := drop_cons h0
      have hq0 : q = [] := by apply List.eq_nil_of_length_eq_zero; rw [h0] at hn; simp [oneL] at hn; omega
      rw [hq0] at h5
      rw [takeR, if_pos h3, if_neg (by rw [h4]; decide), if_pos (by rw [h4]; rfl), if_neg (drop_nil h5)]
  · rcases prefix_cons hp with h0 | ⟨q, h0, hq⟩
    · exact take_none h0
    · obtain ⟨h3, h4, h5⟩ := drop_cons h0
      have hq0 : q = [] := by apply List.eq_nil_of_length_eq_zero; rw [h0] at hn; simp [oneL] at hn; omega
      rw [hq0] at h5
      rw [takeR, if_pos h3, if_neg (by rw [h4]; decide), if_pos (by rw [h4]; rfl), if_neg (drop_nil h5)]
  · rcases prefix_cons (c := 2) (t := putL (U n) 8) hp with h0 | ⟨q, h0, hq⟩
    · exact take_none h0
    · obtain ⟨h3, h4, h5⟩ := drop_cons h0
      have hz : ¬ a + 9 ≤ s.size := by
        have e2 : s.data.toList.length = s.size := by simp
        have e3 : (oneL ⟨2, n, ⟨#[]⟩⟩).length = 9 := by show (2 :: putL (U n) 8).length = 9; simp [Oct.putL_length]
        rw [List.length_drop, e2, e3] at hn
        omega
      rw [takeR, if_pos h3, if_neg (by rw [h4]; decide), if_neg (by rw [h4]; decide), if_pos (by rw [h4]; rfl), if_neg hz]
  · rcases prefix_cons (c := 3) (t := UInt8.ofNat t.size :: t.data.toList) hp with h0 | ⟨q, h0, hq⟩
    · exact take_none h0
    · obtain ⟨h3, h4, h5⟩ := drop_cons h0
      rw [takeR, if_pos h3, if_neg (by rw [h4]; decide), if_neg (by rw [h4]; decide), if_neg (by rw [h4]; decide), if_pos (by rw [h4]; rfl)]
      rcases prefix_cons hq with e0 | ⟨q2, e0, hq2⟩
      · rw [e0] at h5
        rw [textR, if_neg (drop_nil h5)]
      · rw [e0] at h5
        refine text_cut h1 ?_ ?_ h5
        · rw [h0, e0] at hn
          have e3 : (oneL ⟨3, 0, t⟩).length = 2 + t.size := by show (3 :: UInt8.ofNat t.size :: t.data.toList).length = _; simp; omega
          rw [e3] at hn; simp at hn; omega
        · obtain ⟨r, hr⟩ := hq2
          rw [plainB_eq, ← hr, List.all_append, Bool.and_eq_true] at h2
          exact h2.1
theorem take_back {s : ByteArray} {a b : Nat} {v : Vl} (h : takeR s a = .ok (v, b)) : rightV v = true ∧ ∃ r, s.data.toList.drop a = oneL v ++ r ∧ b = a + (oneL v).length := by
  unfold takeR at h
  split at h
  · rename_i h1
    obtain ⟨c, hc, hd⟩ := drop_at h1
    split at h
    · rename_i h2
      injection h with h; simp only [Prod.mk.injEq] at h; obtain ⟨rfl, rfl⟩ := h
      have : c = 0 := by apply UInt8.toNat_inj.1; rw [hc, h2]; rfl
      exact ⟨rfl, _, by rw [hd, this]; rfl, rfl⟩
    · split at h
      · rename_i h2 h3
        have hc1 : c = 1 := by apply UInt8.toNat_inj.1; rw [hc, h3]; rfl
        split at h
        · rename_i h4
          obtain ⟨c2, hc2, hd2⟩ := drop_at h4
          split at h
          · rename_i h5
            injection h with h; simp only [Prod.mk.injEq] at h; obtain ⟨rfl, rfl⟩ := h
            have h6 : byteAt s (a + 1) = 0 ∨ byteAt s (a + 1) = 1 := by omega
            rcases h6 with h6 | h6
            · rw [h6] at hc2 ⊢
              have : c2 = 0 := by apply UInt8.toNat_inj.1; rw [hc2]; rfl
              exact ⟨rfl, _, by rw [hd, hd2, this, hc1]; rfl, rfl⟩
            · rw [h6] at hc2 ⊢
              have : c2 = 1 := by apply UInt8.toNat_inj.1; rw [hc2]; rfl
              exact ⟨rfl, _, by rw [hd, hd2, this, hc1]; rfl, rfl⟩
          · cases h
        · cases h
      · split at h
        · rename_i h2 h3 h4
          have hc1 : c = 2 := by apply UInt8.toNat_inj.1; rw [hc, h4]; rfl
          split at h
          · rename_i h5
            split at h
            · rename_i h6
              injection h with h; simp only [Prod.mk.injEq] at h; obtain ⟨rfl, rfl⟩ := h
              have e2 : s.data.toList.length = s.size := by simp
              have hlen : ((s.data.toList.drop (a + 1)).take 8).length = 8 := by simp; omega
              have hp := putL_getI hlen
              refine ⟨?_, (s.data.toList.drop (a + 1)).drop 8, ?_, ?_⟩
              · show (((2 : Int) == 2) && inB (num8 s (a + 1))) = true; rw [h6]; rfl
              · rw [hd, hc1]
                show _ = 2 :: (putL (U (num8 s (a + 1))) 8) ++ _
                rw [num8, hp, List.cons_append, List.take_append_drop]
              · show _ = a + (2 :: putL (U (num8 s (a + 1))) 8).length
                simp [Oct.putL_length]
            · cases h
          · cases h
        · split at h
          · rename_i h2 h3 h4 h5
            have hc1 : c = 3 := by apply UInt8.toNat_inj.1; rw [hc, h5]; rfl
            obtain ⟨p, r, e1, e2, e3, rfl, rfl⟩ := text_back h
            refine ⟨?_, r, ?_, ?_⟩
            · rw [rightV, if_pos rfl]; simp [S_all, e3, Oct.S_size, e2]
            · rw [hd, hc1, e1]
              show _ = 3 :: UInt8.ofNat (S p).size :: (S p).data.toList ++ r
              rw [Oct.S_size]; rfl
            · show _ = a + (3 :: UInt8.ofNat (S p).size :: (S p).data.toList).length
              simp; omega
          · cases h
  · cases h
theorem bodyL_cons (v : Vl) (l : List Vl) : bodyL (v :: l) = oneL v ++ bodyL l := by simp [bodyL]
theorem rightsL_cons (v : Vl) (l : List Vl) : rightsL (v :: l) = true ↔ rightV v = true ∧ rightsL l = true := by simp [rightsL]
theorem rows_fwd {s : ByteArray} {l : List Vl} {a : Nat} {r : List UInt8} (hl : rightsL l = true) (h : s.data.toList.drop a = bodyL l ++ r) : rowsR s l.length a = .ok (l, a + (bodyL l).length) := by
  induction l generalizing a with
  | nil => rfl
  | cons v l ih =>
    rw [bodyL_cons, List.append_assoc] at h
    obtain ⟨h1, h2⟩ := (rightsL_cons v l).1 hl
    have ht := take_fwd h1 h
    have hd : s.data.toList.drop (a + (oneL v).length) = bodyL l ++ r := by rw [← List.drop_drop, h, List.drop_left' rfl]
    rw [List.length_cons, rowsR, ht]
    simp only []
    rw [ih h2 hd]
    simp only []
    rw [bodyL_cons, List.length_append, Nat.add_assoc]
theorem rows_cut {s : ByteArray} {l : List Vl} {a : Nat} {p : List UInt8} (hl : rightsL l = true) (h : s.data.toList.drop a = p) (hp : p <+: bodyL l) (hn : p.length < (bodyL l).length) : rowsR s l.length a = .error 3 := by
  induction l generalizing a p with
  | nil => simp [bodyL] at hn
  | cons v l ih =>
    rw [bodyL_cons] at hp hn
    obtain ⟨h1, h2⟩ := (rightsL_cons v l).1 hl
    rw [List.length_cons, rowsR]
    by_cases hc : p.length < (oneL v).length
    · have : p <+: oneL v := List.prefix_of_prefix_length_le hp (List.prefix_append _ _) (by omega)
      rw [take_cut h1 h this hc]
    · obtain ⟨q, rfl⟩ : oneL v <+: p := List.prefix_of_prefix_length_le (List.prefix_append _ _) hp (by omega)
      have ht := take_fwd h1 h
      have hd : s.data.toList.drop (a + (oneL v).length) = q := by rw [← List.drop_drop, h, List.drop_left' rfl]
      rw [ht]
      simp only []
      rw [ih h2 hd ((List.prefix_append_right_inj _).1 hp) (by simp at hn; omega)]
theorem rows_back {s : ByteArray} {n a z : Nat} {l : List Vl} (h : rowsR s n a = .ok (l, z)) : l.length = n ∧ rightsL l = true ∧ ∃ r, s.data.toList.drop a = bodyL l ++ r ∧ z = a + (bodyL l).length := by
  induction n generalizing a l with
  | zero =>
    rw [rowsR] at h
    injection h with h; simp only [Prod.mk.injEq] at h; obtain ⟨rfl, rfl⟩ := h
    exact ⟨rfl, rfl, _, rfl, rfl⟩
  | succ n ih =>
    rw [rowsR] at h
    cases ht : takeR s a with
    | error e => rw [ht] at h; cases h
    | ok x =>
      obtain ⟨v, b⟩ := x
      rw [ht] at h
      simp only [] at h
      cases hr : rowsR s n b with
      | error e => rw [hr] at h; cases h
      | ok y =>
        obtain ⟨l2, z2⟩ := y
        rw [hr] at h
        simp only [] at h
        injection h with h; simp only [Prod.mk.injEq] at h; obtain ⟨rfl, rfl⟩ := h
        obtain ⟨h1, r, h2, h3⟩ := take_back ht
        obtain ⟨h4, h5, r2, h6, h7⟩ := ih hr
        subst h3
        have hd : s.data.toList.drop (a + (oneL v).length) = r := by rw [← List.drop_drop, h2, List.drop_left' rfl]
        rw [hd] at h6
        refine ⟨by simp [h4], (rightsL_cons _ _).2 ⟨h1, h5⟩, r2, by rw [h2, h6, bodyL_cons, List.append_assoc], ?_⟩
        rw [h7, bodyL_cons, List.length_append, Nat.add_assoc]
theorem rows_fault {s : ByteArray} {n a : Nat} {e : Int} (h : rowsR s n a = .error e) : e = 2 ∨ e = 3 := by
  induction n generalizing a with
  | zero => cases h
  | succ n ih =>
    rw [rowsR] at h
    cases ht : takeR s a with
    | error e2 => rw [ht] at h; injection h with h; subst h; exact take_error ht
    | ok x =>
      obtain ⟨v, b⟩ := x
      rw [ht] at h
      simp only [] at h
      cases hr : rowsR s n b with
      | error e2 => rw [hr] at h; injection h with h; subst h; exact ih hr
      | ok y => rw [hr] at h; cases h
theorem getRow_error {s : ByteArray} {e : Int} (h : getRow s = .error e) : e = 2 ∨ e = 3 ∨ e = 4 := by
  unfold getRow at h
  split at h
  · injection h with h; omega
  · split at h
    · injection h with h; omega
    · split at h
      · injection h with h; omega
      · split at h
        · rename_i hr
          injection h with h; subst h
          rcases rows_fault hr with h | h
          · exact .inl h
          · exact .inr (.inl h)
        · split at h
          · injection h with h; omega
          · cases h
theorem putR_zero {l : List Vl} {q : List UInt8} (h : putR l = (q, 0)) : rightsL l = true ∧ l.length ≤ 32 ∧ sizeL l ≤ 400 ∧ q = rowL l := by
  unfold putR at h
  split at h
  · injection h with h1 h2; cases h2
  · rename_i h1
    split at h
    · injection h with h1 h2; cases h2
    · rename_i h2
      injection h with h3 h4
      refine ⟨?_, by omega, by omega, h3.symm⟩
      cases hr : rightsL l with
      | true => rfl
      | false => exact (h1 hr).elim
theorem rowL_len (l : List Vl) : (rowL l).length = sizeL l := by simp [rowL, sizeL]; omega
/-- A row's bytes tell it. -/
theorem getRow_fwd {l : List Vl} {q : List UInt8} (h : putR l = (q, 0)) : getRow (S q) = .ok l := by
  obtain ⟨h1, h2, h3, rfl⟩ := putR_zero h
  have hz : (S (rowL l)).size = sizeL l := by rw [Oct.S_size, rowL_len]
  have hd : (S (rowL l)).data.toList.drop 0 = UInt8.ofNat l.length :: bodyL l := rfl
  obtain ⟨d1, d2, d3⟩ := drop_cons hd
  have hb : byteAt (S (rowL l)) 0 = l.length := by rw [d2, Oct.ofNat_toNat]; omega
  have hr := rows_fwd (s := S (rowL l)) (a := 1) (r := []) h1 (by rw [d3, List.append_nil])
  rw [getRow, if_neg (by omega), if_neg (by omega), if_neg (by omega), hb, hr]
  simp only []
  rw [if_neg (by rw [hz, sizeL]; omega)]
/-- Bytes that tell a row are its own. -/
theorem getRow_back {s : ByteArray} {l : List Vl} (h : getRow s = .ok l) : putR l = (s.data.toList, 0) := by
  unfold getRow at h
  split at h
  · cases h
  · rename_i h1
    split at h
    · cases h
    · rename_i h2
      split at h
      · cases h
      · rename_i h3
        split at h
        · cases h
        · rename_i l2 z hr
          split at h
          · cases h
          · rename_i h4
            injection h with h; subst h
            obtain ⟨e1, e2, r, e3, e4⟩ := rows_back hr
            obtain ⟨c, hc, hd⟩ := drop_at (s := s) (a := 0) (by omega)
            have hlen : s.data.toList.length = s.size := by simp
            have hr0 : r = [] := by
              have := congrArg List.length e3
              simp only [List.length_drop, List.length_append, hlen] at this
              apply List.eq_nil_of_length_eq_zero
              omega
            subst hr0
            rw [List.append_nil] at e3
            have hq : s.data.toList = rowL l2 := by
              have : s.data.toList.drop 0 = s.data.toList := rfl
              rw [← this, hd]
              show _ = UInt8.ofNat l2.length :: bodyL l2
              rw [e1, ← hc, UInt8.ofNat_toNat]
              congr 1
            have hsz : sizeL l2 ≤ 400 := by rw [← rowL_len, ← hq, hlen]; omega
            rw [putR_ok e2 (by omega), hq]
theorem getRow_cut {l : List Vl} {q : List UInt8} {c : Nat} (h : putR l = (q, 0)) (hc : c < q.length) : getRow (S (q.take c)) = .error 3 := by
  obtain ⟨h1, h2, h3, rfl⟩ := putR_zero h
  rw [rowL_len] at hc
  have hz : (S ((rowL l).take c)).size = c := by rw [Oct.S_size, List.length_take, rowL_len]; omega
  by_cases h0 : c = 0
  · rw [getRow, if_neg (by omega), if_pos (by omega)]
  · obtain ⟨k, rfl⟩ : ∃ k, c = k + 1 := ⟨c - 1, by omega⟩
    have hd : (S ((rowL l).take (k + 1))).data.toList.drop 0 = UInt8.ofNat l.length :: (bodyL l).take k := rfl
    obtain ⟨d1, d2, d3⟩ := drop_cons hd
    have hb : byteAt (S ((rowL l).take (k + 1))) 0 = l.length := by rw [d2, Oct.ofNat_toNat]; omega
    have hk : k < (bodyL l).length := by unfold sizeL at hc; omega
    have hr := rows_cut h1 d3 (List.take_prefix _ _) (by rw [List.length_take]; omega)
    rw [getRow, if_neg (by omega), if_neg (by omega), if_neg (by omega), hb, hr]
theorem getRow_more {l : List Vl} {q : List UInt8} (m : UInt8) (h : putR l = (q, 0)) : getRow (S (q ++ [m])) = .error (if q.length < 400 then 2 else 4) := by
  obtain ⟨h1, h2, h3, rfl⟩ := putR_zero h
  rw [rowL_len]
  have hz : (S (rowL l ++ [m])).size = sizeL l + 1 := by rw [Oct.S_size, List.length_append, rowL_len]; rfl
  have hd : (S (rowL l ++ [m])).data.toList.drop 0 = UInt8.ofNat l.length :: (bodyL l ++ [m]) := rfl
  obtain ⟨d1, d2, d3⟩ := drop_cons hd
  have hb : byteAt (S (rowL l ++ [m])) 0 = l.length := by rw [d2, Oct.ofNat_toNat]; omega
  by_cases h4 : sizeL l < 400
  · have hr := rows_fwd h1 d3
    rw [getRow, if_neg (by omega), if_neg (by omega), if_neg (by omega), hb, hr, if_pos h4]
    simp only []
    rw [if_pos (by rw [hz, sizeL]; omega)]
  · rw [getRow, if_pos (by omega), if_neg h4]
end Go.Proofs.Ytcboeggfincakaa
