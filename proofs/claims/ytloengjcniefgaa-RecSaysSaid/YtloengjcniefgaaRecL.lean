/- Records of the log: Put and Get, plain, and their laws. -/
import Derived.Test.YtloengjcniefgaaRecQ
import Derived.Test.YtloengjcniefgaaOctF
namespace Go.Proofs.Ytloengjcniefgaa.Rec
set_option linter.unusedVariables false
set_option linter.unusedSimpArgs false
open Go.RowKit
open Oct (S beN putL U I getI sumN S_size S_data)
theorem right_kind {r : Rc} (h : rightR r = true) : isF r.kind = true ∧ r.txns.length ≤ 1000 ∧ r.dirty.length ≤ 2000 := by
  simp only [rightR, Bool.and_eq_true, Bool.or_eq_true, Bool.not_eq_true', decide_eq_true_eq] at h
  obtain ⟨⟨⟨⟨⟨⟨hk, _⟩, hc⟩, hh⟩, hn⟩, hl⟩, hb⟩ := h
  have b4 : r.txns = if liF r.kind then r.txns else [] := (congrArg Rc.txns hb).symm
  have b5 : r.dirty = if liF r.kind then r.dirty else [] := (congrArg Rc.dirty hb).symm
  refine ⟨hk, ?_, ?_⟩
  · cases hx : liF r.kind with
    | false => rw [hx] at b4; rw [b4]; simp
    | true => rw [hx] at hl; have := hl.resolve_left (by simp); simp only [listsB, Bool.and_eq_true, decide_eq_true_eq] at this; exact this.1.1.1.2
  · cases hx : liF r.kind with
    | false => rw [hx] at b5; rw [b5]; simp
    | true => rw [hx] at hl; have := hl.resolve_left (by simp); simp only [listsB, Bool.and_eq_true, decide_eq_true_eq] at this; exact this.1.1.2
theorem textL_le (t : List UInt8) : (textL t).length ≤ 2 + t.length := by
  rw [textL, List.length_append, Oct.putL_length, List.length_take]
  omega
theorem flat_len {α : Type} (f : α → List UInt8) (k : Nat) (l : List α) (h : ∀ a, (f a).length = k) : (l.map f).flatten.length = k * l.length := by
  induction l with
  | nil => rfl
  | cons a l ih => rw [List.map_cons, List.flatten_cons, List.length_append, ih, h, List.length_cons, Nat.mul_succ]; omega
theorem txL_len (t : Tx) : (txL t).length = 19 := by simp only [txL, List.length_append, Oct.putL_length]
theorem dyL_len (t : Dy) : (dyL t).length = 9 := by simp only [dyL, List.length_append, Oct.putL_length]
theorem head_len (r : Rc) : (headL r).length = 19 := by simp only [headL, List.length_append, Oct.putL_length]
/-- A right record's body is short. -/
theorem body_len {r : Rc} (h : rightR r = true) (h1 : r.old.length ≤ 512) (h2 : r.new.length ≤ 512) (h3 : r.key.length ≤ 100) : 19 ≤ (bodyL r).length ∧ (bodyL r).length ≤ 40000 := by
  obtain ⟨hk, ht, hd⟩ := right_kind h
  have e0 := head_len r
  have e1 : (chL r).length ≤ 1034 := by
    have := textL_le r.old
    have := textL_le r.new
    simp only [chL, List.length_append, Oct.putL_length]
    omega
  have e2 : (hoL r).length ≤ 111 := by
    have := textL_le r.key
    unfold hoL
    split <;> simp only [List.length_append, Oct.putL_length, List.length_nil] <;> omega
  have e3 : (neL r).length = 6 := Oct.putL_length _ _
  have e4 : (liL r).length ≤ 37010 := by
    simp only [liL, List.length_append, Oct.putL_length, flat_len txL 19 _ txL_len, flat_len dyL 9 _ dyL_len]
    omega
  simp only [bodyL, List.length_append]
  refine ⟨by omega, ?_⟩
  have a1 : (if chF r.kind then chL r else []).length ≤ 1034 := by
    split
    · omega
    · simp
  have a2 : (if hoF r.kind then hoL r else []).length ≤ 111 := by
    split
    · omega
    · simp
  have a3 : (if neF r.kind then neL r else []).length ≤ 6 := by
    split
    · omega
    · simp
  have a4 : (if liF r.kind then liL r else []).length ≤ 37010 := by
    split
    · omega
    · simp
  omega
/-- A right record's bytes. -/
def recL (r : Rc) : List UInt8 := putL (bodyL r).length 4 ++ sealL (bodyL r)
def getF (l : List UInt8) (at_ : Int) : Rc × Int × Int :=
  if at_ < 0 ∨ (l.length : Int) < at_ then (zeroR, 0, 1) else
  if (l.drop at_.toNat).length < 8 ∨ (l.drop at_.toNat).length - 8 < beN ((l.drop at_.toNat).take 4) then (zeroR, 0, 3) else
  if ¬ beN (((l.drop at_.toNat).drop 4).take 4) = sumN (((l.drop at_.toNat).drop 8).take (beN ((l.drop at_.toNat).take 4))) then (zeroR, 0, 19) else
  if rightR (recF (((l.drop at_.toNat).drop 8).take (beN ((l.drop at_.toNat).take 4)))) = true ∧ bodyL (recF (((l.drop at_.toNat).drop 8).take (beN ((l.drop at_.toNat).take 4)))) = ((l.drop at_.toNat).drop 8).take (beN ((l.drop at_.toNat).take 4)) then
    (recF (((l.drop at_.toNat).drop 8).take (beN ((l.drop at_.toNat).take 4))), at_ + 8 + (beN ((l.drop at_.toNat).take 4) : Nat), 0) else (zeroR, 0, 2)
theorem recL_len (r : Rc) : (recL r).length = 8 + (bodyL r).length := by
  simp only [recL, sealL, List.length_append, Oct.putL_length]
  omega
theorem beN_put4 (n : Nat) (h : n < 4294967296) : beN (putL n 4) = n := by
  have h5 : (256 : Nat) ^ 4 = 4294967296 := by decide
  rw [Oct.beN_putL, h5]; exact Nat.mod_eq_of_lt h
/-- What is written is read, wherever it stands. -/
theorem get_put (r : Rc) (a b : List UInt8) (hr : rightR r = true) (hl : (bodyL r).length ≤ 40000) : getF (a ++ recL r ++ b) (a.length : Nat) = (r, (a.length : Int) + (recL r).length, 0) := by
  have h4 : (putL (bodyL r).length 4).length = 4 := Oct.putL_length _ _
  have h5 : (putL (sumN (bodyL r)) 4).length = 4 := Oct.putL_length _ _
  have d0 : (a ++ recL r ++ b).drop a.length = putL (bodyL r).length 4 ++ (putL (sumN (bodyL r)) 4 ++ (bodyL r ++ b)) := by
    rw [List.append_assoc, List.drop_left, recL, sealL]
    simp only [List.append_assoc]
  have t0 : ((a ++ recL r ++ b).drop a.length).take 4 = putL (bodyL r).length 4 := by rw [d0, List.take_left' h4]
  have n0 : beN (((a ++ recL r ++ b).drop a.length).take 4) = (bodyL r).length := by rw [t0, beN_put4 _ (by omega)]
  have d4 : ((a ++ recL r ++ b).drop a.length).drop 4 = putL (sumN (bodyL r)) 4 ++ (bodyL r ++ b) := by rw [d0, List.drop_left' h4]
  have d8 : ((a ++ recL r ++ b).drop a.length).drop 8 = bodyL r ++ b := by
    rw [show (8 : Nat) = 4 + 4 from rfl, ← List.drop_drop, d4, List.drop_left' h5]
  have hlen : ((a ++ recL r ++ b).drop a.length).length = 8 + (bodyL r).length + b.length := by
    rw [d0]; simp only [List.length_append, h4, h5]; omega
  have t8 : (((a ++ recL r ++ b).drop a.length).drop 8).take (bodyL r).length = bodyL r := by rw [d8, List.take_left' rfl]
  have tot : (a ++ recL r ++ b).length = a.length + (8 + (bodyL r).length) + b.length := by
    simp only [List.length_append, recL_len]
  have hs : beN ((((a ++ recL r ++ b).drop a.length).drop 4).take 4) = sumN (bodyL r) := by
    rw [d4, List.take_left' h5, beN_put4 _ (Oct.sumN_lt _)]
  have hback : recF (bodyL r) = r := rec_back r hr _ _ (good_prog _)
  unfold getF
  rw [if_neg (by rw [tot]; omega)]
  simp only [Int.toNat_natCast]
  rw [n0, if_neg (by rw [hlen]; omega), t8, if_neg (by rw [hs]; simp), if_pos ⟨by rw [hback]; exact hr, by rw [hback]⟩, hback, recL_len]
  congr 2
  omega
theorem get_end (l : List UInt8) : getF l (l.length : Nat) = (zeroR, 0, 3) := by
  unfold getF
  rw [if_neg (by omega)]
  simp only [Int.toNat_natCast, List.drop_length]
  rw [if_pos (.inl (by simp))]
/-- Two right records with the same bytes are one. -/
theorem recL_inj (r q : Rc) (hr : rightR r = true) (hq : rightR q = true) (h1 : (bodyL r).length ≤ 40000) (h2 : (bodyL q).length ≤ 40000) (h : recL r = recL q) : r = q := by
  have e1 := get_put r [] [] hr h1
  have e2 := get_put q [] [] hq h2
  rw [h] at e1
  rw [e1] at e2
  exact congrArg (fun x => x.1) e2
/-- A record that is cut off ends too soon. -/
theorem get_cut (r : Rc) (k : Nat) (hl : (bodyL r).length ≤ 40000) (h4 : 4 ≤ k) (hk : k < (recL r).length) : getF ((recL r).take k) 0 = (zeroR, 0, 3) := by
  have h4' : (putL (bodyL r).length 4).length = 4 := Oct.putL_length _ _
  have hz := recL_len r
  have hlen : ((recL r).take k).length = k := by rw [List.length_take]; omega
  have t4 : ((recL r).take k).take 4 = putL (bodyL r).length 4 := by
    rw [List.take_take, show min 4 k = 4 by omega, recL, List.take_left' h4']
  unfold getF
  rw [if_neg (by omega)]
  simp only [show (0 : Int).toNat = 0 from rfl, List.drop_zero]
  rw [t4, beN_put4 _ (by omega), hlen, if_pos (by omega)]
theorem xor_own {x y : Nat} (h : x = x ^^^ y) : y = 0 := by
  have h2 := congrArg (fun z => x ^^^ z) h
  simp only [Nat.xor_self, ← Nat.xor_assoc, Nat.zero_xor] at h2
  exact h2.symm
theorem xor_zero_eq {x y : Nat} (h : x ^^^ y = 0) : x = y := by
  have h2 := congrArg (fun z => x ^^^ z) h
  simp only [← Nat.xor_assoc, Nat.xor_self, Nat.zero_xor, Nat.xor_zero] at h2
  exact h2.symm
theorem xor_back {x y c : Nat} (h : x ^^^ c = y ^^^ c) : x = y := by
  have h2 := congrArg (fun z => z ^^^ c) h
  simp only [Nat.xor_assoc, Nat.xor_self, Nat.xor_zero] at h2
  exact h2
theorem regN_one (c : Nat) (a d : List UInt8) (b b2 : UInt8) (h : Oct.regN c (a ++ b :: d) = Oct.regN c (a ++ b2 :: d)) : b = b2 := by
  rw [Oct.regN_append, Oct.regN_append, Oct.regN_cons, Oct.regN_cons] at h
  obtain ⟨r, hr⟩ : ∃ r, Oct.regN c a = r := ⟨_, rfl⟩
  rw [hr] at h
  have hx : r ^^^ b2.toNat = (r ^^^ b.toNat) ^^^ (b.toNat ^^^ b2.toNat) := by
    rw [Nat.xor_assoc, ← Nat.xor_assoc b.toNat b.toNat, Nat.xor_self, Nat.zero_xor]
  have e : Oct.regN (Oct.stepsN 8 (r ^^^ b2.toNat)) d = Oct.regN (Oct.stepsN 8 (r ^^^ b.toNat)) d ^^^ Oct.stepsN (8 * d.length) (Oct.stepsN 8 (b.toNat ^^^ b2.toNat)) := by
    rw [hx, Oct.stepsN_xor 8 (r ^^^ b.toNat) (b.toNat ^^^ b2.toNat), Oct.regN_xor]
  rw [e] at h
  have h2 := xor_own h
  have hlt : b.toNat ^^^ b2.toNat < 256 := Nat.xor_lt_two_pow (n := 8) b.toNat_lt b2.toNat_lt
  have h0 : b.toNat ^^^ b2.toNat = 0 := by
    by_cases h0 : b.toNat ^^^ b2.toNat = 0
    · exact h0
    · rw [← Oct.stepsN_add] at h2
      exact absurd h2 (Oct.stepsN_ne _ _ (by omega) h0)
  exact UInt8.toNat_inj.1 (xor_zero_eq h0)
theorem sumN_one (a d : List UInt8) (b b2 : UInt8) (h : sumN (a ++ b :: d) = sumN (a ++ b2 :: d)) : b = b2 := by
  unfold Oct.sumN at h
  exact regN_one _ a d b b2 (xor_back h)
theorem set_split (l : List UInt8) (k : Nat) (c : UInt8) (h : k < l.length) : l = l.take k ++ l[k] :: l.drop (k + 1) ∧ l.set k c = l.take k ++ c :: l.drop (k + 1) := by
  refine ⟨?_, List.set_eq_take_append_cons_drop .. |>.trans (if_pos h)⟩
  rw [List.getElem_cons_drop, List.take_append_drop]
/-- A record of which a byte behind the first four is changed has a wrong sum. -/
theorem get_spoilt (r : Rc) (k : Nat) (c : UInt8) (hl : (bodyL r).length ≤ 40000) (h4 : 4 ≤ k) (hk : k < (recL r).length) (hc : (recL r)[k] ≠ c) : getF ((recL r).set k c) 0 = (zeroR, 0, 19) := by
  have h4' : (putL (bodyL r).length 4).length = 4 := Oct.putL_length _ _
  have h5' : (putL (sumN (bodyL r)) 4).length = 4 := Oct.putL_length _ _
  have hz := recL_len r
  have hlen : ((recL r).set k c).length = 8 + (bodyL r).length := by rw [List.length_set]; omega
  have t4 : ((recL r).set k c).take 4 = putL (bodyL r).length 4 := by
    rw [List.take_set_of_le h4, recL, List.take_left' h4']
  have hrec : recL r = putL (bodyL r).length 4 ++ (putL (sumN (bodyL r)) 4 ++ bodyL r) := rfl
  unfold getF
  rw [if_neg (by omega)]
  simp only [show (0 : Int).toNat = 0 from rfl, List.drop_zero]
  rw [t4, beN_put4 _ (by omega), hlen, if_neg (by omega)]
  by_cases h8 : k < 8
  · -- the sum's own bytes
    have d8 : (((recL r).set k c).drop 8).take (bodyL r).length = bodyL r := by
      rw [List.drop_set_of_lt h8, hrec, show (8 : Nat) = 4 + 4 from rfl, ← List.drop_drop, List.drop_left' h4', List.drop_left' h5', List.take_length]
    rw [d8, if_pos]
    intro e
    have e2 : (((recL r).set k c).drop 4).take 4 = putL (sumN (bodyL r)) 4 := by
      refine Oct.putL_inj ?_ ?_
      · rw [h5', List.length_take, List.length_drop, hlen]; omega
      · rw [e, beN_put4 _ (Oct.sumN_lt _)]
    have e3 : ((recL r).drop 4).take 4 = putL (sumN (bodyL r)) 4 := by
      rw [hrec, List.drop_left' h4', List.take_left' h5']
    have e4 := congrArg (fun l => l[k - 4]?) e2
    have e5 := congrArg (fun l => l[k - 4]?) e3
    simp only [List.getElem?_take, List.getElem?_drop] at e4 e5
    rw [if_pos (by omega), show 4 + (k - 4) = k by omega] at e4 e5
    rw [← e5, List.getElem?_set_self hk, List.getElem?_eq_getElem hk] at e4
    exact hc (Option.some.inj e4).symm
  · have s4 : (((recL r).set k c).drop 4).take 4 = putL (sumN (bodyL r)) 4 := by
      rw [List.drop_set, if_neg (by omega), List.take_set_of_le (by omega), hrec, List.drop_left' h4', List.take_left' h5']
    have d8 : ((recL r).set k c).drop 8 = (bodyL r).set (k - 8) c := by
      rw [List.drop_set, if_neg (by omega), hrec, show (8 : Nat) = 4 + 4 from rfl, ← List.drop_drop, List.drop_left' h4', List.drop_left' h5']
    have hk8 : k - 8 < (bodyL r).length := by omega
    have hget : (bodyL r)[k - 8] = (recL r)[k] := by
      have : (recL r)[k]? = (bodyL r)[k - 8]? := by
        rw [hrec, ← List.append_assoc, List.getElem?_append_right (by rw [List.length_append, h4', h5']; omega), List.length_append, h4', h5']
      rw [List.getElem?_eq_getElem hk, List.getElem?_eq_getElem hk8] at this
      exact (Option.some.inj this).symm
    rw [s4, beN_put4 _ (Oct.sumN_lt _), d8, List.take_of_length_le (by rw [List.length_set]; omega), if_pos]
    intro e
    obtain ⟨e1, e2⟩ := set_split (bodyL r) (k - 8) c hk8
    rw [e2] at e
    have e3 : sumN (List.take (k - 8) (bodyL r) ++ (bodyL r)[k - 8] :: List.drop (k - 8 + 1) (bodyL r)) = sumN (List.take (k - 8) (bodyL r) ++ c :: List.drop (k - 8 + 1) (bodyL r)) := by rw [← e1]; exact e
    exact hc (hget ▸ sumN_one _ _ _ _ e3)
end Go.Proofs.Ytloengjcniefgaa.Rec
