/- Records of the log: reading, plain; what is written is read back. -/
import Derived.Test.YtloengjcniefgaaRecP
namespace Go.Proofs.Ytloengjcniefgaa.Rec
set_option linter.unusedVariables false
set_option linter.unusedSimpArgs false
open Go.RowKit
open Oct (S beN putL U I getI sumN S_size S_data)
/-- A reader's place, and whether it failed. -/
abbrev Rd := Nat × Bool
abbrev NumT := Rd → Nat → Int × Rd
abbrev TxtT := Rd → List UInt8 × Rd
def numF (l : List UInt8) : NumT := fun s k => ((getR l (s.1 : Nat) (k : Nat)).1, (s.1 + k, (s.2 || !(getR l (s.1 : Nat) (k : Nat)).2)))
def textF (l : List UInt8) : TxtT := fun s => if (textR l (s.1 : Nat)).2.2 then ((textR l (s.1 : Nat)).1, ((textR l (s.1 : Nat)).2.1.toNat, s.2)) else ([], (s.1, true))
/-- The reference's: a number that is not there is 0, and the place stays. -/
def rnumF (l : List UInt8) : NumT := fun s k => if (getR l (s.1 : Nat) (k : Nat)).2 then ((getR l (s.1 : Nat) (k : Nat)).1, (s.1 + k, s.2)) else (0, (s.1, true))
def chG (num : NumT) (text : TxtT) (s : Rd) : Int × Int × Int × List UInt8 × List UInt8 × Rd :=
  ((num s 3).1, (num (num s 3).2 1).1, (num (num (num s 3).2 1).2 2).1, (text (num (num (num s 3).2 1).2 2).2).1,
    (text (text (num (num (num s 3).2 1).2 2).2).2).1, (text (text (num (num (num s 3).2 1).2 2).2).2).2)
def hoG (num : NumT) (text : TxtT) (s : Rd) : Int × Int × List UInt8 × Int × Int × Rd :=
  if (num s 1).1 = 1 then (1, 0, [], 0, 0, (num s 1).2) else
  ((num s 1).1, (num (num s 1).2 3).1, (text (num (num (num (num s 1).2 3).2 3).2 2).2).1, (num (num (num s 1).2 3).2 3).1, (num (num (num (num s 1).2 3).2 3).2 2).1, (text (num (num (num (num s 1).2 3).2 3).2 2).2).2)
def tx1 (num : NumT) (s : Rd) : Tx × Rd :=
  (⟨(num s 6).1, (num (num s 6).2 6).1, (num (num (num s 6).2 6).2 6).1, (num (num (num (num s 6).2 6).2 6).2 1).1 == 1⟩, (num (num (num (num s 6).2 6).2 6).2 1).2)
def dy1 (num : NumT) (s : Rd) : Dy × Rd := (⟨(num s 3).1, (num (num s 3).2 6).1⟩, (num (num s 3).2 6).2)
def txsG (num : NumT) : Nat → Rd → List Tx → List Tx × Rd
  | 0, s, acc => (acc, s)
  | n + 1, s, acc => if s.2 then (acc, s) else txsG num n (tx1 num s).2 (acc ++ [(tx1 num s).1])
def dysG (num : NumT) : Nat → Rd → List Dy → List Dy × Rd
  | 0, s, acc => (acc, s)
  | n + 1, s, acc => if s.2 then (acc, s) else dysG num n (dy1 num s).2 (acc ++ [(dy1 num s).1])
def liG (num : NumT) (s : Rd) : Int × List Tx × List Dy :=
  let t := txsG num (num (num s 6).2 2).1.toNat (num (num s 6).2 2).2 []
  ((num s 6).1, t.1, (dysG num (num t.2 2).1.toNat (num t.2 2).2 []).1)
def zeroR : Rc := { lsn := 0, prev := 0, txn := 0, kind := 0, page := 0, next := 0, num := 0, ok := 0, os := 0, old := [], new := [], how := 0, root := 0, key := [], rp := 0, rs := 0, txns := [], dirty := [] }
/-- What the kinds have behind the four numbers, from a place on. -/
def tailG (num : NumT) (text : TxtT) (k lsn prev txn : Int) (s : Rd) : Rc :=
  let c := if chF k then chG num text s else (0, 0, 0, [], [], s)
  let h := if hoF k then hoG num text c.2.2.2.2.2 else (0, 0, [], 0, 0, c.2.2.2.2.2)
  let n := if neF k then num h.2.2.2.2.2 6 else (0, h.2.2.2.2.2)
  let li := if liF k then liG num n.2 else (0, [], [])
  { lsn := lsn, prev := prev, txn := txn, kind := k, page := c.1, next := n.1, num := li.1, ok := c.2.1, os := c.2.2.1, old := c.2.2.2.1, new := c.2.2.2.2.1
    how := h.1, root := h.2.1, key := h.2.2.1, rp := h.2.2.2.1, rs := h.2.2.2.2.1, txns := li.2.1, dirty := li.2.2 }
def recG (num : NumT) (text : TxtT) : Rc :=
  tailG num text (num (0, false) 1).1 (num (num (0, false) 1).2 6).1 (num (num (num (0, false) 1).2 6).2 6).1 (num (num (num (num (0, false) 1).2 6).2 6).2 6).1 (num (num (num (num (0, false) 1).2 6).2 6).2 6).2
def recF (l : List UInt8) : Rc := recG (numF l) (textF l)
def rrecF (l : List UInt8) : Rc := recG (rnumF l) (textF l)
/-- A reader that reads what is there. -/
structure Good (l : List UInt8) (num : NumT) (text : TxtT) : Prop where
  num : ∀ (a k : Nat) (n : Int) (rest : List UInt8), 1 ≤ k → k ≤ 6 → 0 ≤ n → n < 256 ^ k → l.drop a = putL (U n) k ++ rest → num (a, false) k = (n, (a + k, false))
  text : ∀ (a : Nat) (t rest : List UInt8), t.length ≤ 65535 → l.drop a = textL t ++ rest → text (a, false) = (t, (a + (2 + t.length), false))
theorem drop_len {l : List UInt8} {a : Nat} {x rest : List UInt8} (h : l.drop a = x ++ rest) (hx : x ≠ []) : a + x.length ≤ l.length := by
  have h1 := congrArg List.length h
  have h2 : 0 < x.length := List.length_pos_iff.2 hx
  simp at h1
  omega
theorem drop_on {l : List UInt8} {a : Nat} {x rest : List UInt8} (h : l.drop a = x ++ rest) : l.drop (a + x.length) = rest := by
  rw [← List.drop_drop, h, List.drop_left]
theorem putL_ne (u k : Nat) (h : 1 ≤ k) : putL u k ≠ [] := by
  intro e
  have := congrArg List.length e
  rw [Oct.putL_length] at this
  simp at this
  omega
theorem pow6 (k : Nat) (h : k ≤ 6) : (256 : Nat) ^ k ≤ 281474976710656 := by
  have : (256 : Nat) ^ k ≤ 256 ^ 6 := Nat.pow_le_pow_right (by omega) h
  have e : (256 : Nat) ^ 6 = 281474976710656 := by decide
  omega
theorem getR_there {l : List UInt8} {a k : Nat} {n : Int} {rest : List UInt8} (h1 : 1 ≤ k) (h6 : k ≤ 6) (h0 : 0 ≤ n) (hn : n < 256 ^ k) (h : l.drop a = putL (U n) k ++ rest) : getR l (a : Nat) (k : Nat) = (n, true) := by
  have hz := drop_len h (putL_ne _ _ h1)
  rw [Oct.putL_length] at hz
  obtain ⟨m, rfl⟩ := Int.eq_ofNat_of_zero_le h0
  have hm : m < 256 ^ k := by
    have e : ((256 ^ k : Nat) : Int) = (256 : Int) ^ k := Int.natCast_pow 256 k
    rw [← e] at hn
    exact Int.ofNat_lt.1 hn
  have hp := pow6 k h6
  rw [getR, if_pos (by omega)]
  simp only [Int.toNat_natCast]
  rw [h, List.take_left' (Oct.putL_length _ _), getI, Oct.beN_putL, Oct.U_nat _ (by omega), Nat.mod_eq_of_lt hm, Oct.I_small _ (by omega)]
theorem good_prog (l : List UInt8) : Good l (numF l) (textF l) := by
  refine ⟨fun a k n rest h1 h6 h0 hn h => ?_, fun a t rest ht h => ?_⟩
  · simp only [numF, getR_there h1 h6 h0 hn h]
    rfl
  · have e : textR l (a : Nat) = (t, (a : Int) + 2 + t.length, true) := by
      have htk : t.take 65535 = t := List.take_of_length_le ht
      have hz : a + (textL t).length ≤ l.length := drop_len h (by intro e; have := congrArg List.length e; rw [textL, List.length_append, Oct.putL_length, List.length_nil] at this; omega)
      have hzl : (textL t).length = 2 + t.length := by rw [textL, htk, List.length_append, Oct.putL_length]
      have h5 : (256 : Nat) ^ 2 = 65536 := by decide
      have e1 : (l.drop a).take 2 = putL t.length 2 := by rw [h, textL, htk, List.append_assoc, List.take_left' (Oct.putL_length _ _)]
      have e2 : l.drop (a + 2) = t ++ rest := by rw [← List.drop_drop, h, textL, htk, List.append_assoc, List.drop_left' (Oct.putL_length _ _)]
      have e3 : beN (putL t.length 2) = t.length := by rw [Oct.beN_putL, h5]; exact Nat.mod_eq_of_lt (by omega)
      rw [textR, Int.toNat_natCast, e1, e2, e3, if_pos, List.take_left]
      refine ⟨by omega, by omega, by omega⟩
    simp only [textF, e, if_true]
    congr 2
    omega
theorem good_ref (l : List UInt8) : Good l (rnumF l) (textF l) := by
  refine ⟨fun a k n rest h1 h6 h0 hn h => ?_, (good_prog l).text⟩
  simp only [rnumF, getR_there h1 h6 h0 hn h, if_true]
variable {l : List UInt8} {num : NumT} {text : TxtT}
theorem Good.num1 (g : Good l num text) {a k : Nat} {n : Int} {rest : List UInt8} (h : l.drop a = putL (U n) k ++ rest) (h1 : 1 ≤ k) (h6 : k ≤ 6) (h0 : 0 ≤ n) (hn : n < 256 ^ k) : num (a, false) k = (n, (a + k, false)) ∧ l.drop (a + k) = rest :=
  ⟨g.num a k n rest h1 h6 h0 hn h, by have := drop_on h; rwa [Oct.putL_length] at this⟩
theorem Good.text1 (g : Good l num text) {a : Nat} {t rest : List UInt8} (h : l.drop a = textL t ++ rest) (ht : t.length ≤ 65535) : text (a, false) = (t, (a + (2 + t.length), false)) ∧ l.drop (a + (2 + t.length)) = rest :=
  ⟨g.text a t rest ht h, by
    have := drop_on h
    rwa [textL, List.take_of_length_le ht, List.length_append, Oct.putL_length] at this⟩
theorem numB_b {n : Int} (h : numB n = true) : 0 ≤ n ∧ n < 256 ^ 6 := by
  simp [numB, inB] at h
  have : (256 : Int) ^ 6 = 281474976710656 := by decide
  omega
theorem pageB_b {n : Int} (h : pageB n = true) : 0 ≤ n ∧ n < 256 ^ 3 := by
  simp [pageB, inB] at h
  have : (256 : Int) ^ 3 = 16777216 := by decide
  omega
theorem slotB_b {n : Int} (h : slotB n = true) : 0 ≤ n ∧ n < 256 ^ 2 := by
  simp [slotB, inB] at h
  have : (256 : Int) ^ 2 = 65536 := by decide
  omega
theorem one_b {n : Int} (h : 0 ≤ n) (h2 : n < 256) : 0 ≤ n ∧ n < 256 ^ 1 := by
  have : (256 : Int) ^ 1 = 256 := by decide
  omega
theorem chG_back (g : Good l num text) {a : Nat} {r : Rc} {rest : List UInt8} (h : l.drop a = chL r ++ rest) (hp : pageB r.page = true) (ho : opB r.ok r.os r.old r.new = true) :
    ∃ b, chG num text (a, false) = (r.page, r.ok, r.os, r.old, r.new, (b, false)) ∧ l.drop b = rest := by
  simp only [opB, Bool.and_eq_true, decide_eq_true_eq] at ho
  obtain ⟨⟨⟨⟨k1, k7⟩, hs⟩, hO⟩, hn⟩ := ho
  simp only [chL, List.append_assoc] at h
  obtain ⟨e1, h⟩ := g.num1 h (by omega) (by omega) (pageB_b hp).1 (pageB_b hp).2
  obtain ⟨e2, h⟩ := g.num1 h (by omega) (by omega) (one_b (by omega) (by omega)).1 (one_b (by omega) (by omega)).2
  obtain ⟨e3, h⟩ := g.num1 h (by omega) (by omega) (slotB_b hs).1 (slotB_b hs).2
  obtain ⟨e4, h⟩ := g.text1 h (by omega)
  obtain ⟨e5, h⟩ := g.text1 h (by omega)
  exact ⟨_, by simp only [chG, e1, e2, e3, e4, e5], h⟩
theorem hoG_back (g : Good l num text) {a : Nat} {r : Rc} {rest : List UInt8} (h : l.drop a = hoL r ++ rest) (ht : treeB r.how r.root r.key r.rp r.rs = true) :
    ∃ b, hoG num text (a, false) = (r.how, r.root, r.key, r.rp, r.rs, (b, false)) ∧ l.drop b = rest := by
  by_cases h1 : r.how = 1
  · simp only [treeB, h1, if_true, Bool.and_eq_true, decide_eq_true_eq] at ht
    obtain ⟨t1, ⟨t2, t3⟩, t4⟩ := ht
    simp only [hoL, h1, if_true, List.append_nil] at h
    obtain ⟨e1, h⟩ := g.num1 h (by omega) (by omega) (by omega) (by decide)
    exact ⟨_, by simp only [hoG, e1, if_true, h1, t1, t2, t3, t4], h⟩
  · simp only [treeB, h1, if_false, Bool.and_eq_true, Bool.or_eq_true, decide_eq_true_eq] at ht
    obtain ⟨⟨⟨t1, ⟨t2, t3⟩⟩, t4⟩, t5⟩ := ht
    simp only [hoL, h1, if_false, List.append_assoc] at h
    obtain ⟨e1, h⟩ := g.num1 h (by omega) (by omega) (one_b (by omega) (by omega)).1 (one_b (by omega) (by omega)).2
    obtain ⟨e2, h⟩ := g.num1 h (by omega) (by omega) (pageB_b t2).1 (pageB_b t2).2
    obtain ⟨e3, h⟩ := g.num1 h (by omega) (by omega) (pageB_b t3).1 (pageB_b t3).2
    obtain ⟨e4, h⟩ := g.num1 h (by omega) (by omega) (slotB_b t4).1 (slotB_b t4).2
    obtain ⟨e5, h⟩ := g.text1 h (by omega)
    exact ⟨_, by simp only [hoG, e1, e2, e3, e4, e5, h1, if_false], h⟩
theorem tx1_back (g : Good l num text) {a : Nat} {t : Tx} {rest : List UInt8} (h : l.drop a = txL t ++ rest) (ht : txB t = true) : ∃ b, tx1 num (a, false) = (t, (b, false)) ∧ l.drop b = rest := by
  simp only [txB, Bool.and_eq_true] at ht
  obtain ⟨⟨t1, t2⟩, t3⟩ := ht
  simp only [txL, List.append_assoc] at h
  obtain ⟨e1, h⟩ := g.num1 h (by omega) (by omega) (numB_b t1).1 (numB_b t1).2
  obtain ⟨e2, h⟩ := g.num1 h (by omega) (by omega) (numB_b t2).1 (numB_b t2).2
  obtain ⟨e3, h⟩ := g.num1 h (by omega) (by omega) (numB_b t3).1 (numB_b t3).2
  have hd : 0 ≤ (if t.d then (1 : Int) else 0) ∧ (if t.d then (1 : Int) else 0) < 256 ^ 1 := by cases t.d <;> decide
  obtain ⟨e4, h⟩ := g.num1 h (by omega) (by omega) hd.1 hd.2
  refine ⟨_, ?_, h⟩
  simp only [tx1, e1, e2, e3, e4]
  obtain ⟨x, y, z, d⟩ := t
  cases d <;> rfl
theorem dy1_back (g : Good l num text) {a : Nat} {t : Dy} {rest : List UInt8} (h : l.drop a = dyL t ++ rest) (ht : dyB t = true) : ∃ b, dy1 num (a, false) = (t, (b, false)) ∧ l.drop b = rest := by
  simp only [dyB, Bool.and_eq_true] at ht
  obtain ⟨t1, t2⟩ := ht
  simp only [dyL, List.append_assoc] at h
  obtain ⟨e1, h⟩ := g.num1 h (by omega) (by omega) (pageB_b t1).1 (pageB_b t1).2
  obtain ⟨e2, h⟩ := g.num1 h (by omega) (by omega) (numB_b t2).1 (numB_b t2).2
  exact ⟨_, by simp only [dy1, e1, e2], h⟩
theorem txsG_back (g : Good l num text) {ts : List Tx} : ∀ {a : Nat} {rest : List UInt8} (acc : List Tx), l.drop a = (ts.map txL).flatten ++ rest → ts.all txB = true →
    ∃ b, txsG num ts.length (a, false) acc = (acc ++ ts, (b, false)) ∧ l.drop b = rest := by
  induction ts with
  | nil => intro a rest acc h _; exact ⟨a, by simp [txsG], by simpa using h⟩
  | cons t ts ih =>
    intro a rest acc h ht
    simp only [List.all_cons, Bool.and_eq_true] at ht
    simp only [List.map_cons, List.flatten_cons, List.append_assoc] at h
    obtain ⟨b, e, h⟩ := tx1_back g h ht.1
    obtain ⟨c, e2, h⟩ := ih (acc ++ [t]) h ht.2
    refine ⟨c, ?_, h⟩
    simp only [List.length_cons, txsG, e, Bool.false_eq_true, if_false, e2, List.append_assoc, List.singleton_append]
theorem dysG_back (g : Good l num text) {ts : List Dy} : ∀ {a : Nat} {rest : List UInt8} (acc : List Dy), l.drop a = (ts.map dyL).flatten ++ rest → ts.all dyB = true →
    ∃ b, dysG num ts.length (a, false) acc = (acc ++ ts, (b, false)) ∧ l.drop b = rest := by
  induction ts with
  | nil => intro a rest acc h _; exact ⟨a, by simp [dysG], by simpa using h⟩
  | cons t ts ih =>
    intro a rest acc h ht
    simp only [List.all_cons, Bool.and_eq_true] at ht
    simp only [List.map_cons, List.flatten_cons, List.append_assoc] at h
    obtain ⟨b, e, h⟩ := dy1_back g h ht.1
    obtain ⟨c, e2, h⟩ := ih (acc ++ [t]) h ht.2
    refine ⟨c, ?_, h⟩
    simp only [List.length_cons, dysG, e, Bool.false_eq_true, if_false, e2, List.append_assoc, List.singleton_append]
theorem liG_back (g : Good l num text) {a : Nat} {r : Rc} {rest : List UInt8} (h : l.drop a = liL r ++ rest) (ht : listsB r = true) : liG num (a, false) = (r.num, r.txns, r.dirty) := by
  simp only [listsB, Bool.and_eq_true, decide_eq_true_eq] at ht
  obtain ⟨⟨⟨⟨t1, t2⟩, t3⟩, t4⟩, t5⟩ := ht
  simp only [liL, List.append_assoc] at h
  obtain ⟨e1, h⟩ := g.num1 h (by omega) (by omega) (numB_b t1).1 (numB_b t1).2
  have e256 : (256 : Int) ^ 2 = 65536 := by decide
  obtain ⟨e2, h⟩ := g.num1 h (by omega) (by omega) (by omega) (by omega)
  obtain ⟨b, e3, h⟩ := txsG_back g [] h t4
  obtain ⟨e4, h⟩ := g.num1 h (by omega) (by omega) (by omega) (by omega)
  obtain ⟨c, e5, h⟩ := dysG_back g [] h t5
  simp only [liG, e1, e2, Int.toNat_natCast, e3, e4, e5, List.nil_append]
theorem head_back (g : Good l num text) {r : Rc} {rest : List UInt8} (h : l = headL r ++ rest) (hk : isF r.kind = true) (h1 : numB r.lsn = true) (h2 : numB r.prev = true) (h3 : numB r.txn = true) :
    ∃ b, recG num text = tailG num text r.kind r.lsn r.prev r.txn (b, false) ∧ l.drop b = rest := by
  simp only [isF, Bool.and_eq_true, decide_eq_true_eq] at hk
  have h : l.drop 0 = headL r ++ rest := h
  simp only [headL, List.append_assoc] at h
  obtain ⟨e1, h⟩ := g.num1 h (by omega) (by omega) (one_b (by omega) (by omega)).1 (one_b (by omega) (by omega)).2
  obtain ⟨e2, h⟩ := g.num1 h (by omega) (by omega) (numB_b h1).1 (numB_b h1).2
  obtain ⟨e3, h⟩ := g.num1 h (by omega) (by omega) (numB_b h2).1 (numB_b h2).2
  obtain ⟨e4, h⟩ := g.num1 h (by omega) (by omega) (numB_b h3).1 (numB_b h3).2
  exact ⟨_, by simp only [recG, e1, e2, e3, e4], h⟩
/-- What is written of a right record is read as that record. -/
theorem rec_back (r : Rc) (hr : rightR r = true) (num : NumT) (text : TxtT) (g : Good (bodyL r) num text) : recG num text = r := by
  simp only [rightR, Bool.and_eq_true, Bool.or_eq_true, Bool.not_eq_true', decide_eq_true_eq] at hr
  obtain ⟨⟨⟨⟨⟨⟨hk, ⟨hn1, hn2⟩, hn3⟩, hc⟩, hh⟩, hn⟩, hl⟩, hb⟩ := hr
  obtain ⟨b, e0, h0⟩ := head_back (rest := (if chF r.kind then chL r else []) ++ (if hoF r.kind then hoL r else []) ++ (if neF r.kind then neL r else []) ++ (if liF r.kind then liL r else [])) g (by simp only [bodyL, List.append_assoc]) hk hn1 hn2 hn3
  rw [e0]
  have c1 : ∃ b1, (if chF r.kind then chG num text (b, false) else (0, 0, 0, [], [], (b, false))) = ((if chF r.kind then r.page else 0), (if chF r.kind then r.ok else 0), (if chF r.kind then r.os else 0), (if chF r.kind then r.old else []), (if chF r.kind then r.new else []), (b1, false)) ∧ (bodyL r).drop b1 = (if hoF r.kind then hoL r else []) ++ (if neF r.kind then neL r else []) ++ (if liF r.kind then liL r else []) := by
    cases hx : chF r.kind with
    | false => rw [hx] at h0; exact ⟨b, by simp, by simpa using h0⟩
    | true =>
      rw [hx] at h0 hc
      have hc2 := hc.resolve_left (by simp)
      simp only [if_true, List.append_assoc] at h0
      obtain ⟨b1, e1, h1⟩ := chG_back g h0 hc2.1 hc2.2
      exact ⟨b1, by simp only [if_true, e1], by simp only [List.append_assoc]; exact h1⟩
  obtain ⟨b1, e1, h1⟩ := c1
  have c2 : ∃ b2, (if hoF r.kind then hoG num text (b1, false) else (0, 0, [], 0, 0, (b1, false))) = ((if hoF r.kind then r.how else 0), (if hoF r.kind then r.root else 0), (if hoF r.kind then r.key else []), (if hoF r.kind then r.rp else 0), (if hoF r.kind then r.rs else 0), (b2, false)) ∧ (bodyL r).drop b2 = (if neF r.kind then neL r else []) ++ (if liF r.kind then liL r else []) := by
    cases hx : hoF r.kind with
    | false => rw [hx] at h1; exact ⟨b1, by simp, by simpa using h1⟩
    | true =>
      rw [hx] at h1 hh
      have hc2 := hh.resolve_left (by simp)
      simp only [if_true, List.append_assoc] at h1
      obtain ⟨b2, e2, h2⟩ := hoG_back g h1 hc2
      exact ⟨b2, by simp only [if_true, e2], h2⟩
  obtain ⟨b2, e2, h2⟩ := c2
  have c3 : ∃ b3, (if neF r.kind then num (b2, false) 6 else (0, (b2, false))) = ((if neF r.kind then r.next else 0), (b3, false)) ∧ (bodyL r).drop b3 = (if liF r.kind then liL r else []) := by
    cases hx : neF r.kind with
    | false => rw [hx] at h2; exact ⟨b2, by simp, by simpa using h2⟩
    | true =>
      rw [hx] at h2 hn
      have hc2 := hn.resolve_left (by simp)
      simp only [if_true, neL] at h2
      obtain ⟨e3, h3⟩ := g.num1 h2 (by omega) (by omega) (numB_b hc2).1 (numB_b hc2).2
      exact ⟨_, by simp only [if_true, e3], h3⟩
  obtain ⟨b3, e3, h3⟩ := c3
  have c4 : (if liF r.kind then liG num (b3, false) else (0, [], [])) = ((if liF r.kind then r.num else 0), (if liF r.kind then r.txns else []), (if liF r.kind then r.dirty else [])) := by
    cases hx : liF r.kind with
    | false => simp
    | true =>
      rw [hx] at h3 hl
      have hc2 := hl.resolve_left (by simp)
      simp only [if_true]
      simp only [if_true] at h3
      exact liG_back (rest := []) g (by rw [h3, List.append_nil]) hc2
  simp only [tailG, e1, e2, e3, c4]
  exact hb
end Go.Proofs.Ytloengjcniefgaa.Rec
