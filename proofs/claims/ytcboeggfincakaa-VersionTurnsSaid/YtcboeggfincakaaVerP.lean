/- Versions of rows: plain. -/
import Derived.Test.YtcboeggfincakaaGetL
namespace Go.Proofs.Ytcboeggfincakaa
set_option linter.unusedVariables false
set_option linter.unusedSimpArgs false
open Go.RowKit
open Oct (S beN putL U I getI)
/-- A number of six bytes? -/
def fitB (n : Int) : Bool := decide (0 ≤ n) && decide (n ≤ 281474976710655)
def six (n : Int) : List UInt8 := putL (U n) 6
theorem six_len (n : Int) : (six n).length = 6 := Oct.putL_length _ _
/-- A version: three numbers, a row. -/
structure Vn where
  r : Int
  f : Int
  t : Int
  d : List Vl
def headL (x : Vn) : List UInt8 := six x.r ++ six x.f ++ six x.t
theorem headL_len (x : Vn) : (headL x).length = 18 := by simp [headL, six_len]
def fitsV (x : Vn) : Bool := fitB x.r && fitB x.f && fitB x.t
/-- What Put answers. -/
def putV (x : Vn) : List UInt8 × Int :=
  if fitsV x = false then ([], 1)
  else if (putR x.d).2 ≠ 0 then ([], (putR x.d).2)
  else if 400 < 18 + (putR x.d).1.length then ([], 4)
  else (headL x ++ (putR x.d).1, 0)
def numV (s : ByteArray) (k : Nat) : Int := getI ((s.data.toList.drop (6 * k)).take 6)
/-- What Get answers. -/
def getV (s : ByteArray) : Except Int Vn :=
  if 400 < s.size then .error 4
  else if s.size < 18 then .error 3
  else match getRow (s.extract 18 s.size) with
    | .error e => .error e
    | .ok l => .ok ⟨numV s 0, numV s 1, numV s 2, l⟩
theorem getI_six {n : Int} (h : fitB n = true) : getI (six n) = n := by
  simp only [fitB, Bool.and_eq_true, decide_eq_true_eq] at h
  have hu : U n < 256 ^ 6 := by
    have : U n = n.toNat := by unfold Oct.U; omega
    rw [this]; have : (256 : Nat) ^ 6 = 281474976710656 := by decide
    omega
  rw [getI, six, Oct.beN_putL, Nat.mod_eq_of_lt hu, Oct.I_U _ (by omega) (by omega)]
theorem getI_fit {p : List UInt8} (h : p.length = 6) : fitB (getI p) = true ∧ six (getI p) = p := by
  have h1 := Oct.beN_lt p
  rw [h] at h1
  have h2 : (256 : Nat) ^ 6 = 281474976710656 := by decide
  rw [h2] at h1
  have hI : getI p = (beN p : Int) := Oct.I_small _ (by omega)
  constructor
  · rw [hI]; simp [fitB]; omega
  · rw [hI, six, Oct.U_nat _ (by omega)]
    have := Oct.putL_beN p
    rw [h] at this; exact this
theorem putV_zero {x : Vn} {q : List UInt8} (h : putV x = (q, 0)) : fitsV x = true ∧ ∃ p, putR x.d = (p, 0) ∧ q = headL x ++ p ∧ 18 + p.length ≤ 400 := by
  unfold putV at h
  split at h
  · injection h with _ h; cases h
  · rename_i h1
    split at h
    · rename_i h2; injection h with _ h; exact (h2 h).elim
    · rename_i h2
      split at h
      · injection h with _ h; cases h
      · rename_i h3
        injection h with h4 _
        refine ⟨?_, (putR x.d).1, ?_, h4.symm, by omega⟩
        · cases hf : fitsV x with
          | true => rfl
          | false => exact (h1 hf).elim
        · have : (putR x.d).2 = 0 := by
            apply Classical.byContradiction; exact h2
          rw [← this]
theorem putV_err {x : Vn} (h : (putV x).2 ≠ 0) : (putV x).1 = [] := by
  unfold putV at *
  split
  · rfl
  · rename_i h1
    split
    · rfl
    · rename_i h2
      split
      · rfl
      · rename_i h3; rw [if_neg h1, if_neg h2, if_neg h3] at h; exact (h rfl).elim
theorem putV_ok {x : Vn} {p : List UInt8} (h1 : fitsV x = true) (h2 : putR x.d = (p, 0)) (h3 : 18 + p.length ≤ 400) : putV x = (headL x ++ p, 0) := by
  rw [putV, if_neg (by rw [h1]; decide), if_neg (by rw [h2]; simp), if_neg (by rw [h2]; simp; omega), h2]
theorem drop_head {x : Vn} {p : List UInt8} : (headL x ++ p).drop 18 = p := List.drop_left' (headL_len x)
theorem num_head {x : Vn} {p : List UInt8} : ((headL x ++ p).drop (6 * 0)).take 6 = six x.r ∧ ((headL x ++ p).drop (6 * 1)).take 6 = six x.f ∧ ((headL x ++ p).drop (6 * 2)).take 6 = six x.t := by
  have l1 := six_len x.r
  have l2 := six_len x.f
  have l3 := six_len x.t
  unfold headL
  generalize six x.r = a at *
  generalize six x.f = b at *
  generalize six x.t = c at *
  refine ⟨?_, ?_, ?_⟩
  · rw [List.drop_zero, List.append_assoc, List.append_assoc, List.take_left' l1]
  · rw [List.append_assoc, List.append_assoc, List.drop_left' l1, List.take_left' l2]
  · rw [List.append_assoc, List.drop_left' (by simp [l1, l2]), List.take_left' l3]
theorem tail_eq (s : ByteArray) : s.extract 18 s.size = S (s.data.toList.drop 18) := by
  apply ByteArray.ext; apply Array.toList_inj.1
  have : s.data.toList.length = s.size := by simp
  simp [S, List.extract_eq_take_drop]
  rw [List.take_of_length_le]; simp
/-- A version's bytes tell it. -/
theorem getV_fwd {x : Vn} {q : List UInt8} (h : putV x = (q, 0)) : getV (S q) = .ok x := by
  obtain ⟨h1, p, h2, rfl, h3⟩ := putV_zero h
  have hz : (S (headL x ++ p)).size = 18 + p.length := by rw [Oct.S_size, List.length_append, headL_len]
  obtain ⟨n0, n1, n2⟩ := num_head (x := x) (p := p)
  simp only [fitsV, Bool.and_eq_true] at h1
  rw [getV, if_neg (by omega), if_neg (by omega), tail_eq]
  show (match getRow (S ((headL x ++ p).drop 18)) with | .error e => _ | .ok l => _) = _
  rw [drop_head, getRow_fwd h2]
  simp only [numV]
  show Except.ok (Vn.mk (getI (((headL x ++ p).drop (6 * 0)).take 6)) (getI (((headL x ++ p).drop (6 * 1)).take 6)) (getI (((headL x ++ p).drop (6 * 2)).take 6)) x.d) = _
  rw [n0, n1, n2, getI_six h1.1.1, getI_six h1.1.2, getI_six h1.2]
/-- Bytes that tell a version are its own. -/
theorem getV_back {s : ByteArray} {x : Vn} (h : getV s = .ok x) : putV x = (s.data.toList, 0) := by
  unfold getV at h
  split at h
  · cases h
  · rename_i h1
    split at h
    · cases h
    · rename_i h2
      split at h
      · cases h
      · rename_i l hr
        injection h with h
        subst h
        have hp := getRow_back hr
        have hd : (s.extract 18 s.size).data.toList = s.data.toList.drop 18 := by rw [tail_eq]
        rw [hd] at hp
        have hlen : s.data.toList.length = s.size := by simp
        have len6 : ∀ k, k < 3 → ((s.data.toList.drop (6 * k)).take 6).length = 6 := by intro k hk; rw [List.length_take, List.length_drop]; omega
        have g0 := getI_fit (len6 0 (by omega))
        have g1 := getI_fit (len6 1 (by omega))
        have g2 := getI_fit (len6 2 (by omega))
        have hfit : fitsV ⟨numV s 0, numV s 1, numV s 2, l⟩ = true := by
          show (fitB (numV s 0) && fitB (numV s 1) && fitB (numV s 2)) = true
          rw [numV, numV, numV, g0.1, g1.1, g2.1]; rfl
        rw [putV_ok hfit hp (by rw [List.length_drop]; omega)]
        have hh : headL ⟨numV s 0, numV s 1, numV s 2, l⟩ = s.data.toList.take 18 := by
          show six (numV s 0) ++ six (numV s 1) ++ six (numV s 2) = _
          rw [numV, numV, numV, g0.2, g1.2, g2.2]
          generalize s.data.toList = d
          have e : d.take 18 = d.take 6 ++ ((d.drop 6).take 6 ++ (d.drop 12).take 6) := by
            rw [show (18 : Nat) = 6 + 12 from rfl, List.take_add, show (12 : Nat) = 6 + 6 from rfl, List.take_add, List.drop_drop]
          rw [e, List.append_assoc]; rfl
        rw [hh, List.take_append_drop]
end Go.Proofs.Ytcboeggfincakaa
