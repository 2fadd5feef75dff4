/- The row that bytes tell: plain. -/
import Derived.Test.YtcboeggfincakaaRPut06
namespace Go.Proofs.Ytcboeggfincakaa
set_option linter.unusedVariables false
set_option linter.unusedSimpArgs false
open Go.RowKit
open Oct (S beN putL U I getI)
/-- A text's byte at a place. -/
def byteAt (s : ByteArray) (i : Nat) : Nat := (s.data.toList.getD i 0).toNat
theorem byteAt_eq (s : ByteArray) (i : Nat) (h : i < s.size) : byteAt s i = (s[i]'h).toNat := by
  have h1 : i < s.data.toList.length := by simpa using h
  have h2 : s.data.toList[i] = s[i] := by simp; rfl
  rw [byteAt, List.getD_eq_getElem?_getD, List.getElem?_eq_getElem h1, h2]
  rfl
theorem byteAt_lt (s : ByteArray) (i : Nat) : byteAt s i < 256 := UInt8.toNat_lt _
/-- The fault of a text's n bytes at a place; 0: none. -/
def scan (s : ByteArray) : Nat → Nat → Int
  | 0, _ => 0
  | n + 1, a => if a < s.size then (if 32 ≤ byteAt s a ∧ byteAt s a ≤ 126 then scan s n (a + 1) else 2) else 3
def noVl : Vl := ⟨0, 0, ⟨#[]⟩⟩
/-- The text at a place, and the place behind it; or the fault. -/
def textR (s : ByteArray) (a : Nat) : Except Int (Vl × Nat) :=
  if a < s.size then
    if 100 < byteAt s a then .error 2
    else if scan s (byteAt s a) (a + 1) = 0 then .ok (⟨3, 0, s.extract (a + 1) (a + 1 + byteAt s a)⟩, a + 1 + byteAt s a)
    else .error (scan s (byteAt s a) (a + 1))
  else .error 3
def num8 (s : ByteArray) (a : Nat) : Int := getI ((s.data.toList.drop a).take 8)
/-- The value at a place, and the place behind it; or the fault. -/
def takeR (s : ByteArray) (a : Nat) : Except Int (Vl × Nat) :=
  if a < s.size then
    if byteAt s a = 0 then .ok (noVl, a + 1)
    else if byteAt s a = 1 then
      if a + 1 < s.size then if byteAt s (a + 1) ≤ 1 then .ok (⟨1, byteAt s (a + 1), ⟨#[]⟩⟩, a + 2) else .error 2 else .error 3
    else if byteAt s a = 2 then
      if a + 9 ≤ s.size then if inB (num8 s (a + 1)) = true then .ok (⟨2, num8 s (a + 1), ⟨#[]⟩⟩, a + 9) else .error 2 else .error 3
    else if byteAt s a = 3 then textR s (a + 1)
    else .error 2
  else .error 3
/-- n values from a place on. -/
def rowsR (s : ByteArray) : Nat → Nat → Except Int (List Vl × Nat)
  | 0, a => .ok ([], a)
  | n + 1, a => match takeR s a with
    | .error e => .error e
    | .ok (v, b) => match rowsR s n b with
      | .error e => .error e
      | .ok (l, z) => .ok (v :: l, z)
/-- The row of bytes, or the fault. -/
def getRow (s : ByteArray) : Except Int (List Vl) :=
  if 400 < s.size then .error 4
  else if s.size = 0 then .error 3
  else if 32 < byteAt s 0 then .error 4
  else match rowsR s (byteAt s 0) 1 with
    | .error e => .error e
    | .ok (l, z) => if z < s.size then .error 2 else .ok l
/-- Values ahead. -/
def ahead (d : List Vl) : Except Int (List Vl × Nat) → Except Int (List Vl × Nat)
  | .error e => .error e
  | .ok (l, z) => .ok (d ++ l, z)
theorem ahead_nil (x : Except Int (List Vl × Nat)) : ahead [] x = x := by
  match x with
  | .error e => rfl
  | .ok (l, z) => rfl
theorem rows_ok {s : ByteArray} {n a b : Nat} {v : Vl} {d : List Vl} (h : takeR s a = .ok (v, b)) : ahead d (rowsR s (n + 1) a) = ahead (d ++ [v]) (rowsR s n b) := by
  rw [rowsR, h]
  show ahead d (match rowsR s n b with | .error e => .error e | .ok (l, z) => .ok (v :: l, z)) = _
  match rowsR s n b with
  | .error e => rfl
  | .ok (l, z) => simp [ahead]
theorem rows_error {s : ByteArray} {n a : Nat} {e : Int} {d : List Vl} (h : takeR s a = .error e) : ahead d (rowsR s (n + 1) a) = .error e := by
  rw [rowsR, h]; rfl
theorem scan_cases (s : ByteArray) (n a : Nat) : scan s n a = 0 ∨ scan s n a = 2 ∨ scan s n a = 3 := by
  induction n generalizing a with
  | zero => exact .inl rfl
  | succ n ih =>
    rw [scan]
    split
    · split
      · exact ih _
      · exact .inr (.inl rfl)
    · exact .inr (.inr rfl)
theorem text_error {s : ByteArray} {a : Nat} {e : Int} (h : textR s a = .error e) : e = 2 ∨ e = 3 := by
  unfold textR at h
  split at h
  · split at h
    · injection h with h; exact .inl h.symm
    · split at h
      · cases h
      · rename_i h0
        injection h with h
        rcases scan_cases s (byteAt s a) (a + 1) with h1 | h1 | h1
        · exact (h0 h1).elim
        · exact .inl (h.symm.trans h1)
        · exact .inr (h.symm.trans h1)
  · injection h with h; exact .inr h.symm
theorem take_error {s : ByteArray} {a : Nat} {e : Int} (h : takeR s a = .error e) : e = 2 ∨ e = 3 := by
  unfold takeR at h
  split at h
  · split at h
    · cases h
    · split at h
      · split at h
        · split at h
          · cases h
          · injection h with h; exact .inl h.symm
        · injection h with h; exact .inr h.symm
      · split at h
        · split at h
          · split at h
            · cases h
            · injection h with h; exact .inl h.symm
          · injection h with h; exact .inr h.symm
        · split at h
          · exact text_error h
          · injection h with h; exact .inl h.symm
  · injection h with h; exact .inr h.symm
/-- What the reference's take and text answer. -/
def tk : Except Int (Vl × Nat) → Vl × Int × Int
  | .ok (v, b) => (v, b, 0)
  | .error e => (noVl, 0, e)
theorem scan_len {s : ByteArray} {n a : Nat} (h : scan s n a = 0) : n = 0 ∨ a + n ≤ s.size := by
  induction n generalizing a with
  | zero => exact .inl rfl
  | succ n ih =>
    rw [scan] at h
    split at h
    · split at h
      · rcases ih h with h1 | h1
        · exact .inr (by omega)
        · exact .inr (by omega)
      · cases h
    · cases h
theorem text_next {s : ByteArray} {a b : Nat} {v : Vl} (h : textR s a = .ok (v, b)) : a < b ∧ b ≤ s.size := by
  unfold textR at h
  split at h
  · split at h
    · cases h
    · split at h
      · rename_i h1 h2 h3
        injection h with h
        simp only [Prod.mk.injEq] at h
        obtain ⟨_, rfl⟩ := h
        rcases scan_len h3 with h4 | h4
        · omega
        · omega
      · cases h
  · cases h
theorem take_next {s : ByteArray} {a b : Nat} {v : Vl} (h : takeR s a = .ok (v, b)) : a < b ∧ b ≤ s.size := by
  unfold takeR at h
  split at h
  · split at h
    · injection h with h; simp only [Prod.mk.injEq] at h; omega
    · split at h
      · split at h
        · split at h
          · injection h with h; simp only [Prod.mk.injEq] at h; omega
          · cases h
        · cases h
      · split at h
        · split at h
          · split at h
            · injection h with h; simp only [Prod.mk.injEq] at h; omega
            · cases h
          · cases h
        · split at h
          · have := text_next h; omega
          · cases h
  · cases h
end Go.Proofs.Ytcboeggfincakaa
