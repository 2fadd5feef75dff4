/- Values (layer 3): which may be: plain, and what value.Right answers. -/
import Derived.Test.YtljdiakodpjkpaaRows
import Derived.Test.YtljdiakodpjkpaaKitA
import Derived.Lib.OthersKept
import Derived.Lib.TrimU
import Derived.IntWalk
import Derived.Lib.QuoteBits
import Derived.OpenShut
namespace Go.Proofs.Ytljdiakodpjkpaa
set_option linter.unusedVariables false
set_option linter.unusedSimpArgs false
open Go.RowKit
/-- A value: kind, number, text. -/
structure Vl where
  k : Int
  n : Int
  s : ByteArray
def plainB (s : ByteArray) : Bool := s.data.toList.all fun c => decide (32 ≤ c.toNat) && decide (c.toNat ≤ 126)
theorem odd_any (c : Int) (w : World) (b : Bool) (hb : Hid (b = (decide (c < 32) || decide (126 < c)))) : Calls Try.prog 40 #[.int .i32 c] w (Eq1 (.bool b) w) := by
  by_cases h1 : c < 32
  · go_enter Try.func40, Try.ntmps40
    go_wp2
    go_ret
    exact ⟨ret_bool (by rw [hb.out]; simp [h1]), rfl⟩
  · by_cases h2 : 126 < c
    · go_enter Try.func40, Try.ntmps40
      go_wp2
      go_ret
      exact ⟨ret_bool (by rw [hb.out]; simp [h2]), rfl⟩
    · go_enter Try.func40, Try.ntmps40
      go_wp2
      go_ret
      exact ⟨ret_bool (by rw [hb.out]; simp [h1, h2]), rfl⟩
/-- All bytes ahead of a place may be. -/
def plainTo (s : ByteArray) (pos : Nat) : Prop := ∀ j (h : j < s.size), j < pos → 32 ≤ (s[j]).toNat ∧ (s[j]).toNat ≤ 126
theorem below_new {w w1 : World} {o : Obj} (h : Below (w.alloc o).heap.size (w.alloc o) w1) : Below w.heap.size w w1 := ((Below.refl _ _).alloc (Nat.le_refl _) o).next h
theorem plainB_iff (s : ByteArray) : plainB s = true ↔ plainTo s s.size := by
  unfold plainB plainTo
  rw [List.all_eq_true]
  constructor
  · intro h j hj _
    have h1 : j < s.data.toList.length := by simpa using hj
    have h2 : s.data.toList[j] = s[j] := by simp; rfl
    have := h _ (List.getElem_mem h1)
    rw [h2] at this
    simpa using this
  · intro h c hc
    obtain ⟨j, hj, rfl⟩ := List.getElem_of_mem hc
    have hj' : j < s.size := by simpa using hj
    have h2 : s.data.toList[j] = s[j] := by simp; rfl
    rw [h2]
    have := h j hj' hj'
    simpa using this
theorem decode_high (s : ByteArray) (pos : Nat) (h : pos < s.size) (ha : ¬ (s[pos]'h).toNat < 128) : 128 ≤ (Utf8.decode s pos).1 := by
  have e : s.get! pos = s[pos]'h := by
    simp [ByteArray.get!, getElem!_pos, h]
    rfl
  rw [Lib.decode_at, e]
  unfold Lib.decodeN
  rw [if_neg ha]
  split
  · split
    · assumption
    · decide
  · split
    · split
      · rename_i hh; exact Nat.le_trans (by decide) hh.1
      · decide
    · split
      · split
        · rename_i hh; exact Nat.le_trans (by decide) hh.1
        · decide
      · decide
/-- Where an iterator stands. -/
def itPos (w : World) (k : Nat) : Nat := match w.heap[k]? with | some (.stringIter _ p) => p | _ => 0
theorem itPos_of {w : World} {k : Nat} {s : ByteArray} {p : Nat} (h : w.heap[k]? = some (.stringIter s p)) : itPos w k = p := by simp [itPos, h]
set_option maxHeartbeats 1000000 in
theorem indexFunc_odd (s : ByteArray) (w : World) : Calls Try.prog 54 #[.string s, .func (.func 40) #[] #[], .bool true] w fun e w' => ∃ r : Int, e = .returned (.int .i64 r) ∧ decide (r < 0) = plainB s ∧ Below w.heap.size w w' := by
  go_enter Try.func54, Try.ntmps54
  go_wp2_with fail
  go_loopw [] (fun wx => ∃ pos : Nat, wx.heap[w.heap.size]? = some (.stringIter s pos) ∧ Below w.heap.size w wx ∧ Hid (plainTo s pos)) (fun wx => s.size - itPos wx w.heap.size)
  case atStart => exact ⟨0, World.iter_heap w s 0, (Below.refl _ w).alloc (Nat.le_refl _) _, fun j _ h => by omega⟩
  case round =>
    obtain ⟨pos, hit, hbw, HP⟩ := hrel
    rw [itPos_of hit]
    by_cases hps : pos < s.size
    · have hnx : ∀ ty, (Instr.next (.pointer (some ⟨w.heap.size, 0, none⟩)) true ty).run Try.prog wr = _ := fun ty => Lib.run_next_any_at wr w.heap.size s pos ty hit hps
      obtain ⟨R, hR⟩ : ∃ R, (Utf8.decode s pos).1 = R := ⟨_, rfl⟩
      obtain ⟨K, hK⟩ : ∃ K, (Utf8.decode s pos).2 = K := ⟨_, rfl⟩
      rw [hR, hK] at hnx
      have hit2 := Lib.iterAt_heap wr w.heap.size s pos (pos + K) hit
      have hbw2 := Lib.below_iterAt hbw (k := w.heap.size) (Nat.le_refl _) s (pos + K)
      obtain ⟨W, hWd⟩ : ∃ W, wr.iterAt w.heap.size s (pos + K) = W := ⟨_, rfl⟩
      rw [hWd] at hnx hit2 hbw2
      by_cases hgood : 32 ≤ (s[pos]'hps).toNat ∧ (s[pos]'hps).toNat ≤ 126
      · have hd := decode_ascii s pos hps (by omega)
        rw [hd] at hR hK
        have HRv : Hid ((s[pos]'hps).toNat = R) := hR
        have HKv : Hid (1 = K) := hK
        have HO := odd_any (R : Int) W false (by show _ = _; rw [← HRv.out]; simp; omega)
        clear hd hR hK
        have HPL : Hid (plainTo s (pos + K)) := by
          intro j hj hlt
          rw [← HKv.out] at hlt
          by_cases e : j = pos
          · subst e; exact hgood
          · exact HP.out j hj (by omega)
        clear hgood
        go_wp2_with (go_at_call 40; refine HO.mono ?_; rintro e W' ⟨rfl, rfl⟩)
        go_roundw
        case measure => rw [itPos_of hit2]; have := HKv.out; omega
        case rel => exact ⟨pos + K, hit2, hbw2, HPL⟩
      · have HO := odd_any (R : Int) W true (by
          show _ = _
          rw [← hR]
          by_cases ha : (s[pos]'hps).toNat < 128
          · rw [decode_ascii s pos hps ha]; simp; omega
          · have := decode_high s pos hps ha; simp; omega)
        have HNP : Hid (plainB s = false) := by
          show _ = _
          cases hp : plainB s with
          | false => rfl
          | true => exact (hgood ((plainB_iff s).1 hp pos hps hps)).elim
        clear hgood hR hK
        go_wp2_with (go_at_call 40; refine HO.mono ?_; rintro e W' ⟨rfl, rfl⟩)
        go_ret
        exact ⟨_, rfl, by rw [HNP.out]; simp, hbw2⟩
    · have hnx : ∀ ty, (Instr.next (.pointer (some ⟨w.heap.size, 0, none⟩)) true ty).run Try.prog wr = _ := fun ty => Lib.run_next_end_at wr w.heap.size s pos ty hit hps
      have HPB : Hid (plainB s = true) := (plainB_iff s).2 fun j hj _ => HP.out j hj (by omega)
      go_wp2_with fail
      go_ret
      exact ⟨_, rfl, by rw [HPB.out]; simp, hbw⟩
theorem IndexFunc_odd (s : ByteArray) (w : World) : Calls Try.prog 39 #[.string s, .func (.func 40) #[] #[]] w fun e w' => ∃ r : Int, e = .returned (.int .i64 r) ∧ decide (r < 0) = plainB s ∧ Below w.heap.size w w' := by
  go_enter Try.func39, Try.ntmps39
  go_wp2_with fail
  refine (indexFunc_odd s _).mono ?_
  rintro e w1 ⟨r, rfl, h, hb⟩
  go_wp2_with fail
  go_ret
  exact ⟨r, rfl, h, hb⟩
def inB (n : Int) : Bool := decide (-1000000000000000 ≤ n) && decide (n ≤ 1000000000000000)
theorem in_any (n : Int) (b : Bool) (hb : Hid (inB n = b)) (w : World) : Calls Try.prog 41 #[.int .i64 n] w (Eq1 (.bool b) w) := by
  by_cases h1 : -1000000000000000 ≤ n
  · by_cases h2 : n ≤ 1000000000000000
    · go_enter Try.func41, Try.ntmps41
      go_wp2
      go_ret
      exact ⟨ret_bool (by rw [← hb.out]; simp [inB, h1, h2]), rfl⟩
    · go_enter Try.func41, Try.ntmps41
      go_wp2
      go_ret
      exact ⟨ret_bool (by rw [← hb.out]; simp [inB, h1, h2]), rfl⟩
  · go_enter Try.func41, Try.ntmps41
    go_wp2
    go_ret
    exact ⟨ret_bool (by rw [← hb.out, inB, decide_eq_false (by omega)]; rfl), rfl⟩
/-- May a value be? -/
def rightV (v : Vl) : Bool :=
  if v.k = 3 then v.n == 0 && decide (v.s.size ≤ 100) && plainB v.s
  else if 0 < v.s.size then false
  else if v.k = 0 then v.n == 0
  else if v.k = 1 then v.n == 0 || v.n == 1
  else v.k == 2 && inB v.n
def Vl.ok (v : Vl) : Prop := (Lit.int .i64 v.k).wf = true ∧ (Lit.int .i64 v.n).wf = true ∧ v.s.size ≤ maxLen
def Vl.val (v : Vl) : Value := .agg #[.int .i64 v.k, .int .i64 v.n, .string v.s]
theorem right_text (k n : Int) (s : ByteArray) (w : World) (hk : k = 3) (hs : s.size ≤ maxLen) (b : Bool) (hb : Hid (rightV ⟨k, n, s⟩ = b)) :
    Calls Try.prog 22 #[.agg #[.int .i64 k, .int .i64 n, .string s]] w (Ret (.bool b) w) := by
  subst hk
  unfold maxLen at hs
  by_cases h1 : n = 0
  · subst h1
    by_cases h2 : s.size ≤ 100
    · go_enter Try.func22, Try.ntmps22
      go_wp2_with fail
      refine (IndexFunc_odd s _).mono ?_
      rintro e w1 ⟨r, rfl, h, hb1⟩
      by_cases h0 : r < 0
      · go_wp2_with fail
        go_ret
        exact ⟨ret_bool (by rw [← hb.out, rightV, if_pos rfl, ← h]; simp [h0, h2]), below_new hb1⟩
      · go_wp2_with fail
        go_ret
        exact ⟨ret_bool (by rw [← hb.out, rightV, if_pos rfl, ← h]; simp [h0, h2]), below_new hb1⟩
    · go_enter Try.func22, Try.ntmps22
      go_wp2_with fail
      go_ret
      exact ⟨ret_bool (by rw [← hb.out, rightV, if_pos rfl]; simp [h2]), below_new (Below.refl _ _)⟩
  · go_enter Try.func22, Try.ntmps22
    go_wp2_with fail
    go_ret
    exact ⟨ret_bool (by rw [← hb.out, rightV, if_pos rfl]; simp [h1]), below_new (Below.refl _ _)⟩
theorem andNot1 (n : Int) (h : (Lit.int .i64 n).wf = true) : (bits .andNot .i64 n 1 == 0) = (n == 0 || n == 1) := by
  have hb := bounds_i64 h
  have e1 : bits .andNot .i64 n 1 = IntKind.i64.wrap ((BitVec.ofInt 64 n &&& ~~~BitVec.ofInt 64 1).toNat : Int) := rfl
  rw [e1, BitVec.toNat_and, BitVec.toNat_not]
  have e : 2 ^ 64 - 1 - (BitVec.ofInt 64 1).toNat = 18446744073709551614 := by decide
  rw [e, nat_hi64_1]
  have hx : ((BitVec.ofInt 64 n).toNat : Int) = n % 18446744073709551616 := by
    rw [BitVec.toNat_ofInt]; 
    have : (0:Int) ≤ n % 18446744073709551616 := Int.emod_nonneg _ (by decide)
    simp; omega
  generalize (BitVec.ofInt 64 n).toNat = x at hx
  have hlt : x < 18446744073709551616 := by omega
  rw [IntKind.wrap_i64]
  apply Bool.eq_iff_iff.2
  simp only [beq_iff_eq, Bool.or_eq_true]
  omega
theorem right_other (k n : Int) (s : ByteArray) (w : World) (hk : k ≠ 3) (hs : s.size ≤ maxLen) (hn : (Lit.int .i64 n).wf = true) (b : Bool) (hb : Hid (rightV ⟨k, n, s⟩ = b)) :
    Calls Try.prog 22 #[.agg #[.int .i64 k, .int .i64 n, .string s]] w (Ret (.bool b) w) := by
  unfold maxLen at hs
  have t3 : (k == 3) = false := by simpa using hk
  by_cases h0 : 0 < s.size
  · have he : s.toList.isEmpty = false := by
      rw [ByteArray.toList_eq]
      cases h : s.data.toList with
      | nil => have : s.data.toList.length = s.size := by simp
               rw [h] at this; simp at this; omega
      | cons => rfl
    have HB : Hid (b = false) := by show _ = _; rw [← hb.out, rightV, if_neg hk, if_pos h0]
    rw [HB.out]
    go_enter Try.func22, Try.ntmps22
    go_wp2_with fail
    go_ret
    exact ⟨rfl, below_new (Below.refl _ _)⟩
  · have hse : s = ⟨#[]⟩ := by
      apply ByteArray.ext
      have : s.data.size = 0 := by have : s.data.size = s.size := rfl; omega
      exact Array.size_eq_zero_iff.1 this
    subst hse
    rw [rightV, if_neg hk, if_neg (by show ¬ 0 < 0; decide)] at hb
    by_cases h1 : k = 0
    · subst h1
      have HB : Hid (b = (n == 0)) := by show _ = _; rw [← hb.out]; rfl
      rw [HB.out]
      go_enter Try.func22, Try.ntmps22
      go_wp2_with fail
      go_ret
      exact ⟨rfl, below_new (Below.refl _ _)⟩
    · by_cases h2 : k = 1
      · subst h2
        have HB : Hid (b = (bits .andNot .i64 n 1 == 0)) := by show _ = _; rw [← hb.out, andNot1 n hn]; rfl
        rw [HB.out]
        go_enter Try.func22, Try.ntmps22
        go_wp2_with fail
        go_ret
        exact ⟨rfl, below_new (Below.refl _ _)⟩
      · by_cases h3 : k = 2
        · subst h3
          have HB : Hid (inB n = b) := by show _ = _; rw [← hb.out]; rfl
          go_enter Try.func22, Try.ntmps22
          go_wp2_with fail
          refine (in_any n b HB _).mono ?_
          rintro e w1 ⟨rfl, rfl⟩
          go_wp2_with fail
          go_ret
          exact ⟨rfl, below_new (Below.refl _ _)⟩
        · have t0 : (k == 0) = false := by simpa using h1
          have t1 : (k == 1) = false := by simpa using h2
          have t2 : (k == 2) = false := by simpa using h3
          have HB : Hid (b = false) := by show _ = _; rw [← hb.out]; simp [h1, h2, h3]
          rw [HB.out]
          go_enter Try.func22, Try.ntmps22
          go_wp2_with fail
          go_ret
          exact ⟨rfl, below_new (Below.refl _ _)⟩
theorem right_any (v : Vl) (w : World) (hv : v.ok) : Calls Try.prog 22 #[v.val] w (Ret (.bool (rightV v)) w) := by
  obtain ⟨k, n, s⟩ := v
  by_cases hk : k = 3
  · exact right_text k n s w hk hv.2.2 _ rfl
  · exact right_other k n s w hk hv.2.2 hv.2.1 _ rfl
end Go.Proofs.Ytljdiakodpjkpaa
