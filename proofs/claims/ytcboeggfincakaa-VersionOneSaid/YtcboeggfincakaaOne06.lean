/- ref06.one: a value's bytes. -/
import Derived.Test.YtcboeggfincakaaWord06
import Derived.Test.YtcboeggfincakaaRefV
namespace Go.Proofs.Ytcboeggfincakaa
set_option linter.unusedVariables false
set_option linter.unusedSimpArgs false
open Go.RowKit
open Oct (S beN putL U I getI)
/-- A value that may be: one of four. -/
theorem right_cases (v : Vl) (h : rightV v = true) : v = ⟨0, 0, ⟨#[]⟩⟩ ∨ v = ⟨1, 0, ⟨#[]⟩⟩ ∨ v = ⟨1, 1, ⟨#[]⟩⟩ ∨ (∃ n, inB n = true ∧ v = ⟨2, n, ⟨#[]⟩⟩) ∨ (∃ s, s.size ≤ 100 ∧ plainB s = true ∧ v = ⟨3, 0, s⟩) := by
  obtain ⟨k, n, s⟩ := v
  by_cases h3 : k = 3
  · subst h3
    rw [rightV, if_pos rfl] at h
    simp only [Bool.and_eq_true, beq_iff_eq, decide_eq_true_eq] at h
    obtain ⟨⟨rfl, h1⟩, h2⟩ := h
    exact .inr (.inr (.inr (.inr ⟨s, h1, h2, rfl⟩)))
  · rw [rightV, if_neg h3] at h
    by_cases h0 : 0 < s.size
    · rw [if_pos h0] at h; cases h
    · rw [if_neg h0] at h
      have hs := empty_of s h0
      subst hs
      by_cases k0 : k = 0
      · subst k0
        rw [if_pos rfl] at h
        have : n = 0 := by simpa using h
        subst this
        exact .inl rfl
      · rw [if_neg k0] at h
        by_cases k1 : k = 1
        · subst k1
          rw [if_pos rfl] at h
          have : n = 0 ∨ n = 1 := by simpa using h
          rcases this with rfl | rfl
          · exact .inr (.inl rfl)
          · exact .inr (.inr (.inl rfl))
        · rw [if_neg k1] at h
          simp only [Bool.and_eq_true, beq_iff_eq] at h
          obtain ⟨rfl, hi⟩ := h
          exact .inr (.inr (.inr (.inl ⟨n, hi, rfl⟩)))
/-- The bytes of a value that may be. -/
def oneL (v : Vl) : List UInt8 :=
  if v.k = 0 then [0] else if v.k = 1 then [1, UInt8.ofNat v.n.toNat] else if v.k = 2 then 2 :: putL (U v.n) 8 else 3 :: UInt8.ofNat v.s.size :: v.s.data.toList
theorem cons_str (c : UInt8) (s : ByteArray) : (ByteArray.mk #[c]) ++ s = S (c :: s.data.toList) := by
  apply ByteArray.ext; simp [S]
theorem bytesAt_at (w : World) (e : TypeId) (x : Int) (c : UInt8) (g : Nat) (hg : g = w.heap.size) (h : x = (c.toNat : Int)) : BytesAt (w.alloc (.cells #[.int .u8 x] e)) g [c] := by
  subst hg; exact bytesAt_one w e x c h
theorem one_any (v : Vl) (w : World) (hv : rightV v = true) : Calls Try.prog 39 #[.agg v.cells.toArray] w (Ret (.string (S (oneL v))) w) := by
  rcases right_cases v hv with rfl | rfl | rfl | ⟨n, hn, rfl⟩ | ⟨s, h1, h2, rfl⟩
  · show Calls Try.prog 39 #[.agg #[.int .i64 0, .int .i64 0, .string ⟨#[]⟩]] w _
    go_enter Try.func39, Try.ntmps39
    go_wp2_with (first | ((with_reducible refine wpList_stringOf 60 9 5 Try.underlying60 Try.underlying5 Try.underlying9 [0] ?_); refine ⟨_, _, _, rfl, rfl, bytesAt_at _ _ _ _ _ (by simp) rfl, ?_⟩))
    go_ret
    exact ⟨rfl, below_new (below_new (Below.refl _ _))⟩
  · show Calls Try.prog 39 #[.agg #[.int .i64 1, .int .i64 0, .string ⟨#[]⟩]] w _
    go_enter Try.func39, Try.ntmps39
    go_wp2_with (first | ((with_reducible refine wpList_stringOf 60 9 5 Try.underlying60 Try.underlying5 Try.underlying9 [1] ?_); refine ⟨_, _, _, rfl, rfl, bytesAt_at _ _ _ _ _ (by simp) rfl, ?_⟩) | ((with_reducible refine wpList_stringOf 60 9 5 Try.underlying60 Try.underlying5 Try.underlying9 [0] ?_); refine ⟨_, _, _, rfl, rfl, bytesAt_at _ _ _ _ _ (by simp) rfl, ?_⟩))
    go_ret
    exact ⟨rfl, below_new (below_new (below_new (Below.refl _ _)))⟩
  · show Calls Try.prog 39 #[.agg #[.int .i64 1, .int .i64 1, .string ⟨#[]⟩]] w _
    go_enter Try.func39, Try.ntmps39
    go_wp2_with (first | ((with_reducible refine wpList_stringOf 60 9 5 Try.underlying60 Try.underlying5 Try.underlying9 [1] ?_); refine ⟨_, _, _, rfl, rfl, bytesAt_at _ _ _ _ _ (by simp) rfl, ?_⟩) | ((with_reducible refine wpList_stringOf 60 9 5 Try.underlying60 Try.underlying5 Try.underlying9 [1] ?_); refine ⟨_, _, _, rfl, rfl, bytesAt_at _ _ _ _ _ (by simp) rfl, ?_⟩))
    go_ret
    exact ⟨rfl, below_new (below_new (below_new (Below.refl _ _)))⟩
  · show Calls Try.prog 39 #[.agg #[.int .i64 2, .int .i64 n, .string ⟨#[]⟩]] w _
    have HL : (putL (U n) 8).length = 8 := Oct.putL_length _ _
    generalize hq : putL (U n) 8 = l at HL
    have HQ := Lib.hid hq
    clear hq
    go_enter Try.func39, Try.ntmps39
    go_wp2_with (first | ((with_reducible refine wpList_stringOf 60 9 5 Try.underlying60 Try.underlying5 Try.underlying9 [2] ?_); refine ⟨_, _, _, rfl, rfl, bytesAt_at _ _ _ _ _ (by simp) rfl, ?_⟩))
    refine (word_any n _).mono ?_
    rintro e w1 ⟨rfl, hb⟩
    rw [HQ.out]
    have hz : (S l).size = 8 := by rw [Oct.S_size, HL]
    go_wp2_with fail
    go_ret
    exact ⟨ret_str (by rw [cons_str]; show _ = S (2 :: putL (U n) 8); rw [HQ.out]), below_new (below_new hb)⟩
  · show Calls Try.prog 39 #[.agg #[.int .i64 3, .int .i64 0, .string s]] w _
    have hwl : IntKind.u8.wrap (s.size : Int) = s.size := IntWalk.u8_in _ (by omega)
    have hby : (s.size : Int) = ((UInt8.ofNat s.size).toNat : Int) := by rw [Oct.ofNat_toNat]; omega
    have HBY := Lib.hid hby
    clear hby
    go_enter Try.func39, Try.ntmps39
    go_wp2_with (first | ((with_reducible refine wpList_stringOf 60 9 5 Try.underlying60 Try.underlying5 Try.underlying9 [3] ?_); refine ⟨_, _, _, rfl, rfl, bytesAt_at _ _ _ _ _ (by simp) rfl, ?_⟩) | ((with_reducible refine wpList_stringOf 60 9 5 Try.underlying60 Try.underlying5 Try.underlying9 [UInt8.ofNat s.size] ?_); refine ⟨_, _, _, rfl, rfl, bytesAt_at _ _ _ _ _ (by simp) HBY.out, ?_⟩))
    go_ret
    exact ⟨ret_str (by show _ = S (3 :: UInt8.ofNat s.size :: s.data.toList); apply ByteArray.ext; simp [S]), below_new (below_new (below_new (Below.refl _ _)))⟩
end Go.Proofs.Ytcboeggfincakaa
