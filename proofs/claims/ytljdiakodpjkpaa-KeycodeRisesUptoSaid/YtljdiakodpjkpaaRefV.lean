/- The reference's Right and Rights (layer 3). -/
import Derived.Test.YtljdiakodpjkpaaRow
namespace Go.Proofs.Ytljdiakodpjkpaa
set_option linter.unusedVariables false
set_option linter.unusedSimpArgs false
open Go.RowKit
theorem rin_any (n : Int) (b : Bool) (hb : Hid (inB n = b)) (w : World) : Calls Try.prog 46 #[.int .i64 n] w (Eq1 (.bool b) w) := by
  by_cases h1 : -1000000000000000 ≤ n
  · by_cases h2 : n ≤ 1000000000000000
    · go_enter Try.func46, Try.ntmps46
      go_wp2
      go_ret
      exact ⟨ret_bool (by rw [← hb.out]; simp [inB, h1, h2]), rfl⟩
    · go_enter Try.func46, Try.ntmps46
      go_wp2
      go_ret
      exact ⟨ret_bool (by rw [← hb.out]; simp [inB, h1, h2]), rfl⟩
  · go_enter Try.func46, Try.ntmps46
    go_wp2
    go_ret
    exact ⟨ret_bool (by rw [← hb.out, inB, decide_eq_false (by omega)]; rfl), rfl⟩
theorem plain_any (s : ByteArray) (w : World) (hs : s.size ≤ maxLen) : Calls Try.prog 47 #[.string s] w (Eq1 (.bool (decide (s.size ≤ 100) && plainB s)) w) := by
  unfold maxLen at hs
  go_enter Try.func47, Try.ntmps47
  go_wp2_with fail
  go_loop [3] (fun i => ∃ k : Nat, k ≤ s.size ∧ i = .int .i64 k ∧ Hid (plainTo s k)) (fun i => s.size - (intOf i).toNat)
  case atStart => exact ⟨0, Nat.zero_le _, rfl, fun j _ h => by omega⟩
  case round =>
    obtain ⟨k, hk, rfl, HP⟩ := hrel
    by_cases hlt : k < s.size
    · have hbyte : (s[k]'hlt).toNat < 256 := UInt8.toNat_lt _
      by_cases h1 : (s[k]'hlt).toNat < 32
      · have HN : Hid (plainB s = false) := by
          cases hp : plainB s with
          | false => rfl
          | true => have := (plainB_iff s).1 hp k hlt hlt; omega
        have t1 : (((s[k]'hlt).toNat : Int) < 32) := by omega
        go_wp2_with fail
        go_ret
        exact ⟨ret_bool (by rw [HN.out]; simp), rfl⟩
      · by_cases h2 : 126 < (s[k]'hlt).toNat
        · have HN : Hid (plainB s = false) := by
            cases hp : plainB s with
            | false => rfl
            | true => have := (plainB_iff s).1 hp k hlt hlt; omega
          go_wp2_with fail
          go_ret
          exact ⟨ret_bool (by rw [HN.out]; simp), rfl⟩
        · have HN : Hid (plainTo s (k + 1)) := by
            intro j hj hjk
            by_cases e : j = k
            · subst e; omega
            · exact HP.out j hj (by omega)
          go_wp2_with fail
          go_round
          case rel => exact ⟨k + 1, by omega, by go_num, HN⟩
          case measure => simp [intOf]; omega
    · have HN : Hid (plainB s = true) := (plainB_iff s).2 fun j hj _ => HP.out j hj (by omega)
      go_wp2_with fail
      go_ret
      exact ⟨ret_bool (by rw [HN.out]; simp; omega), rfl⟩
theorem rright_text (k n : Int) (s : ByteArray) (w : World) (hk : k = 3) (hs : s.size ≤ maxLen) (b : Bool) (hb : Hid (rightV ⟨k, n, s⟩ = b)) :
    Calls Try.prog 24 #[.agg #[.int .i64 k, .int .i64 n, .string s]] w (Ret (.bool b) w) := by
  subst hk
  by_cases h1 : n = 0
  · subst h1
    go_enter Try.func24, Try.ntmps24
    go_wp2_with fail
    refine (plain_any s _ hs).mono ?_
    rintro e w1 ⟨rfl, rfl⟩
    go_wp2_with fail
    go_ret
    exact ⟨ret_bool (by rw [← hb.out, rightV, if_pos rfl]; simp), below_new (Below.refl _ _)⟩
  · have t : (n == 0) = false := by simpa using h1
    go_enter Try.func24, Try.ntmps24
    go_wp2_with fail
    go_ret
    exact ⟨ret_bool (by rw [← hb.out, rightV, if_pos rfl]; simp [h1]), below_new (Below.refl _ _)⟩
theorem isEmpty_no (s : ByteArray) (h0 : 0 < s.size) : s.toList.isEmpty = false := by
  rw [ByteArray.toList_eq]
  cases h : s.data.toList with
  | nil => have : s.data.toList.length = s.size := by simp
           rw [h] at this; simp at this; omega
  | cons => rfl
theorem empty_of (s : ByteArray) (h0 : ¬ 0 < s.size) : s = ⟨#[]⟩ := by
  apply ByteArray.ext
  have : s.data.size = 0 := by have : s.data.size = s.size := rfl; omega
  exact Array.size_eq_zero_iff.1 this
theorem rright_other (k n : Int) (s : ByteArray) (w : World) (hk : k ≠ 3) (hs : s.size ≤ maxLen) (b : Bool) (hb : Hid (rightV ⟨k, n, s⟩ = b)) :
    Calls Try.prog 24 #[.agg #[.int .i64 k, .int .i64 n, .string s]] w (Ret (.bool b) w) := by
  have t3 : (k == 3) = false := by simpa using hk
  by_cases hkk : k = 0 ∨ k = 1 ∨ k = 2
  · by_cases h0 : 0 < s.size
    · have he := isEmpty_no s h0
      have HB : Hid (b = false) := by show _ = _; rw [← hb.out, rightV, if_neg hk, if_pos h0]
      rw [HB.out]
      rcases hkk with rfl | rfl | rfl
      · by_cases hn : n = 0
        · subst hn
          go_enter Try.func24, Try.ntmps24
          go_wp2_with fail
          go_ret
          exact ⟨rfl, below_new (Below.refl _ _)⟩
        · have t : (n == 0) = false := by simpa using hn
          go_enter Try.func24, Try.ntmps24
          go_wp2_with fail
          go_ret
          exact ⟨rfl, below_new (Below.refl _ _)⟩
      · by_cases hn : n = 0
        · subst hn
          go_enter Try.func24, Try.ntmps24
          go_wp2_with fail
          go_ret
          exact ⟨rfl, below_new (Below.refl _ _)⟩
        · have t : (n == 0) = false := by simpa using hn
          by_cases hn1 : n = 1
          · subst hn1
            go_enter Try.func24, Try.ntmps24
            go_wp2_with fail
            go_ret
            exact ⟨rfl, below_new (Below.refl _ _)⟩
          · have tt : (n == 1) = false := by simpa using hn1
            go_enter Try.func24, Try.ntmps24
            go_wp2_with fail
            go_ret
            exact ⟨rfl, below_new (Below.refl _ _)⟩
      · have HI := rin_any n _ rfl
        cases hi : inB n with
        | true =>
          rw [hi] at HI
          go_enter Try.func24, Try.ntmps24
          go_wp2_with fail
          refine (HI _).mono ?_
          rintro e w1 ⟨rfl, rfl⟩
          go_wp2_with fail
          go_ret
          exact ⟨rfl, below_new (Below.refl _ _)⟩
        | false =>
          rw [hi] at HI
          go_enter Try.func24, Try.ntmps24
          go_wp2_with fail
          refine (HI _).mono ?_
          rintro e w1 ⟨rfl, rfl⟩
          go_wp2_with fail
          go_ret
          exact ⟨rfl, below_new (Below.refl _ _)⟩
    · have hse := empty_of s h0
      subst hse
      rw [rightV, if_neg hk, if_neg (by show ¬ 0 < 0; decide)] at hb
      rcases hkk with rfl | rfl | rfl
      · have HB : Hid (b = (n == 0)) := by show _ = _; rw [← hb.out]; rfl
        rw [HB.out]
        by_cases hn : n = 0
        · subst hn
          go_enter Try.func24, Try.ntmps24
          go_wp2_with fail
          go_ret
          exact ⟨rfl, below_new (Below.refl _ _)⟩
        · have t : (n == 0) = false := by simpa using hn
          go_enter Try.func24, Try.ntmps24
          go_wp2_with fail
          go_ret
          exact ⟨rfl, below_new (Below.refl _ _)⟩
      · have HB : Hid (b = (n == 0 || n == 1)) := by show _ = _; rw [← hb.out]; rfl
        rw [HB.out]
        by_cases hn : n = 0
        · subst hn
          go_enter Try.func24, Try.ntmps24
          go_wp2_with fail
          go_ret
          exact ⟨rfl, below_new (Below.refl _ _)⟩
        · have t : (n == 0) = false := by simpa using hn
          by_cases hn1 : n = 1
          · subst hn1
            go_enter Try.func24, Try.ntmps24
            go_wp2_with fail
            go_ret
            exact ⟨rfl, below_new (Below.refl _ _)⟩
          · have tt : (n == 1) = false := by simpa using hn1
            go_enter Try.func24, Try.ntmps24
            go_wp2_with fail
            go_ret
            exact ⟨rfl, below_new (Below.refl _ _)⟩
      · have HB : Hid (inB n = b) := by show _ = _; rw [← hb.out]; rfl
        have HI := rin_any n b HB
        cases b with
        | true =>
          go_enter Try.func24, Try.ntmps24
          go_wp2_with fail
          refine (HI _).mono ?_
          rintro e w1 ⟨rfl, rfl⟩
          go_wp2_with fail
          go_ret
          exact ⟨rfl, below_new (Below.refl _ _)⟩
        | false =>
          go_enter Try.func24, Try.ntmps24
          go_wp2_with fail
          refine (HI _).mono ?_
          rintro e w1 ⟨rfl, rfl⟩
          go_wp2_with fail
          go_ret
          exact ⟨rfl, below_new (Below.refl _ _)⟩
  · have t0 : (k == 0) = false := by simp; omega
    have t1 : (k == 1) = false := by simp; omega
    have t2 : (k == 2) = false := by simp; omega
    have HB : Hid (b = false) := by
      show _ = _; rw [← hb.out, rightV, if_neg hk, if_neg (show ¬ k = 0 by omega), if_neg (show ¬ k = 1 by omega), t2]
      split <;> rfl
    rw [HB.out]
    go_enter Try.func24, Try.ntmps24
    go_wp2_with fail
    go_ret
    exact ⟨rfl, below_new (Below.refl _ _)⟩
theorem rright_any (v : Vl) (w : World) (hv : v.ok) (b : Bool) (hb : Hid (rightV v = b)) : Calls Try.prog 24 #[.agg v.cells.toArray] w (Ret (.bool b) w) := by
  obtain ⟨k, n, s⟩ := v
  by_cases hk : k = 3
  · exact rright_text k n s w hk hv.2.2 _ hb
  · exact rright_other k n s w hk hv.2.2 _ hb
theorem rrights_any (l : List Vl) (v : Value) (w : World) (hv : RowAt w v l) (hl : Oks l) : Calls Try.prog 29 #[v] w (Ret (.bool (rightsL l)) w) := by
  obtain ⟨ao, cap, rfl⟩ := hv.nil
  have hsm := hv.small
  go_enter Try.func29, Try.ntmps29
  go_wp2_with fail
  go_loopw [3] (fun i wr => ∃ k : Nat, k ≤ l.length ∧ i = .int .i64 k ∧ Below w.heap.size w wr ∧ Hid (∀ j (hj : j < l.length), j < k → rightV l[j] = true)) (fun i _ => l.length - (intOf i).toNat)
  case atStart => exact ⟨0, Nat.zero_le _, rfl, Below.refl _ _, fun j _ h => by omega⟩
  case round =>
    obtain ⟨k, hk, rfl, hb, HA⟩ := hrel
    by_cases hlt : k < l.length
    · obtain ⟨b, off, cap', hv2, c0, c1, c2⟩ := (hv.below hb).get k hlt
      injection hv2 with h1 h2 h3
      subst h1
      subst h3
      have hok := hl l[k] (List.getElem_mem hlt)
      cases hr : rightV l[k] with
      | true =>
        have HC := rright_any l[k] wr hok _ hr
        have HN : Hid (∀ j (hj : j < l.length), j < k + 1 → rightV l[j] = true) := by
          intro j hj hjk
          by_cases e : j = k
          · subst e; exact hr
          · exact HA.out j hj (by omega)
        clear hr hv hok
        go_wp2_with (go_at_call 24; refine HC.mono ?_; rintro e W' ⟨rfl, hbc⟩)
        go_roundw
        case rel => exact ⟨k + 1, by omega, by go_num, hb.next hbc, HN⟩
        case measure => simp [intOf]; omega
      | false =>
        have HC := rright_any l[k] wr hok _ hr
        have HN := Lib.hid (rightsL_no hlt hr)
        clear hr hv hok
        go_wp2_with (go_at_call 24; refine HC.mono ?_; rintro e W' ⟨rfl, hbc⟩)
        go_ret
        exact ⟨ret_bool HN.out, hb.next hbc⟩
    · have HN := Lib.hid (rightsL_yes (l := l) fun j hj => HA.out j hj (by omega))
      go_wp2_with fail
      go_ret
      exact ⟨ret_bool HN.out, hb⟩
end Go.Proofs.Ytljdiakodpjkpaa
