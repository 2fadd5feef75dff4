/- like.Quote and the reference's: what they answer. -/
import Derived.Test.YtmkfgbbipckgiaaLikR
import Derived.Test.YtmkfgbbipckgiaaBld
namespace Go.Proofs.Ytmkfgbbipckgiaa
set_option linter.unusedVariables false
set_option linter.unusedSimpArgs false
open Go.RowKit
open Oct (S)
open Lik (signsL special quoteL)
theorem quote_snoc (l : List UInt8) (c : UInt8) : quoteL (l ++ [c]) = quoteL l ++ (if special c then [92, c] else [c]) := by simp [quoteL]
theorem quote_any (s : ByteArray) (w : World) (hs : s.size ≤ 100000) :
    Calls Try.prog 14 #[.string s] w (Ret (.string (S (quoteL s.data.toList))) w) := by
  obtain ⟨l, HL⟩ : ∃ l, Hid (l = s.data.toList) := ⟨_, rfl⟩
  rw [← HL.out]
  have HN : Hid (l.length = s.size) := by show _ = _; rw [HL.out]; simp
  obtain ⟨B, HB⟩ : ∃ B, Hid (w.heap.size = B) := ⟨_, rfl⟩
  have hfr := BldAt.fresh w
  have hb0 : Below B w (w.alloc (.cells #[.pointer none, .slice none 0 0] 41)) := (Below.refl _ _).alloc (by rw [HB.out]; exact Nat.le_refl _) _
  go_enter Try.func14, Try.ntmps14
  go_wp2_with fail
  rw [HB.out] at hfr ⊢
  generalize w.alloc (.cells #[.pointer none, .slice none 0 0] 41) = wx at *
  go_loopw [4] (fun i wr => ∃ k : Nat, k ≤ s.size ∧ i = .int .i64 k ∧ BldAt wr B B (quoteL (l.take k)) ∧ Below B w wr) (fun i _ => s.size - (intOf i).toNat)
  case atStart => exact ⟨0, Nat.zero_le _, rfl, hfr, hb0⟩
  case round =>
    clear hfr hb0
    obtain ⟨k, hk, rfl, hbl, hb⟩ := hrel
    have hBw : B ≤ wr.heap.size := by rw [← HB.out]; exact hb.size
    by_cases hlt : k < s.size
    · have hkl : k < l.length := by rw [HN.out]; exact hlt
      have HS := Lib.hid (quote_snoc (l.take k) (s[k]'hlt))
      have HT : Hid (l.take (k + 1) = l.take k ++ [s[k]'hlt]) := by
        show _ = _
        rw [List.take_succ_eq_append_getElem hkl]
        have : l[k] = s[k] := by have := HL.out; subst this; simp; rfl
        rw [this]
      have hql : (quoteL (l.take k)).length ≤ 200000 := by
        have := Lik.quote_length (l.take k)
        have h2 : (l.take k).length ≤ k := List.length_take_le _ _
        omega
      by_cases hsp : special (s[k]'hlt) = true
      · have hs0 := specN_yes _ hsp
        rw [if_pos hsp] at HS
        go_wp2_with (go_at_call 22; refine (index_at _ _).mono ?_; rintro e w' ⟨rfl, rfl⟩)
        refine (writeByte_any B B _ 92 92 rfl _ hbl (by omega) hBw).mono ?_
        rintro e w1 ⟨rfl, hbl1, hb1, _⟩
        go_wp2_with fail
        refine (writeByte_any B B _ (s[k]'hlt) _ rfl _ hbl1 (by simp; omega) (by have := hb1.size; omega)).mono ?_
        rintro e w2 ⟨rfl, hbl2, hb2, _⟩
        rw [List.append_assoc] at hbl2
        go_wp2_with fail
        go_roundw
        case rel => exact ⟨k + 1, by omega, by go_num, by rw [HT.out, HS.out]; exact hbl2, (hb.trans hb1).trans hb2⟩
        case measure => simp [intOf]; omega
      · have hs0 := specN_no _ (by simpa using hsp)
        rw [if_neg hsp] at HS
        go_wp2_with (go_at_call 22; refine (index_at _ _).mono ?_; rintro e w' ⟨rfl, rfl⟩)
        refine (writeByte_any B B _ (s[k]'hlt) _ rfl _ hbl (by omega) hBw).mono ?_
        rintro e w2 ⟨rfl, hbl2, hb2, _⟩
        go_wp2_with fail
        go_roundw
        case rel => exact ⟨k + 1, by omega, by go_num, by rw [HT.out, HS.out]; exact hbl2, hb.trans hb2⟩
        case measure => simp [intOf]; omega
    · have HK : Hid (l.take k = l) := by
        show _ = _
        rw [List.take_of_length_le]; rw [HN.out]; omega
      rw [HK.out] at hbl
      go_wp2_with fail
      refine (bldString_any B B _ _ hbl hBw).mono ?_
      rintro e w1 ⟨rfl, _, hb1, _⟩
      go_wp2_with fail
      go_ret
      exact ⟨rfl, by rw [HB.out]; exact hb.trans hb1⟩
theorem one_piece (s : ByteArray) (k : Nat) (h : k < s.size) : s.extract k (k + 1) = S [s[k]] := by
  apply ByteArray.ext
  apply Array.toList_inj.1
  have h2 : k < s.data.toList.length := by simpa using h
  simp [S, List.extract_eq_take_drop, List.drop_eq_getElem_cons h2]
  rfl
theorem rquote_any (s : ByteArray) (w : World) (hs : s.size ≤ 100000) :
    Calls Try.prog 15 #[.string s] w (Eq1 (.string (S (quoteL s.data.toList))) w) := by
  obtain ⟨l, HL⟩ : ∃ l, Hid (l = s.data.toList) := ⟨_, rfl⟩
  rw [← HL.out]
  have HN : Hid (l.length = s.size) := by show _ = _; rw [HL.out]; simp
  go_enter Try.func15, Try.ntmps15
  go_wp2_with fail
  go_loop [3, 4] (fun o i => ∃ k : Nat, k ≤ s.size ∧ i = .int .i64 k ∧ o = .string (S (quoteL (l.take k)))) (fun _ i => s.size - (intOf i).toNat)
  case atStart => exact ⟨0, Nat.zero_le _, rfl, rfl⟩
  case round =>
    obtain ⟨k, hk, rfl, rfl⟩ := hrel
    by_cases hlt : k < s.size
    · have hkl : k < l.length := by rw [HN.out]; exact hlt
      have HS := Lib.hid (quote_snoc (l.take k) (s[k]'hlt))
      have HT : Hid (l.take (k + 1) = l.take k ++ [s[k]'hlt]) := by
        show _ = _
        rw [List.take_succ_eq_append_getElem hkl]
        have : l[k] = s[k] := by have := HL.out; subst this; simp; rfl
        rw [this]
      have hql : (quoteL (l.take k)).length ≤ 200000 := by
        have := Lik.quote_length (l.take k)
        have h2 : (l.take k).length ≤ k := List.length_take_le _ _
        omega
      obtain ⟨q, HQ⟩ : ∃ q, Hid (quoteL (l.take k) = q) := ⟨_, rfl⟩
      rw [HQ.out] at HS hql ⊢
      have HP := Lib.hid (one_piece s k hlt)
      have hpz : (s.extract k (k + 1)).size ≤ 1 := by simp; omega
      have hsz : (S q).size ≤ 200000 := by rw [Oct.S_size]; exact hql
      by_cases hsp : special (s[k]'hlt) = true
      · rw [if_pos hsp] at HS
        go_wp2_with (go_at_call 25; refine (special_at _ _ _ hsp).mono ?_; rintro e w' ⟨rfl, rfl⟩)
        go_round
        case rel => exact ⟨k + 1, by omega, by go_num, by rw [HT.out, HS.out, HP.out]; exact congrArg Value.string (by rw [show (ByteArray.mk #[92]) = S [92] from rfl, Oct.S_append, Oct.S_append]; simp)⟩
        case measure => simp [intOf]; omega
      · rw [if_neg hsp] at HS
        replace hsp : special (s[k]'hlt) = false := by simpa using hsp
        go_wp2_with (go_at_call 25; refine (special_at _ _ _ hsp).mono ?_; rintro e w' ⟨rfl, rfl⟩)
        go_round
        case rel => exact ⟨k + 1, by omega, by go_num, by rw [HT.out, HS.out, HP.out, Oct.S_append]⟩
        case measure => simp [intOf]; omega
    · have HK : Hid (l.take k = l) := by
        show _ = _
        rw [List.take_of_length_le]; rw [HN.out]; omega
      rw [HK.out]
      go_wp2_with fail
      go_ret
      exact ⟨rfl, rfl⟩
end Go.Proofs.Ytmkfgbbipckgiaa
