/- The reference's Prefix and Exact: what they answer. -/
import Derived.Test.YtmkfgbbipckgiaaLikF
import Derived.Test.YtmkfgbbipckgiaaLikR
namespace Go.Proofs.Ytmkfgbbipckgiaa
set_option linter.unusedVariables false
set_option linter.unusedSimpArgs false
open Go.RowKit
open Oct (S)
open Lik (signsL special frontL plainL)
theorem front_length_l (p : List Nat) : (frontL p).length ≤ p.length := by
  induction p with
  | nil => simp [frontL]
  | cons x p ih => unfold frontL; split <;> simp <;> omega
theorem intRow_at (l : List Nat) (k : Nat) (h : k < l.length) : (intRow l)[k]? = some (.int .i64 (l[k] : Int)) := by simp [intRow, h]
set_option maxRecDepth 100000 in
theorem rprefix_core (p : ByteArray) (l : List Nat) (w : World) (hp : p.size ≤ 100000) (HL : Hid (signsL p.data.toList = l)) (hl : l.length ≤ 100000) (r : List UInt8) (HF : Hid (frontL l = r)) :
    Calls Try.prog 13 #[.string p] w (Ret (.string (S r)) w) := by
  obtain ⟨B, HB⟩ : ∃ B, Hid (w.heap.size = B) := ⟨_, rfl⟩
  go_enter Try.func13, Try.ntmps13
  go_wp2_with fail
  refine (rsigns_any p _ hp).mono ?_
  rintro e w1 ⟨v, rfl, hown, hb1⟩
  rw [HL.out] at hown
  rw [HB.out] at hown hb1
  obtain ⟨ao, cap, rfl, hcap, _⟩ := ownsRow_shape hown
  go_wp2_with fail
  go_loopw [4, 5] (fun o i wr => ∃ k : Nat, k ≤ l.length ∧ i = .int .i64 k ∧ o = .string (S ((l.take k).map UInt8.ofNat)) ∧ Below B w wr ∧ wr.ownsRow B 3 1 (.slice ao l.length cap) l.length (intRow l) ∧ Hid (frontL l = (l.take k).map UInt8.ofNat ++ frontL (l.drop k))) (fun _ i _ => l.length - (intOf i).toNat)
  case atStart => exact ⟨0, Nat.zero_le _, rfl, rfl, hb1, hown, rfl⟩
  case round =>
    clear hb1 hown
    obtain ⟨k, hk, rfl, rfl, hb, hown, HA⟩ := hrel
    have hBw : B ≤ wr.heap.size := by rw [← HB.out]; exact hb.size
    by_cases hlt : k < l.length
    · obtain ⟨ao', cap', hv, _, hrows⟩ := ownsRow_shape hown
      obtain ⟨g, hg1, hg, hc⟩ := hrows (by omega)
      injection hv with hv1 hv2 hv3
      subst hv1
      subst hg1
      subst hv3
      have hc0 := hc k _ (intRow_at l k hlt)
      clear hc hrows
      obtain ⟨x, HX⟩ : ∃ x, Hid (l[k] = x) := ⟨l[k], rfl⟩
      rw [HX.out] at hc0
      have HL2 : Hid (l.drop k = x :: l.drop (k + 1)) := by show _ = _; rw [← HX.out]; exact List.drop_eq_getElem_cons hlt
      by_cases hx : x < 256
      · have HT : Hid ((l.take (k + 1)).map UInt8.ofNat = (l.take k).map UInt8.ofNat ++ [UInt8.ofNat x]) := by
          show _ = _
          rw [List.take_succ_eq_append_getElem hlt, HX.out]; simp
        have hlen : ((l.take k).map UInt8.ofNat).length ≤ 100000 := by simp; omega
        obtain ⟨o, HO⟩ : ∃ o, Hid (o = S ((l.take k).map UInt8.ofNat)) := ⟨_, rfl⟩
        have hol : o.size ≤ 100000 := by rw [HO.out, Oct.S_size]; exact hlen
        rw [← HO.out]
        have HXB : Hid ((x : Int) = ((UInt8.ofNat x).toNat : Int)) := by show _ = _; rw [Oct.ofNat_toNat, Nat.mod_eq_of_lt hx]
        have hwx : IntKind.u8.wrap (x : Int) = x := IntWalk.u8_in _ (by omega)
        go_wp2_with (first | ((with_reducible refine wpList_stringOf 38 9 5 Try.underlying38 Try.underlying5 Try.underlying9 [UInt8.ofNat x] ?_); refine ⟨_, _, _, rfl, rfl, bytesAt_one _ _ _ _ HXB.out, ?_⟩))
        go_roundw
        case rel => exact ⟨k + 1, by omega, by go_num, by rw [HT.out, HO.out]; exact congrArg Value.string (Oct.S_append _ _), hb.alloc hBw _, hown.alloc _, by show _ = _; rw [HT.out, HA.out, HL2.out, frontL, if_pos hx]; simp⟩
        case measure => simp [intOf]; omega
      · have hne : ((x : Int) < 256) = False := by simp; omega
        have HR : Hid ((l.take k).map UInt8.ofNat = r) := by show _ = _; rw [← HF.out, HA.out, HL2.out, frontL, if_neg hx]; simp
        rw [HR.out]
        go_wp2_with fail
        go_ret
        exact ⟨rfl, by rw [HB.out]; exact hb⟩
    · have HR : Hid ((l.take k).map UInt8.ofNat = r) := by show _ = _; rw [← HF.out, HA.out, List.drop_eq_nil_of_le (by omega)]; simp [frontL]
      rw [HR.out]
      go_wp2_with fail
      go_ret
      exact ⟨rfl, by rw [HB.out]; exact hb⟩
theorem rprefix_any (p : ByteArray) (w : World) (hp : p.size ≤ 100000) :
    Calls Try.prog 13 #[.string p] w (Ret (.string (S (frontL (signsL p.data.toList)))) w) :=
  rprefix_core p _ w hp rfl (by have := Lik.signs_length p.data.toList; simp at this; have h2 : p.data.size = p.size := rfl; omega) _ rfl
theorem rexact_any (p : ByteArray) (w : World) (hp : p.size ≤ 100000) :
    Calls Try.prog 9 #[.string p] w (Ret (.tuple #[.string (S (exactR (signsL p.data.toList)).1), .bool (exactR (signsL p.data.toList)).2]) w) := by
  obtain ⟨l, HL⟩ : ∃ l, Hid (signsL p.data.toList = l) := ⟨_, rfl⟩
  obtain ⟨r, HF⟩ : ∃ r, Hid (frontL l = r) := ⟨_, rfl⟩
  have hl : l.length ≤ 100000 := by rw [← HL.out]; have := Lik.signs_length p.data.toList; simp at this; have h2 : p.data.size = p.size := rfl; omega
  have HPl := Lib.hid (Lik.plain_front_length l)
  rw [HF.out] at HPl
  have HZ := Lib.hid (Oct.S_size r)
  have hr : r.length ≤ l.length := by rw [← HF.out]; exact front_length_l l
  rw [HL.out]
  by_cases hlt : r.length < l.length
  · have HR : Hid (exactR l = ([], false)) := by show _ = _; rw [exactR, if_neg]; rw [HPl.out]; simp; omega
    rw [HR.out]
    go_enter Try.func9, Try.ntmps9
    go_wp2_with fail
    refine (rprefix_core p l _ hp HL hl r HF).mono ?_
    rintro e w1 ⟨rfl, hb1⟩
    go_wp2_with fail
    refine (rsigns_any p _ hp).mono ?_
    rintro e w2 ⟨v, rfl, hown, hb⟩
    replace hb1 := hb1.next hb; clear hb
    rw [HL.out] at hown
    obtain ⟨ao, cap, rfl, hcap, _⟩ := ownsRow_shape hown
    have hsz : (S r).size < l.length := by rw [HZ.out]; exact hlt
    go_wp2_with fail
    go_ret2
    exact ⟨rfl, hb1⟩
  · have HR : Hid (exactR l = (r, true)) := by show _ = _; rw [exactR, if_pos, HF.out]; rw [HPl.out]; simp; omega
    rw [HR.out]
    go_enter Try.func9, Try.ntmps9
    go_wp2_with fail
    refine (rprefix_core p l _ hp HL hl r HF).mono ?_
    rintro e w1 ⟨rfl, hb1⟩
    go_wp2_with fail
    refine (rsigns_any p _ hp).mono ?_
    rintro e w2 ⟨v, rfl, hown, hb⟩
    replace hb1 := hb1.next hb; clear hb
    rw [HL.out] at hown
    obtain ⟨ao, cap, rfl, hcap, _⟩ := ownsRow_shape hown
    have hsz : ¬ (S r).size < l.length := by rw [HZ.out]; exact hlt
    have hsm : (S r).size ≤ 100000 := by rw [HZ.out]; omega
    go_wp2_with fail
    go_ret2
    exact ⟨rfl, hb1⟩
end Go.Proofs.Ytmkfgbbipckgiaa
