/- The reference's Put: what it answers. -/
import Derived.Test.YtcboeggfincakaaPut06
namespace Go.Proofs.Ytcboeggfincakaa
set_option linter.unusedVariables false
set_option linter.unusedSimpArgs false
open Go.RowKit
open Oct (S beN putL U I getI)
set_option maxHeartbeats 1000000 in
theorem rputfail_any (l : List Vl) (v : Value) (w : World) (hv : RowAt w v l) (hl : Oks l) (h : rightsL l = false ∨ (32 < l.length ∨ 400 < sizeL l)) : Calls Try.prog 25 #[v] w (Ret (.tuple #[.string (S (putR l).1), .int .i64 (putR l).2]) w) := by
  have HR := Lib.hid (rrights_any l v w hv hl)
  have hsm := hv.small
  cases hr : rightsL l with
  | false =>
    rw [putR_arg hr]
    rw [hr] at HR
    obtain ⟨ao, cap, rfl⟩ := hv.nil
    clear hv h
    go_enter Try.func25, Try.ntmps25
    go_wp2_with fail
    refine HR.out.mono ?_
    rintro e w1 ⟨rfl, hb⟩
    go_wp2_with fail
    go_ret2
    exact ⟨rfl, hb⟩
  | true =>
    have h2 : 32 < l.length ∨ 400 < sizeL l := by
      rcases h with h | h
      · rw [hr] at h; cases h
      · exact h
    rw [putR_long hr h2]
    rw [hr] at HR
    by_cases h3 : 32 < l.length
    · obtain ⟨ao, cap, rfl⟩ := hv.nil
      clear hv h h2
      go_enter Try.func25, Try.ntmps25
      go_wp2_with fail
      refine HR.out.mono ?_
      rintro e w1 ⟨rfl, hb⟩
      go_wp2_with fail
      go_ret2
      exact ⟨rfl, hb⟩
    · have h4 : 400 < sizeL l := by omega
      have HS := fun W => rsize_any l v W
      rw [sizeR_yes hr] at HS
      obtain ⟨ao, cap, rfl⟩ := hv.nil
      clear h h2
      go_enter Try.func25, Try.ntmps25
      go_wp2_with fail
      refine HR.out.mono ?_
      rintro e w1 ⟨rfl, hb⟩
      replace hv := hv.below hb
      go_wp2_with fail
      refine (HS _ hv hl).mono ?_
      rintro e w2 ⟨rfl, hb2⟩
      replace hb := hb.next hb2; clear hb2
      go_wp2_with fail
      go_ret2
      exact ⟨rfl, hb⟩
theorem rputok_any (l : List Vl) (v : Value) (w : World) (hv : RowAt w v l) (hl : Oks l) (hr : rightsL l = true) (h32 : l.length ≤ 32) (h400 : sizeL l ≤ 400) : Calls Try.prog 25 #[v] w (Ret (.tuple #[.string (S (rowL l)), .int .i64 0]) w) := by
  have HR := Lib.hid (rrights_any l v w hv hl)
  have HT := Lib.hid hr
  rw [hr] at HR
  have HS := fun W => rsize_any l v W
  rw [sizeR_yes hr] at HS
  have HSS := Lib.hid HS
  have HLn : Hid ((l.length : Int) = ((UInt8.ofNat l.length).toNat : Int)) := by show _ = _; rw [Oct.ofNat_toNat, Nat.mod_eq_of_lt (by omega)]
  have hwl : IntKind.u8.wrap (l.length : Int) = l.length := IntWalk.u8_in _ (by omega)
  clear HS hr
  obtain ⟨ao, cap, rfl⟩ := hv.nil
  go_enter Try.func25, Try.ntmps25
  go_wp2_with fail
  refine HR.out.mono ?_
  rintro e w1 ⟨rfl, hb⟩
  replace hv := hv.below hb
  go_wp2_with fail
  refine (HSS.out _ hv hl).mono ?_
  rintro e w2 ⟨rfl, hb2⟩
  replace hv := hv.below hb2
  replace hb := hb.next hb2; clear hb2
  have hb0 : Below w2.heap.size w2 (w2.alloc (.cells #[.int .u8 (l.length : Int)] 5)) := (Below.refl _ _).alloc (Nat.le_refl _) _
  go_wp2_with (first | ((with_reducible refine wpList_stringOf 60 9 5 Try.underlying60 Try.underlying5 Try.underlying9 [UInt8.ofNat l.length] ?_); refine ⟨_, _, _, rfl, rfl, bytesAt_at _ _ _ _ _ rfl HLn.out, ?_⟩))
  go_loopw [4, 5] (fun o i wr => ∃ k : Nat, k ≤ l.length ∧ i = .int .i64 k ∧ o = .string (S (UInt8.ofNat l.length :: bodyL (l.take k))) ∧ Below w2.heap.size w2 wr) (fun _ i _ => l.length - (intOf i).toNat)
  case atStart => exact ⟨0, Nat.zero_le _, rfl, rfl, hb0⟩
  case round =>
    clear hb0
    obtain ⟨k, hk, rfl, rfl, hb4⟩ := hrel
    by_cases hlt : k < l.length
    · obtain ⟨b, off, cap', hv2, c0, c1, c2⟩ := (hv.below hb4).get k hlt
      injection hv2 with h1 h2 h3
      subst h1
      subst h3
      have hbl0 := body_take_len HT.out k
      have HS := Lib.hid (body_snoc l k hlt)
      have hright := rights_mem HT.out _ (List.getElem_mem hlt)
      have HC := one_any l[k] wr hright
      have hle := one_len l[k] hright
      have hz : (S (oneL l[k])).size = (oneL l[k]).length := Oct.S_size _
      obtain ⟨q, hq⟩ : ∃ q, oneL l[k] = q := ⟨_, rfl⟩
      rw [hq] at HC hle HS hz
      obtain ⟨r, hr⟩ : ∃ r, bodyL (l.take k) = r := ⟨_, rfl⟩
      rw [hr] at hbl0 HS ⊢
      obtain ⟨o, HO⟩ : ∃ o, Hid (o = S (UInt8.ofNat l.length :: r)) := ⟨_, rfl⟩
      have ho : o.size ≤ 5000 := by rw [HO.out, Oct.S_size, List.length_cons]; omega
      rw [← HO.out]
      clear hq hr hv hright
      go_wp2_with (go_at_call 39; refine HC.mono ?_; rintro e W' ⟨rfl, hbc⟩)
      go_roundw
      case rel => exact ⟨k + 1, by omega, by go_num, by rw [HS.out, HO.out, Oct.S_append]; rfl, hb4.next hbc⟩
      case measure => simp [intOf]; omega
    · have HK : Hid (l.take k = l) := List.take_of_length_le (by omega)
      rw [HK.out]
      go_wp2_with fail
      go_ret2
      exact ⟨rfl, hb.next hb4⟩
theorem rput_any (l : List Vl) (v : Value) (w : World) (hv : RowAt w v l) (hl : Oks l) : Calls Try.prog 25 #[v] w (Ret (.tuple #[.string (S (putR l).1), .int .i64 (putR l).2]) w) := by
  by_cases h : rightsL l = false ∨ (32 < l.length ∨ 400 < sizeL l)
  · exact rputfail_any l v w hv hl h
  · have h1 : rightsL l = true := by
      cases hr : rightsL l with
      | true => rfl
      | false => exact (h (.inl hr)).elim
    have h2 : ¬ (32 < l.length ∨ 400 < sizeL l) := fun hh => h (.inr hh)
    rw [putR_ok h1 h2]
    exact rputok_any l v w hv hl h1 (by omega) (by omega)
end Go.Proofs.Ytcboeggfincakaa
