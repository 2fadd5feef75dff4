/- like's front, Prefix and Exact: what they answer. -/
import Derived.Test.YtmkfgbbipckgiaaLikM
import Derived.Test.YtmkfgbbipckgiaaBld
namespace Go.Proofs.Ytmkfgbbipckgiaa
set_option linter.unusedVariables false
set_option linter.unusedSimpArgs false
open Go.RowKit
open Oct (S)
open Lik (signsL special frontL plainL)
theorem ret2_snd {v : Value} {a b : Bool} (h : b = a) : Ending.returned (.tuple #[v, .bool a]) = .returned (.tuple #[v, .bool b]) := by rw [h]
theorem front_core (p : ByteArray) (l : List Nat) (w : World) (hp : p.size ≤ 100000) (HL : Hid (signsL p.data.toList = l)) (hl : l.length ≤ 100000) (r : List UInt8) (b : Bool) (HF : Hid (frontL l = r)) (HPl : Hid (plainL l = b)) :
    Calls Try.prog 19 #[.string p] w (Ret (.tuple #[.string (S r), .bool b]) w) := by
  obtain ⟨B, HB⟩ : ∃ B, Hid (w.heap.size = B) := ⟨_, rfl⟩
  have hfr := BldAt.fresh w
  have hb0 : Below B w (w.alloc (.cells #[.pointer none, .slice none 0 0] 41)) := (Below.refl _ _).alloc (by rw [HB.out]; exact Nat.le_refl _) _
  go_enter Try.func19, Try.ntmps19
  go_wp2_with fail
  rw [HB.out] at hfr ⊢
  generalize w.alloc (.cells #[.pointer none, .slice none 0 0] 41) = wx at *
  refine (signs_any p _ hp).mono ?_
  rintro e w1 ⟨v, rfl, hown, hb1⟩
  rw [HL.out] at hown
  have hbl := hfr.below hb1
  have hbx : Below B w w1 := hb0.trans (hb1.mono (by have := hb0.size; rw [HB.out] at this; exact this))
  clear hfr hb0 hb1
  obtain ⟨ao, cap, rfl, hcap, _⟩ := ownsRow_shape hown
  go_wp2_with fail
  go_loopw [6, 10] (fun _ i wr => ∃ k : Nat, k ≤ l.length ∧ i = .int .i64 k ∧ BldAt wr B B ((l.take k).map UInt8.ofNat) ∧ Below B w wr ∧ wr.ownsRow wx.heap.size 36 2 (.slice ao l.length cap) l.length (signRow l) ∧ Hid (frontL l = (l.take k).map UInt8.ofNat ++ frontL (l.drop k)) ∧ Hid (plainL l = plainL (l.drop k))) (fun _ i _ => l.length - (intOf i).toNat)
  case atStart => exact ⟨0, Nat.zero_le _, rfl, hbl, hbx, hown, rfl, rfl⟩
  case round =>
    clear hbl hbx hown
    obtain ⟨k, hk, rfl, hbl, hb, hown, HA, HP⟩ := hrel
    have hBw : B ≤ wr.heap.size := by rw [← HB.out]; exact hb.size
    by_cases hlt : k < l.length
    · obtain ⟨ao', cap', hv, _, hrows⟩ := ownsRow_shape hown
      obtain ⟨g, hg1, hg, hc⟩ := hrows (by omega)
      injection hv with hv1 hv2 hv3
      subst hv1
      subst hg1
      subst hv3
      have hc0 := hc (k * 2) _ (signRow_get l k hlt).1
      have hc1 := hc (k * 2 + 1) _ (signRow_get l k hlt).2
      clear hc hrows
      obtain ⟨x, HX⟩ : ∃ x, Hid (l[k] = x) := ⟨l[k], rfl⟩
      rw [HX.out] at hc0 hc1
      by_cases hx : x < 256
      · have hc0' : wr.cell? ⟨g, k * 2, none⟩ = some (.int .i64 0) := by rw [hc0, kindN, if_neg (by omega), if_neg (by omega)]; rfl
        have hc1' : wr.cell? ⟨g, k * 2 + 1, none⟩ = some (.int .u8 (x : Int)) := by rw [hc1, byteN, if_pos hx]
        clear hc0 hc1
        have HL2 : Hid (l.drop k = x :: l.drop (k + 1)) := by show _ = _; rw [← HX.out]; exact List.drop_eq_getElem_cons hlt
        have HT : Hid ((l.take (k + 1)).map UInt8.ofNat = (l.take k).map UInt8.ofNat ++ [UInt8.ofNat x]) := by
          show _ = _
          rw [List.take_succ_eq_append_getElem hlt, HX.out]; simp
        have hlen : ((l.take k).map UInt8.ofNat).length ≤ 100000 := by simp; omega
        have HXB : Hid ((x : Int) = ((UInt8.ofNat x).toNat : Int)) := by show _ = _; rw [Oct.ofNat_toNat, Nat.mod_eq_of_lt hx]
        go_wp2_with fail
        refine (writeByte_any B B _ (UInt8.ofNat x) _ HXB.out _ (hbl.alloc _) (by omega) (by simp; omega)).mono ?_
        rintro e w2 ⟨rfl, hbl2, hb2, ho2⟩
        have hown2 := ownsRow_others (hbl.alloc _) ho2 (by decide) (by decide) (hown.alloc _)
        have hb3 := (hb.alloc hBw _).trans hb2
        clear ho2 hb2 hown
        go_wp2_with fail
        go_roundw
        case rel => exact ⟨k + 1, by omega, by go_num, by rw [HT.out]; exact hbl2, hb3, hown2, by show _ = _; rw [HT.out, HA.out, HL2.out, frontL, if_pos hx]; simp, by show _ = _; rw [HP.out, HL2.out]; simp [plainL, hx]⟩
        case measure => simp [intOf]; omega
      · have hne : (((kindN x : Nat) : Int) != 0) = true := by
          rw [bne_iff_ne, kindN]
          have : x ≤ 257 := by
            have h := Lik.signs_le p.data.toList l[k] (by rw [HL.out]; exact List.getElem_mem hlt)
            rw [HX.out] at h; exact h
          split
          · decide
          · rw [if_pos (by omega)]; decide
        have HL2 : Hid (l.drop k = x :: l.drop (k + 1)) := by show _ = _; rw [← HX.out]; exact List.drop_eq_getElem_cons hlt
        have HR : Hid ((l.take k).map UInt8.ofNat = r) := by show _ = _; rw [← HF.out, HA.out, HL2.out, frontL, if_neg hx]; simp
        have HB2 : Hid (b = false) := by show _ = _; rw [← HPl.out, HP.out, HL2.out]; simp [plainL, hx]
        rw [HR.out] at hbl
        rw [HB2.out]
        go_wp2_with fail
        refine (bldString_any B B _ _ (hbl.alloc _) (by simp; omega)).mono ?_
        rintro e w2 ⟨rfl, _, hb2, _⟩
        go_wp2_with fail
        go_ret2
        exact ⟨rfl, by rw [HB.out]; exact (hb.alloc hBw _).trans hb2⟩
    · have HR : Hid ((l.take k).map UInt8.ofNat = r) := by show _ = _; rw [← HF.out, HA.out, List.drop_eq_nil_of_le (by omega)]; simp [frontL]
      have HB2 : Hid (b = true) := by show _ = _; rw [← HPl.out, HP.out, List.drop_eq_nil_of_le (by omega)]; rfl
      rw [HR.out] at hbl
      go_wp2_with fail
      refine (bldString_any B B _ _ hbl hBw).mono ?_
      rintro e w2 ⟨rfl, _, hb2, _⟩
      go_wp2_with fail
      go_ret2
      exact ⟨ret2_snd HB2.out, by rw [HB.out]; exact hb.trans hb2⟩
theorem front_any (p : ByteArray) (w : World) (hp : p.size ≤ 100000) :
    Calls Try.prog 19 #[.string p] w (Ret (.tuple #[.string (S (frontL (signsL p.data.toList))), .bool (plainL (signsL p.data.toList))]) w) :=
  front_core p _ w hp rfl (by have := Lik.signs_length p.data.toList; simp at this; have h2 : p.data.size = p.size := rfl; omega) _ _ rfl rfl
theorem prefix_any (p : ByteArray) (w : World) (hp : p.size ≤ 100000) :
    Calls Try.prog 12 #[.string p] w (Ret (.string (S (frontL (signsL p.data.toList)))) w) := by
  go_enter Try.func12, Try.ntmps12
  go_wp2_with fail
  refine (front_any p _ hp).mono ?_
  rintro e w1 ⟨rfl, hb1⟩
  go_wp2_with fail
  go_ret
  exact ⟨rfl, hb1⟩
/-- What Exact answers. -/
def exactR (l : List Nat) : List UInt8 × Bool := if plainL l = true then (frontL l, true) else ([], false)
theorem exact_any (p : ByteArray) (w : World) (hp : p.size ≤ 100000) :
    Calls Try.prog 8 #[.string p] w (Ret (.tuple #[.string (S (exactR (signsL p.data.toList)).1), .bool (exactR (signsL p.data.toList)).2]) w) := by
  have hfr := front_any p w hp
  unfold exactR
  cases hpl : plainL (signsL p.data.toList) with
  | true =>
    rw [hpl] at hfr
    rw [if_pos rfl]
    have HF := Lib.hid hfr
    clear hfr hpl
    go_enter Try.func8, Try.ntmps8
    go_wp2_with fail
    refine HF.out.mono ?_
    rintro e w1 ⟨rfl, hb1⟩
    go_wp2_with fail
    go_ret2
    exact ⟨rfl, hb1⟩
  | false =>
    rw [hpl] at hfr
    rw [if_neg (by decide)]
    have HF := Lib.hid hfr
    clear hfr hpl
    go_enter Try.func8, Try.ntmps8
    go_wp2_with fail
    refine HF.out.mono ?_
    rintro e w1 ⟨rfl, hb1⟩
    go_wp2_with fail
    go_ret2
    exact ⟨rfl, hb1⟩
end Go.Proofs.Ytmkfgbbipckgiaa
