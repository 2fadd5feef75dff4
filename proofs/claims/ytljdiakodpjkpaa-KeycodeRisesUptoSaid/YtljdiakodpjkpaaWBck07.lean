/- KeycodeBack's walk. -/
import Derived.Test.YtljdiakodpjkpaaAwk07
import Derived.Test.YtljdiakodpjkpaaKeyL
namespace Go.Proofs.Ytljdiakodpjkpaa
set_option linter.unusedVariables false
set_option linter.unusedSimpArgs false
open Go.RowKit
open Oct (S S_size S_data)
theorem encL_ge (l : List Vl) : l.length ≤ (encL l).length := by
  induction l with
  | nil => simp
  | cons v l ih =>
    rw [encL_cons, List.length_append, List.length_cons]
    obtain ⟨c, r, hc⟩ := encV_cons v
    rw [hc, List.length_cons]
    omega
theorem enc_big (l : List Vl) (h : rightsL l = true) (hl : l.length ≤ 1048576) : (S (encL l)).size ≤ 200000000 := by
  rw [S_size]
  have := encL_len l (rights_mem7 h)
  omega
theorem key_of {l : List Vl} (h : rightsL l = true) : keyR l = encL l := by rw [keyR, if_pos h]
theorem beq_keys (a b : List Vl) (ha : rightsL a = true) (hb : rightsL b = true) : ((S (encL a)).toList == (S (encL b)).toList) = (ordL a b == 0) := by
  rw [ByteArray.toList_eq, ByteArray.toList_eq, S_data, S_data, Bool.eq_iff_iff, beq_iff_eq, beq_iff_eq, ordL_zero]
  exact encL_inj a b ha hb
set_option maxHeartbeats 4000000 in
set_option maxRecDepth 100000 in
theorem walk_KeycodeBack (a : List Vl) (va : Value) (b : List Vl) (vb : Value) (s : ByteArray) (w : World) (ha : RowAt w va a) (hoa : Oks a) (hla : a.length ≤ 1048576) (hb : RowAt w vb b) (hob : Oks b) (hlb : b.length ≤ 1048576) (hs : s.size ≤ 1048576) : Calls Try.prog 5 #[va, vb, .string s] w (Ret (.bool true) w) := by
  have HG := Lib.hid (fun W => kget_any s W (by omega))
  have HW := Lib.hid (fun W => awake7_any W)
  have HP := Lib.hid (fun l v W h hl hn => kput_any l v W h hl hn)
  have HO := Lib.hid (fun a b va vb W ha hb => orders_any a b va vb W ha hb)
  have HRA := Lib.hid (fun W h => rights_any a va W h hoa)
  have HRB := Lib.hid (fun W h => rights_any b vb W h hob)
  have HR := Lib.hid (fun l v W h hl => rights_any l v W h hl)
  have HA := Lib.hid ha
  have HB := Lib.hid hb
  obtain ⟨ao, cap, rfl⟩ := ha.nil
  obtain ⟨bo, cap2, rfl⟩ := hb.nil
  have HPA := Lib.hid (fun W h => kput_any a _ W h hoa (by omega) : ∀ W, RowAt W (.slice ao a.length cap) a → _)
  have HPB := Lib.hid (fun W h => kput_any b _ W h hob (by omega) : ∀ W, RowAt W (.slice bo b.length cap2) b → _)
  clear ha hb hoa hob
  have hb1 := Below.refl w.heap.size w
  have HX : Hid (∀ x, getK s.data.toList = some x → rightsL x = true ∧ S (encL x) = s ∧ x.length ≤ 1048576) := fun x hx => by
    obtain ⟨h1, h2⟩ := getK_back _ _ hx
    have h3 := encL_ge x
    have h4 : s.data.toList.length = s.size := by simp
    rw [← h2] at h4
    exact ⟨h1, by rw [h2], by omega⟩

  cases hra : rightsL a with
  | false =>
    rw [hra] at HRA
    clear hra HRB HPA HPB
    go_enter Try.func5, Try.ntmps5
    go_wp2_with fail
    refine (HRA.out _ HA.out).mono ?_
    rintro e w1 ⟨rfl, hb2⟩
    replace hb1 := hb1.next hb2; clear hb2
    go_wp2_with fail
    refine (HG.out _).mono ?_
    rintro e w2 ⟨hb2, v2, rfl, hr2⟩
    replace hb1 := hb1.next hb2; clear hb2
    cases hg : getK s.data.toList with
    | none =>
      rw [hg] at hr2
      obtain ⟨xo, xc, rfl⟩ := hr2.nil
      try simp only [hg, Option.isSome_none, Option.getD_none, List.length_nil]
      clear hg hr2
      go_wp2_with fail
      refine (HW.out _).mono ?_
      rintro e w3 ⟨rfl, hb2⟩
      replace hb1 := hb1.next hb2; clear hb2
      go_wp2_with fail
      go_ret
      exact ⟨rfl, hb1⟩
    | some x =>
      rw [hg] at hr2
      simp only [hg, Option.isSome_some, Option.getD_some] at hr2 ⊢
      obtain ⟨hx1, hx2, hx3⟩ := HX.out x hg
      have HRX := Lib.hid (fun W h => HR.out x v2 W h (rights_oks hx1))
      have HPX := Lib.hid (fun W h => HP.out x v2 W h (rights_oks hx1) (by omega))
      rw [hx1] at HRX
      rw [key_of hx1, hx2] at HPX
      have HXR := Lib.hid hr2
      obtain ⟨xo, xc, rfl⟩ := hr2.nil
      clear hg hx1 hx2 hr2
      go_wp2_with fail
      refine (HW.out _).mono ?_
      rintro e w4 ⟨rfl, hb2⟩
      replace HXR := Lib.hid (HXR.out.below hb2)
      replace hb1 := hb1.next hb2; clear hb2
      go_wp2_with fail
      refine (HRX.out _ HXR.out).mono ?_
      rintro e w5 ⟨rfl, hb2⟩
      replace HXR := Lib.hid (HXR.out.below hb2)
      replace hb1 := hb1.next hb2; clear hb2
      go_wp2_with fail
      refine (HPX.out _ HXR.out).mono ?_
      rintro e w6 ⟨rfl, hb2⟩
      replace HXR := Lib.hid (HXR.out.below hb2)
      replace hb1 := hb1.next hb2; clear hb2
      go_wp2_with fail
      go_ret
      exact ⟨rfl, hb1⟩
  | true =>
    rw [hra] at HRA
    rw [key_of hra] at HPA
    have HGA := Lib.hid (fun W => kget_any (S (encL a)) W (enc_big a hra hla))
    rw [S_data, getK_enc a hra] at HGA
    cases hrb : rightsL b with
    | false =>
      rw [hrb] at HRB
      clear hra hrb HPB
      generalize S (encL a) = p at HPA HGA
      go_enter Try.func5, Try.ntmps5
      go_wp2_with fail
      refine (HRA.out _ HA.out).mono ?_
      rintro e w7 ⟨rfl, hb2⟩
      replace HA := Lib.hid (HA.out.below hb2)
      replace HB := Lib.hid (HB.out.below hb2)
      replace hb1 := hb1.next hb2; clear hb2
      go_wp2_with fail
      refine (HPA.out _ HA.out).mono ?_
      rintro e w8 ⟨rfl, hb2⟩
      replace HA := Lib.hid (HA.out.below hb2)
      replace HB := Lib.hid (HB.out.below hb2)
      replace hb1 := hb1.next hb2; clear hb2
      go_wp2_with fail
      refine (HGA.out _).mono ?_
      rintro e w9 ⟨hb2, v9, rfl, hr9⟩
      replace HA := Lib.hid (HA.out.below hb2)
      replace HB := Lib.hid (HB.out.below hb2)
      replace hb1 := hb1.next hb2; clear hb2
      simp only [Option.isSome_some, Option.getD_some] at hr9 ⊢
      have HXX := Lib.hid (HO.out _ _ _ _ _ hr9 HA.out)
      rw [ordL_self] at HXX
      obtain ⟨yo, yc, rfl⟩ := hr9.nil
      clear hr9
      go_wp2_with fail
      refine (HXX.out).mono ?_
      rintro e w10 ⟨rfl, hb2⟩
      replace HA := Lib.hid (HA.out.below hb2)
      replace HB := Lib.hid (HB.out.below hb2)
      replace hb1 := hb1.next hb2; clear hb2
      go_wp2_with fail
      refine (HRB.out _ HB.out).mono ?_
      rintro e w11 ⟨rfl, hb2⟩
      replace HA := Lib.hid (HA.out.below hb2)
      replace HB := Lib.hid (HB.out.below hb2)
      replace hb1 := hb1.next hb2; clear hb2
      go_wp2_with fail
      refine (HG.out _).mono ?_
      rintro e w12 ⟨hb2, v12, rfl, hr12⟩
      replace hb1 := hb1.next hb2; clear hb2
      cases hg : getK s.data.toList with
      | none =>
        rw [hg] at hr12
        obtain ⟨xo, xc, rfl⟩ := hr12.nil
        try simp only [hg, Option.isSome_none, Option.getD_none, List.length_nil]
        clear hg hr12
        go_wp2_with fail
        refine (HW.out _).mono ?_
        rintro e w13 ⟨rfl, hb2⟩
        replace hb1 := hb1.next hb2; clear hb2
        go_wp2_with fail
        go_ret
        exact ⟨rfl, hb1⟩
      | some x =>
        rw [hg] at hr12
        simp only [hg, Option.isSome_some, Option.getD_some] at hr12 ⊢
        obtain ⟨hx1, hx2, hx3⟩ := HX.out x hg
        have HRX := Lib.hid (fun W h => HR.out x v12 W h (rights_oks hx1))
        have HPX := Lib.hid (fun W h => HP.out x v12 W h (rights_oks hx1) (by omega))
        rw [hx1] at HRX
        rw [key_of hx1, hx2] at HPX
        have HXR := Lib.hid hr12
        obtain ⟨xo, xc, rfl⟩ := hr12.nil
        clear hg hx1 hx2 hr12
        go_wp2_with fail
        refine (HW.out _).mono ?_
        rintro e w14 ⟨rfl, hb2⟩
        replace HXR := Lib.hid (HXR.out.below hb2)
        replace hb1 := hb1.next hb2; clear hb2
        go_wp2_with fail
        refine (HRX.out _ HXR.out).mono ?_
        rintro e w15 ⟨rfl, hb2⟩
        replace HXR := Lib.hid (HXR.out.below hb2)
        replace hb1 := hb1.next hb2; clear hb2
        go_wp2_with fail
        refine (HPX.out _ HXR.out).mono ?_
        rintro e w16 ⟨rfl, hb2⟩
        replace HXR := Lib.hid (HXR.out.below hb2)
        replace hb1 := hb1.next hb2; clear hb2
        go_wp2_with fail
        go_ret
        exact ⟨rfl, hb1⟩
    | true =>
      rw [hrb] at HRB
      rw [key_of hrb] at HPB
      have hbq := beq_keys a b hra hrb
      clear hra hrb
      have HOO := Lib.hid (fun W h1 h2 => HO.out a b _ _ W h1 h2 : ∀ W, RowAt W (.slice ao a.length cap) a → RowAt W (.slice bo b.length cap2) b → _)
      generalize S (encL a) = p at HPA HGA hbq
      generalize S (encL b) = q at HPB hbq
      generalize ordL a b = r at HOO hbq
      cases hrz : (r == 0) with
      | false =>
        rw [hrz] at hbq
        go_enter Try.func5, Try.ntmps5
        go_wp2_with fail
        refine (HRA.out _ HA.out).mono ?_
        rintro e w17 ⟨rfl, hb2⟩
        replace HA := Lib.hid (HA.out.below hb2)
        replace HB := Lib.hid (HB.out.below hb2)
        replace hb1 := hb1.next hb2; clear hb2
        go_wp2_with fail
        refine (HPA.out _ HA.out).mono ?_
        rintro e w18 ⟨rfl, hb2⟩
        replace HA := Lib.hid (HA.out.below hb2)
        replace HB := Lib.hid (HB.out.below hb2)
        replace hb1 := hb1.next hb2; clear hb2
        go_wp2_with fail
        refine (HGA.out _).mono ?_
        rintro e w19 ⟨hb2, v19, rfl, hr19⟩
        replace HA := Lib.hid (HA.out.below hb2)
        replace HB := Lib.hid (HB.out.below hb2)
        replace hb1 := hb1.next hb2; clear hb2
        simp only [Option.isSome_some, Option.getD_some] at hr19 ⊢
        have HXX := Lib.hid (HO.out _ _ _ _ _ hr19 HA.out)
        rw [ordL_self] at HXX
        obtain ⟨yo, yc, rfl⟩ := hr19.nil
        clear hr19
        go_wp2_with fail
        refine (HXX.out).mono ?_
        rintro e w20 ⟨rfl, hb2⟩
        replace HA := Lib.hid (HA.out.below hb2)
        replace HB := Lib.hid (HB.out.below hb2)
        replace hb1 := hb1.next hb2; clear hb2
        go_wp2_with fail
        refine (HRB.out _ HB.out).mono ?_
        rintro e w21 ⟨rfl, hb2⟩
        replace HA := Lib.hid (HA.out.below hb2)
        replace HB := Lib.hid (HB.out.below hb2)
        replace hb1 := hb1.next hb2; clear hb2
        go_wp2_with fail
        refine (HPA.out _ HA.out).mono ?_
        rintro e w22 ⟨rfl, hb2⟩
        replace HA := Lib.hid (HA.out.below hb2)
        replace HB := Lib.hid (HB.out.below hb2)
        replace hb1 := hb1.next hb2; clear hb2
        go_wp2_with fail
        refine (HPB.out _ HB.out).mono ?_
        rintro e w23 ⟨rfl, hb2⟩
        replace HA := Lib.hid (HA.out.below hb2)
        replace HB := Lib.hid (HB.out.below hb2)
        replace hb1 := hb1.next hb2; clear hb2
        go_wp2_with fail
        refine (HOO.out _ HA.out HB.out).mono ?_
        rintro e w24 ⟨rfl, hb2⟩
        replace hb1 := hb1.next hb2; clear hb2
        clear HOO HPA HPB
        go_wp2_with fail
        refine (HG.out _).mono ?_
        rintro e w25 ⟨hb2, v25, rfl, hr25⟩
        replace hb1 := hb1.next hb2; clear hb2
        cases hg : getK s.data.toList with
        | none =>
          rw [hg] at hr25
          obtain ⟨xo, xc, rfl⟩ := hr25.nil
          try simp only [hg, Option.isSome_none, Option.getD_none, List.length_nil]
          clear hg hr25
          go_wp2_with fail
          refine (HW.out _).mono ?_
          rintro e w26 ⟨rfl, hb2⟩
          replace hb1 := hb1.next hb2; clear hb2
          go_wp2_with fail
          go_ret
          exact ⟨rfl, hb1⟩
        | some x =>
          rw [hg] at hr25
          simp only [hg, Option.isSome_some, Option.getD_some] at hr25 ⊢
          obtain ⟨hx1, hx2, hx3⟩ := HX.out x hg
          have HRX := Lib.hid (fun W h => HR.out x v25 W h (rights_oks hx1))
          have HPX := Lib.hid (fun W h => HP.out x v25 W h (rights_oks hx1) (by omega))
          rw [hx1] at HRX
          rw [key_of hx1, hx2] at HPX
          have HXR := Lib.hid hr25
          obtain ⟨xo, xc, rfl⟩ := hr25.nil
          clear hg hx1 hx2 hr25
          go_wp2_with fail
          refine (HW.out _).mono ?_
          rintro e w27 ⟨rfl, hb2⟩
          replace HXR := Lib.hid (HXR.out.below hb2)
          replace hb1 := hb1.next hb2; clear hb2
          go_wp2_with fail
          refine (HRX.out _ HXR.out).mono ?_
          rintro e w28 ⟨rfl, hb2⟩
          replace HXR := Lib.hid (HXR.out.below hb2)
          replace hb1 := hb1.next hb2; clear hb2
          go_wp2_with fail
          refine (HPX.out _ HXR.out).mono ?_
          rintro e w29 ⟨rfl, hb2⟩
          replace HXR := Lib.hid (HXR.out.below hb2)
          replace hb1 := hb1.next hb2; clear hb2
          go_wp2_with fail
          go_ret
          exact ⟨rfl, hb1⟩
      | true =>
        rw [hrz] at hbq
        go_enter Try.func5, Try.ntmps5
        go_wp2_with fail
        refine (HRA.out _ HA.out).mono ?_
        rintro e w30 ⟨rfl, hb2⟩
        replace HA := Lib.hid (HA.out.below hb2)
        replace HB := Lib.hid (HB.out.below hb2)
        replace hb1 := hb1.next hb2; clear hb2
        go_wp2_with fail
        refine (HPA.out _ HA.out).mono ?_
        rintro e w31 ⟨rfl, hb2⟩
        replace HA := Lib.hid (HA.out.below hb2)
        replace HB := Lib.hid (HB.out.below hb2)
        replace hb1 := hb1.next hb2; clear hb2
        go_wp2_with fail
        refine (HGA.out _).mono ?_
        rintro e w32 ⟨hb2, v32, rfl, hr32⟩
        replace HA := Lib.hid (HA.out.below hb2)
        replace HB := Lib.hid (HB.out.below hb2)
        replace hb1 := hb1.next hb2; clear hb2
        simp only [Option.isSome_some, Option.getD_some] at hr32 ⊢
        have HXX := Lib.hid (HO.out _ _ _ _ _ hr32 HA.out)
        rw [ordL_self] at HXX
        obtain ⟨yo, yc, rfl⟩ := hr32.nil
        clear hr32
        go_wp2_with fail
        refine (HXX.out).mono ?_
        rintro e w33 ⟨rfl, hb2⟩
        replace HA := Lib.hid (HA.out.below hb2)
        replace HB := Lib.hid (HB.out.below hb2)
        replace hb1 := hb1.next hb2; clear hb2
        go_wp2_with fail
        refine (HRB.out _ HB.out).mono ?_
        rintro e w34 ⟨rfl, hb2⟩
        replace HA := Lib.hid (HA.out.below hb2)
        replace HB := Lib.hid (HB.out.below hb2)
        replace hb1 := hb1.next hb2; clear hb2
        go_wp2_with fail
        refine (HPA.out _ HA.out).mono ?_
        rintro e w35 ⟨rfl, hb2⟩
        replace HA := Lib.hid (HA.out.below hb2)
        replace HB := Lib.hid (HB.out.below hb2)
        replace hb1 := hb1.next hb2; clear hb2
        go_wp2_with fail
        refine (HPB.out _ HB.out).mono ?_
        rintro e w36 ⟨rfl, hb2⟩
        replace HA := Lib.hid (HA.out.below hb2)
        replace HB := Lib.hid (HB.out.below hb2)
        replace hb1 := hb1.next hb2; clear hb2
        go_wp2_with fail
        refine (HOO.out _ HA.out HB.out).mono ?_
        rintro e w37 ⟨rfl, hb2⟩
        replace hb1 := hb1.next hb2; clear hb2
        clear HOO HPA HPB
        go_wp2_with fail
        refine (HG.out _).mono ?_
        rintro e w38 ⟨hb2, v38, rfl, hr38⟩
        replace hb1 := hb1.next hb2; clear hb2
        cases hg : getK s.data.toList with
        | none =>
          rw [hg] at hr38
          obtain ⟨xo, xc, rfl⟩ := hr38.nil
          try simp only [hg, Option.isSome_none, Option.getD_none, List.length_nil]
          clear hg hr38
          go_wp2_with fail
          refine (HW.out _).mono ?_
          rintro e w39 ⟨rfl, hb2⟩
          replace hb1 := hb1.next hb2; clear hb2
          go_wp2_with fail
          go_ret
          exact ⟨rfl, hb1⟩
        | some x =>
          rw [hg] at hr38
          simp only [hg, Option.isSome_some, Option.getD_some] at hr38 ⊢
          obtain ⟨hx1, hx2, hx3⟩ := HX.out x hg
          have HRX := Lib.hid (fun W h => HR.out x v38 W h (rights_oks hx1))
          have HPX := Lib.hid (fun W h => HP.out x v38 W h (rights_oks hx1) (by omega))
          rw [hx1] at HRX
          rw [key_of hx1, hx2] at HPX
          have HXR := Lib.hid hr38
          obtain ⟨xo, xc, rfl⟩ := hr38.nil
          clear hg hx1 hx2 hr38
          go_wp2_with fail
          refine (HW.out _).mono ?_
          rintro e w40 ⟨rfl, hb2⟩
          replace HXR := Lib.hid (HXR.out.below hb2)
          replace hb1 := hb1.next hb2; clear hb2
          go_wp2_with fail
          refine (HRX.out _ HXR.out).mono ?_
          rintro e w41 ⟨rfl, hb2⟩
          replace HXR := Lib.hid (HXR.out.below hb2)
          replace hb1 := hb1.next hb2; clear hb2
          go_wp2_with fail
          refine (HPX.out _ HXR.out).mono ?_
          rintro e w42 ⟨rfl, hb2⟩
          replace HXR := Lib.hid (HXR.out.below hb2)
          replace hb1 := hb1.next hb2; clear hb2
          go_wp2_with fail
          go_ret
          exact ⟨rfl, hb1⟩
end Go.Proofs.Ytljdiakodpjkpaa
