/- The walk of RecSpoilt. -/
import Derived.Test.YtloengjcniefgaaRecA
import Derived.Test.YtloengjcniefgaaRecZ
import Derived.Test.YtloengjcniefgaaKitA
import Derived.Test.YtloengjcniefgaaOpenRec
import Derived.Test.YtloengjcniefgaaWBck38
namespace Go.Proofs.Ytloengjcniefgaa.Rec
set_option linter.unusedVariables false
set_option linter.unusedSimpArgs false
open Go.RowKit
open Oct (S beN putL U I getI sumN S_size S_data)
structure PS (w W : World) (g : Nat) (cr : Array Value) : Prop where
  hb : Below w.heap.size w W
  r : Blk W g cr 31
theorem PS.next {w W W2 : World} {g : Nat} {cr : Array Value} (h : PS w W g cr) (hb : Below W.heap.size W W2) : PS w W2 g cr := ⟨h.hb.next hb, h.r.below hb⟩
theorem xor_u8 (c : UInt8) (m : Nat) (hm : m < 256) : bits BinOp.xor IntKind.u8 (c.toNat : Int) (m : Int) = ((c ^^^ UInt8.ofNat m).toNat : Int) := by
  rw [u8_xor_nat _ _ c.toNat_lt hm, UInt8.toNat_xor, Oct.ofNat_toNat, Nat.mod_eq_of_lt hm]
theorem xor_ne (c : UInt8) (m : Nat) (h1 : 1 ≤ m) (hm : m < 256) : c ≠ c ^^^ UInt8.ofNat m := by
  intro e
  have h := congrArg UInt8.toNat e
  rw [UInt8.toNat_xor, Oct.ofNat_toNat, Nat.mod_eq_of_lt hm] at h
  have := xor_own h
  omega
set_option maxHeartbeats 8000000 in
set_option maxRecDepth 100000 in
theorem walk_RecSpoilt (r : Rc) (vt vd : Value) (at_ by_ : Int) (w : World) (ht : ElAt w 4 vt (txC r.txns)) (hd : ElAt w 2 vd (dyC r.dirty)) {p1 p2 : Prop} (_ : p1) (_ : p2) :
    Calls Try.prog 5 #[.agg (rcC r vt vd), .int .i64 at_, .int .i64 by_] w (Ret (.bool true) w) := by
  have HA := Lib.hid (fun W => awake_any W)
  have HT := Lib.hid ht
  have HD := Lib.hid hd
  have HSR := Lib.hid (fun W h1 h2 => small_any r vt vd W h1 h2)
  have HPR := Lib.hid (fun W h1 h2 h3 h4 => recput_any r vt vd W h1 h2 h3 h4)
  have HSMR : Hid (smallB r = true → r.txns.length ≤ 100000 ∧ r.dirty.length ≤ 100000) := fun h => by simp [smallB] at h; omega
  clear ht hd
  obtain ⟨x0, x1, x2, x3, x4, x5, x6, x7, x8, x9, x10, x11, x12, x13, x14, x15, x16, x17, hX⟩ := name18 r vt vd
  rw [hX] at HSR HPR
  rw [hX]
  clear hX
  have hS : PS w (w.alloc (.cells #[x0, x1, x2, x3, x4, x5, x6, x7, x8, x9, x10, x11, x12, x13, x14, x15, x16, x17] 31)) w.heap.size #[x0, x1, x2, x3, x4, x5, x6, x7, x8, x9, x10, x11, x12, x13, x14, x15, x16, x17] := ⟨(Below.refl w.heap.size w).alloc (Nat.le_refl _) _, Blk.new w #[x0, x1, x2, x3, x4, x5, x6, x7, x8, x9, x10, x11, x12, x13, x14, x15, x16, x17] 31⟩
  go_enter Try.func5, Try.ntmps5
  go_upto_region 1 with fail
  generalize (w.alloc (.cells #[x0, x1, x2, x3, x4, x5, x6, x7, x8, x9, x10, x11, x12, x13, x14, x15, x16, x17] 31)) = W0 at hS ⊢
  go_wp2_with (first | (with_reducible refine wpList_load18 hS.r (by kernel_rfl) _ rfl rfl ?_))
  refine (HSR.out _ (HT.out.below hS.hb) (HD.out.below hS.hb)).mono ?_
  rintro e w1 ⟨rfl, hb1⟩
  replace hS := hS.next hb1
  clear hb1 HSR
  cases hsr : smallB r with
  | false =>
    go_wp2_with fail
    refine (HA.out _).mono ?_
    rintro e w9 ⟨rfl, hb9⟩
    go_wp2_with fail
    go_ret
    exact ⟨rfl, (hS.next hb9).hb⟩
  | true =>
    have hsr2 := HSMR.out hsr
    clear hsr HSMR
    have HPR2 := Lib.hid (fun W h1 h2 => HPR.out W h1 h2 hsr2.1 hsr2.2)
    clear HPR hsr2
    cases hrr : rightR r with
    | false =>
      rw [put_wrong hrr] at HPR2
      simp only [show S [] = ⟨#[]⟩ from rfl] at HPR2
      go_wp2_with (first | (with_reducible refine wpList_load18 hS.r (by kernel_rfl) _ rfl rfl ?_))
      refine (HPR2.out _ (HT.out.below hS.hb) (HD.out.below hS.hb)).mono ?_
      rintro e w3 ⟨rfl, hb1⟩
      replace hS := hS.next hb1
      clear hb1 HPR2
      go_wp2_with fail
      refine (HA.out _).mono ?_
      rintro e w9 ⟨rfl, hb9⟩
      go_wp2_with fail
      go_ret
      exact ⟨rfl, (hS.next hb9).hb⟩
    | true =>
      rw [put_right hrr] at HPR2
      simp only at HPR2
      have hlen := (right_len hrr).2
      have hrl := recL_len r
      have HCUT := Lib.hid (fun k h4 hk => get_cut r k hlen h4 hk)
      obtain ⟨L, hL⟩ : ∃ L, recL r = L := ⟨_, rfl⟩
      have HSPL : Hid (∀ (k : Nat) (c : UInt8), 4 ≤ k → ∀ hk : k < L.length, L[k] ≠ c → getF (L.set k c) 0 = (zeroR, 0, 19)) := by
        subst hL
        exact fun k c h4 hk hc => get_spoilt r k c hlen h4 hk hc
      rw [hL] at HCUT HPR2 hrl
      obtain ⟨sL, hsL⟩ : ∃ x, S L = x := ⟨_, rfl⟩
      have hzL : sL.size = L.length := by rw [← hsL, S_size]
      rw [hsL] at HPR2
      have hzs : sL.size ≤ 40008 := by omega
      have HSL := Lib.hid hsL
      have HLZ := Lib.hid hzL
      clear hrr hlen hrl hL hsL hzL
      go_wp2_with (first | (with_reducible refine wpList_load18 hS.r (by kernel_rfl) _ rfl rfl ?_))
      refine (HPR2.out _ (HT.out.below hS.hb) (HD.out.below hS.hb)).mono ?_
      rintro e w3 ⟨rfl, hb1⟩
      replace hS := hS.next hb1
      clear hb1 HPR2
      by_cases c1 : at_ < 4
      · clear HSPL HCUT
        go_wp2_with fail
        refine (HA.out _).mono ?_
        rintro e w9 ⟨rfl, hb9⟩
        go_wp2_with fail
        go_ret
        exact ⟨rfl, (hS.next hb9).hb⟩
      by_cases c2 : (sL.size : Int) ≤ at_
      · clear HSPL HCUT
        go_wp2_with fail
        refine (HA.out _).mono ?_
        rintro e w9 ⟨rfl, hb9⟩
        go_wp2_with fail
        go_ret
        exact ⟨rfl, (hS.next hb9).hb⟩
      by_cases c3 : by_ < 1
      · clear HSPL HCUT
        go_wp2_with fail
        refine (HA.out _).mono ?_
        rintro e w9 ⟨rfl, hb9⟩
        go_wp2_with fail
        go_ret
        exact ⟨rfl, (hS.next hb9).hb⟩
      by_cases c4 : 255 < by_
      · clear HSPL HCUT
        go_wp2_with fail
        refine (HA.out _).mono ?_
        rintro e w9 ⟨rfl, hb9⟩
        go_wp2_with fail
        go_ret
        exact ⟨rfl, (hS.next hb9).hb⟩
      obtain ⟨k, rfl⟩ := Int.eq_ofNat_of_zero_le (show 0 ≤ at_ by omega)
      obtain ⟨m, rfl⟩ := Int.eq_ofNat_of_zero_le (show 0 ≤ by_ by omega)
      have hk4 : 4 ≤ k := by omega
      have hkL : k < L.length := by have := HLZ.out; omega
      have hks : k < sL.size := by omega
      have hm1 : 1 ≤ m := by omega
      have hm2 : m < 256 := by omega
      have hSD : sL.data.toList = L := by rw [← HSL.out]
      have HCT := Lib.hid (HCUT.out k hk4 hkL)
      have HSQ := Lib.hid (HSPL.out k (L[k] ^^^ UInt8.ofNat m) hk4 hkL (xor_ne _ m hm1 hm2))
      clear HSPL HCUT
      have hkI : (k : Int) < (sL.size : Int) := by omega
      have hmI : (m : Int) < 256 := by omega
      go_upto_region 7 with ((with_reducible refine wpList_bytes 9 42 5 Try.underlying9 Try.underlying42 Try.underlying5 ?_); refine ⟨_, rfl, ?_⟩; intro g cap w4 hg hz hb4 hcl; rw [hSD] at hcl)
      have hS4 := hS.next hb4
      clear hSD hb4
      obtain ⟨hc1, hc2⟩ := hcl k hkL
      have hx := xor_u8 L[k] m hm2
      replace hcl := Lib.hid hcl
      go_upto_region 8 with fail
      have hv : ((L[k].toNat ^^^ m % 256 : Nat) : Int) = ((L[k] ^^^ UInt8.ofNat m).toNat : Int) := by rw [UInt8.toNat_xor, Oct.ofNat_toNat]
      rw [hv]
      have hcl2 := hcl.out.set k hkL (L[k] ^^^ UInt8.ofNat m)
      have hlt1 := hS.r.lt
      have hS5 : PS w (w4.setCell ⟨g, k, none⟩ (.int .u8 ((L[k] ^^^ UInt8.ofNat m).toNat : Int))) w.heap.size #[x0, x1, x2, x3, x4, x5, x6, x7, x8, x9, x10, x11, x12, x13, x14, x15, x16, x17] := ⟨hS4.hb.setCell (p := ⟨g, k, none⟩) (by show w.heap.size ≤ g; omega) _, hS4.r.other (a := ⟨g, k, none⟩) (by show w.heap.size ≠ g; omega) _⟩
      generalize (w4.setCell ⟨g, k, none⟩ (.int .u8 ((L[k] ^^^ UInt8.ofNat m).toNat : Int))) = W5 at hcl2 hS5 ⊢
      have hLS : (L.set k (L[k] ^^^ UInt8.ofNat m)).length = sL.size := by rw [List.length_set]; exact HLZ.out.symm
      obtain ⟨L2, hL2⟩ : ∃ l, L.set k (L[k] ^^^ UInt8.ofNat m) = l := ⟨_, rfl⟩
      rw [hL2] at hcl2 hLS HSQ
      have HG1 := Lib.hid (fun W => recget_any L2 0 W (by omega))
      have HG2 := Lib.hid (fun W => recget_any (List.take k L) 0 W (by rw [List.length_take]; omega))
      rw [HSQ.out] at HG1
      rw [HCT.out] at HG2
      have HTK : Hid (sL.extract 0 k = S (List.take k L)) := by show _ = _; rw [← HSL.out]; exact take_26 L k
      obtain ⟨sT, hsT⟩ : ∃ x, S (List.take k L) = x := ⟨_, rfl⟩
      rw [hsT] at HTK HG2
      have HLS := Lib.hid hLS
      clear hsT hL2 hv hcl hS hS4 hc1 hc2 hx hlt1 hLS HSQ HCT
      have hS := hS5
      clear hS5
      go_wp2_with ((with_reducible refine wpList_stringOf 42 9 5 Try.underlying42 Try.underlying5 Try.underlying9 L2 ?_); refine ⟨g, _, _, rfl, HLS.out.symm, hcl2, ?_⟩)
      refine (HG1.out _).mono ?_
      rintro e w6 ⟨v1, v2, rfl, k1, k2, hb1⟩
      replace hS := hS.next hb1
      clear hb1
      obtain ⟨ya, ycap, rfl⟩ := k1.nil
      obtain ⟨yb, ycap2, rfl⟩ := k2.nil
      clear k1 k2
      dsimp only
      have hone : (rcC zeroR (.slice ya (txC zeroR.txns).length ycap) (.slice yb (dyC zeroR.dirty).length ycap2)).all (·.oneCell') = true := by simp [rcC, Value.oneCell']
      obtain ⟨u0, u1, u2, u3, u4, u5, u6, u7, u8, u9, u10, u11, u12, u13, u14, u15, u16, u17, hU⟩ := name18 zeroR (.slice ya (txC zeroR.txns).length ycap) (.slice yb (dyC zeroR.dirty).length ycap2)
      rw [hU] at hone ⊢
      clear hU
      go_upto_region 9 with (first | ((with_reducible refine wpList_store18 (Blk.new _ #[.int .i64 0, .int .i64 0, .int .i64 0, .int .i64 0, .int .i64 0, .int .i64 0, .int .i64 0, .int .i64 0, .int .i64 0, .string ⟨#[]⟩, .string ⟨#[]⟩, .int .i64 0, .int .i64 0, .string ⟨#[]⟩, .int .i64 0, .int .i64 0, .slice none 0 0, .slice none 0 0] 31) (by kernel_rfl) (by kernel_rfl) hone rfl _ _ rfl rfl rfl ?_); intro W7 hX7 hg7))
      replace hS := hS.next (alloc_store hg7)
      clear hg7 hone hX7
      go_wp2_with (go_at_call 11; rw [HTK.out])
      refine (HG2.out _).mono ?_
      rintro e w6 ⟨v1, v2, rfl, k1, k2, hb1⟩
      replace hS := hS.next hb1
      clear hb1
      obtain ⟨ya, ycap, rfl⟩ := k1.nil
      obtain ⟨yb, ycap2, rfl⟩ := k2.nil
      clear k1 k2
      dsimp only
      have hone : (rcC zeroR (.slice ya (txC zeroR.txns).length ycap) (.slice yb (dyC zeroR.dirty).length ycap2)).all (·.oneCell') = true := by simp [rcC, Value.oneCell']
      obtain ⟨v0, v1, v2, v3, v4, v5, v6, v7, v8, v9, v10, v11, v12, v13, v14, v15, v16, v17, hU⟩ := name18 zeroR (.slice ya (txC zeroR.txns).length ycap) (.slice yb (dyC zeroR.dirty).length ycap2)
      rw [hU] at hone ⊢
      clear hU
      go_upto_region 10 with (first | ((with_reducible refine wpList_store18 (Blk.new _ #[.int .i64 0, .int .i64 0, .int .i64 0, .int .i64 0, .int .i64 0, .int .i64 0, .int .i64 0, .int .i64 0, .int .i64 0, .string ⟨#[]⟩, .string ⟨#[]⟩, .int .i64 0, .int .i64 0, .string ⟨#[]⟩, .int .i64 0, .int .i64 0, .slice none 0 0, .slice none 0 0] 31) (by kernel_rfl) (by kernel_rfl) hone rfl _ _ rfl rfl rfl ?_); intro W8 hX8 hg7))
      replace hS := hS.next (alloc_store hg7)
      clear hg7 hone hX8
      go_wp2_with fail
      refine (HA.out _).mono ?_
      rintro e w9 ⟨rfl, hb9⟩
      go_wp2_with fail
      go_ret
      exact ⟨rfl, (hS.next hb9).hb⟩
end Go.Proofs.Ytloengjcniefgaa.Rec
