/- rec: the page's examples. -/
import Derived.Test.YtloengjcniefgaaRecX
namespace Go.Proofs.Ytloengjcniefgaa.Rec
set_option linter.unusedVariables false
set_option linter.unusedSimpArgs false
open Go.RowKit
open Oct (S beN putL U I getI sumN S_size S_data)
def awR : Rc := { lsn := 1, prev := 0, txn := 1, kind := 1, page := 0, next := 0, num := 0, ok := 0, os := 0, old := [], new := [], how := 0, root := 0, key := [], rp := 0, rs := 0, txns := [], dirty := [] }
def awQ : Rc := { lsn := 0, prev := 0, txn := 0, kind := 1, page := 0, next := 1, num := 0, ok := 0, os := 0, old := [], new := [], how := 0, root := 0, key := [], rp := 0, rs := 0, txns := [], dirty := [] }
theorem aw_right : rightR awR = true := by decide +kernel
theorem aw_wrong : putF awQ = ([], 1) := by
  have : rightR awQ = false := by decide +kernel
  rw [putF, this]
  rfl
theorem aw_rec : recL awR = [0, 0, 0, 19, 167, 123, 160, 36, 1, 0, 0, 0, 0, 0, 1, 0, 0, 0, 0, 0, 0, 0, 0, 0, 0, 0, 1] := by decide +kernel
theorem aw_put : putF awR = (recL awR, 0) := by rw [putF, aw_right]; rfl
theorem aw_len : (recL awR).length = 27 := by rw [aw_rec]; rfl
theorem aw_3 : (recL awR)[3]? = some 19 := by rw [aw_rec]; rfl
theorem aw_8 : (recL awR)[8]? = some 1 := by rw [aw_rec]; rfl
theorem aw_get : getF ([97, 98] ++ recL awR) 2 = (awR, 29, 0) := by
  have h := get_put awR [97, 98] [] aw_right (right_len aw_right).2
  rw [aw_len] at h
  simpa using h
theorem aw_cut : getF (List.take 26 (recL awR)) 0 = (zeroR, 0, 3) :=
  get_cut awR 26 (right_len aw_right).2 (by decide) (by rw [aw_len]; decide)
theorem at_of {l : List UInt8} {s : ByteArray} (hs : S l = s) {j : Nat} {c : UInt8} (h : l[j]? = some c) : ∃ hj : j < s.size, ((s[j]'hj).toNat : Int) = c.toNat := by
  subst hs
  obtain ⟨h1, h2⟩ := List.getElem?_eq_some_iff.1 h
  refine ⟨by rw [S_size]; exact h1, ?_⟩
  have : (S l)[j]'(by rw [S_size]; exact h1) = l[j] := by simp [S, ByteArray.getElem_eq_getElem_data]
  rw [this, h2]
theorem take_26 (l : List UInt8) (n : Nat) : (S l).extract 0 n = S (l.take n) := by
  apply ByteArray.ext
  apply Array.toList_inj.1
  simp [S, List.extract_eq_take_drop]
theorem aw_form : getF [0, 0, 0, 0, 0, 0, 0, 0] 0 = (zeroR, 0, 2) := by decide +kernel
theorem alloc_store {V W : World} {o : Obj} (hg : (V.alloc o).grownBy W (some V.heap.size)) : Below V.heap.size V W :=
  Below.ofGrown ((Below.refl _ _).alloc (Nat.le_refl _) o) hg (Nat.le_refl _) (by simp)
set_option maxHeartbeats 8000000 in
set_option maxRecDepth 100000 in
theorem awake_any (w : World) : Calls Try.prog 8 #[] w (Ret (.bool true) w) := by
  have HP := Lib.hid (fun W => recput_any awR (.slice none 0 0) (.slice none 0 0) W (ElAt.empty _ _) (ElAt.empty _ _) (by decide) (by decide))
  rw [aw_put] at HP
  have HPQ := Lib.hid (fun W => recput_any awQ (.slice none 0 0) (.slice none 0 0) W (ElAt.empty _ _) (ElAt.empty _ _) (by decide) (by decide))
  rw [aw_wrong] at HPQ
  have HG1 := Lib.hid (fun W => recget_any ([97, 98] ++ recL awR) 2 W (by rw [List.length_append, aw_len]; decide))
  rw [aw_get] at HG1
  have HG2 := Lib.hid (fun W => recget_any [0, 0, 0, 0, 0, 0, 0, 0] 0 W (by decide))
  rw [aw_form] at HG2
  have HG3 := Lib.hid (fun W => recget_any (List.take 26 (recL awR)) 0 W (by rw [List.length_take, aw_len]; decide))
  rw [aw_cut] at HG3
  have HSM := Lib.hid (fun W va vb h1 h2 => same_any awR awR va vb (.slice none 0 0) (.slice none 0 0) W h1 h2 (ElAt.empty _ _) (ElAt.empty _ _) (by decide) (by decide))
  have HRT := Lib.hid (fun W => right_any awR (.slice none 0 0) (.slice none 0 0) W (ElAt.empty _ _) (ElAt.empty _ _) (by decide) (by decide))
  rw [aw_right] at HRT
  rw [decide_eq_true (rfl : awR = awR)] at HSM
  have a0 := aw_len
  have a3 := aw_3
  have a8 := aw_8
  obtain ⟨L, hL⟩ : ∃ L, recL awR = L := ⟨_, rfl⟩
  rw [hL] at HP HG1 HG3 a0 a3 a8
  clear hL
  have HC := Lib.hid (Oct.S_append [97, 98] L)
  have HT := Lib.hid (take_26 L 26)
  obtain ⟨sC, hsC⟩ : ∃ s, S ([97, 98] ++ L) = s := ⟨_, rfl⟩
  obtain ⟨sT, hsT⟩ : ∃ s, S (List.take 26 L) = s := ⟨_, rfl⟩
  obtain ⟨s, hs⟩ : ∃ s, S L = s := ⟨_, rfl⟩
  have hz : s.size = 27 := by rw [← hs, S_size, a0]
  obtain ⟨h3, e3⟩ := at_of hs a3
  obtain ⟨h8, e8⟩ := at_of hs a8
  rw [hsC] at HC HG1
  rw [hsT] at HT HG3
  simp only [hs] at HP HC HT
  rw [show S [97, 98] = ⟨#[97, 98]⟩ from rfl] at HC
  rw [show S [0, 0, 0, 0, 0, 0, 0, 0] = ⟨#[0, 0, 0, 0, 0, 0, 0, 0]⟩ from rfl] at HG2
  rw [show S [] = ⟨#[]⟩ from rfl] at HPQ
  replace HT : Hid (s.extract 0 (min (27 : Int) 26).toNat = sT) := by
    show _ = _
    rw [show (min (27 : Int) 26).toNat = 26 from by decide]
    exact HT.out
  clear hs hsC hsT a0 a3 a8
  have hRC : ∀ vt vd, rcC awR vt vd = #[.int .i64 1, .int .i64 0, .int .i64 1, .int .i64 1, .int .i64 0, .int .i64 0, .int .i64 0, .int .i64 0, .int .i64 0, .string ⟨#[]⟩, .string ⟨#[]⟩, .int .i64 0, .int .i64 0, .string ⟨#[]⟩, .int .i64 0, .int .i64 0, vt, vd] := fun _ _ => rfl
  have hRQ : ∀ vt vd, rcC awQ vt vd = #[.int .i64 0, .int .i64 0, .int .i64 0, .int .i64 1, .int .i64 0, .int .i64 1, .int .i64 0, .int .i64 0, .int .i64 0, .string ⟨#[]⟩, .string ⟨#[]⟩, .int .i64 0, .int .i64 0, .string ⟨#[]⟩, .int .i64 0, .int .i64 0, vt, vd] := fun _ _ => rfl
  have hRZ : ∀ vt vd, rcC zeroR vt vd = #[.int .i64 0, .int .i64 0, .int .i64 0, .int .i64 0, .int .i64 0, .int .i64 0, .int .i64 0, .int .i64 0, .int .i64 0, .string ⟨#[]⟩, .string ⟨#[]⟩, .int .i64 0, .int .i64 0, .string ⟨#[]⟩, .int .i64 0, .int .i64 0, vt, vd] := fun _ _ => rfl
  simp only [hRC] at HP HRT
  have HX1 : ∃ R : Rc, Hid (∀ W, Calls Try.prog 11 #[.string sC, .int .i64 2] W (GetA (R, 29, 0) W)) ∧ Hid (∀ W va vb, ElAt W 4 va (txC R.txns) → ElAt W 2 vb (dyC R.dirty) → Calls Try.prog 15 #[.agg (rcC R va vb), .agg (rcC awR (.slice none 0 0) (.slice none 0 0))] W (Ret (.bool true) W)) := ⟨awR, HG1, HSM⟩
  have HX2 : ∃ R : Rc, Hid (∀ W, Calls Try.prog 11 #[.string ⟨#[0, 0, 0, 0, 0, 0, 0, 0]⟩, .int .i64 0] W (GetA (R, 0, 2) W)) := ⟨zeroR, HG2⟩
  have HX3 : ∃ R : Rc, Hid (∀ W, Calls Try.prog 11 #[.string sT, .int .i64 0] W (GetA (R, 0, 3) W)) := ⟨zeroR, HG3⟩
  clear HG1 HG2 HG3 HSM
  obtain ⟨⟨lsn, prev, txn, kind, page, next, num, ok, os, old, new, how, root, key, rp, rs, txns, dirty⟩, HG1, HSM⟩ := HX1
  obtain ⟨⟨lsn2, prev2, txn2, kind2, page2, next2, num2, ok2, os2, old2, new2, how2, root2, key2, rp2, rs2, txns2, dirty2⟩, HG2⟩ := HX2
  obtain ⟨⟨lsn3, prev3, txn3, kind3, page3, next3, num3, ok3, os3, old3, new3, how3, root3, key3, rp3, rs3, txns3, dirty3⟩, HG3⟩ := HX3
  simp only [hRC] at HSM
  simp only [rcC] at HSM
  simp only [hRQ] at HPQ
  go_enter Try.func8, Try.ntmps8
  go_wp2_with (first | (with_reducible refine wpList_buildC rfl 31 _ rfl #[.int .i64 1, .int .i64 0, .int .i64 1, .int .i64 1, .int .i64 0, .int .i64 0, .int .i64 0, .int .i64 0, .int .i64 0, .string ⟨#[]⟩, .string ⟨#[]⟩, .int .i64 0, .int .i64 0, .string ⟨#[]⟩, .int .i64 0, .int .i64 0, .slice none 0 0, .slice none 0 0] (by kernel_rfl) ?_) | ((with_reducible refine wpList_store18 (Blk.new _ #[.int .i64 0, .int .i64 0, .int .i64 0, .int .i64 0, .int .i64 0, .int .i64 0, .int .i64 0, .int .i64 0, .int .i64 0, .string ⟨#[]⟩, .string ⟨#[]⟩, .int .i64 0, .int .i64 0, .string ⟨#[]⟩, .int .i64 0, .int .i64 0, .slice none 0 0, .slice none 0 0] 31) (by kernel_rfl) (by kernel_rfl) (by kernel_rfl) rfl _ _ rfl rfl rfl ?_); intro W1 hN hg1) | (with_reducible refine wpList_load18 hN (by kernel_rfl) _ rfl rfl ?_))
  have hb := alloc_store hg1
  clear hg1
  refine (HP.out _).mono ?_
  rintro e w1 ⟨rfl, hb1⟩
  replace hN := hN.below hb1
  replace hb := hb.next hb1
  clear hb1 HP
  go_wp2_with (first | (go_at_call 11; rw [HC.out]) | ((with_reducible refine wpList_concat _ ?_); refine ⟨_, _, rfl, rfl, ?_, ?_⟩; (show 2 + s.size ≤ _; rw [hz]; decide)))
  refine (HG1.out _).mono ?_
  rintro e w2 ⟨vt, vd, rfl, ht, hd, hb1⟩
  replace hN := hN.below hb1
  replace hb := hb.next hb1
  clear hb1 HG1
  simp only [rcC]
  obtain ⟨ao, cap, rfl⟩ := ht.nil
  obtain ⟨bo, cap2, rfl⟩ := hd.nil
  obtain ⟨n1, hn1⟩ : ∃ n, (txC txns).length = n := ⟨_, rfl⟩
  obtain ⟨n2, hn2⟩ : ∃ n, (dyC dirty).length = n := ⟨_, rfl⟩
  simp only [hn1] at ht ⊢
  simp only [hn2] at hd ⊢
  obtain ⟨u1, q1⟩ : ∃ x, S old = x := ⟨_, rfl⟩
  obtain ⟨u2, q2⟩ : ∃ x, S new = x := ⟨_, rfl⟩
  obtain ⟨u3, q3⟩ : ∃ x, S key = x := ⟨_, rfl⟩
  simp only [q1, q2, q3] at HSM ⊢
  clear q1 q2 q3 hn1 hn2
  replace ht := Lib.hid ht
  replace hd := Lib.hid hd
  go_upto_region 4 with (first | ((with_reducible refine wpList_store18 (Blk.new _ #[.int .i64 0, .int .i64 0, .int .i64 0, .int .i64 0, .int .i64 0, .int .i64 0, .int .i64 0, .int .i64 0, .int .i64 0, .string ⟨#[]⟩, .string ⟨#[]⟩, .int .i64 0, .int .i64 0, .string ⟨#[]⟩, .int .i64 0, .int .i64 0, .slice none 0 0, .slice none 0 0] 31) (by kernel_rfl) (by kernel_rfl) (by kernel_rfl) rfl _ _ rfl rfl rfl ?_); intro W2 hX hg2))
  have hbx := alloc_store hg2
  replace hN := hN.below hbx
  replace hb := hb.next hbx
  replace ht := Lib.hid (ht.out.below hbx)
  replace hd := Lib.hid (hd.out.below hbx)
  clear hg2 hbx
  go_wp2_with fail
  refine (HG2.out _).mono ?_
  rintro e w3 ⟨vt2, vd2, rfl, ht2, hd2, hb3⟩
  obtain ⟨ao2, cap3, rfl⟩ := ht2.nil
  obtain ⟨bo2, cap4, rfl⟩ := hd2.nil
  simp only [rcC]
  clear ht2 hd2
  generalize S old2 = v1
  generalize S new2 = v2
  generalize S key2 = v3
  generalize (txC txns2).length = m1
  generalize (dyC dirty2).length = m2
  go_upto_region 5 with (first | ((with_reducible refine wpList_store18 (Blk.new _ #[.int .i64 0, .int .i64 0, .int .i64 0, .int .i64 0, .int .i64 0, .int .i64 0, .int .i64 0, .int .i64 0, .int .i64 0, .string ⟨#[]⟩, .string ⟨#[]⟩, .int .i64 0, .int .i64 0, .string ⟨#[]⟩, .int .i64 0, .int .i64 0, .slice none 0 0, .slice none 0 0] 31) (by kernel_rfl) (by kernel_rfl) (by kernel_rfl) rfl _ _ rfl rfl rfl ?_); intro W3 hX3 hg3))
  have hbb := hb3.next (alloc_store hg3)
  replace hX := hX.below hbb
  replace hN := hN.below hbb
  replace hb := hb.next hbb
  replace ht := Lib.hid (ht.out.below hbb)
  replace hd := Lib.hid (hd.out.below hbb)
  clear hbb hb3 hg3 hX3
  go_wp2_with (go_at_call 11; rw [HT.out])
  refine (HG3.out _).mono ?_
  rintro e w4 ⟨vt2, vd2, rfl, ht2, hd2, hb3⟩
  obtain ⟨ao3, cap5, rfl⟩ := ht2.nil
  obtain ⟨bo3, cap6, rfl⟩ := hd2.nil
  simp only [rcC]
  clear ht2 hd2
  generalize S old3 = v1'
  generalize S new3 = v2'
  generalize S key3 = v3'
  generalize (txC txns3).length = m3
  generalize (dyC dirty3).length = m4
  go_upto_region 6 with (first | ((with_reducible refine wpList_store18 (Blk.new _ #[.int .i64 0, .int .i64 0, .int .i64 0, .int .i64 0, .int .i64 0, .int .i64 0, .int .i64 0, .int .i64 0, .int .i64 0, .string ⟨#[]⟩, .string ⟨#[]⟩, .int .i64 0, .int .i64 0, .string ⟨#[]⟩, .int .i64 0, .int .i64 0, .slice none 0 0, .slice none 0 0] 31) (by kernel_rfl) (by kernel_rfl) (by kernel_rfl) rfl _ _ rfl rfl rfl ?_); intro W4 hX3 hg3))
  have hbb := hb3.next (alloc_store hg3)
  replace hX := hX.below hbb
  replace hN := hN.below hbb
  replace hb := hb.next hbb
  replace ht := Lib.hid (ht.out.below hbb)
  replace hd := Lib.hid (hd.out.below hbb)
  clear hbb hb3 hg3 hX3
  go_wp2_with (first | (with_reducible refine wpList_buildC rfl 31 _ rfl #[.int .i64 0, .int .i64 0, .int .i64 0, .int .i64 1, .int .i64 0, .int .i64 1, .int .i64 0, .int .i64 0, .int .i64 0, .string ⟨#[]⟩, .string ⟨#[]⟩, .int .i64 0, .int .i64 0, .string ⟨#[]⟩, .int .i64 0, .int .i64 0, .slice none 0 0, .slice none 0 0] (by kernel_rfl) ?_))
  refine (HPQ.out _).mono ?_
  rintro e w5 ⟨rfl, hb5⟩
  replace hX := hX.below hb5
  replace hN := hN.below hb5
  replace hb := hb.next hb5
  replace ht := Lib.hid (ht.out.below hb5)
  replace hd := Lib.hid (hd.out.below hb5)
  clear hb5
  go_wp2_with (first | (with_reducible refine wpList_load18 hX (by kernel_rfl) _ rfl rfl ?_) | (with_reducible refine wpList_load18 hN (by kernel_rfl) _ rfl rfl ?_))
  refine (HSM.out _ _ _ ht.out hd.out).mono ?_
  rintro e w6 ⟨rfl, hb6⟩
  replace hN := hN.below hb6
  replace hb := hb.next hb6
  clear hb6 hX ht hd
  go_wp2_with (first | (with_reducible refine wpList_load18 hN (by kernel_rfl) _ rfl rfl ?_))
  refine (HRT.out _).mono ?_
  rintro e w7 ⟨rfl, hb7⟩
  replace hb := hb.next hb7
  go_wp2_with fail
  go_ret
  exact ⟨rfl, hb⟩
end Go.Proofs.Ytloengjcniefgaa.Rec
