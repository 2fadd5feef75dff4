/- rec: body and Put: what they write of a right record. -/
import Derived.Test.YtloengjcniefgaaRecO
import Derived.Test.YtloengjcniefgaaRecQ
namespace Go.Proofs.Ytloengjcniefgaa.Rec
set_option linter.unusedVariables false
set_option linter.unusedSimpArgs false
open Go.RowKit
open Oct (S beN putL U I getI sumN S_size S_data)
open Wr (BldAt)

set_option maxHeartbeats 16000000 in
set_option maxRecDepth 100000 in
theorem body_none (r : Rc) (vt vd : Value) (w : World) (hv : ElAt w 4 vt (txC r.txns)) (hd : ElAt w 2 vd (dyC r.dirty)) (hs : r.txns.length ≤ 1000) (hs2 : r.dirty.length ≤ 2000) (ho1 : r.old.length ≤ 512) (ho2 : r.new.length ≤ 512) (ho3 : r.key.length ≤ 100) (hk0 : chF r.kind = false) (hk1 : hoF r.kind = false) (hk2 : neF r.kind = false) (hk3 : liF r.kind = false) (hk4 : isF r.kind = true) :
    Calls Try.prog 17 #[.agg (rcC r vt vd)] w (Ret (.string (S (bodyL r))) w) := by
  have HBD : bodyL r = headL r ++ [] ++ [] ++ [] ++ [] := by
    rw [bodyL, hk0, hk1, hk2, hk3]
    simp only [if_true, if_false, Bool.false_eq_true]
  have HOF := fun W => of_any r.kind W
  simp only [formV] at HOF
  rw [hk0, hk1, hk2, hk3, hk4] at HOF
  obtain ⟨BL, hBL⟩ : ∃ B, bodyL r = B := ⟨_, rfl⟩
  rw [hBL] at HBD ⊢
  clear hBL hk0 hk1 hk2 hk3 hk4 hs hs2
  obtain ⟨ao, cap, hva⟩ := hv.nil
  obtain ⟨bo, cap2, hvb⟩ := hd.nil
  clear hv hd
  obtain ⟨lsn, prev, txn, kind, page, next, num, ok, os, old, new, how, root, key, rp, rs, txns, dirty⟩ := r
  simp only [rcC, headL, chL, hoL, neL, List.append_assoc, List.append_nil, List.nil_append] at *
  obtain ⟨n1, hn1⟩ : ∃ n, (txC txns).length = n := ⟨_, rfl⟩
  obtain ⟨n2, hn2⟩ : ∃ n, (dyC dirty).length = n := ⟨_, rfl⟩
  rw [hn1] at hva
  rw [hn2] at hvb
  subst hva hvb
  clear hn1 hn2
  obtain ⟨s1, e1⟩ : ∃ x, S old = x := ⟨_, rfl⟩
  obtain ⟨s2, e2⟩ : ∃ x, S new = x := ⟨_, rfl⟩
  obtain ⟨s3, e3⟩ : ∃ x, S key = x := ⟨_, rfl⟩
  simp only [e1, e2, e3]
  replace HBD := Lib.hid HBD
  replace HOF := Lib.hid HOF
  have E1 := Lib.hid e1
  have E2 := Lib.hid e2
  have E3 := Lib.hid e3
  clear e1 e2 e3
  have hb0 := (Below.refl w.heap.size w).alloc (Nat.le_refl _) (.cells #[.int .i64 lsn, .int .i64 prev, .int .i64 txn, .int .i64 kind, .int .i64 page, .int .i64 next, .int .i64 num, .int .i64 ok, .int .i64 os, .string s1, .string s2, .int .i64 how, .int .i64 root, .string s3, .int .i64 rp, .int .i64 rs, .slice ao n1 cap, .slice bo n2 cap2] 31)
  have hN0 := Blk.new w #[.int .i64 lsn, .int .i64 prev, .int .i64 txn, .int .i64 kind, .int .i64 page, .int .i64 next, .int .i64 num, .int .i64 ok, .int .i64 os, .string s1, .string s2, .int .i64 how, .int .i64 root, .string s3, .int .i64 rp, .int .i64 rs, .slice ao n1 cap, .slice bo n2 cap2] 31
  go_enter Try.func17, Try.ntmps17
  go_wp2_with fail
  refine (HOF.out _).mono ?_
  rintro e w1 ⟨rfl, hb1⟩
  have hN1 := hN0.below hb1
  have hw1' := hb0.next hb1
  have hlt1 := hN0.lt
  have hlt2 := hb1.size
  have hRF : w.heap.size < w1.heap.size := by omega
  have hN1 := hN1.alloc (.cells #[.bool false, .bool false, .bool false, .bool false, .bool true] 60)
  have hF1 := Blk.new w1 #[.bool false, .bool false, .bool false, .bool false, .bool true] 60
  have hw2 := hw1'.alloc hw1'.size (.cells #[.bool false, .bool false, .bool false, .bool false, .bool true] 60)
  have hfr := BldAt.fresh (w1.alloc (.cells #[.bool false, .bool false, .bool false, .bool false, .bool true] 60))
  have hN2 := hN1.alloc (.cells #[.pointer none, .slice none 0 0] 82)
  have hF2 := hF1.alloc (.cells #[.pointer none, .slice none 0 0] 82)
  have hw3 := hw2.alloc hw2.size (.cells #[.pointer none, .slice none 0 0] 82)
  simp only [World.size_alloc] at hfr
  obtain ⟨B, HB⟩ : ∃ B, Hid (w1.heap.size + 1 = B) := ⟨_, rfl⟩
  obtain ⟨g0, HG0⟩ : ∃ B, Hid (w.heap.size = B) := ⟨_, rfl⟩
  obtain ⟨g1, HG1⟩ : ∃ B, Hid (w1.heap.size = B) := ⟨_, rfl⟩
  obtain ⟨FS, HFS⟩ : ∃ C : Array Value, Hid (#[.bool false, .bool false, .bool false, .bool false, .bool true] = C) := ⟨_, rfl⟩
  rw [HB.out] at hfr
  have hS0 : BS w ((w1.alloc (.cells #[.bool false, .bool false, .bool false, .bool false, .bool true] 60)).alloc (.cells #[.pointer none, .slice none 0 0] 82)) B g0 g1 #[.int .i64 lsn, .int .i64 prev, .int .i64 txn, .int .i64 kind, .int .i64 page, .int .i64 next, .int .i64 num, .int .i64 ok, .int .i64 os, .string s1, .string s2, .int .i64 how, .int .i64 root, .string s3, .int .i64 rp, .int .i64 rs, .slice ao n1 cap, .slice bo n2 cap2] #[.bool false, .bool false, .bool false, .bool false, .bool true] [] 0 :=
    ⟨hfr, by rw [← HG0.out]; exact hN2, by rw [← HG1.out]; exact hF2, hw3, by rw [← HB.out]; simp, by rw [← HB.out, ← HG0.out]; omega, by rw [← HB.out, ← HG1.out]; omega, by rw [← HB.out]; omega, Nat.le_refl _⟩
  clear hN0 hN1 hF1 hw1' hw2 hN2 hF2 hw3 hfr hlt1 hlt2 hRF HFS hb0 hb1 HOF
  go_upto_region 3 with fail
  rw [HB.out, HG0.out, HG1.out]
  clear HB HG0 HG1
  generalize ((w1.alloc (.cells #[.bool false, .bool false, .bool false, .bool false, .bool true] 60)).alloc (.cells #[.pointer none, .slice none 0 0] 82)) = W3 at hS0 ⊢
  obtain ⟨c0, c1, c2, c3, c4, c5, c6, c7, c8, c9, c10, c11, c12, c13, c14, c15, c16, c17⟩ := Blk18 hS0.rn
  obtain ⟨f0, f1, f2, f3, f4⟩ := Blk5 hS0.fn
  have hS := Lib.hid hS0
  clear hS0
  go_wp2_with fail
  refine (hS.out.put1 (by omega) kind 1 1 rfl (by omega) _ (by first | rfl | simp)).mono ?_
  rintro e w5 ⟨rfl, hS5⟩
  clear c0 c1 c2 c3 c4 c5 c6 c7 c8 c9 c10 c11 c12 c13 c14 c15 c16 c17 f0 f1 f2 f3 f4 hS
  obtain ⟨c0, c1, c2, c3, c4, c5, c6, c7, c8, c9, c10, c11, c12, c13, c14, c15, c16, c17⟩ := Blk18 hS5.rn
  obtain ⟨f0, f1, f2, f3, f4⟩ := Blk5 hS5.fn
  have hS := Lib.hid hS5
  clear hS5
  go_wp2_with fail
  refine (hS.out.put3 (by omega) lsn prev txn 6 6 rfl (by omega) _ (by first | rfl | simp)).mono ?_
  rintro e w5 ⟨rfl, hS5⟩
  clear c0 c1 c2 c3 c4 c5 c6 c7 c8 c9 c10 c11 c12 c13 c14 c15 c16 c17 f0 f1 f2 f3 f4 hS
  obtain ⟨c0, c1, c2, c3, c4, c5, c6, c7, c8, c9, c10, c11, c12, c13, c14, c15, c16, c17⟩ := Blk18 hS5.rn
  obtain ⟨f0, f1, f2, f3, f4⟩ := Blk5 hS5.fn
  have hS := Lib.hid hS5
  clear hS5
  clear c0 c1 c2 c4 c5 c6 c7 c8 c9 c10 c12 c13 c14 c15 c16 c17
  go_wp2_with fail
  refine (Wr.bldString_any _ _ _ _ hS.out.bl hS.out.hB (by simp only [List.nil_append, List.append_assoc]; intro e; exact putL_ne _ _ (by omega) (List.append_eq_nil_iff.1 e).1)).mono ?_
  rintro e w9 ⟨rfl, _, hb9, _⟩
  have HBE := hS.out.hb.trans (hb9.mono hS.out.hw)
  clear hS hb9
  go_wp2_with fail
  go_ret
  exact ⟨ret_str (by rw [HBD.out]; try simp only [List.nil_append, List.append_assoc, List.append_nil]), HBE⟩

set_option maxHeartbeats 16000000 in
set_option maxRecDepth 100000 in
theorem body_chho1 (r : Rc) (vt vd : Value) (w : World) (hv : ElAt w 4 vt (txC r.txns)) (hd : ElAt w 2 vd (dyC r.dirty)) (hs : r.txns.length ≤ 1000) (hs2 : r.dirty.length ≤ 2000) (ho1 : r.old.length ≤ 512) (ho2 : r.new.length ≤ 512) (ho3 : r.key.length ≤ 100) (hk0 : chF r.kind = true) (hk1 : hoF r.kind = true) (hk2 : neF r.kind = false) (hk3 : liF r.kind = false) (hk4 : isF r.kind = true) (hho : r.how = 1) :
    Calls Try.prog 17 #[.agg (rcC r vt vd)] w (Ret (.string (S (bodyL r))) w) := by
  have HBD : bodyL r = headL r ++ chL r ++ hoL r ++ [] ++ [] := by
    rw [bodyL, hk0, hk1, hk2, hk3]
    simp only [if_true, if_false, Bool.false_eq_true]
  have HOF := fun W => of_any r.kind W
  simp only [formV] at HOF
  rw [hk0, hk1, hk2, hk3, hk4] at HOF
  obtain ⟨BL, hBL⟩ : ∃ B, bodyL r = B := ⟨_, rfl⟩
  rw [hBL] at HBD ⊢
  clear hBL hk0 hk1 hk2 hk3 hk4 hs hs2
  obtain ⟨ao, cap, hva⟩ := hv.nil
  obtain ⟨bo, cap2, hvb⟩ := hd.nil
  clear hv hd
  obtain ⟨lsn, prev, txn, kind, page, next, num, ok, os, old, new, how, root, key, rp, rs, txns, dirty⟩ := r
  simp only [rcC, headL, chL, hoL, neL, List.append_assoc, List.append_nil, List.nil_append] at *
  have hw1 : (how != 1) = false := by simp [hho]
  rw [if_pos hho] at HBD
  clear hho
  obtain ⟨n1, hn1⟩ : ∃ n, (txC txns).length = n := ⟨_, rfl⟩
  obtain ⟨n2, hn2⟩ : ∃ n, (dyC dirty).length = n := ⟨_, rfl⟩
  rw [hn1] at hva
  rw [hn2] at hvb
  subst hva hvb
  clear hn1 hn2
  obtain ⟨s1, e1⟩ : ∃ x, S old = x := ⟨_, rfl⟩
  obtain ⟨s2, e2⟩ : ∃ x, S new = x := ⟨_, rfl⟩
  obtain ⟨s3, e3⟩ : ∃ x, S key = x := ⟨_, rfl⟩
  simp only [e1, e2, e3]
  replace HBD := Lib.hid HBD
  replace HOF := Lib.hid HOF
  have E1 := Lib.hid e1
  have E2 := Lib.hid e2
  have E3 := Lib.hid e3
  clear e1 e2 e3
  have hb0 := (Below.refl w.heap.size w).alloc (Nat.le_refl _) (.cells #[.int .i64 lsn, .int .i64 prev, .int .i64 txn, .int .i64 kind, .int .i64 page, .int .i64 next, .int .i64 num, .int .i64 ok, .int .i64 os, .string s1, .string s2, .int .i64 how, .int .i64 root, .string s3, .int .i64 rp, .int .i64 rs, .slice ao n1 cap, .slice bo n2 cap2] 31)
  have hN0 := Blk.new w #[.int .i64 lsn, .int .i64 prev, .int .i64 txn, .int .i64 kind, .int .i64 page, .int .i64 next, .int .i64 num, .int .i64 ok, .int .i64 os, .string s1, .string s2, .int .i64 how, .int .i64 root, .string s3, .int .i64 rp, .int .i64 rs, .slice ao n1 cap, .slice bo n2 cap2] 31
  go_enter Try.func17, Try.ntmps17
  go_wp2_with fail
  refine (HOF.out _).mono ?_
  rintro e w1 ⟨rfl, hb1⟩
  have hN1 := hN0.below hb1
  have hw1' := hb0.next hb1
  have hlt1 := hN0.lt
  have hlt2 := hb1.size
  have hRF : w.heap.size < w1.heap.size := by omega
  have hN1 := hN1.alloc (.cells #[.bool true, .bool true, .bool false, .bool false, .bool true] 60)
  have hF1 := Blk.new w1 #[.bool true, .bool true, .bool false, .bool false, .bool true] 60
  have hw2 := hw1'.alloc hw1'.size (.cells #[.bool true, .bool true, .bool false, .bool false, .bool true] 60)
  have hfr := BldAt.fresh (w1.alloc (.cells #[.bool true, .bool true, .bool false, .bool false, .bool true] 60))
  have hN2 := hN1.alloc (.cells #[.pointer none, .slice none 0 0] 82)
  have hF2 := hF1.alloc (.cells #[.pointer none, .slice none 0 0] 82)
  have hw3 := hw2.alloc hw2.size (.cells #[.pointer none, .slice none 0 0] 82)
  simp only [World.size_alloc] at hfr
  obtain ⟨B, HB⟩ : ∃ B, Hid (w1.heap.size + 1 = B) := ⟨_, rfl⟩
  obtain ⟨g0, HG0⟩ : ∃ B, Hid (w.heap.size = B) := ⟨_, rfl⟩
  obtain ⟨g1, HG1⟩ : ∃ B, Hid (w1.heap.size = B) := ⟨_, rfl⟩
  obtain ⟨FS, HFS⟩ : ∃ C : Array Value, Hid (#[.bool true, .bool true, .bool false, .bool false, .bool true] = C) := ⟨_, rfl⟩
  rw [HB.out] at hfr
  have hS0 : BS w ((w1.alloc (.cells #[.bool true, .bool true, .bool false, .bool false, .bool true] 60)).alloc (.cells #[.pointer none, .slice none 0 0] 82)) B g0 g1 #[.int .i64 lsn, .int .i64 prev, .int .i64 txn, .int .i64 kind, .int .i64 page, .int .i64 next, .int .i64 num, .int .i64 ok, .int .i64 os, .string s1, .string s2, .int .i64 how, .int .i64 root, .string s3, .int .i64 rp, .int .i64 rs, .slice ao n1 cap, .slice bo n2 cap2] #[.bool true, .bool true, .bool false, .bool false, .bool true] [] 0 :=
    ⟨hfr, by rw [← HG0.out]; exact hN2, by rw [← HG1.out]; exact hF2, hw3, by rw [← HB.out]; simp, by rw [← HB.out, ← HG0.out]; omega, by rw [← HB.out, ← HG1.out]; omega, by rw [← HB.out]; omega, Nat.le_refl _⟩
  clear hN0 hN1 hF1 hw1' hw2 hN2 hF2 hw3 hfr hlt1 hlt2 hRF HFS hb0 hb1 HOF
  go_upto_region 3 with fail
  rw [HB.out, HG0.out, HG1.out]
  clear HB HG0 HG1
  generalize ((w1.alloc (.cells #[.bool true, .bool true, .bool false, .bool false, .bool true] 60)).alloc (.cells #[.pointer none, .slice none 0 0] 82)) = W3 at hS0 ⊢
  obtain ⟨c0, c1, c2, c3, c4, c5, c6, c7, c8, c9, c10, c11, c12, c13, c14, c15, c16, c17⟩ := Blk18 hS0.rn
  obtain ⟨f0, f1, f2, f3, f4⟩ := Blk5 hS0.fn
  have hS := Lib.hid hS0
  clear hS0
  go_wp2_with fail
  refine (hS.out.put1 (by omega) kind 1 1 rfl (by omega) _ (by first | rfl | simp)).mono ?_
  rintro e w5 ⟨rfl, hS5⟩
  clear c0 c1 c2 c3 c4 c5 c6 c7 c8 c9 c10 c11 c12 c13 c14 c15 c16 c17 f0 f1 f2 f3 f4 hS
  obtain ⟨c0, c1, c2, c3, c4, c5, c6, c7, c8, c9, c10, c11, c12, c13, c14, c15, c16, c17⟩ := Blk18 hS5.rn
  obtain ⟨f0, f1, f2, f3, f4⟩ := Blk5 hS5.fn
  have hS := Lib.hid hS5
  clear hS5
  go_wp2_with fail
  refine (hS.out.put3 (by omega) lsn prev txn 6 6 rfl (by omega) _ (by first | rfl | simp)).mono ?_
  rintro e w5 ⟨rfl, hS5⟩
  clear c0 c1 c2 c3 c4 c5 c6 c7 c8 c9 c10 c11 c12 c13 c14 c15 c16 c17 f0 f1 f2 f3 f4 hS
  obtain ⟨c0, c1, c2, c3, c4, c5, c6, c7, c8, c9, c10, c11, c12, c13, c14, c15, c16, c17⟩ := Blk18 hS5.rn
  obtain ⟨f0, f1, f2, f3, f4⟩ := Blk5 hS5.fn
  have hS := Lib.hid hS5
  clear hS5
  go_wp2_with fail
  refine (hS.out.put1 (by omega) page 3 3 rfl (by omega) _ (by first | rfl | simp)).mono ?_
  rintro e w5 ⟨rfl, hS5⟩
  clear c0 c1 c2 c3 c4 c5 c6 c7 c8 c9 c10 c11 c12 c13 c14 c15 c16 c17 f0 f1 f2 f3 f4 hS
  obtain ⟨c0, c1, c2, c3, c4, c5, c6, c7, c8, c9, c10, c11, c12, c13, c14, c15, c16, c17⟩ := Blk18 hS5.rn
  obtain ⟨f0, f1, f2, f3, f4⟩ := Blk5 hS5.fn
  have hS := Lib.hid hS5
  clear hS5
  go_wp2_with fail
  refine (hS.out.put1 (by omega) ok 1 1 rfl (by omega) _ (by first | rfl | simp)).mono ?_
  rintro e w5 ⟨rfl, hS5⟩
  clear c0 c1 c2 c3 c4 c5 c6 c7 c8 c9 c10 c11 c12 c13 c14 c15 c16 c17 f0 f1 f2 f3 f4 hS
  obtain ⟨c0, c1, c2, c3, c4, c5, c6, c7, c8, c9, c10, c11, c12, c13, c14, c15, c16, c17⟩ := Blk18 hS5.rn
  obtain ⟨f0, f1, f2, f3, f4⟩ := Blk5 hS5.fn
  have hS := Lib.hid hS5
  clear hS5
  go_wp2_with fail
  refine (hS.out.put1 (by omega) os 2 2 rfl (by omega) _ (by first | rfl | simp)).mono ?_
  rintro e w5 ⟨rfl, hS5⟩
  clear c0 c1 c2 c3 c4 c5 c6 c7 c8 c9 c10 c11 c12 c13 c14 c15 c16 c17 f0 f1 f2 f3 f4 hS
  obtain ⟨c0, c1, c2, c3, c4, c5, c6, c7, c8, c9, c10, c11, c12, c13, c14, c15, c16, c17⟩ := Blk18 hS5.rn
  obtain ⟨f0, f1, f2, f3, f4⟩ := Blk5 hS5.fn
  have hS := Lib.hid hS5
  clear hS5
  go_wp2_with fail
  refine (hS.out.texts2 (by omega) old new s1 s2 E1.out E2.out (by omega) (by omega) _ (by first | rfl | simp)).mono ?_
  rintro e w5 ⟨rfl, hS5⟩
  clear c0 c1 c2 c3 c4 c5 c6 c7 c8 c9 c10 c11 c12 c13 c14 c15 c16 c17 f0 f1 f2 f3 f4 hS
  obtain ⟨c0, c1, c2, c3, c4, c5, c6, c7, c8, c9, c10, c11, c12, c13, c14, c15, c16, c17⟩ := Blk18 hS5.rn
  obtain ⟨f0, f1, f2, f3, f4⟩ := Blk5 hS5.fn
  have hS := Lib.hid hS5
  clear hS5
  go_wp2_with fail
  refine (hS.out.put1 (by omega) how 1 1 rfl (by omega) _ (by first | rfl | simp)).mono ?_
  rintro e w5 ⟨rfl, hS5⟩
  clear c0 c1 c2 c3 c4 c5 c6 c7 c8 c9 c10 c11 c12 c13 c14 c15 c16 c17 f0 f1 f2 f3 f4 hS
  obtain ⟨c0, c1, c2, c3, c4, c5, c6, c7, c8, c9, c10, c11, c12, c13, c14, c15, c16, c17⟩ := Blk18 hS5.rn
  obtain ⟨f0, f1, f2, f3, f4⟩ := Blk5 hS5.fn
  have hS := Lib.hid hS5
  clear hS5
  clear c0 c1 c2 c4 c5 c6 c7 c8 c9 c10 c12 c13 c14 c15 c16 c17
  go_wp2_with fail
  refine (Wr.bldString_any _ _ _ _ hS.out.bl hS.out.hB (by simp only [List.nil_append, List.append_assoc]; intro e; exact putL_ne _ _ (by omega) (List.append_eq_nil_iff.1 e).1)).mono ?_
  rintro e w9 ⟨rfl, _, hb9, _⟩
  have HBE := hS.out.hb.trans (hb9.mono hS.out.hw)
  clear hS hb9
  go_wp2_with fail
  go_ret
  exact ⟨ret_str (by rw [HBD.out]; try simp only [List.nil_append, List.append_assoc, List.append_nil]), HBE⟩

set_option maxHeartbeats 16000000 in
set_option maxRecDepth 100000 in
theorem body_chho (r : Rc) (vt vd : Value) (w : World) (hv : ElAt w 4 vt (txC r.txns)) (hd : ElAt w 2 vd (dyC r.dirty)) (hs : r.txns.length ≤ 1000) (hs2 : r.dirty.length ≤ 2000) (ho1 : r.old.length ≤ 512) (ho2 : r.new.length ≤ 512) (ho3 : r.key.length ≤ 100) (hk0 : chF r.kind = true) (hk1 : hoF r.kind = true) (hk2 : neF r.kind = false) (hk3 : liF r.kind = false) (hk4 : isF r.kind = true) (hho : r.how ≠ 1) :
    Calls Try.prog 17 #[.agg (rcC r vt vd)] w (Ret (.string (S (bodyL r))) w) := by
  have HBD : bodyL r = headL r ++ chL r ++ hoL r ++ [] ++ [] := by
    rw [bodyL, hk0, hk1, hk2, hk3]
    simp only [if_true, if_false, Bool.false_eq_true]
  have HOF := fun W => of_any r.kind W
  simp only [formV] at HOF
  rw [hk0, hk1, hk2, hk3, hk4] at HOF
  obtain ⟨BL, hBL⟩ : ∃ B, bodyL r = B := ⟨_, rfl⟩
  rw [hBL] at HBD ⊢
  clear hBL hk0 hk1 hk2 hk3 hk4 hs hs2
  obtain ⟨ao, cap, hva⟩ := hv.nil
  obtain ⟨bo, cap2, hvb⟩ := hd.nil
  clear hv hd
  obtain ⟨lsn, prev, txn, kind, page, next, num, ok, os, old, new, how, root, key, rp, rs, txns, dirty⟩ := r
  simp only [rcC, headL, chL, hoL, neL, List.append_assoc, List.append_nil, List.nil_append] at *
  have hw1 : (how != 1) = true := by simp [hho]
  rw [if_neg hho] at HBD
  clear hho
  obtain ⟨n1, hn1⟩ : ∃ n, (txC txns).length = n := ⟨_, rfl⟩
  obtain ⟨n2, hn2⟩ : ∃ n, (dyC dirty).length = n := ⟨_, rfl⟩
  rw [hn1] at hva
  rw [hn2] at hvb
  subst hva hvb
  clear hn1 hn2
  obtain ⟨s1, e1⟩ : ∃ x, S old = x := ⟨_, rfl⟩
  obtain ⟨s2, e2⟩ : ∃ x, S new = x := ⟨_, rfl⟩
  obtain ⟨s3, e3⟩ : ∃ x, S key = x := ⟨_, rfl⟩
  simp only [e1, e2, e3]
  replace HBD := Lib.hid HBD
  replace HOF := Lib.hid HOF
  have E1 := Lib.hid e1
  have E2 := Lib.hid e2
  have E3 := Lib.hid e3
  clear e1 e2 e3
  have hb0 := (Below.refl w.heap.size w).alloc (Nat.le_refl _) (.cells #[.int .i64 lsn, .int .i64 prev, .int .i64 txn, .int .i64 kind, .int .i64 page, .int .i64 next, .int .i64 num, .int .i64 ok, .int .i64 os, .string s1, .string s2, .int .i64 how, .int .i64 root, .string s3, .int .i64 rp, .int .i64 rs, .slice ao n1 cap, .slice bo n2 cap2] 31)
  have hN0 := Blk.new w #[.int .i64 lsn, .int .i64 prev, .int .i64 txn, .int .i64 kind, .int .i64 page, .int .i64 next, .int .i64 num, .int .i64 ok, .int .i64 os, .string s1, .string s2, .int .i64 how, .int .i64 root, .string s3, .int .i64 rp, .int .i64 rs, .slice ao n1 cap, .slice bo n2 cap2] 31
  go_enter Try.func17, Try.ntmps17
  go_wp2_with fail
  refine (HOF.out _).mono ?_
  rintro e w1 ⟨rfl, hb1⟩
  have hN1 := hN0.below hb1
  have hw1' := hb0.next hb1
  have hlt1 := hN0.lt
  have hlt2 := hb1.size
  have hRF : w.heap.size < w1.heap.size := by omega
  have hN1 := hN1.alloc (.cells #[.bool true, .bool true, .bool false, .bool false, .bool true] 60)
  have hF1 := Blk.new w1 #[.bool true, .bool true, .bool false, .bool false, .bool true] 60
  have hw2 := hw1'.alloc hw1'.size (.cells #[.bool true, .bool true, .bool false, .bool false, .bool true] 60)
  have hfr := BldAt.fresh (w1.alloc (.cells #[.bool true, .bool true, .bool false, .bool false, .bool true] 60))
  have hN2 := hN1.alloc (.cells #[.pointer none, .slice none 0 0] 82)
  have hF2 := hF1.alloc (.cells #[.pointer none, .slice none 0 0] 82)
  have hw3 := hw2.alloc hw2.size (.cells #[.pointer none, .slice none 0 0] 82)
  simp only [World.size_alloc] at hfr
  obtain ⟨B, HB⟩ : ∃ B, Hid (w1.heap.size + 1 = B) := ⟨_, rfl⟩
  obtain ⟨g0, HG0⟩ : ∃ B, Hid (w.heap.size = B) := ⟨_, rfl⟩
  obtain ⟨g1, HG1⟩ : ∃ B, Hid (w1.heap.size = B) := ⟨_, rfl⟩
  obtain ⟨FS, HFS⟩ : ∃ C : Array Value, Hid (#[.bool true, .bool true, .bool false, .bool false, .bool true] = C) := ⟨_, rfl⟩
  rw [HB.out] at hfr
  have hS0 : BS w ((w1.alloc (.cells #[.bool true, .bool true, .bool false, .bool false, .bool true] 60)).alloc (.cells #[.pointer none, .slice none 0 0] 82)) B g0 g1 #[.int .i64 lsn, .int .i64 prev, .int .i64 txn, .int .i64 kind, .int .i64 page, .int .i64 next, .int .i64 num, .int .i64 ok, .int .i64 os, .string s1, .string s2, .int .i64 how, .int .i64 root, .string s3, .int .i64 rp, .int .i64 rs, .slice ao n1 cap, .slice bo n2 cap2] #[.bool true, .bool true, .bool false, .bool false, .bool true] [] 0 :=
    ⟨hfr, by rw [← HG0.out]; exact hN2, by rw [← HG1.out]; exact hF2, hw3, by rw [← HB.out]; simp, by rw [← HB.out, ← HG0.out]; omega, by rw [← HB.out, ← HG1.out]; omega, by rw [← HB.out]; omega, Nat.le_refl _⟩
  clear hN0 hN1 hF1 hw1' hw2 hN2 hF2 hw3 hfr hlt1 hlt2 hRF HFS hb0 hb1 HOF
  go_upto_region 3 with fail
  rw [HB.out, HG0.out, HG1.out]
  clear HB HG0 HG1
  generalize ((w1.alloc (.cells #[.bool true, .bool true, .bool false, .bool false, .bool true] 60)).alloc (.cells #[.pointer none, .slice none 0 0] 82)) = W3 at hS0 ⊢
  obtain ⟨c0, c1, c2, c3, c4, c5, c6, c7, c8, c9, c10, c11, c12, c13, c14, c15, c16, c17⟩ := Blk18 hS0.rn
  obtain ⟨f0, f1, f2, f3, f4⟩ := Blk5 hS0.fn
  have hS := Lib.hid hS0
  clear hS0
  go_wp2_with fail
  refine (hS.out.put1 (by omega) kind 1 1 rfl (by omega) _ (by first | rfl | simp)).mono ?_
  rintro e w5 ⟨rfl, hS5⟩
  clear c0 c1 c2 c3 c4 c5 c6 c7 c8 c9 c10 c11 c12 c13 c14 c15 c16 c17 f0 f1 f2 f3 f4 hS
  obtain ⟨c0, c1, c2, c3, c4, c5, c6, c7, c8, c9, c10, c11, c12, c13, c14, c15, c16, c17⟩ := Blk18 hS5.rn
  obtain ⟨f0, f1, f2, f3, f4⟩ := Blk5 hS5.fn
  have hS := Lib.hid hS5
  clear hS5
  go_wp2_with fail
  refine (hS.out.put3 (by omega) lsn prev txn 6 6 rfl (by omega) _ (by first | rfl | simp)).mono ?_
  rintro e w5 ⟨rfl, hS5⟩
  clear c0 c1 c2 c3 c4 c5 c6 c7 c8 c9 c10 c11 c12 c13 c14 c15 c16 c17 f0 f1 f2 f3 f4 hS
  obtain ⟨c0, c1, c2, c3, c4, c5, c6, c7, c8, c9, c10, c11, c12, c13, c14, c15, c16, c17⟩ := Blk18 hS5.rn
  obtain ⟨f0, f1, f2, f3, f4⟩ := Blk5 hS5.fn
  have hS := Lib.hid hS5
  clear hS5
  go_wp2_with fail
  refine (hS.out.put1 (by omega) page 3 3 rfl (by omega) _ (by first | rfl | simp)).mono ?_
  rintro e w5 ⟨rfl, hS5⟩
  clear c0 c1 c2 c3 c4 c5 c6 c7 c8 c9 c10 c11 c12 c13 c14 c15 c16 c17 f0 f1 f2 f3 f4 hS
  obtain ⟨c0, c1, c2, c3, c4, c5, c6, c7, c8, c9, c10, c11, c12, c13, c14, c15, c16, c17⟩ := Blk18 hS5.rn
  obtain ⟨f0, f1, f2, f3, f4⟩ := Blk5 hS5.fn
  have hS := Lib.hid hS5
  clear hS5
  go_wp2_with fail
  refine (hS.out.put1 (by omega) ok 1 1 rfl (by omega) _ (by first | rfl | simp)).mono ?_
  rintro e w5 ⟨rfl, hS5⟩
  clear c0 c1 c2 c3 c4 c5 c6 c7 c8 c9 c10 c11 c12 c13 c14 c15 c16 c17 f0 f1 f2 f3 f4 hS
  obtain ⟨c0, c1, c2, c3, c4, c5, c6, c7, c8, c9, c10, c11, c12, c13, c14, c15, c16, c17⟩ := Blk18 hS5.rn
  obtain ⟨f0, f1, f2, f3, f4⟩ := Blk5 hS5.fn
  have hS := Lib.hid hS5
  clear hS5
  go_wp2_with fail
  refine (hS.out.put1 (by omega) os 2 2 rfl (by omega) _ (by first | rfl | simp)).mono ?_
  rintro e w5 ⟨rfl, hS5⟩
  clear c0 c1 c2 c3 c4 c5 c6 c7 c8 c9 c10 c11 c12 c13 c14 c15 c16 c17 f0 f1 f2 f3 f4 hS
  obtain ⟨c0, c1, c2, c3, c4, c5, c6, c7, c8, c9, c10, c11, c12, c13, c14, c15, c16, c17⟩ := Blk18 hS5.rn
  obtain ⟨f0, f1, f2, f3, f4⟩ := Blk5 hS5.fn
  have hS := Lib.hid hS5
  clear hS5
  go_wp2_with fail
  refine (hS.out.texts2 (by omega) old new s1 s2 E1.out E2.out (by omega) (by omega) _ (by first | rfl | simp)).mono ?_
  rintro e w5 ⟨rfl, hS5⟩
  clear c0 c1 c2 c3 c4 c5 c6 c7 c8 c9 c10 c11 c12 c13 c14 c15 c16 c17 f0 f1 f2 f3 f4 hS
  obtain ⟨c0, c1, c2, c3, c4, c5, c6, c7, c8, c9, c10, c11, c12, c13, c14, c15, c16, c17⟩ := Blk18 hS5.rn
  obtain ⟨f0, f1, f2, f3, f4⟩ := Blk5 hS5.fn
  have hS := Lib.hid hS5
  clear hS5
  go_wp2_with fail
  refine (hS.out.put1 (by omega) how 1 1 rfl (by omega) _ (by first | rfl | simp)).mono ?_
  rintro e w5 ⟨rfl, hS5⟩
  clear c0 c1 c2 c3 c4 c5 c6 c7 c8 c9 c10 c11 c12 c13 c14 c15 c16 c17 f0 f1 f2 f3 f4 hS
  obtain ⟨c0, c1, c2, c3, c4, c5, c6, c7, c8, c9, c10, c11, c12, c13, c14, c15, c16, c17⟩ := Blk18 hS5.rn
  obtain ⟨f0, f1, f2, f3, f4⟩ := Blk5 hS5.fn
  have hS := Lib.hid hS5
  clear hS5
  go_wp2_with fail
  refine (hS.out.put2 (by omega) root rp 3 3 rfl (by omega) _ (by first | rfl | simp)).mono ?_
  rintro e w5 ⟨rfl, hS5⟩
  clear c0 c1 c2 c3 c4 c5 c6 c7 c8 c9 c10 c11 c12 c13 c14 c15 c16 c17 f0 f1 f2 f3 f4 hS
  obtain ⟨c0, c1, c2, c3, c4, c5, c6, c7, c8, c9, c10, c11, c12, c13, c14, c15, c16, c17⟩ := Blk18 hS5.rn
  obtain ⟨f0, f1, f2, f3, f4⟩ := Blk5 hS5.fn
  have hS := Lib.hid hS5
  clear hS5
  go_wp2_with fail
  refine (hS.out.put1 (by omega) rs 2 2 rfl (by omega) _ (by first | rfl | simp)).mono ?_
  rintro e w5 ⟨rfl, hS5⟩
  clear c0 c1 c2 c3 c4 c5 c6 c7 c8 c9 c10 c11 c12 c13 c14 c15 c16 c17 f0 f1 f2 f3 f4 hS
  obtain ⟨c0, c1, c2, c3, c4, c5, c6, c7, c8, c9, c10, c11, c12, c13, c14, c15, c16, c17⟩ := Blk18 hS5.rn
  obtain ⟨f0, f1, f2, f3, f4⟩ := Blk5 hS5.fn
  have hS := Lib.hid hS5
  clear hS5
  go_wp2_with fail
  refine (hS.out.texts1 (by omega) key s3 E3.out (by omega) _ (by first | rfl | simp)).mono ?_
  rintro e w5 ⟨rfl, hS5⟩
  clear c0 c1 c2 c3 c4 c5 c6 c7 c8 c9 c10 c11 c12 c13 c14 c15 c16 c17 f0 f1 f2 f3 f4 hS
  obtain ⟨c0, c1, c2, c3, c4, c5, c6, c7, c8, c9, c10, c11, c12, c13, c14, c15, c16, c17⟩ := Blk18 hS5.rn
  obtain ⟨f0, f1, f2, f3, f4⟩ := Blk5 hS5.fn
  have hS := Lib.hid hS5
  clear hS5
  clear c0 c1 c2 c4 c5 c6 c7 c8 c9 c10 c12 c13 c14 c15 c16 c17
  go_wp2_with fail
  refine (Wr.bldString_any _ _ _ _ hS.out.bl hS.out.hB (by simp only [List.nil_append, List.append_assoc]; intro e; exact putL_ne _ _ (by omega) (List.append_eq_nil_iff.1 e).1)).mono ?_
  rintro e w9 ⟨rfl, _, hb9, _⟩
  have HBE := hS.out.hb.trans (hb9.mono hS.out.hw)
  clear hS hb9
  go_wp2_with fail
  go_ret
  exact ⟨ret_str (by rw [HBD.out]; try simp only [List.nil_append, List.append_assoc, List.append_nil]), HBE⟩

set_option maxHeartbeats 16000000 in
set_option maxRecDepth 100000 in
theorem body_chne (r : Rc) (vt vd : Value) (w : World) (hv : ElAt w 4 vt (txC r.txns)) (hd : ElAt w 2 vd (dyC r.dirty)) (hs : r.txns.length ≤ 1000) (hs2 : r.dirty.length ≤ 2000) (ho1 : r.old.length ≤ 512) (ho2 : r.new.length ≤ 512) (ho3 : r.key.length ≤ 100) (hk0 : chF r.kind = true) (hk1 : hoF r.kind = false) (hk2 : neF r.kind = true) (hk3 : liF r.kind = false) (hk4 : isF r.kind = true) :
    Calls Try.prog 17 #[.agg (rcC r vt vd)] w (Ret (.string (S (bodyL r))) w) := by
  have HBD : bodyL r = headL r ++ chL r ++ [] ++ neL r ++ [] := by
    rw [bodyL, hk0, hk1, hk2, hk3]
    simp only [if_true, if_false, Bool.false_eq_true]
  have HOF := fun W => of_any r.kind W
  simp only [formV] at HOF
  rw [hk0, hk1, hk2, hk3, hk4] at HOF
  obtain ⟨BL, hBL⟩ : ∃ B, bodyL r = B := ⟨_, rfl⟩
  rw [hBL] at HBD ⊢
  clear hBL hk0 hk1 hk2 hk3 hk4 hs hs2
  obtain ⟨ao, cap, hva⟩ := hv.nil
  obtain ⟨bo, cap2, hvb⟩ := hd.nil
  clear hv hd
  obtain ⟨lsn, prev, txn, kind, page, next, num, ok, os, old, new, how, root, key, rp, rs, txns, dirty⟩ := r
  simp only [rcC, headL, chL, hoL, neL, List.append_assoc, List.append_nil, List.nil_append] at *
  obtain ⟨n1, hn1⟩ : ∃ n, (txC txns).length = n := ⟨_, rfl⟩
  obtain ⟨n2, hn2⟩ : ∃ n, (dyC dirty).length = n := ⟨_, rfl⟩
  rw [hn1] at hva
  rw [hn2] at hvb
  subst hva hvb
  clear hn1 hn2
  obtain ⟨s1, e1⟩ : ∃ x, S old = x := ⟨_, rfl⟩
  obtain ⟨s2, e2⟩ : ∃ x, S new = x := ⟨_, rfl⟩
  obtain ⟨s3, e3⟩ : ∃ x, S key = x := ⟨_, rfl⟩
  simp only [e1, e2, e3]
  replace HBD := Lib.hid HBD
  replace HOF := Lib.hid HOF
  have E1 := Lib.hid e1
  have E2 := Lib.hid e2
  have E3 := Lib.hid e3
  clear e1 e2 e3
  have hb0 := (Below.refl w.heap.size w).alloc (Nat.le_refl _) (.cells #[.int .i64 lsn, .int .i64 prev, .int .i64 txn, .int .i64 kind, .int .i64 page, .int .i64 next, .int .i64 num, .int .i64 ok, .int .i64 os, .string s1, .string s2, .int .i64 how, .int .i64 root, .string s3, .int .i64 rp, .int .i64 rs, .slice ao n1 cap, .slice bo n2 cap2] 31)
  have hN0 := Blk.new w #[.int .i64 lsn, .int .i64 prev, .int .i64 txn, .int .i64 kind, .int .i64 page, .int .i64 next, .int .i64 num, .int .i64 ok, .int .i64 os, .string s1, .string s2, .int .i64 how, .int .i64 root, .string s3, .int .i64 rp, .int .i64 rs, .slice ao n1 cap, .slice bo n2 cap2] 31
  go_enter Try.func17, Try.ntmps17
  go_wp2_with fail
  refine (HOF.out _).mono ?_
  rintro e w1 ⟨rfl, hb1⟩
  have hN1 := hN0.below hb1
  have hw1' := hb0.next hb1
  have hlt1 := hN0.lt
  have hlt2 := hb1.size
  have hRF : w.heap.size < w1.heap.size := by omega
  have hN1 := hN1.alloc (.cells #[.bool true, .bool false, .bool true, .bool false, .bool true] 60)
  have hF1 := Blk.new w1 #[.bool true, .bool false, .bool true, .bool false, .bool true] 60
  have hw2 := hw1'.alloc hw1'.size (.cells #[.bool true, .bool false, .bool true, .bool false, .bool true] 60)
  have hfr := BldAt.fresh (w1.alloc (.cells #[.bool true, .bool false, .bool true, .bool false, .bool true] 60))
  have hN2 := hN1.alloc (.cells #[.pointer none, .slice none 0 0] 82)
  have hF2 := hF1.alloc (.cells #[.pointer none, .slice none 0 0] 82)
  have hw3 := hw2.alloc hw2.size (.cells #[.pointer none, .slice none 0 0] 82)
  simp only [World.size_alloc] at hfr
  obtain ⟨B, HB⟩ : ∃ B, Hid (w1.heap.size + 1 = B) := ⟨_, rfl⟩
  obtain ⟨g0, HG0⟩ : ∃ B, Hid (w.heap.size = B) := ⟨_, rfl⟩
  obtain ⟨g1, HG1⟩ : ∃ B, Hid (w1.heap.size = B) := ⟨_, rfl⟩
  obtain ⟨FS, HFS⟩ : ∃ C : Array Value, Hid (#[.bool true, .bool false, .bool true, .bool false, .bool true] = C) := ⟨_, rfl⟩
  rw [HB.out] at hfr
  have hS0 : BS w ((w1.alloc (.cells #[.bool true, .bool false, .bool true, .bool false, .bool true] 60)).alloc (.cells #[.pointer none, .slice none 0 0] 82)) B g0 g1 #[.int .i64 lsn, .int .i64 prev, .int .i64 txn, .int .i64 kind, .int .i64 page, .int .i64 next, .int .i64 num, .int .i64 ok, .int .i64 os, .string s1, .string s2, .int .i64 how, .int .i64 root, .string s3, .int .i64 rp, .int .i64 rs, .slice ao n1 cap, .slice bo n2 cap2] #[.bool true, .bool false, .bool true, .bool false, .bool true] [] 0 :=
    ⟨hfr, by rw [← HG0.out]; exact hN2, by rw [← HG1.out]; exact hF2, hw3, by rw [← HB.out]; simp, by rw [← HB.out, ← HG0.out]; omega, by rw [← HB.out, ← HG1.out]; omega, by rw [← HB.out]; omega, Nat.le_refl _⟩
  clear hN0 hN1 hF1 hw1' hw2 hN2 hF2 hw3 hfr hlt1 hlt2 hRF HFS hb0 hb1 HOF
  go_upto_region 3 with fail
  rw [HB.out, HG0.out, HG1.out]
  clear HB HG0 HG1
  generalize ((w1.alloc (.cells #[.bool true, .bool false, .bool true, .bool false, .bool true] 60)).alloc (.cells #[.pointer none, .slice none 0 0] 82)) = W3 at hS0 ⊢
  obtain ⟨c0, c1, c2, c3, c4, c5, c6, c7, c8, c9, c10, c11, c12, c13, c14, c15, c16, c17⟩ := Blk18 hS0.rn
  obtain ⟨f0, f1, f2, f3, f4⟩ := Blk5 hS0.fn
  have hS := Lib.hid hS0
  clear hS0
  go_wp2_with fail
  refine (hS.out.put1 (by omega) kind 1 1 rfl (by omega) _ (by first | rfl | simp)).mono ?_
  rintro e w5 ⟨rfl, hS5⟩
  clear c0 c1 c2 c3 c4 c5 c6 c7 c8 c9 c10 c11 c12 c13 c14 c15 c16 c17 f0 f1 f2 f3 f4 hS
  obtain ⟨c0, c1, c2, c3, c4, c5, c6, c7, c8, c9, c10, c11, c12, c13, c14, c15, c16, c17⟩ := Blk18 hS5.rn
  obtain ⟨f0, f1, f2, f3, f4⟩ := Blk5 hS5.fn
  have hS := Lib.hid hS5
  clear hS5
  go_wp2_with fail
  refine (hS.out.put3 (by omega) lsn prev txn 6 6 rfl (by omega) _ (by first | rfl | simp)).mono ?_
  rintro e w5 ⟨rfl, hS5⟩
  clear c0 c1 c2 c3 c4 c5 c6 c7 c8 c9 c10 c11 c12 c13 c14 c15 c16 c17 f0 f1 f2 f3 f4 hS
  obtain ⟨c0, c1, c2, c3, c4, c5, c6, c7, c8, c9, c10, c11, c12, c13, c14, c15, c16, c17⟩ := Blk18 hS5.rn
  obtain ⟨f0, f1, f2, f3, f4⟩ := Blk5 hS5.fn
  have hS := Lib.hid hS5
  clear hS5
  go_wp2_with fail
  refine (hS.out.put1 (by omega) page 3 3 rfl (by omega) _ (by first | rfl | simp)).mono ?_
  rintro e w5 ⟨rfl, hS5⟩
  clear c0 c1 c2 c3 c4 c5 c6 c7 c8 c9 c10 c11 c12 c13 c14 c15 c16 c17 f0 f1 f2 f3 f4 hS
  obtain ⟨c0, c1, c2, c3, c4, c5, c6, c7, c8, c9, c10, c11, c12, c13, c14, c15, c16, c17⟩ := Blk18 hS5.rn
  obtain ⟨f0, f1, f2, f3, f4⟩ := Blk5 hS5.fn
  have hS := Lib.hid hS5
  clear hS5
  go_wp2_with fail
  refine (hS.out.put1 (by omega) ok 1 1 rfl (by omega) _ (by first | rfl | simp)).mono ?_
  rintro e w5 ⟨rfl, hS5⟩
  clear c0 c1 c2 c3 c4 c5 c6 c7 c8 c9 c10 c11 c12 c13 c14 c15 c16 c17 f0 f1 f2 f3 f4 hS
  obtain ⟨c0, c1, c2, c3, c4, c5, c6, c7, c8, c9, c10, c11, c12, c13, c14, c15, c16, c17⟩ := Blk18 hS5.rn
  obtain ⟨f0, f1, f2, f3, f4⟩ := Blk5 hS5.fn
  have hS := Lib.hid hS5
  clear hS5
  go_wp2_with fail
  refine (hS.out.put1 (by omega) os 2 2 rfl (by omega) _ (by first | rfl | simp)).mono ?_
  rintro e w5 ⟨rfl, hS5⟩
  clear c0 c1 c2 c3 c4 c5 c6 c7 c8 c9 c10 c11 c12 c13 c14 c15 c16 c17 f0 f1 f2 f3 f4 hS
  obtain ⟨c0, c1, c2, c3, c4, c5, c6, c7, c8, c9, c10, c11, c12, c13, c14, c15, c16, c17⟩ := Blk18 hS5.rn
  obtain ⟨f0, f1, f2, f3, f4⟩ := Blk5 hS5.fn
  have hS := Lib.hid hS5
  clear hS5
  go_wp2_with fail
  refine (hS.out.texts2 (by omega) old new s1 s2 E1.out E2.out (by omega) (by omega) _ (by first | rfl | simp)).mono ?_
  rintro e w5 ⟨rfl, hS5⟩
  clear c0 c1 c2 c3 c4 c5 c6 c7 c8 c9 c10 c11 c12 c13 c14 c15 c16 c17 f0 f1 f2 f3 f4 hS
  obtain ⟨c0, c1, c2, c3, c4, c5, c6, c7, c8, c9, c10, c11, c12, c13, c14, c15, c16, c17⟩ := Blk18 hS5.rn
  obtain ⟨f0, f1, f2, f3, f4⟩ := Blk5 hS5.fn
  have hS := Lib.hid hS5
  clear hS5
  go_wp2_with fail
  refine (hS.out.put1 (by omega) next 6 6 rfl (by omega) _ (by first | rfl | simp)).mono ?_
  rintro e w5 ⟨rfl, hS5⟩
  clear c0 c1 c2 c3 c4 c5 c6 c7 c8 c9 c10 c11 c12 c13 c14 c15 c16 c17 f0 f1 f2 f3 f4 hS
  obtain ⟨c0, c1, c2, c3, c4, c5, c6, c7, c8, c9, c10, c11, c12, c13, c14, c15, c16, c17⟩ := Blk18 hS5.rn
  obtain ⟨f0, f1, f2, f3, f4⟩ := Blk5 hS5.fn
  have hS := Lib.hid hS5
  clear hS5
  clear c0 c1 c2 c4 c5 c6 c7 c8 c9 c10 c12 c13 c14 c15 c16 c17
  go_wp2_with fail
  refine (Wr.bldString_any _ _ _ _ hS.out.bl hS.out.hB (by simp only [List.nil_append, List.append_assoc]; intro e; exact putL_ne _ _ (by omega) (List.append_eq_nil_iff.1 e).1)).mono ?_
  rintro e w9 ⟨rfl, _, hb9, _⟩
  have HBE := hS.out.hb.trans (hb9.mono hS.out.hw)
  clear hS hb9
  go_wp2_with fail
  go_ret
  exact ⟨ret_str (by rw [HBD.out]; try simp only [List.nil_append, List.append_assoc, List.append_nil]), HBE⟩

set_option maxHeartbeats 16000000 in
set_option maxRecDepth 100000 in
theorem body_ne (r : Rc) (vt vd : Value) (w : World) (hv : ElAt w 4 vt (txC r.txns)) (hd : ElAt w 2 vd (dyC r.dirty)) (hs : r.txns.length ≤ 1000) (hs2 : r.dirty.length ≤ 2000) (ho1 : r.old.length ≤ 512) (ho2 : r.new.length ≤ 512) (ho3 : r.key.length ≤ 100) (hk0 : chF r.kind = false) (hk1 : hoF r.kind = false) (hk2 : neF r.kind = true) (hk3 : liF r.kind = false) (hk4 : isF r.kind = true) :
    Calls Try.prog 17 #[.agg (rcC r vt vd)] w (Ret (.string (S (bodyL r))) w) := by
  have HBD : bodyL r = headL r ++ [] ++ [] ++ neL r ++ [] := by
    rw [bodyL, hk0, hk1, hk2, hk3]
    simp only [if_true, if_false, Bool.false_eq_true]
  have HOF := fun W => of_any r.kind W
  simp only [formV] at HOF
  rw [hk0, hk1, hk2, hk3, hk4] at HOF
  obtain ⟨BL, hBL⟩ : ∃ B, bodyL r = B := ⟨_, rfl⟩
  rw [hBL] at HBD ⊢
  clear hBL hk0 hk1 hk2 hk3 hk4 hs hs2
  obtain ⟨ao, cap, hva⟩ := hv.nil
  obtain ⟨bo, cap2, hvb⟩ := hd.nil
  clear hv hd
  obtain ⟨lsn, prev, txn, kind, page, next, num, ok, os, old, new, how, root, key, rp, rs, txns, dirty⟩ := r
  simp only [rcC, headL, chL, hoL, neL, List.append_assoc, List.append_nil, List.nil_append] at *
  obtain ⟨n1, hn1⟩ : ∃ n, (txC txns).length = n := ⟨_, rfl⟩
  obtain ⟨n2, hn2⟩ : ∃ n, (dyC dirty).length = n := ⟨_, rfl⟩
  rw [hn1] at hva
  rw [hn2] at hvb
  subst hva hvb
  clear hn1 hn2
  obtain ⟨s1, e1⟩ : ∃ x, S old = x := ⟨_, rfl⟩
  obtain ⟨s2, e2⟩ : ∃ x, S new = x := ⟨_, rfl⟩
  obtain ⟨s3, e3⟩ : ∃ x, S key = x := ⟨_, rfl⟩
  simp only [e1, e2, e3]
  replace HBD := Lib.hid HBD
  replace HOF := Lib.hid HOF
  have E1 := Lib.hid e1
  have E2 := Lib.hid e2
  have E3 := Lib.hid e3
  clear e1 e2 e3
  have hb0 := (Below.refl w.heap.size w).alloc (Nat.le_refl _) (.cells #[.int .i64 lsn, .int .i64 prev, .int .i64 txn, .int .i64 kind, .int .i64 page, .int .i64 next, .int .i64 num, .int .i64 ok, .int .i64 os, .string s1, .string s2, .int .i64 how, .int .i64 root, .string s3, .int .i64 rp, .int .i64 rs, .slice ao n1 cap, .slice bo n2 cap2] 31)
  have hN0 := Blk.new w #[.int .i64 lsn, .int .i64 prev, .int .i64 txn, .int .i64 kind, .int .i64 page, .int .i64 next, .int .i64 num, .int .i64 ok, .int .i64 os, .string s1, .string s2, .int .i64 how, .int .i64 root, .string s3, .int .i64 rp, .int .i64 rs, .slice ao n1 cap, .slice bo n2 cap2] 31
  go_enter Try.func17, Try.ntmps17
  go_wp2_with fail
  refine (HOF.out _).mono ?_
  rintro e w1 ⟨rfl, hb1⟩
  have hN1 := hN0.below hb1
  have hw1' := hb0.next hb1
  have hlt1 := hN0.lt
  have hlt2 := hb1.size
  have hRF : w.heap.size < w1.heap.size := by omega
  have hN1 := hN1.alloc (.cells #[.bool false, .bool false, .bool true, .bool false, .bool true] 60)
  have hF1 := Blk.new w1 #[.bool false, .bool false, .bool true, .bool false, .bool true] 60
  have hw2 := hw1'.alloc hw1'.size (.cells #[.bool false, .bool false, .bool true, .bool false, .bool true] 60)
  have hfr := BldAt.fresh (w1.alloc (.cells #[.bool false, .bool false, .bool true, .bool false, .bool true] 60))
  have hN2 := hN1.alloc (.cells #[.pointer none, .slice none 0 0] 82)
  have hF2 := hF1.alloc (.cells #[.pointer none, .slice none 0 0] 82)
  have hw3 := hw2.alloc hw2.size (.cells #[.pointer none, .slice none 0 0] 82)
  simp only [World.size_alloc] at hfr
  obtain ⟨B, HB⟩ : ∃ B, Hid (w1.heap.size + 1 = B) := ⟨_, rfl⟩
  obtain ⟨g0, HG0⟩ : ∃ B, Hid (w.heap.size = B) := ⟨_, rfl⟩
  obtain ⟨g1, HG1⟩ : ∃ B, Hid (w1.heap.size = B) := ⟨_, rfl⟩
  obtain ⟨FS, HFS⟩ : ∃ C : Array Value, Hid (#[.bool false, .bool false, .bool true, .bool false, .bool true] = C) := ⟨_, rfl⟩
  rw [HB.out] at hfr
  have hS0 : BS w ((w1.alloc (.cells #[.bool false, .bool false, .bool true, .bool false, .bool true] 60)).alloc (.cells #[.pointer none, .slice none 0 0] 82)) B g0 g1 #[.int .i64 lsn, .int .i64 prev, .int .i64 txn, .int .i64 kind, .int .i64 page, .int .i64 next, .int .i64 num, .int .i64 ok, .int .i64 os, .string s1, .string s2, .int .i64 how, .int .i64 root, .string s3, .int .i64 rp, .int .i64 rs, .slice ao n1 cap, .slice bo n2 cap2] #[.bool false, .bool false, .bool true, .bool false, .bool true] [] 0 :=
    ⟨hfr, by rw [← HG0.out]; exact hN2, by rw [← HG1.out]; exact hF2, hw3, by rw [← HB.out]; simp, by rw [← HB.out, ← HG0.out]; omega, by rw [← HB.out, ← HG1.out]; omega, by rw [← HB.out]; omega, Nat.le_refl _⟩
  clear hN0 hN1 hF1 hw1' hw2 hN2 hF2 hw3 hfr hlt1 hlt2 hRF HFS hb0 hb1 HOF
  go_upto_region 3 with fail
  rw [HB.out, HG0.out, HG1.out]
  clear HB HG0 HG1
  generalize ((w1.alloc (.cells #[.bool false, .bool false, .bool true, .bool false, .bool true] 60)).alloc (.cells #[.pointer none, .slice none 0 0] 82)) = W3 at hS0 ⊢
  obtain ⟨c0, c1, c2, c3, c4, c5, c6, c7, c8, c9, c10, c11, c12, c13, c14, c15, c16, c17⟩ := Blk18 hS0.rn
  obtain ⟨f0, f1, f2, f3, f4⟩ := Blk5 hS0.fn
  have hS := Lib.hid hS0
  clear hS0
  go_wp2_with fail
  refine (hS.out.put1 (by omega) kind 1 1 rfl (by omega) _ (by first | rfl | simp)).mono ?_
  rintro e w5 ⟨rfl, hS5⟩
  clear c0 c1 c2 c3 c4 c5 c6 c7 c8 c9 c10 c11 c12 c13 c14 c15 c16 c17 f0 f1 f2 f3 f4 hS
  obtain ⟨c0, c1, c2, c3, c4, c5, c6, c7, c8, c9, c10, c11, c12, c13, c14, c15, c16, c17⟩ := Blk18 hS5.rn
  obtain ⟨f0, f1, f2, f3, f4⟩ := Blk5 hS5.fn
  have hS := Lib.hid hS5
  clear hS5
  go_wp2_with fail
  refine (hS.out.put3 (by omega) lsn prev txn 6 6 rfl (by omega) _ (by first | rfl | simp)).mono ?_
  rintro e w5 ⟨rfl, hS5⟩
  clear c0 c1 c2 c3 c4 c5 c6 c7 c8 c9 c10 c11 c12 c13 c14 c15 c16 c17 f0 f1 f2 f3 f4 hS
  obtain ⟨c0, c1, c2, c3, c4, c5, c6, c7, c8, c9, c10, c11, c12, c13, c14, c15, c16, c17⟩ := Blk18 hS5.rn
  obtain ⟨f0, f1, f2, f3, f4⟩ := Blk5 hS5.fn
  have hS := Lib.hid hS5
  clear hS5
  go_wp2_with fail
  refine (hS.out.put1 (by omega) next 6 6 rfl (by omega) _ (by first | rfl | simp)).mono ?_
  rintro e w5 ⟨rfl, hS5⟩
  clear c0 c1 c2 c3 c4 c5 c6 c7 c8 c9 c10 c11 c12 c13 c14 c15 c16 c17 f0 f1 f2 f3 f4 hS
  obtain ⟨c0, c1, c2, c3, c4, c5, c6, c7, c8, c9, c10, c11, c12, c13, c14, c15, c16, c17⟩ := Blk18 hS5.rn
  obtain ⟨f0, f1, f2, f3, f4⟩ := Blk5 hS5.fn
  have hS := Lib.hid hS5
  clear hS5
  clear c0 c1 c2 c4 c5 c6 c7 c8 c9 c10 c12 c13 c14 c15 c16 c17
  go_wp2_with fail
  refine (Wr.bldString_any _ _ _ _ hS.out.bl hS.out.hB (by simp only [List.nil_append, List.append_assoc]; intro e; exact putL_ne _ _ (by omega) (List.append_eq_nil_iff.1 e).1)).mono ?_
  rintro e w9 ⟨rfl, _, hb9, _⟩
  have HBE := hS.out.hb.trans (hb9.mono hS.out.hw)
  clear hS hb9
  go_wp2_with fail
  go_ret
  exact ⟨ret_str (by rw [HBD.out]; try simp only [List.nil_append, List.append_assoc, List.append_nil]), HBE⟩

set_option maxHeartbeats 16000000 in
set_option maxRecDepth 100000 in
theorem body_c (r : Rc) (vt vd : Value) (w : World) (hv : ElAt w 4 vt (txC r.txns)) (hd : ElAt w 2 vd (dyC r.dirty)) (hs : r.txns.length ≤ 1000) (hs2 : r.dirty.length ≤ 2000) (ho1 : r.old.length ≤ 512) (ho2 : r.new.length ≤ 512) (ho3 : r.key.length ≤ 100) (hk0 : chF r.kind = true) (hk1 : hoF r.kind = false) (hk2 : neF r.kind = false) (hk3 : liF r.kind = false) (hk4 : isF r.kind = true) :
    Calls Try.prog 17 #[.agg (rcC r vt vd)] w (Ret (.string (S (bodyL r))) w) := by
  have HBD : bodyL r = headL r ++ chL r ++ [] ++ [] ++ [] := by
    rw [bodyL, hk0, hk1, hk2, hk3]
    simp only [if_true, if_false, Bool.false_eq_true]
  have HOF := fun W => of_any r.kind W
  simp only [formV] at HOF
  rw [hk0, hk1, hk2, hk3, hk4] at HOF
  obtain ⟨BL, hBL⟩ : ∃ B, bodyL r = B := ⟨_, rfl⟩
  rw [hBL] at HBD ⊢
  clear hBL hk0 hk1 hk2 hk3 hk4 hs hs2
  obtain ⟨ao, cap, hva⟩ := hv.nil
  obtain ⟨bo, cap2, hvb⟩ := hd.nil
  clear hv hd
  obtain ⟨lsn, prev, txn, kind, page, next, num, ok, os, old, new, how, root, key, rp, rs, txns, dirty⟩ := r
  simp only [rcC, headL, chL, hoL, neL, List.append_assoc, List.append_nil, List.nil_append] at *
  obtain ⟨n1, hn1⟩ : ∃ n, (txC txns).length = n := ⟨_, rfl⟩
  obtain ⟨n2, hn2⟩ : ∃ n, (dyC dirty).length = n := ⟨_, rfl⟩
  rw [hn1] at hva
  rw [hn2] at hvb
  subst hva hvb
  clear hn1 hn2
  obtain ⟨s1, e1⟩ : ∃ x, S old = x := ⟨_, rfl⟩
  obtain ⟨s2, e2⟩ : ∃ x, S new = x := ⟨_, rfl⟩
  obtain ⟨s3, e3⟩ : ∃ x, S key = x := ⟨_, rfl⟩
  simp only [e1, e2, e3]
  replace HBD := Lib.hid HBD
  replace HOF := Lib.hid HOF
  have E1 := Lib.hid e1
  have E2 := Lib.hid e2
  have E3 := Lib.hid e3
  clear e1 e2 e3
  have hb0 := (Below.refl w.heap.size w).alloc (Nat.le_refl _) (.cells #[.int .i64 lsn, .int .i64 prev, .int .i64 txn, .int .i64 kind, .int .i64 page, .int .i64 next, .int .i64 num, .int .i64 ok, .int .i64 os, .string s1, .string s2, .int .i64 how, .int .i64 root, .string s3, .int .i64 rp, .int .i64 rs, .slice ao n1 cap, .slice bo n2 cap2] 31)
  have hN0 := Blk.new w #[.int .i64 lsn, .int .i64 prev, .int .i64 txn, .int .i64 kind, .int .i64 page, .int .i64 next, .int .i64 num, .int .i64 ok, .int .i64 os, .string s1, .string s2, .int .i64 how, .int .i64 root, .string s3, .int .i64 rp, .int .i64 rs, .slice ao n1 cap, .slice bo n2 cap2] 31
  go_enter Try.func17, Try.ntmps17
  go_wp2_with fail
  refine (HOF.out _).mono ?_
  rintro e w1 ⟨rfl, hb1⟩
  have hN1 := hN0.below hb1
  have hw1' := hb0.next hb1
  have hlt1 := hN0.lt
  have hlt2 := hb1.size
  have hRF : w.heap.size < w1.heap.size := by omega
  have hN1 := hN1.alloc (.cells #[.bool true, .bool false, .bool false, .bool false, .bool true] 60)
  have hF1 := Blk.new w1 #[.bool true, .bool false, .bool false, .bool false, .bool true] 60
  have hw2 := hw1'.alloc hw1'.size (.cells #[.bool true, .bool false, .bool false, .bool false, .bool true] 60)
  have hfr := BldAt.fresh (w1.alloc (.cells #[.bool true, .bool false, .bool false, .bool false, .bool true] 60))
  have hN2 := hN1.alloc (.cells #[.pointer none, .slice none 0 0] 82)
  have hF2 := hF1.alloc (.cells #[.pointer none, .slice none 0 0] 82)
  have hw3 := hw2.alloc hw2.size (.cells #[.pointer none, .slice none 0 0] 82)
  simp only [World.size_alloc] at hfr
  obtain ⟨B, HB⟩ : ∃ B, Hid (w1.heap.size + 1 = B) := ⟨_, rfl⟩
  obtain ⟨g0, HG0⟩ : ∃ B, Hid (w.heap.size = B) := ⟨_, rfl⟩
  obtain ⟨g1, HG1⟩ : ∃ B, Hid (w1.heap.size = B) := ⟨_, rfl⟩
  obtain ⟨FS, HFS⟩ : ∃ C : Array Value, Hid (#[.bool true, .bool false, .bool false, .bool false, .bool true] = C) := ⟨_, rfl⟩
  rw [HB.out] at hfr
  have hS0 : BS w ((w1.alloc (.cells #[.bool true, .bool false, .bool false, .bool false, .bool true] 60)).alloc (.cells #[.pointer none, .slice none 0 0] 82)) B g0 g1 #[.int .i64 lsn, .int .i64 prev, .int .i64 txn, .int .i64 kind, .int .i64 page, .int .i64 next, .int .i64 num, .int .i64 ok, .int .i64 os, .string s1, .string s2, .int .i64 how, .int .i64 root, .string s3, .int .i64 rp, .int .i64 rs, .slice ao n1 cap, .slice bo n2 cap2] #[.bool true, .bool false, .bool false, .bool false, .bool true] [] 0 :=
    ⟨hfr, by rw [← HG0.out]; exact hN2, by rw [← HG1.out]; exact hF2, hw3, by rw [← HB.out]; simp, by rw [← HB.out, ← HG0.out]; omega, by rw [← HB.out, ← HG1.out]; omega, by rw [← HB.out]; omega, Nat.le_refl _⟩
  clear hN0 hN1 hF1 hw1' hw2 hN2 hF2 hw3 hfr hlt1 hlt2 hRF HFS hb0 hb1 HOF
  go_upto_region 3 with fail
  rw [HB.out, HG0.out, HG1.out]
  clear HB HG0 HG1
  generalize ((w1.alloc (.cells #[.bool true, .bool false, .bool false, .bool false, .bool true] 60)).alloc (.cells #[.pointer none, .slice none 0 0] 82)) = W3 at hS0 ⊢
  obtain ⟨c0, c1, c2, c3, c4, c5, c6, c7, c8, c9, c10, c11, c12, c13, c14, c15, c16, c17⟩ := Blk18 hS0.rn
  obtain ⟨f0, f1, f2, f3, f4⟩ := Blk5 hS0.fn
  have hS := Lib.hid hS0
  clear hS0
  go_wp2_with fail
  refine (hS.out.put1 (by omega) kind 1 1 rfl (by omega) _ (by first | rfl | simp)).mono ?_
  rintro e w5 ⟨rfl, hS5⟩
  clear c0 c1 c2 c3 c4 c5 c6 c7 c8 c9 c10 c11 c12 c13 c14 c15 c16 c17 f0 f1 f2 f3 f4 hS
  obtain ⟨c0, c1, c2, c3, c4, c5, c6, c7, c8, c9, c10, c11, c12, c13, c14, c15, c16, c17⟩ := Blk18 hS5.rn
  obtain ⟨f0, f1, f2, f3, f4⟩ := Blk5 hS5.fn
  have hS := Lib.hid hS5
  clear hS5
  go_wp2_with fail
  refine (hS.out.put3 (by omega) lsn prev txn 6 6 rfl (by omega) _ (by first | rfl | simp)).mono ?_
  rintro e w5 ⟨rfl, hS5⟩
  clear c0 c1 c2 c3 c4 c5 c6 c7 c8 c9 c10 c11 c12 c13 c14 c15 c16 c17 f0 f1 f2 f3 f4 hS
  obtain ⟨c0, c1, c2, c3, c4, c5, c6, c7, c8, c9, c10, c11, c12, c13, c14, c15, c16, c17⟩ := Blk18 hS5.rn
  obtain ⟨f0, f1, f2, f3, f4⟩ := Blk5 hS5.fn
  have hS := Lib.hid hS5
  clear hS5
  go_wp2_with fail
  refine (hS.out.put1 (by omega) page 3 3 rfl (by omega) _ (by first | rfl | simp)).mono ?_
  rintro e w5 ⟨rfl, hS5⟩
  clear c0 c1 c2 c3 c4 c5 c6 c7 c8 c9 c10 c11 c12 c13 c14 c15 c16 c17 f0 f1 f2 f3 f4 hS
  obtain ⟨c0, c1, c2, c3, c4, c5, c6, c7, c8, c9, c10, c11, c12, c13, c14, c15, c16, c17⟩ := Blk18 hS5.rn
  obtain ⟨f0, f1, f2, f3, f4⟩ := Blk5 hS5.fn
  have hS := Lib.hid hS5
  clear hS5
  go_wp2_with fail
  refine (hS.out.put1 (by omega) ok 1 1 rfl (by omega) _ (by first | rfl | simp)).mono ?_
  rintro e w5 ⟨rfl, hS5⟩
  clear c0 c1 c2 c3 c4 c5 c6 c7 c8 c9 c10 c11 c12 c13 c14 c15 c16 c17 f0 f1 f2 f3 f4 hS
  obtain ⟨c0, c1, c2, c3, c4, c5, c6, c7, c8, c9, c10, c11, c12, c13, c14, c15, c16, c17⟩ := Blk18 hS5.rn
  obtain ⟨f0, f1, f2, f3, f4⟩ := Blk5 hS5.fn
  have hS := Lib.hid hS5
  clear hS5
  go_wp2_with fail
  refine (hS.out.put1 (by omega) os 2 2 rfl (by omega) _ (by first | rfl | simp)).mono ?_
  rintro e w5 ⟨rfl, hS5⟩
  clear c0 c1 c2 c3 c4 c5 c6 c7 c8 c9 c10 c11 c12 c13 c14 c15 c16 c17 f0 f1 f2 f3 f4 hS
  obtain ⟨c0, c1, c2, c3, c4, c5, c6, c7, c8, c9, c10, c11, c12, c13, c14, c15, c16, c17⟩ := Blk18 hS5.rn
  obtain ⟨f0, f1, f2, f3, f4⟩ := Blk5 hS5.fn
  have hS := Lib.hid hS5
  clear hS5
  go_wp2_with fail
  refine (hS.out.texts2 (by omega) old new s1 s2 E1.out E2.out (by omega) (by omega) _ (by first | rfl | simp)).mono ?_
  rintro e w5 ⟨rfl, hS5⟩
  clear c0 c1 c2 c3 c4 c5 c6 c7 c8 c9 c10 c11 c12 c13 c14 c15 c16 c17 f0 f1 f2 f3 f4 hS
  obtain ⟨c0, c1, c2, c3, c4, c5, c6, c7, c8, c9, c10, c11, c12, c13, c14, c15, c16, c17⟩ := Blk18 hS5.rn
  obtain ⟨f0, f1, f2, f3, f4⟩ := Blk5 hS5.fn
  have hS := Lib.hid hS5
  clear hS5
  clear c0 c1 c2 c4 c5 c6 c7 c8 c9 c10 c12 c13 c14 c15 c16 c17
  go_wp2_with fail
  refine (Wr.bldString_any _ _ _ _ hS.out.bl hS.out.hB (by simp only [List.nil_append, List.append_assoc]; intro e; exact putL_ne _ _ (by omega) (List.append_eq_nil_iff.1 e).1)).mono ?_
  rintro e w9 ⟨rfl, _, hb9, _⟩
  have HBE := hS.out.hb.trans (hb9.mono hS.out.hw)
  clear hS hb9
  go_wp2_with fail
  go_ret
  exact ⟨ret_str (by rw [HBD.out]; try simp only [List.nil_append, List.append_assoc, List.append_nil]), HBE⟩

set_option maxHeartbeats 16000000 in
set_option maxRecDepth 100000 in
theorem body_l (r : Rc) (vt vd : Value) (w : World) (hv : ElAt w 4 vt (txC r.txns)) (hd : ElAt w 2 vd (dyC r.dirty)) (hs : r.txns.length ≤ 1000) (hs2 : r.dirty.length ≤ 2000) (ho1 : r.old.length ≤ 512) (ho2 : r.new.length ≤ 512) (ho3 : r.key.length ≤ 100) (hk0 : chF r.kind = false) (hk1 : hoF r.kind = false) (hk2 : neF r.kind = false) (hk3 : liF r.kind = true) (hk4 : isF r.kind = true) :
    Calls Try.prog 17 #[.agg (rcC r vt vd)] w (Ret (.string (S (bodyL r))) w) := by
  have HBD : bodyL r = headL r ++ [] ++ [] ++ [] ++ liL r := by
    rw [bodyL, hk0, hk1, hk2, hk3]
    simp only [if_true, if_false, Bool.false_eq_true]
  have HOF := fun W => of_any r.kind W
  simp only [formV] at HOF
  rw [hk0, hk1, hk2, hk3, hk4] at HOF
  obtain ⟨BL, hBL⟩ : ∃ B, bodyL r = B := ⟨_, rfl⟩
  rw [hBL] at HBD ⊢
  have HLS := fun (W : World) (B : Nat) (acc : List UInt8) h1 h2 h3 h4 h5 => lists_any r vt vd w W B B acc h1 hv hd h2 h3 h4 hs hs2 h5
  obtain ⟨LL, hLL⟩ : ∃ L, liL r = L := ⟨_, rfl⟩
  rw [hLL] at HBD HLS
  clear hLL
  clear hBL hk0 hk1 hk2 hk3 hk4 hs hs2
  obtain ⟨ao, cap, hva⟩ := hv.nil
  obtain ⟨bo, cap2, hvb⟩ := hd.nil
  clear hv hd
  obtain ⟨lsn, prev, txn, kind, page, next, num, ok, os, old, new, how, root, key, rp, rs, txns, dirty⟩ := r
  simp only [rcC, headL, chL, hoL, neL, List.append_assoc, List.append_nil, List.nil_append] at *
  obtain ⟨n1, hn1⟩ : ∃ n, (txC txns).length = n := ⟨_, rfl⟩
  obtain ⟨n2, hn2⟩ : ∃ n, (dyC dirty).length = n := ⟨_, rfl⟩
  rw [hn1] at hva
  rw [hn2] at hvb
  subst hva hvb
  clear hn1 hn2
  obtain ⟨s1, e1⟩ : ∃ x, S old = x := ⟨_, rfl⟩
  obtain ⟨s2, e2⟩ : ∃ x, S new = x := ⟨_, rfl⟩
  obtain ⟨s3, e3⟩ : ∃ x, S key = x := ⟨_, rfl⟩
  simp only [e1, e2, e3]
  simp only [e1, e2, e3] at HLS
  replace HBD := Lib.hid HBD
  replace HOF := Lib.hid HOF
  have E1 := Lib.hid e1
  have E2 := Lib.hid e2
  have E3 := Lib.hid e3
  clear e1 e2 e3
  replace HLS := Lib.hid HLS
  have hb0 := (Below.refl w.heap.size w).alloc (Nat.le_refl _) (.cells #[.int .i64 lsn, .int .i64 prev, .int .i64 txn, .int .i64 kind, .int .i64 page, .int .i64 next, .int .i64 num, .int .i64 ok, .int .i64 os, .string s1, .string s2, .int .i64 how, .int .i64 root, .string s3, .int .i64 rp, .int .i64 rs, .slice ao n1 cap, .slice bo n2 cap2] 31)
  have hN0 := Blk.new w #[.int .i64 lsn, .int .i64 prev, .int .i64 txn, .int .i64 kind, .int .i64 page, .int .i64 next, .int .i64 num, .int .i64 ok, .int .i64 os, .string s1, .string s2, .int .i64 how, .int .i64 root, .string s3, .int .i64 rp, .int .i64 rs, .slice ao n1 cap, .slice bo n2 cap2] 31
  go_enter Try.func17, Try.ntmps17
  go_wp2_with fail
  refine (HOF.out _).mono ?_
  rintro e w1 ⟨rfl, hb1⟩
  have hN1 := hN0.below hb1
  have hw1' := hb0.next hb1
  have hlt1 := hN0.lt
  have hlt2 := hb1.size
  have hRF : w.heap.size < w1.heap.size := by omega
  have hN1 := hN1.alloc (.cells #[.bool false, .bool false, .bool false, .bool true, .bool true] 60)
  have hF1 := Blk.new w1 #[.bool false, .bool false, .bool false, .bool true, .bool true] 60
  have hw2 := hw1'.alloc hw1'.size (.cells #[.bool false, .bool false, .bool false, .bool true, .bool true] 60)
  have hfr := BldAt.fresh (w1.alloc (.cells #[.bool false, .bool false, .bool false, .bool true, .bool true] 60))
  have hN2 := hN1.alloc (.cells #[.pointer none, .slice none 0 0] 82)
  have hF2 := hF1.alloc (.cells #[.pointer none, .slice none 0 0] 82)
  have hw3 := hw2.alloc hw2.size (.cells #[.pointer none, .slice none 0 0] 82)
  simp only [World.size_alloc] at hfr
  obtain ⟨B, HB⟩ : ∃ B, Hid (w1.heap.size + 1 = B) := ⟨_, rfl⟩
  obtain ⟨g0, HG0⟩ : ∃ B, Hid (w.heap.size = B) := ⟨_, rfl⟩
  obtain ⟨g1, HG1⟩ : ∃ B, Hid (w1.heap.size = B) := ⟨_, rfl⟩
  obtain ⟨FS, HFS⟩ : ∃ C : Array Value, Hid (#[.bool false, .bool false, .bool false, .bool true, .bool true] = C) := ⟨_, rfl⟩
  rw [HB.out] at hfr
  have hS0 : BS w ((w1.alloc (.cells #[.bool false, .bool false, .bool false, .bool true, .bool true] 60)).alloc (.cells #[.pointer none, .slice none 0 0] 82)) B g0 g1 #[.int .i64 lsn, .int .i64 prev, .int .i64 txn, .int .i64 kind, .int .i64 page, .int .i64 next, .int .i64 num, .int .i64 ok, .int .i64 os, .string s1, .string s2, .int .i64 how, .int .i64 root, .string s3, .int .i64 rp, .int .i64 rs, .slice ao n1 cap, .slice bo n2 cap2] #[.bool false, .bool false, .bool false, .bool true, .bool true] [] 0 :=
    ⟨hfr, by rw [← HG0.out]; exact hN2, by rw [← HG1.out]; exact hF2, hw3, by rw [← HB.out]; simp, by rw [← HB.out, ← HG0.out]; omega, by rw [← HB.out, ← HG1.out]; omega, by rw [← HB.out]; omega, Nat.le_refl _⟩
  clear hN0 hN1 hF1 hw1' hw2 hN2 hF2 hw3 hfr hlt1 hlt2 hRF HFS hb0 hb1 HOF
  go_upto_region 3 with fail
  rw [HB.out, HG0.out, HG1.out]
  clear HB HG0 HG1
  generalize ((w1.alloc (.cells #[.bool false, .bool false, .bool false, .bool true, .bool true] 60)).alloc (.cells #[.pointer none, .slice none 0 0] 82)) = W3 at hS0 ⊢
  obtain ⟨c0, c1, c2, c3, c4, c5, c6, c7, c8, c9, c10, c11, c12, c13, c14, c15, c16, c17⟩ := Blk18 hS0.rn
  obtain ⟨f0, f1, f2, f3, f4⟩ := Blk5 hS0.fn
  have hS := Lib.hid hS0
  clear hS0
  go_wp2_with fail
  refine (hS.out.put1 (by omega) kind 1 1 rfl (by omega) _ (by first | rfl | simp)).mono ?_
  rintro e w5 ⟨rfl, hS5⟩
  clear c0 c1 c2 c3 c4 c5 c6 c7 c8 c9 c10 c11 c12 c13 c14 c15 c16 c17 f0 f1 f2 f3 f4 hS
  obtain ⟨c0, c1, c2, c3, c4, c5, c6, c7, c8, c9, c10, c11, c12, c13, c14, c15, c16, c17⟩ := Blk18 hS5.rn
  obtain ⟨f0, f1, f2, f3, f4⟩ := Blk5 hS5.fn
  have hS := Lib.hid hS5
  clear hS5
  go_wp2_with fail
  refine (hS.out.put3 (by omega) lsn prev txn 6 6 rfl (by omega) _ (by first | rfl | simp)).mono ?_
  rintro e w5 ⟨rfl, hS5⟩
  clear c0 c1 c2 c3 c4 c5 c6 c7 c8 c9 c10 c11 c12 c13 c14 c15 c16 c17 f0 f1 f2 f3 f4 hS
  obtain ⟨c0, c1, c2, c3, c4, c5, c6, c7, c8, c9, c10, c11, c12, c13, c14, c15, c16, c17⟩ := Blk18 hS5.rn
  obtain ⟨f0, f1, f2, f3, f4⟩ := Blk5 hS5.fn
  have hS := Lib.hid hS5
  clear hS5
  go_wp2_with (first | (with_reducible refine wpList_load18 hS.out.rn (by kernel_rfl) _ rfl rfl ?_))
  refine (HLS.out _ _ _ hS.out.bl hS.out.hb hS.out.hw hS.out.hB (Nat.le_trans hS.out.len (by omega))).mono ?_
  rintro e w5 ⟨rfl, hbl5, hb5⟩
  clear c0 c1 c2 c3 c4 c5 c6 c7 c8 c9 c10 c11 c12 c13 c14 c15 c16 c17 f0 f1 f2 f3 f4
  have hS5 := hS.out.step hbl5 hb5 (Nat.le_refl _)
  clear hS hbl5 hb5
  have hS := Lib.hid hS5
  clear hS5
  go_wp2_with fail
  refine (Wr.bldString_any _ _ _ _ hS.out.bl hS.out.hB (by simp only [List.nil_append, List.append_assoc]; intro e; exact putL_ne _ _ (by omega) (List.append_eq_nil_iff.1 e).1)).mono ?_
  rintro e w9 ⟨rfl, _, hb9, _⟩
  have HBE := hS.out.hb.trans (hb9.mono hS.out.hw)
  clear hS hb9
  go_wp2_with fail
  go_ret
  exact ⟨ret_str (by rw [HBD.out]; try simp only [List.nil_append, List.append_assoc, List.append_nil]), HBE⟩
theorem right_sizes {r : Rc} (h : rightR r = true) : isF r.kind = true ∧ r.txns.length ≤ 1000 ∧ r.dirty.length ≤ 2000 ∧ r.old.length ≤ 512 ∧ r.new.length ≤ 512 ∧ r.key.length ≤ 100 := by
  simp only [rightR, Bool.and_eq_true, Bool.or_eq_true, Bool.not_eq_true', decide_eq_true_eq] at h
  obtain ⟨⟨⟨⟨⟨⟨hk, _⟩, hc⟩, hh⟩, hn⟩, hl⟩, hb⟩ := h
  have b1 : r.old = if chF r.kind then r.old else [] := (congrArg Rc.old hb).symm
  have b2 : r.new = if chF r.kind then r.new else [] := (congrArg Rc.new hb).symm
  have b3 : r.key = if hoF r.kind then r.key else [] := (congrArg Rc.key hb).symm
  have b4 : r.txns = if liF r.kind then r.txns else [] := (congrArg Rc.txns hb).symm
  have b5 : r.dirty = if liF r.kind then r.dirty else [] := (congrArg Rc.dirty hb).symm
  refine ⟨hk, ?_, ?_, ?_, ?_, ?_⟩
  · cases hx : liF r.kind with
    | false => rw [hx] at b4; rw [b4]; simp
    | true => rw [hx] at hl; have := hl.resolve_left (by simp); simp only [listsB, Bool.and_eq_true, decide_eq_true_eq] at this; exact this.1.1.1.2
  · cases hx : liF r.kind with
    | false => rw [hx] at b5; rw [b5]; simp
    | true => rw [hx] at hl; have := hl.resolve_left (by simp); simp only [listsB, Bool.and_eq_true, decide_eq_true_eq] at this; exact this.1.1.2
  · cases hx : chF r.kind with
    | false => rw [hx] at b1; rw [b1]; simp
    | true => rw [hx] at hc; have := hc.resolve_left (by simp); simp only [opB, Bool.and_eq_true, decide_eq_true_eq] at this; exact this.2.1.2
  · cases hx : chF r.kind with
    | false => rw [hx] at b2; rw [b2]; simp
    | true => rw [hx] at hc; have := hc.resolve_left (by simp); simp only [opB, Bool.and_eq_true, decide_eq_true_eq] at this; exact this.2.2
  · cases hx : hoF r.kind with
    | false => rw [hx] at b3; rw [b3]; simp
    | true =>
      rw [hx] at hh
      have := hh.resolve_left (by simp)
      unfold treeB at this
      split at this
      · simp only [Bool.and_eq_true, decide_eq_true_eq] at this
        rw [this.2.1.1]; simp
      · simp only [Bool.and_eq_true, decide_eq_true_eq] at this
        exact this.2
theorem body_any (r : Rc) (vt vd : Value) (w : World) (hv : ElAt w 4 vt (txC r.txns)) (hd : ElAt w 2 vd (dyC r.dirty)) (hr : rightR r = true) :
    Calls Try.prog 17 #[.agg (rcC r vt vd)] w (Ret (.string (S (bodyL r))) w) := by
  obtain ⟨hk, h1, h2, h3, h4, h5⟩ := right_sizes hr
  have h : 1 ≤ r.kind ∧ r.kind ≤ 9 := by simpa [isF] using hk
  obtain h | h | h | h | h | h | h | h | h : r.kind = 1 ∨ r.kind = 2 ∨ r.kind = 3 ∨ r.kind = 4 ∨ r.kind = 5 ∨ r.kind = 6 ∨ r.kind = 7 ∨ r.kind = 8 ∨ r.kind = 9 := by omega
  · exact body_none r vt vd w hv hd h1 h2 h3 h4 h5 (by rw [h]; rfl) (by rw [h]; rfl) (by rw [h]; rfl) (by rw [h]; rfl) hk
  · by_cases hho : r.how = 1
    · exact body_chho1 r vt vd w hv hd h1 h2 h3 h4 h5 (by rw [h]; rfl) (by rw [h]; rfl) (by rw [h]; rfl) (by rw [h]; rfl) hk hho
    · exact body_chho r vt vd w hv hd h1 h2 h3 h4 h5 (by rw [h]; rfl) (by rw [h]; rfl) (by rw [h]; rfl) (by rw [h]; rfl) hk hho
  · exact body_chne r vt vd w hv hd h1 h2 h3 h4 h5 (by rw [h]; rfl) (by rw [h]; rfl) (by rw [h]; rfl) (by rw [h]; rfl) hk
  · exact body_ne r vt vd w hv hd h1 h2 h3 h4 h5 (by rw [h]; rfl) (by rw [h]; rfl) (by rw [h]; rfl) (by rw [h]; rfl) hk
  · exact body_none r vt vd w hv hd h1 h2 h3 h4 h5 (by rw [h]; rfl) (by rw [h]; rfl) (by rw [h]; rfl) (by rw [h]; rfl) hk
  · exact body_none r vt vd w hv hd h1 h2 h3 h4 h5 (by rw [h]; rfl) (by rw [h]; rfl) (by rw [h]; rfl) (by rw [h]; rfl) hk
  · exact body_none r vt vd w hv hd h1 h2 h3 h4 h5 (by rw [h]; rfl) (by rw [h]; rfl) (by rw [h]; rfl) (by rw [h]; rfl) hk
  · exact body_c r vt vd w hv hd h1 h2 h3 h4 h5 (by rw [h]; rfl) (by rw [h]; rfl) (by rw [h]; rfl) (by rw [h]; rfl) hk
  · exact body_l r vt vd w hv hd h1 h2 h3 h4 h5 (by rw [h]; rfl) (by rw [h]; rfl) (by rw [h]; rfl) (by rw [h]; rfl) hk
end Go.Proofs.Ytloengjcniefgaa.Rec
