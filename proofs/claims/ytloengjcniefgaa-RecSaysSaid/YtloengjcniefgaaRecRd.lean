/- rec: the reader's record: what it answers (printed by genrecord.py). -/
import Derived.Test.YtloengjcniefgaaRecJ
import Derived.Deep.CutRange
namespace Go.Proofs.Ytloengjcniefgaa.Rec
set_option linter.unusedVariables false
set_option linter.unusedSimpArgs false
open Go.RowKit Go.Sort
open Oct (S beN putL U I getI sumN S_size S_data)
set_option maxHeartbeats 16000000 in
set_option maxRecDepth 100000 in
theorem record_none (l : List UInt8) (s : ByteArray) (hsl : S l = s) (hl : l.length ≤ 1000000) (g : Nat) (w : World) (hR : Blk w g (rdC s (0, false)) 56) (hk0 : chF (numF l (0, false) 1).1 = false) (hk1 : hoF (numF l (0, false) 1).1 = false) (hk2 : neF (numF l (0, false) 1).1 = false) (hk3 : liF (numF l (0, false) 1).1 = false) :
    Calls Try.prog 25 #[.pointer (some ⟨g, 0, none⟩)] w (RecA (recF l) g w) := by
  have HT : recF l = recG (numF l) (textF l) := rfl
  obtain ⟨R, hRR⟩ : ∃ R, recF l = R := ⟨_, rfl⟩
  rw [hRR] at HT ⊢
  unfold recG at HT
  obtain ⟨⟨n1, p1⟩, hq1⟩ : ∃ q, numF l (0, false) 1 = q := ⟨_, rfl⟩
  rw [hq1] at hk0 hk1 hk2 hk3 HT
  simp only at hk0 hk1 hk2 hk3 HT
  have HOF := fun W => of_any n1 W
  simp only [formV] at HOF
  rw [hk0, hk1, hk2, hk3] at HOF
  unfold tailG at HT
  rw [hk0, hk1, hk2, hk3] at HT
  simp only [if_true, if_false, Bool.false_eq_true] at HT
  replace HT := Lib.hid HT
  replace HOF := Lib.hid HOF
  obtain ⟨q5, hq5⟩ : ∃ q, isF n1 = q := ⟨_, rfl⟩
  rw [hq5] at HOF
  have hlt := hR.lt
  clear hk0 hk1 hk2 hk3 hRR hq5
  have hRa := (hR.alloc (.cells zs18 31)).alloc (.cells zs18 31)
  have hX := Blk.new (w.alloc (.cells zs18 31)) zs18 31
  have hRes := (Blk.new w zs18 31).alloc (.cells zs18 31)
  have hfr := grownBy_new (grownBy_new (show w.grownBy w (some g) from ⟨rfl, rfl, rfl, Nat.le_refl _, fun _ _ _ => rfl⟩) (.cells zs18 31)) (.cells zs18 31)
  simp only [World.size_alloc] at hX
  obtain ⟨gr, HGR⟩ : ∃ x, Hid (w.heap.size = x) := ⟨_, rfl⟩
  obtain ⟨gx, HGX⟩ : ∃ x, Hid (w.heap.size + 1 = x) := ⟨_, rfl⟩
  have hrx : gr < gx := by rw [← HGR.out, ← HGX.out]; omega
  have hrw : w.heap.size ≤ gr := by rw [← HGR.out]; omega
  rw [HGX.out] at hX
  rw [HGR.out] at hRes
  have hxs : gx < ((w.alloc (.cells zs18 31)).alloc (.cells zs18 31)).heap.size := hX.lt
  unfold zs18 at hRa hX hRes hfr hxs
  go_enter Try.func25, Try.ntmps25
  go_upto_region 2 with fail
  rw [HGX.out, HGR.out]
  generalize ((w.alloc (.cells #[.int .i64 0, .int .i64 0, .int .i64 0, .int .i64 0, .int .i64 0, .int .i64 0, .int .i64 0, .int .i64 0, .int .i64 0, .string ⟨#[]⟩, .string ⟨#[]⟩, .int .i64 0, .int .i64 0, .string ⟨#[]⟩, .int .i64 0, .int .i64 0, .slice none 0 0, .slice none 0 0] 31)).alloc (.cells #[.int .i64 0, .int .i64 0, .int .i64 0, .int .i64 0, .int .i64 0, .int .i64 0, .int .i64 0, .int .i64 0, .int .i64 0, .string ⟨#[]⟩, .string ⟨#[]⟩, .int .i64 0, .int .i64 0, .string ⟨#[]⟩, .int .i64 0, .int .i64 0, .slice none 0 0, .slice none 0 0] 31)) = W0 at hRa hX hRes hfr hxs ⊢
  clear HGR HGX hR
  have hgx : gx ≠ g := by omega
  replace hRa := Lib.hid hRa
  replace hX := Lib.hid hX
  replace hRes := Lib.hid hRes
  replace hfr := Lib.hid hfr
  go_wp2_with fail
  refine (num_any l s hsl (0, false) 1 1 rfl g _ hRa.out (by omega) hl (by simp)).mono ?_
  rw [hq1]
  rintro e w1 ⟨rfl, hRb, hgb⟩
  have hXb : Blk w1 gx #[.int .i64 0, .int .i64 0, .int .i64 0, .int .i64 0, .int .i64 0, .int .i64 0, .int .i64 0, .int .i64 0, .int .i64 0, .string ⟨#[]⟩, .string ⟨#[]⟩, .int .i64 0, .int .i64 0, .string ⟨#[]⟩, .int .i64 0, .int .i64 0, .slice none 0 0, .slice none 0 0] 31 := hX.out.grown hgb (by intro e; injection e; omega)
  have hResb : Blk w1 gr zs18 31 := hRes.out.grown hgb (by intro e; injection e; omega)
  have hfrb := hfr.out.trans hgb
  clear hRa hX hRes hfr hgb
  have hRc := hRb.other (a := ⟨gx, 3, none⟩) (fun e => hgx e.symm) (.int .i64 n1)
  have hXc : Blk (w1.setCell ⟨gx, 3, none⟩ (.int .i64 n1)) gx #[.int .i64 0, .int .i64 0, .int .i64 0, .int .i64 n1, .int .i64 0, .int .i64 0, .int .i64 0, .int .i64 0, .int .i64 0, .string ⟨#[]⟩, .string ⟨#[]⟩, .int .i64 0, .int .i64 0, .string ⟨#[]⟩, .int .i64 0, .int .i64 0, .slice none 0 0, .slice none 0 0] 31 := hXb.set 3 (.int .i64 n1)
  have hResc := hResb.other (a := ⟨gx, 3, none⟩) (by show gr ≠ gx; omega) (.int .i64 n1)
  have hfrc := grownBy_setNew hfrb (a := ⟨gx, 3, none⟩) (by show w.heap.size ≤ gx; omega) (.int .i64 n1)
  have hxs2 : gx < (w1.setCell ⟨gx, 3, none⟩ (.int .i64 n1)).heap.size := hXc.lt
  obtain ⟨c0, c1, c2, c3, c4, c5, c6, c7, c8, c9, c10, c11, c12, c13, c14, c15, c16, c17⟩ := Blk18 hXb
  obtain ⟨y0, y1, y2, y3, y4, y5, y6, y7, y8, y9, y10, y11, y12, y13, y14, y15, y16, y17⟩ := Free18 hXb
  replace hRc := Lib.hid hRc
  replace hXc := Lib.hid hXc
  replace hResc := Lib.hid hResc
  replace hfrc := Lib.hid hfrc
  clear hRb hXb hResb hfrb hxs
  go_upto_region 3 with fail
  clear c0 c1 c2 c3 c4 c5 c6 c7 c8 c9 c10 c11 c12 c13 c14 c15 c16 c17 y0 y1 y2 y3 y4 y5 y6 y7 y8 y9 y10 y11 y12 y13 y14 y15 y16 y17
  generalize w1.setCell ⟨gx, 3, none⟩ (.int .i64 n1) = W1 at hRc hXc hResc hfrc hxs2 ⊢
  have c3 := hXc.out.cell 3 (v := .int .i64 n1) rfl
  go_wp2_with fail
  refine (HOF.out _).mono ?_
  rintro e w2 ⟨rfl, hb2⟩
  obtain ⟨gf, HGF⟩ : ∃ x, Hid (w2.heap.size = x) := ⟨_, rfl⟩
  have hxf : gx < gf := by have := hb2.size; rw [← HGF.out]; omega
  obtain ⟨FS, HFS⟩ : ∃ C : Array Value, C = #[.bool false, .bool false, .bool false, .bool false, .bool q5] := ⟨_, rfl⟩
  have hp1 : p1.1 ≤ 8 := by
    have h := congrArg (fun q => q.2.1) hq1
    simp only [numF] at h
    omega
  have hS2 := RS.start (l := l) (s := s) (p := p1) 8 ((hRc.out.below hb2).alloc (.cells #[.bool false, .bool false, .bool false, .bool false, .bool q5] 60)) ((hResc.out.below hb2).alloc _) ((hXc.out.below hb2).alloc _)
    (by have := Blk.new w2 #[.bool false, .bool false, .bool false, .bool false, .bool q5] 60; rw [HGF.out] at this; exact this) (grownBy_new (hfrc.out.trans (grownBy_below hb2 _)) _) hlt hrw hrx hxf hp1 hsl hl
  clear hRc hResc hXc hfrc hb2 hq1 hxs2
  clear c3
  replace hS2 := Lib.hid hS2
  have c3 := hS2.out.x.cell 3 (v := .int .i64 n1) rfl
  go_upto_region 4 with fail
  rw [HGF.out]
  clear HGF c3
  generalize w2.alloc _ = W3 at hS2 ⊢
  have hS := hS2
  clear hS2 HFS FS
  obtain ⟨FS, HFS⟩ : ∃ C : Array Value, C = #[.bool false, .bool false, .bool false, .bool false, .bool q5] := ⟨_, rfl⟩
  subst HFS

  obtain ⟨c0, c1, c2, c3, c4, c5, c6, c7, c8, c9, c10, c11, c12, c13, c14, c15, c16, c17⟩ := Blk18 hS.out.x
  obtain ⟨y0, y1, y2, y3, y4, y5, y6, y7, y8, y9, y10, y11, y12, y13, y14, y15, y16, y17⟩ := Free18 hS.out.x
  obtain ⟨f0, f1, f2, f3, f4⟩ := Blk5 hS.out.f
  obtain ⟨⟨n2, p2⟩, hq⟩ : ∃ q, numF l p1 6 = q := ⟨_, rfl⟩
  have HQ2 := Lib.hid hq
  go_wp2_with fail
  refine (hS.out.num (by omega) 6 6 rfl (by omega) _ hq).mono ?_
  rintro e w2 ⟨rfl, hS2, _⟩
  clear hq
  clear c0 c1 c2 c3 c4 c5 c6 c7 c8 c9 c10 c11 c12 c13 c14 c15 c16 c17 y0 y1 y2 y3 y4 y5 y6 y7 y8 y9 y10 y11 y12 y13 y14 y15 y16 y17 f0 f1 f2 f3 f4
  clear hS
  have hS := Lib.hid hS2
  clear hS2
  simp only at hS
  obtain ⟨c0, c1, c2, c3, c4, c5, c6, c7, c8, c9, c10, c11, c12, c13, c14, c15, c16, c17⟩ := Blk18 hS.out.x
  obtain ⟨y0, y1, y2, y3, y4, y5, y6, y7, y8, y9, y10, y11, y12, y13, y14, y15, y16, y17⟩ := Free18 hS.out.x
  obtain ⟨f0, f1, f2, f3, f4⟩ := Blk5 hS.out.f
  obtain ⟨⟨n3, p3⟩, hq⟩ : ∃ q, numF l p2 6 = q := ⟨_, rfl⟩
  have HQ3 := Lib.hid hq
  go_wp2_with fail
  refine (hS.out.num (by omega) 6 6 rfl (by omega) _ hq).mono ?_
  rintro e w3 ⟨rfl, hS2, _⟩
  clear hq
  clear c0 c1 c2 c3 c4 c5 c6 c7 c8 c9 c10 c11 c12 c13 c14 c15 c16 c17 y0 y1 y2 y3 y4 y5 y6 y7 y8 y9 y10 y11 y12 y13 y14 y15 y16 y17 f0 f1 f2 f3 f4
  clear hS
  have hS := Lib.hid hS2
  clear hS2
  simp only at hS
  obtain ⟨c0, c1, c2, c3, c4, c5, c6, c7, c8, c9, c10, c11, c12, c13, c14, c15, c16, c17⟩ := Blk18 hS.out.x
  obtain ⟨y0, y1, y2, y3, y4, y5, y6, y7, y8, y9, y10, y11, y12, y13, y14, y15, y16, y17⟩ := Free18 hS.out.x
  obtain ⟨f0, f1, f2, f3, f4⟩ := Blk5 hS.out.f
  obtain ⟨⟨n4, p4⟩, hq⟩ : ∃ q, numF l p3 6 = q := ⟨_, rfl⟩
  have HQ4 := Lib.hid hq
  go_wp2_with fail
  refine (hS.out.num (by omega) 6 6 rfl (by omega) _ hq).mono ?_
  rintro e w4 ⟨rfl, hS2, _⟩
  clear hq
  clear c0 c1 c2 c3 c4 c5 c6 c7 c8 c9 c10 c11 c12 c13 c14 c15 c16 c17 y0 y1 y2 y3 y4 y5 y6 y7 y8 y9 y10 y11 y12 y13 y14 y15 y16 y17 f0 f1 f2 f3 f4
  clear hS
  have hS := Lib.hid hS2
  clear hS2
  simp only at hS
  obtain ⟨c0, c1, c2, c3, c4, c5, c6, c7, c8, c9, c10, c11, c12, c13, c14, c15, c16, c17⟩ := Blk18 hS.out.x
  obtain ⟨y0, y1, y2, y3, y4, y5, y6, y7, y8, y9, y10, y11, y12, y13, y14, y15, y16, y17⟩ := Free18 hS.out.x
  obtain ⟨f0, f1, f2, f3, f4⟩ := Blk5 hS.out.f
  have hS2 : RS w (((w4.setCell ⟨gx, 0, none⟩ (.int .i64 n2)).setCell ⟨gx, 1, none⟩ (.int .i64 n3)).setCell ⟨gx, 2, none⟩ (.int .i64 n4)) g gr gx gf l s p4 _ #[.int .i64 n2, .int .i64 n3, .int .i64 n4, .int .i64 n1, .int .i64 0, .int .i64 0, .int .i64 0, .int .i64 0, .int .i64 0, .string ⟨#[]⟩, .string ⟨#[]⟩, .int .i64 0, .int .i64 0, .string ⟨#[]⟩, .int .i64 0, .int .i64 0, .slice none 0 0, .slice none 0 0] _ := (((hS.out.setX 0 (.int .i64 n2)).setX 1 (.int .i64 n3)).setX 2 (.int .i64 n4))
  go_upto_region 5 with fail
  clear c0 c1 c2 c3 c4 c5 c6 c7 c8 c9 c10 c11 c12 c13 c14 c15 c16 c17 y0 y1 y2 y3 y4 y5 y6 y7 y8 y9 y10 y11 y12 y13 y14 y15 y16 y17 f0 f1 f2 f3 f4
  generalize (((w4.setCell ⟨gx, 0, none⟩ (.int .i64 n2)).setCell ⟨gx, 1, none⟩ (.int .i64 n3)).setCell ⟨gx, 2, none⟩ (.int .i64 n4)) = v4 at hS2 ⊢
  clear hS
  have hS := Lib.hid hS2
  clear hS2
  obtain ⟨c0, c1, c2, c3, c4, c5, c6, c7, c8, c9, c10, c11, c12, c13, c14, c15, c16, c17⟩ := Blk18 hS.out.x
  obtain ⟨y0, y1, y2, y3, y4, y5, y6, y7, y8, y9, y10, y11, y12, y13, y14, y15, y16, y17⟩ := Free18 hS.out.x
  obtain ⟨f0, f1, f2, f3, f4⟩ := Blk5 hS.out.f
  have HFIN : Hid (R = { lsn := n2, prev := n3, txn := n4, kind := n1, page := 0, next := 0, num := 0, ok := 0, os := 0, old := [], new := [], how := 0, root := 0, key := [], rp := 0, rs := 0, txns := [], dirty := [] }) := by
    show _ = _
    rw [HT.out]
    simp only [chG, hoG, HQ2.out, HQ3.out, HQ4.out]
  clear HT HQ2 HQ3 HQ4
  go_wp2_with (first | (with_reducible refine wpList_load18 hS.out.x (by kernel_rfl) _ rfl rfl ?_) | ((with_reducible refine wpList_store18 hS.out.res (by kernel_rfl) (by kernel_rfl) (by kernel_rfl) rfl _ _ rfl rfl rfl ?_); intro W9 hW9 hgr9))
  have HV := rec_val hW9 rfl
  have hfr9 : w.grownBy W9 (some g) := by
    refine ⟨hgr9.os.trans hS.out.fr.os, hgr9.tape.trans hS.out.fr.tape, hgr9.output.trans hS.out.fr.output, Nat.le_trans hS.out.fr.size hgr9.size, fun k hk hne => ?_⟩
    rw [hgr9.block k (Nat.lt_of_lt_of_le hk hS.out.fr.size) (by intro e; injection e; have := hS.out.h1; omega)]
    exact hS.out.fr.block k hk hne
  refine bodyPost_ret (v := .agg #[.int .i64 n2, .int .i64 n3, .int .i64 n4, .int .i64 n1, .int .i64 0, .int .i64 0, .int .i64 0, .int .i64 0, .int .i64 0, .string ⟨#[]⟩, .string ⟨#[]⟩, .int .i64 0, .int .i64 0, .string ⟨#[]⟩, .int .i64 0, .int .i64 0, .slice none 0 0, .slice none 0 0]) ?_ rfl ?_
  · simp [results, Try.results25, asAddr, Act.put, HV]
  · refine ⟨.slice none 0 0, .slice none 0 0, ?_, ?_, ?_, hfr9⟩
    · rw [HFIN.out]; rfl
    · rw [HFIN.out]; exact ⟨World.ownsRow_nil _ _ _ _, Nat.zero_le _⟩
    · rw [HFIN.out]; exact ⟨World.ownsRow_nil _ _ _ _, Nat.zero_le _⟩
set_option maxHeartbeats 16000000 in
set_option maxRecDepth 100000 in
theorem record_chho (l : List UInt8) (s : ByteArray) (hsl : S l = s) (hl : l.length ≤ 1000000) (g : Nat) (w : World) (hR : Blk w g (rdC s (0, false)) 56) (hk0 : chF (numF l (0, false) 1).1 = true) (hk1 : hoF (numF l (0, false) 1).1 = true) (hk2 : neF (numF l (0, false) 1).1 = false) (hk3 : liF (numF l (0, false) 1).1 = false) :
    Calls Try.prog 25 #[.pointer (some ⟨g, 0, none⟩)] w (RecA (recF l) g w) := by
  have HT : recF l = recG (numF l) (textF l) := rfl
  obtain ⟨R, hRR⟩ : ∃ R, recF l = R := ⟨_, rfl⟩
  rw [hRR] at HT ⊢
  unfold recG at HT
  obtain ⟨⟨n1, p1⟩, hq1⟩ : ∃ q, numF l (0, false) 1 = q := ⟨_, rfl⟩
  rw [hq1] at hk0 hk1 hk2 hk3 HT
  simp only at hk0 hk1 hk2 hk3 HT
  have HOF := fun W => of_any n1 W
  simp only [formV] at HOF
  rw [hk0, hk1, hk2, hk3] at HOF
  unfold tailG at HT
  rw [hk0, hk1, hk2, hk3] at HT
  simp only [if_true, if_false, Bool.false_eq_true] at HT
  replace HT := Lib.hid HT
  replace HOF := Lib.hid HOF
  obtain ⟨q5, hq5⟩ : ∃ q, isF n1 = q := ⟨_, rfl⟩
  rw [hq5] at HOF
  have hlt := hR.lt
  clear hk0 hk1 hk2 hk3 hRR hq5
  have hRa := (hR.alloc (.cells zs18 31)).alloc (.cells zs18 31)
  have hX := Blk.new (w.alloc (.cells zs18 31)) zs18 31
  have hRes := (Blk.new w zs18 31).alloc (.cells zs18 31)
  have hfr := grownBy_new (grownBy_new (show w.grownBy w (some g) from ⟨rfl, rfl, rfl, Nat.le_refl _, fun _ _ _ => rfl⟩) (.cells zs18 31)) (.cells zs18 31)
  simp only [World.size_alloc] at hX
  obtain ⟨gr, HGR⟩ : ∃ x, Hid (w.heap.size = x) := ⟨_, rfl⟩
  obtain ⟨gx, HGX⟩ : ∃ x, Hid (w.heap.size + 1 = x) := ⟨_, rfl⟩
  have hrx : gr < gx := by rw [← HGR.out, ← HGX.out]; omega
  have hrw : w.heap.size ≤ gr := by rw [← HGR.out]; omega
  rw [HGX.out] at hX
  rw [HGR.out] at hRes
  have hxs : gx < ((w.alloc (.cells zs18 31)).alloc (.cells zs18 31)).heap.size := hX.lt
  unfold zs18 at hRa hX hRes hfr hxs
  go_enter Try.func25, Try.ntmps25
  go_upto_region 2 with fail
  rw [HGX.out, HGR.out]
  generalize ((w.alloc (.cells #[.int .i64 0, .int .i64 0, .int .i64 0, .int .i64 0, .int .i64 0, .int .i64 0, .int .i64 0, .int .i64 0, .int .i64 0, .string ⟨#[]⟩, .string ⟨#[]⟩, .int .i64 0, .int .i64 0, .string ⟨#[]⟩, .int .i64 0, .int .i64 0, .slice none 0 0, .slice none 0 0] 31)).alloc (.cells #[.int .i64 0, .int .i64 0, .int .i64 0, .int .i64 0, .int .i64 0, .int .i64 0, .int .i64 0, .int .i64 0, .int .i64 0, .string ⟨#[]⟩, .string ⟨#[]⟩, .int .i64 0, .int .i64 0, .string ⟨#[]⟩, .int .i64 0, .int .i64 0, .slice none 0 0, .slice none 0 0] 31)) = W0 at hRa hX hRes hfr hxs ⊢
  clear HGR HGX hR
  have hgx : gx ≠ g := by omega
  replace hRa := Lib.hid hRa
  replace hX := Lib.hid hX
  replace hRes := Lib.hid hRes
  replace hfr := Lib.hid hfr
  go_wp2_with fail
  refine (num_any l s hsl (0, false) 1 1 rfl g _ hRa.out (by omega) hl (by simp)).mono ?_
  rw [hq1]
  rintro e w1 ⟨rfl, hRb, hgb⟩
  have hXb : Blk w1 gx #[.int .i64 0, .int .i64 0, .int .i64 0, .int .i64 0, .int .i64 0, .int .i64 0, .int .i64 0, .int .i64 0, .int .i64 0, .string ⟨#[]⟩, .string ⟨#[]⟩, .int .i64 0, .int .i64 0, .string ⟨#[]⟩, .int .i64 0, .int .i64 0, .slice none 0 0, .slice none 0 0] 31 := hX.out.grown hgb (by intro e; injection e; omega)
  have hResb : Blk w1 gr zs18 31 := hRes.out.grown hgb (by intro e; injection e; omega)
  have hfrb := hfr.out.trans hgb
  clear hRa hX hRes hfr hgb
  have hRc := hRb.other (a := ⟨gx, 3, none⟩) (fun e => hgx e.symm) (.int .i64 n1)
  have hXc : Blk (w1.setCell ⟨gx, 3, none⟩ (.int .i64 n1)) gx #[.int .i64 0, .int .i64 0, .int .i64 0, .int .i64 n1, .int .i64 0, .int .i64 0, .int .i64 0, .int .i64 0, .int .i64 0, .string ⟨#[]⟩, .string ⟨#[]⟩, .int .i64 0, .int .i64 0, .string ⟨#[]⟩, .int .i64 0, .int .i64 0, .slice none 0 0, .slice none 0 0] 31 := hXb.set 3 (.int .i64 n1)
  have hResc := hResb.other (a := ⟨gx, 3, none⟩) (by show gr ≠ gx; omega) (.int .i64 n1)
  have hfrc := grownBy_setNew hfrb (a := ⟨gx, 3, none⟩) (by show w.heap.size ≤ gx; omega) (.int .i64 n1)
  have hxs2 : gx < (w1.setCell ⟨gx, 3, none⟩ (.int .i64 n1)).heap.size := hXc.lt
  obtain ⟨c0, c1, c2, c3, c4, c5, c6, c7, c8, c9, c10, c11, c12, c13, c14, c15, c16, c17⟩ := Blk18 hXb
  obtain ⟨y0, y1, y2, y3, y4, y5, y6, y7, y8, y9, y10, y11, y12, y13, y14, y15, y16, y17⟩ := Free18 hXb
  replace hRc := Lib.hid hRc
  replace hXc := Lib.hid hXc
  replace hResc := Lib.hid hResc
  replace hfrc := Lib.hid hfrc
  clear hRb hXb hResb hfrb hxs
  go_upto_region 3 with fail
  clear c0 c1 c2 c3 c4 c5 c6 c7 c8 c9 c10 c11 c12 c13 c14 c15 c16 c17 y0 y1 y2 y3 y4 y5 y6 y7 y8 y9 y10 y11 y12 y13 y14 y15 y16 y17
  generalize w1.setCell ⟨gx, 3, none⟩ (.int .i64 n1) = W1 at hRc hXc hResc hfrc hxs2 ⊢
  have c3 := hXc.out.cell 3 (v := .int .i64 n1) rfl
  go_wp2_with fail
  refine (HOF.out _).mono ?_
  rintro e w2 ⟨rfl, hb2⟩
  obtain ⟨gf, HGF⟩ : ∃ x, Hid (w2.heap.size = x) := ⟨_, rfl⟩
  have hxf : gx < gf := by have := hb2.size; rw [← HGF.out]; omega
  obtain ⟨FS, HFS⟩ : ∃ C : Array Value, C = #[.bool true, .bool true, .bool false, .bool false, .bool q5] := ⟨_, rfl⟩
  have hp1 : p1.1 ≤ 8 := by
    have h := congrArg (fun q => q.2.1) hq1
    simp only [numF] at h
    omega
  have hS2 := RS.start (l := l) (s := s) (p := p1) 8 ((hRc.out.below hb2).alloc (.cells #[.bool true, .bool true, .bool false, .bool false, .bool q5] 60)) ((hResc.out.below hb2).alloc _) ((hXc.out.below hb2).alloc _)
    (by have := Blk.new w2 #[.bool true, .bool true, .bool false, .bool false, .bool q5] 60; rw [HGF.out] at this; exact this) (grownBy_new (hfrc.out.trans (grownBy_below hb2 _)) _) hlt hrw hrx hxf hp1 hsl hl
  clear hRc hResc hXc hfrc hb2 hq1 hxs2
  clear c3
  replace hS2 := Lib.hid hS2
  have c3 := hS2.out.x.cell 3 (v := .int .i64 n1) rfl
  go_upto_region 4 with fail
  rw [HGF.out]
  clear HGF c3
  generalize w2.alloc _ = W3 at hS2 ⊢
  have hS := hS2
  clear hS2 HFS FS
  obtain ⟨FS, HFS⟩ : ∃ C : Array Value, C = #[.bool true, .bool true, .bool false, .bool false, .bool q5] := ⟨_, rfl⟩
  subst HFS

  obtain ⟨c0, c1, c2, c3, c4, c5, c6, c7, c8, c9, c10, c11, c12, c13, c14, c15, c16, c17⟩ := Blk18 hS.out.x
  obtain ⟨y0, y1, y2, y3, y4, y5, y6, y7, y8, y9, y10, y11, y12, y13, y14, y15, y16, y17⟩ := Free18 hS.out.x
  obtain ⟨f0, f1, f2, f3, f4⟩ := Blk5 hS.out.f
  obtain ⟨⟨n2, p2⟩, hq⟩ : ∃ q, numF l p1 6 = q := ⟨_, rfl⟩
  have HQ2 := Lib.hid hq
  go_wp2_with fail
  refine (hS.out.num (by omega) 6 6 rfl (by omega) _ hq).mono ?_
  rintro e w2 ⟨rfl, hS2, _⟩
  clear hq
  clear c0 c1 c2 c3 c4 c5 c6 c7 c8 c9 c10 c11 c12 c13 c14 c15 c16 c17 y0 y1 y2 y3 y4 y5 y6 y7 y8 y9 y10 y11 y12 y13 y14 y15 y16 y17 f0 f1 f2 f3 f4
  clear hS
  have hS := Lib.hid hS2
  clear hS2
  simp only at hS
  obtain ⟨c0, c1, c2, c3, c4, c5, c6, c7, c8, c9, c10, c11, c12, c13, c14, c15, c16, c17⟩ := Blk18 hS.out.x
  obtain ⟨y0, y1, y2, y3, y4, y5, y6, y7, y8, y9, y10, y11, y12, y13, y14, y15, y16, y17⟩ := Free18 hS.out.x
  obtain ⟨f0, f1, f2, f3, f4⟩ := Blk5 hS.out.f
  obtain ⟨⟨n3, p3⟩, hq⟩ : ∃ q, numF l p2 6 = q := ⟨_, rfl⟩
  have HQ3 := Lib.hid hq
  go_wp2_with fail
  refine (hS.out.num (by omega) 6 6 rfl (by omega) _ hq).mono ?_
  rintro e w3 ⟨rfl, hS2, _⟩
  clear hq
  clear c0 c1 c2 c3 c4 c5 c6 c7 c8 c9 c10 c11 c12 c13 c14 c15 c16 c17 y0 y1 y2 y3 y4 y5 y6 y7 y8 y9 y10 y11 y12 y13 y14 y15 y16 y17 f0 f1 f2 f3 f4
  clear hS
  have hS := Lib.hid hS2
  clear hS2
  simp only at hS
  obtain ⟨c0, c1, c2, c3, c4, c5, c6, c7, c8, c9, c10, c11, c12, c13, c14, c15, c16, c17⟩ := Blk18 hS.out.x
  obtain ⟨y0, y1, y2, y3, y4, y5, y6, y7, y8, y9, y10, y11, y12, y13, y14, y15, y16, y17⟩ := Free18 hS.out.x
  obtain ⟨f0, f1, f2, f3, f4⟩ := Blk5 hS.out.f
  obtain ⟨⟨n4, p4⟩, hq⟩ : ∃ q, numF l p3 6 = q := ⟨_, rfl⟩
  have HQ4 := Lib.hid hq
  go_wp2_with fail
  refine (hS.out.num (by omega) 6 6 rfl (by omega) _ hq).mono ?_
  rintro e w4 ⟨rfl, hS2, _⟩
  clear hq
  clear c0 c1 c2 c3 c4 c5 c6 c7 c8 c9 c10 c11 c12 c13 c14 c15 c16 c17 y0 y1 y2 y3 y4 y5 y6 y7 y8 y9 y10 y11 y12 y13 y14 y15 y16 y17 f0 f1 f2 f3 f4
  clear hS
  have hS := Lib.hid hS2
  clear hS2
  simp only at hS
  obtain ⟨c0, c1, c2, c3, c4, c5, c6, c7, c8, c9, c10, c11, c12, c13, c14, c15, c16, c17⟩ := Blk18 hS.out.x
  obtain ⟨y0, y1, y2, y3, y4, y5, y6, y7, y8, y9, y10, y11, y12, y13, y14, y15, y16, y17⟩ := Free18 hS.out.x
  obtain ⟨f0, f1, f2, f3, f4⟩ := Blk5 hS.out.f
  have hS2 : RS w (((w4.setCell ⟨gx, 0, none⟩ (.int .i64 n2)).setCell ⟨gx, 1, none⟩ (.int .i64 n3)).setCell ⟨gx, 2, none⟩ (.int .i64 n4)) g gr gx gf l s p4 _ #[.int .i64 n2, .int .i64 n3, .int .i64 n4, .int .i64 n1, .int .i64 0, .int .i64 0, .int .i64 0, .int .i64 0, .int .i64 0, .string ⟨#[]⟩, .string ⟨#[]⟩, .int .i64 0, .int .i64 0, .string ⟨#[]⟩, .int .i64 0, .int .i64 0, .slice none 0 0, .slice none 0 0] _ := (((hS.out.setX 0 (.int .i64 n2)).setX 1 (.int .i64 n3)).setX 2 (.int .i64 n4))
  go_upto_region 5 with fail
  clear c0 c1 c2 c3 c4 c5 c6 c7 c8 c9 c10 c11 c12 c13 c14 c15 c16 c17 y0 y1 y2 y3 y4 y5 y6 y7 y8 y9 y10 y11 y12 y13 y14 y15 y16 y17 f0 f1 f2 f3 f4
  generalize (((w4.setCell ⟨gx, 0, none⟩ (.int .i64 n2)).setCell ⟨gx, 1, none⟩ (.int .i64 n3)).setCell ⟨gx, 2, none⟩ (.int .i64 n4)) = v4 at hS2 ⊢
  clear hS
  have hS := Lib.hid hS2
  clear hS2
  obtain ⟨c0, c1, c2, c3, c4, c5, c6, c7, c8, c9, c10, c11, c12, c13, c14, c15, c16, c17⟩ := Blk18 hS.out.x
  obtain ⟨y0, y1, y2, y3, y4, y5, y6, y7, y8, y9, y10, y11, y12, y13, y14, y15, y16, y17⟩ := Free18 hS.out.x
  obtain ⟨f0, f1, f2, f3, f4⟩ := Blk5 hS.out.f
  obtain ⟨⟨n5, p5⟩, hq⟩ : ∃ q, numF l p4 3 = q := ⟨_, rfl⟩
  have HQ5 := Lib.hid hq
  go_wp2_with fail
  refine (hS.out.num (by omega) 3 3 rfl (by omega) _ hq).mono ?_
  rintro e w5 ⟨rfl, hS2, _⟩
  clear hq
  clear c0 c1 c2 c3 c4 c5 c6 c7 c8 c9 c10 c11 c12 c13 c14 c15 c16 c17 y0 y1 y2 y3 y4 y5 y6 y7 y8 y9 y10 y11 y12 y13 y14 y15 y16 y17 f0 f1 f2 f3 f4
  clear hS
  have hS := Lib.hid hS2
  clear hS2
  simp only at hS
  obtain ⟨c0, c1, c2, c3, c4, c5, c6, c7, c8, c9, c10, c11, c12, c13, c14, c15, c16, c17⟩ := Blk18 hS.out.x
  obtain ⟨y0, y1, y2, y3, y4, y5, y6, y7, y8, y9, y10, y11, y12, y13, y14, y15, y16, y17⟩ := Free18 hS.out.x
  obtain ⟨f0, f1, f2, f3, f4⟩ := Blk5 hS.out.f
  have hS2 : RS w (w5.setCell ⟨gx, 4, none⟩ (.int .i64 n5)) g gr gx gf l s p5 _ #[.int .i64 n2, .int .i64 n3, .int .i64 n4, .int .i64 n1, .int .i64 n5, .int .i64 0, .int .i64 0, .int .i64 0, .int .i64 0, .string ⟨#[]⟩, .string ⟨#[]⟩, .int .i64 0, .int .i64 0, .string ⟨#[]⟩, .int .i64 0, .int .i64 0, .slice none 0 0, .slice none 0 0] _ := (hS.out.setX 4 (.int .i64 n5))
  go_upto_region 7 with fail
  clear c0 c1 c2 c3 c4 c5 c6 c7 c8 c9 c10 c11 c12 c13 c14 c15 c16 c17 y0 y1 y2 y3 y4 y5 y6 y7 y8 y9 y10 y11 y12 y13 y14 y15 y16 y17 f0 f1 f2 f3 f4
  generalize (w5.setCell ⟨gx, 4, none⟩ (.int .i64 n5)) = v5 at hS2 ⊢
  clear hS
  have hS := Lib.hid hS2
  clear hS2
  obtain ⟨c0, c1, c2, c3, c4, c5, c6, c7, c8, c9, c10, c11, c12, c13, c14, c15, c16, c17⟩ := Blk18 hS.out.x
  obtain ⟨y0, y1, y2, y3, y4, y5, y6, y7, y8, y9, y10, y11, y12, y13, y14, y15, y16, y17⟩ := Free18 hS.out.x
  obtain ⟨f0, f1, f2, f3, f4⟩ := Blk5 hS.out.f
  obtain ⟨⟨n6, p6⟩, hq⟩ : ∃ q, numF l p5 1 = q := ⟨_, rfl⟩
  have HQ6 := Lib.hid hq
  go_wp2_with fail
  refine (hS.out.num (by omega) 1 1 rfl (by omega) _ hq).mono ?_
  rintro e w6 ⟨rfl, hS2, _⟩
  clear hq
  clear c0 c1 c2 c3 c4 c5 c6 c7 c8 c9 c10 c11 c12 c13 c14 c15 c16 c17 y0 y1 y2 y3 y4 y5 y6 y7 y8 y9 y10 y11 y12 y13 y14 y15 y16 y17 f0 f1 f2 f3 f4
  clear hS
  have hS := Lib.hid hS2
  clear hS2
  simp only at hS
  obtain ⟨c0, c1, c2, c3, c4, c5, c6, c7, c8, c9, c10, c11, c12, c13, c14, c15, c16, c17⟩ := Blk18 hS.out.x
  obtain ⟨y0, y1, y2, y3, y4, y5, y6, y7, y8, y9, y10, y11, y12, y13, y14, y15, y16, y17⟩ := Free18 hS.out.x
  obtain ⟨f0, f1, f2, f3, f4⟩ := Blk5 hS.out.f
  obtain ⟨⟨n7, p7⟩, hq⟩ : ∃ q, numF l p6 2 = q := ⟨_, rfl⟩
  have HQ7 := Lib.hid hq
  go_wp2_with fail
  refine (hS.out.num (by omega) 2 2 rfl (by omega) _ hq).mono ?_
  rintro e w7 ⟨rfl, hS2, _⟩
  clear hq
  clear c0 c1 c2 c3 c4 c5 c6 c7 c8 c9 c10 c11 c12 c13 c14 c15 c16 c17 y0 y1 y2 y3 y4 y5 y6 y7 y8 y9 y10 y11 y12 y13 y14 y15 y16 y17 f0 f1 f2 f3 f4
  clear hS
  have hS := Lib.hid hS2
  clear hS2
  simp only at hS
  obtain ⟨c0, c1, c2, c3, c4, c5, c6, c7, c8, c9, c10, c11, c12, c13, c14, c15, c16, c17⟩ := Blk18 hS.out.x
  obtain ⟨y0, y1, y2, y3, y4, y5, y6, y7, y8, y9, y10, y11, y12, y13, y14, y15, y16, y17⟩ := Free18 hS.out.x
  obtain ⟨f0, f1, f2, f3, f4⟩ := Blk5 hS.out.f
  obtain ⟨⟨t8, p8⟩, hq⟩ : ∃ q, textF l p7 = q := ⟨_, rfl⟩
  obtain ⟨s8, hs8⟩ : ∃ x, S t8 = x := ⟨_, rfl⟩
  have HQ8 := Lib.hid hq
  go_wp2_with fail
  refine (hS.out.text (by omega) _ hq _ hs8).mono ?_
  rintro e w8 ⟨rfl, hS2, _⟩
  have HS8 := Lib.hid hs8
  clear hq hs8
  clear c0 c1 c2 c3 c4 c5 c6 c7 c8 c9 c10 c11 c12 c13 c14 c15 c16 c17 y0 y1 y2 y3 y4 y5 y6 y7 y8 y9 y10 y11 y12 y13 y14 y15 y16 y17 f0 f1 f2 f3 f4
  clear hS
  have hS := Lib.hid hS2
  clear hS2
  simp only at hS
  obtain ⟨c0, c1, c2, c3, c4, c5, c6, c7, c8, c9, c10, c11, c12, c13, c14, c15, c16, c17⟩ := Blk18 hS.out.x
  obtain ⟨y0, y1, y2, y3, y4, y5, y6, y7, y8, y9, y10, y11, y12, y13, y14, y15, y16, y17⟩ := Free18 hS.out.x
  obtain ⟨f0, f1, f2, f3, f4⟩ := Blk5 hS.out.f
  obtain ⟨⟨t9, p9⟩, hq⟩ : ∃ q, textF l p8 = q := ⟨_, rfl⟩
  obtain ⟨s9, hs9⟩ : ∃ x, S t9 = x := ⟨_, rfl⟩
  have HQ9 := Lib.hid hq
  go_wp2_with fail
  refine (hS.out.text (by omega) _ hq _ hs9).mono ?_
  rintro e w9 ⟨rfl, hS2, _⟩
  have HS9 := Lib.hid hs9
  clear hq hs9
  clear c0 c1 c2 c3 c4 c5 c6 c7 c8 c9 c10 c11 c12 c13 c14 c15 c16 c17 y0 y1 y2 y3 y4 y5 y6 y7 y8 y9 y10 y11 y12 y13 y14 y15 y16 y17 f0 f1 f2 f3 f4
  clear hS
  have hS := Lib.hid hS2
  clear hS2
  simp only at hS
  obtain ⟨c0, c1, c2, c3, c4, c5, c6, c7, c8, c9, c10, c11, c12, c13, c14, c15, c16, c17⟩ := Blk18 hS.out.x
  obtain ⟨y0, y1, y2, y3, y4, y5, y6, y7, y8, y9, y10, y11, y12, y13, y14, y15, y16, y17⟩ := Free18 hS.out.x
  obtain ⟨f0, f1, f2, f3, f4⟩ := Blk5 hS.out.f
  have hS2 : RS w ((((w9.setCell ⟨gx, 7, none⟩ (.int .i64 n6)).setCell ⟨gx, 8, none⟩ (.int .i64 n7)).setCell ⟨gx, 9, none⟩ (.string s8)).setCell ⟨gx, 10, none⟩ (.string s9)) g gr gx gf l s p9 _ #[.int .i64 n2, .int .i64 n3, .int .i64 n4, .int .i64 n1, .int .i64 n5, .int .i64 0, .int .i64 0, .int .i64 n6, .int .i64 n7, .string s8, .string s9, .int .i64 0, .int .i64 0, .string ⟨#[]⟩, .int .i64 0, .int .i64 0, .slice none 0 0, .slice none 0 0] _ := ((((hS.out.setX 7 (.int .i64 n6)).setX 8 (.int .i64 n7)).setX 9 (.string s8)).setX 10 (.string s9))
  go_upto_region 8 with fail
  clear c0 c1 c2 c3 c4 c5 c6 c7 c8 c9 c10 c11 c12 c13 c14 c15 c16 c17 y0 y1 y2 y3 y4 y5 y6 y7 y8 y9 y10 y11 y12 y13 y14 y15 y16 y17 f0 f1 f2 f3 f4
  generalize ((((w9.setCell ⟨gx, 7, none⟩ (.int .i64 n6)).setCell ⟨gx, 8, none⟩ (.int .i64 n7)).setCell ⟨gx, 9, none⟩ (.string s8)).setCell ⟨gx, 10, none⟩ (.string s9)) = v9 at hS2 ⊢
  clear hS
  have hS := Lib.hid hS2
  clear hS2
  obtain ⟨c0, c1, c2, c3, c4, c5, c6, c7, c8, c9, c10, c11, c12, c13, c14, c15, c16, c17⟩ := Blk18 hS.out.x
  obtain ⟨y0, y1, y2, y3, y4, y5, y6, y7, y8, y9, y10, y11, y12, y13, y14, y15, y16, y17⟩ := Free18 hS.out.x
  obtain ⟨f0, f1, f2, f3, f4⟩ := Blk5 hS.out.f
  obtain ⟨⟨n10, p10⟩, hq⟩ : ∃ q, numF l p9 1 = q := ⟨_, rfl⟩
  have HQ10 := Lib.hid hq
  go_wp2_with fail
  refine (hS.out.num (by omega) 1 1 rfl (by omega) _ hq).mono ?_
  rintro e w10 ⟨rfl, hS2, _⟩
  clear hq
  clear c0 c1 c2 c3 c4 c5 c6 c7 c8 c9 c10 c11 c12 c13 c14 c15 c16 c17 y0 y1 y2 y3 y4 y5 y6 y7 y8 y9 y10 y11 y12 y13 y14 y15 y16 y17 f0 f1 f2 f3 f4
  clear hS
  have hS := Lib.hid hS2
  clear hS2
  simp only at hS
  obtain ⟨c0, c1, c2, c3, c4, c5, c6, c7, c8, c9, c10, c11, c12, c13, c14, c15, c16, c17⟩ := Blk18 hS.out.x
  obtain ⟨y0, y1, y2, y3, y4, y5, y6, y7, y8, y9, y10, y11, y12, y13, y14, y15, y16, y17⟩ := Free18 hS.out.x
  obtain ⟨f0, f1, f2, f3, f4⟩ := Blk5 hS.out.f
  have hS2 : RS w (w10.setCell ⟨gx, 11, none⟩ (.int .i64 n10)) g gr gx gf l s p10 _ #[.int .i64 n2, .int .i64 n3, .int .i64 n4, .int .i64 n1, .int .i64 n5, .int .i64 0, .int .i64 0, .int .i64 n6, .int .i64 n7, .string s8, .string s9, .int .i64 n10, .int .i64 0, .string ⟨#[]⟩, .int .i64 0, .int .i64 0, .slice none 0 0, .slice none 0 0] _ := (hS.out.setX 11 (.int .i64 n10))
  go_upto_region 10 with fail
  clear c0 c1 c2 c3 c4 c5 c6 c7 c8 c9 c10 c11 c12 c13 c14 c15 c16 c17 y0 y1 y2 y3 y4 y5 y6 y7 y8 y9 y10 y11 y12 y13 y14 y15 y16 y17 f0 f1 f2 f3 f4
  generalize (w10.setCell ⟨gx, 11, none⟩ (.int .i64 n10)) = v10 at hS2 ⊢
  clear hS
  have hS := Lib.hid hS2
  clear hS2
  obtain ⟨c0, c1, c2, c3, c4, c5, c6, c7, c8, c9, c10, c11, c12, c13, c14, c15, c16, c17⟩ := Blk18 hS.out.x
  obtain ⟨y0, y1, y2, y3, y4, y5, y6, y7, y8, y9, y10, y11, y12, y13, y14, y15, y16, y17⟩ := Free18 hS.out.x
  obtain ⟨f0, f1, f2, f3, f4⟩ := Blk5 hS.out.f
  by_cases hho : n10 = 1
  · have HHO := Lib.hid hho
    have hw1 : (n10 != 1) = false := by simp [hho]
    clear hho
    have HFIN : Hid (R = { lsn := n2, prev := n3, txn := n4, kind := n1, page := n5, next := 0, num := 0, ok := n6, os := n7, old := t8, new := t9, how := n10, root := 0, key := [], rp := 0, rs := 0, txns := [], dirty := [] }) := by
      show _ = _
      rw [HT.out]
      simp only [chG, hoG, HQ2.out, HQ3.out, HQ4.out, HQ5.out, HQ6.out, HQ7.out, HQ8.out, HQ9.out, HQ10.out, HHO.out, if_true]
    clear HT HQ2 HQ3 HQ4 HQ5 HQ6 HQ7 HQ8 HQ9 HQ10
    go_wp2_with (first | (with_reducible refine wpList_load18 hS.out.x (by kernel_rfl) _ rfl rfl ?_) | ((with_reducible refine wpList_store18 hS.out.res (by kernel_rfl) (by kernel_rfl) (by kernel_rfl) rfl _ _ rfl rfl rfl ?_); intro W9 hW9 hgr9))
    have HV := rec_val hW9 rfl
    have hfr9 : w.grownBy W9 (some g) := by
      refine ⟨hgr9.os.trans hS.out.fr.os, hgr9.tape.trans hS.out.fr.tape, hgr9.output.trans hS.out.fr.output, Nat.le_trans hS.out.fr.size hgr9.size, fun k hk hne => ?_⟩
      rw [hgr9.block k (Nat.lt_of_lt_of_le hk hS.out.fr.size) (by intro e; injection e; have := hS.out.h1; omega)]
      exact hS.out.fr.block k hk hne
    refine bodyPost_ret (v := .agg #[.int .i64 n2, .int .i64 n3, .int .i64 n4, .int .i64 n1, .int .i64 n5, .int .i64 0, .int .i64 0, .int .i64 n6, .int .i64 n7, .string s8, .string s9, .int .i64 n10, .int .i64 0, .string ⟨#[]⟩, .int .i64 0, .int .i64 0, .slice none 0 0, .slice none 0 0]) ?_ rfl ?_
    · simp [results, Try.results25, asAddr, Act.put, HV]
    · refine ⟨.slice none 0 0, .slice none 0 0, ?_, ?_, ?_, hfr9⟩
      · rw [HFIN.out]; simp only [rcC, HS8.out, HS9.out]; try rfl
      · rw [HFIN.out]; exact ⟨World.ownsRow_nil _ _ _ _, Nat.zero_le _⟩
      · rw [HFIN.out]; exact ⟨World.ownsRow_nil _ _ _ _, Nat.zero_le _⟩
  · have HHO := Lib.hid hho
    have hw1 : (n10 != 1) = true := by simp [hho]
    clear hho
    obtain ⟨⟨n11, p11⟩, hq⟩ : ∃ q, numF l p10 3 = q := ⟨_, rfl⟩
    have HQ11 := Lib.hid hq
    go_wp2_with fail
    refine (hS.out.num (by omega) 3 3 rfl (by omega) _ hq).mono ?_
    rintro e w11 ⟨rfl, hS2, _⟩
    clear hq
    clear c0 c1 c2 c3 c4 c5 c6 c7 c8 c9 c10 c11 c12 c13 c14 c15 c16 c17 y0 y1 y2 y3 y4 y5 y6 y7 y8 y9 y10 y11 y12 y13 y14 y15 y16 y17 f0 f1 f2 f3 f4
    clear hS
    have hS := Lib.hid hS2
    clear hS2
    simp only at hS
    obtain ⟨c0, c1, c2, c3, c4, c5, c6, c7, c8, c9, c10, c11, c12, c13, c14, c15, c16, c17⟩ := Blk18 hS.out.x
    obtain ⟨y0, y1, y2, y3, y4, y5, y6, y7, y8, y9, y10, y11, y12, y13, y14, y15, y16, y17⟩ := Free18 hS.out.x
    obtain ⟨f0, f1, f2, f3, f4⟩ := Blk5 hS.out.f
    have hS2 : RS w (w11.setCell ⟨gx, 12, none⟩ (.int .i64 n11)) g gr gx gf l s p11 _ #[.int .i64 n2, .int .i64 n3, .int .i64 n4, .int .i64 n1, .int .i64 n5, .int .i64 0, .int .i64 0, .int .i64 n6, .int .i64 n7, .string s8, .string s9, .int .i64 n10, .int .i64 n11, .string ⟨#[]⟩, .int .i64 0, .int .i64 0, .slice none 0 0, .slice none 0 0] _ := (hS.out.setX 12 (.int .i64 n11))
    go_upto_region 12 with fail
    clear c0 c1 c2 c3 c4 c5 c6 c7 c8 c9 c10 c11 c12 c13 c14 c15 c16 c17 y0 y1 y2 y3 y4 y5 y6 y7 y8 y9 y10 y11 y12 y13 y14 y15 y16 y17 f0 f1 f2 f3 f4
    generalize (w11.setCell ⟨gx, 12, none⟩ (.int .i64 n11)) = v11 at hS2 ⊢
    clear hS
    have hS := Lib.hid hS2
    clear hS2
    obtain ⟨c0, c1, c2, c3, c4, c5, c6, c7, c8, c9, c10, c11, c12, c13, c14, c15, c16, c17⟩ := Blk18 hS.out.x
    obtain ⟨y0, y1, y2, y3, y4, y5, y6, y7, y8, y9, y10, y11, y12, y13, y14, y15, y16, y17⟩ := Free18 hS.out.x
    obtain ⟨f0, f1, f2, f3, f4⟩ := Blk5 hS.out.f
    obtain ⟨⟨n12, p12⟩, hq⟩ : ∃ q, numF l p11 3 = q := ⟨_, rfl⟩
    have HQ12 := Lib.hid hq
    go_wp2_with fail
    refine (hS.out.num (by omega) 3 3 rfl (by omega) _ hq).mono ?_
    rintro e w12 ⟨rfl, hS2, _⟩
    clear hq
    clear c0 c1 c2 c3 c4 c5 c6 c7 c8 c9 c10 c11 c12 c13 c14 c15 c16 c17 y0 y1 y2 y3 y4 y5 y6 y7 y8 y9 y10 y11 y12 y13 y14 y15 y16 y17 f0 f1 f2 f3 f4
    clear hS
    have hS := Lib.hid hS2
    clear hS2
    simp only at hS
    obtain ⟨c0, c1, c2, c3, c4, c5, c6, c7, c8, c9, c10, c11, c12, c13, c14, c15, c16, c17⟩ := Blk18 hS.out.x
    obtain ⟨y0, y1, y2, y3, y4, y5, y6, y7, y8, y9, y10, y11, y12, y13, y14, y15, y16, y17⟩ := Free18 hS.out.x
    obtain ⟨f0, f1, f2, f3, f4⟩ := Blk5 hS.out.f
    obtain ⟨⟨n13, p13⟩, hq⟩ : ∃ q, numF l p12 2 = q := ⟨_, rfl⟩
    have HQ13 := Lib.hid hq
    go_wp2_with fail
    refine (hS.out.num (by omega) 2 2 rfl (by omega) _ hq).mono ?_
    rintro e w13 ⟨rfl, hS2, _⟩
    clear hq
    clear c0 c1 c2 c3 c4 c5 c6 c7 c8 c9 c10 c11 c12 c13 c14 c15 c16 c17 y0 y1 y2 y3 y4 y5 y6 y7 y8 y9 y10 y11 y12 y13 y14 y15 y16 y17 f0 f1 f2 f3 f4
    clear hS
    have hS := Lib.hid hS2
    clear hS2
    simp only at hS
    obtain ⟨c0, c1, c2, c3, c4, c5, c6, c7, c8, c9, c10, c11, c12, c13, c14, c15, c16, c17⟩ := Blk18 hS.out.x
    obtain ⟨y0, y1, y2, y3, y4, y5, y6, y7, y8, y9, y10, y11, y12, y13, y14, y15, y16, y17⟩ := Free18 hS.out.x
    obtain ⟨f0, f1, f2, f3, f4⟩ := Blk5 hS.out.f
    have hS2 : RS w ((w13.setCell ⟨gx, 14, none⟩ (.int .i64 n12)).setCell ⟨gx, 15, none⟩ (.int .i64 n13)) g gr gx gf l s p13 _ #[.int .i64 n2, .int .i64 n3, .int .i64 n4, .int .i64 n1, .int .i64 n5, .int .i64 0, .int .i64 0, .int .i64 n6, .int .i64 n7, .string s8, .string s9, .int .i64 n10, .int .i64 n11, .string ⟨#[]⟩, .int .i64 n12, .int .i64 n13, .slice none 0 0, .slice none 0 0] _ := ((hS.out.setX 14 (.int .i64 n12)).setX 15 (.int .i64 n13))
    go_upto_region 13 with fail
    clear c0 c1 c2 c3 c4 c5 c6 c7 c8 c9 c10 c11 c12 c13 c14 c15 c16 c17 y0 y1 y2 y3 y4 y5 y6 y7 y8 y9 y10 y11 y12 y13 y14 y15 y16 y17 f0 f1 f2 f3 f4
    generalize ((w13.setCell ⟨gx, 14, none⟩ (.int .i64 n12)).setCell ⟨gx, 15, none⟩ (.int .i64 n13)) = v13 at hS2 ⊢
    clear hS
    have hS := Lib.hid hS2
    clear hS2
    obtain ⟨c0, c1, c2, c3, c4, c5, c6, c7, c8, c9, c10, c11, c12, c13, c14, c15, c16, c17⟩ := Blk18 hS.out.x
    obtain ⟨y0, y1, y2, y3, y4, y5, y6, y7, y8, y9, y10, y11, y12, y13, y14, y15, y16, y17⟩ := Free18 hS.out.x
    obtain ⟨f0, f1, f2, f3, f4⟩ := Blk5 hS.out.f
    obtain ⟨⟨t14, p14⟩, hq⟩ : ∃ q, textF l p13 = q := ⟨_, rfl⟩
    obtain ⟨s14, hs14⟩ : ∃ x, S t14 = x := ⟨_, rfl⟩
    have HQ14 := Lib.hid hq
    go_wp2_with fail
    refine (hS.out.text (by omega) _ hq _ hs14).mono ?_
    rintro e w14 ⟨rfl, hS2, _⟩
    have HS14 := Lib.hid hs14
    clear hq hs14
    clear c0 c1 c2 c3 c4 c5 c6 c7 c8 c9 c10 c11 c12 c13 c14 c15 c16 c17 y0 y1 y2 y3 y4 y5 y6 y7 y8 y9 y10 y11 y12 y13 y14 y15 y16 y17 f0 f1 f2 f3 f4
    clear hS
    have hS := Lib.hid hS2
    clear hS2
    simp only at hS
    obtain ⟨c0, c1, c2, c3, c4, c5, c6, c7, c8, c9, c10, c11, c12, c13, c14, c15, c16, c17⟩ := Blk18 hS.out.x
    obtain ⟨y0, y1, y2, y3, y4, y5, y6, y7, y8, y9, y10, y11, y12, y13, y14, y15, y16, y17⟩ := Free18 hS.out.x
    obtain ⟨f0, f1, f2, f3, f4⟩ := Blk5 hS.out.f
    have hS2 : RS w (w14.setCell ⟨gx, 13, none⟩ (.string s14)) g gr gx gf l s p14 _ #[.int .i64 n2, .int .i64 n3, .int .i64 n4, .int .i64 n1, .int .i64 n5, .int .i64 0, .int .i64 0, .int .i64 n6, .int .i64 n7, .string s8, .string s9, .int .i64 n10, .int .i64 n11, .string s14, .int .i64 n12, .int .i64 n13, .slice none 0 0, .slice none 0 0] _ := (hS.out.setX 13 (.string s14))
    go_upto_region 14 with fail
    clear c0 c1 c2 c3 c4 c5 c6 c7 c8 c9 c10 c11 c12 c13 c14 c15 c16 c17 y0 y1 y2 y3 y4 y5 y6 y7 y8 y9 y10 y11 y12 y13 y14 y15 y16 y17 f0 f1 f2 f3 f4
    generalize (w14.setCell ⟨gx, 13, none⟩ (.string s14)) = v14 at hS2 ⊢
    clear hS
    have hS := Lib.hid hS2
    clear hS2
    obtain ⟨c0, c1, c2, c3, c4, c5, c6, c7, c8, c9, c10, c11, c12, c13, c14, c15, c16, c17⟩ := Blk18 hS.out.x
    obtain ⟨y0, y1, y2, y3, y4, y5, y6, y7, y8, y9, y10, y11, y12, y13, y14, y15, y16, y17⟩ := Free18 hS.out.x
    obtain ⟨f0, f1, f2, f3, f4⟩ := Blk5 hS.out.f
    have HFIN : Hid (R = { lsn := n2, prev := n3, txn := n4, kind := n1, page := n5, next := 0, num := 0, ok := n6, os := n7, old := t8, new := t9, how := n10, root := n11, key := t14, rp := n12, rs := n13, txns := [], dirty := [] }) := by
      show _ = _
      rw [HT.out]
      simp only [chG, hoG, HQ2.out, HQ3.out, HQ4.out, HQ5.out, HQ6.out, HQ7.out, HQ8.out, HQ9.out, HQ10.out, HQ11.out, HQ12.out, HQ13.out, HQ14.out, if_neg HHO.out]
    clear HT HQ2 HQ3 HQ4 HQ5 HQ6 HQ7 HQ8 HQ9 HQ10 HQ11 HQ12 HQ13 HQ14
    go_wp2_with (first | (with_reducible refine wpList_load18 hS.out.x (by kernel_rfl) _ rfl rfl ?_) | ((with_reducible refine wpList_store18 hS.out.res (by kernel_rfl) (by kernel_rfl) (by kernel_rfl) rfl _ _ rfl rfl rfl ?_); intro W9 hW9 hgr9))
    have HV := rec_val hW9 rfl
    have hfr9 : w.grownBy W9 (some g) := by
      refine ⟨hgr9.os.trans hS.out.fr.os, hgr9.tape.trans hS.out.fr.tape, hgr9.output.trans hS.out.fr.output, Nat.le_trans hS.out.fr.size hgr9.size, fun k hk hne => ?_⟩
      rw [hgr9.block k (Nat.lt_of_lt_of_le hk hS.out.fr.size) (by intro e; injection e; have := hS.out.h1; omega)]
      exact hS.out.fr.block k hk hne
    refine bodyPost_ret (v := .agg #[.int .i64 n2, .int .i64 n3, .int .i64 n4, .int .i64 n1, .int .i64 n5, .int .i64 0, .int .i64 0, .int .i64 n6, .int .i64 n7, .string s8, .string s9, .int .i64 n10, .int .i64 n11, .string s14, .int .i64 n12, .int .i64 n13, .slice none 0 0, .slice none 0 0]) ?_ rfl ?_
    · simp [results, Try.results25, asAddr, Act.put, HV]
    · refine ⟨.slice none 0 0, .slice none 0 0, ?_, ?_, ?_, hfr9⟩
      · rw [HFIN.out]; simp only [rcC, HS8.out, HS9.out, HS14.out]; try rfl
      · rw [HFIN.out]; exact ⟨World.ownsRow_nil _ _ _ _, Nat.zero_le _⟩
      · rw [HFIN.out]; exact ⟨World.ownsRow_nil _ _ _ _, Nat.zero_le _⟩
set_option maxHeartbeats 16000000 in
set_option maxRecDepth 100000 in
theorem record_chne (l : List UInt8) (s : ByteArray) (hsl : S l = s) (hl : l.length ≤ 1000000) (g : Nat) (w : World) (hR : Blk w g (rdC s (0, false)) 56) (hk0 : chF (numF l (0, false) 1).1 = true) (hk1 : hoF (numF l (0, false) 1).1 = false) (hk2 : neF (numF l (0, false) 1).1 = true) (hk3 : liF (numF l (0, false) 1).1 = false) :
    Calls Try.prog 25 #[.pointer (some ⟨g, 0, none⟩)] w (RecA (recF l) g w) := by
  have HT : recF l = recG (numF l) (textF l) := rfl
  obtain ⟨R, hRR⟩ : ∃ R, recF l = R := ⟨_, rfl⟩
  rw [hRR] at HT ⊢
  unfold recG at HT
  obtain ⟨⟨n1, p1⟩, hq1⟩ : ∃ q, numF l (0, false) 1 = q := ⟨_, rfl⟩
  rw [hq1] at hk0 hk1 hk2 hk3 HT
  simp only at hk0 hk1 hk2 hk3 HT
  have HOF := fun W => of_any n1 W
  simp only [formV] at HOF
  rw [hk0, hk1, hk2, hk3] at HOF
  unfold tailG at HT
  rw [hk0, hk1, hk2, hk3] at HT
  simp only [if_true, if_false, Bool.false_eq_true] at HT
  replace HT := Lib.hid HT
  replace HOF := Lib.hid HOF
  obtain ⟨q5, hq5⟩ : ∃ q, isF n1 = q := ⟨_, rfl⟩
  rw [hq5] at HOF
  have hlt := hR.lt
  clear hk0 hk1 hk2 hk3 hRR hq5
  have hRa := (hR.alloc (.cells zs18 31)).alloc (.cells zs18 31)
  have hX := Blk.new (w.alloc (.cells zs18 31)) zs18 31
  have hRes := (Blk.new w zs18 31).alloc (.cells zs18 31)
  have hfr := grownBy_new (grownBy_new (show w.grownBy w (some g) from ⟨rfl, rfl, rfl, Nat.le_refl _, fun _ _ _ => rfl⟩) (.cells zs18 31)) (.cells zs18 31)
  simp only [World.size_alloc] at hX
  obtain ⟨gr, HGR⟩ : ∃ x, Hid (w.heap.size = x) := ⟨_, rfl⟩
  obtain ⟨gx, HGX⟩ : ∃ x, Hid (w.heap.size + 1 = x) := ⟨_, rfl⟩
  have hrx : gr < gx := by rw [← HGR.out, ← HGX.out]; omega
  have hrw : w.heap.size ≤ gr := by rw [← HGR.out]; omega
  rw [HGX.out] at hX
  rw [HGR.out] at hRes
  have hxs : gx < ((w.alloc (.cells zs18 31)).alloc (.cells zs18 31)).heap.size := hX.lt
  unfold zs18 at hRa hX hRes hfr hxs
  go_enter Try.func25, Try.ntmps25
  go_upto_region 2 with fail
  rw [HGX.out, HGR.out]
  generalize ((w.alloc (.cells #[.int .i64 0, .int .i64 0, .int .i64 0, .int .i64 0, .int .i64 0, .int .i64 0, .int .i64 0, .int .i64 0, .int .i64 0, .string ⟨#[]⟩, .string ⟨#[]⟩, .int .i64 0, .int .i64 0, .string ⟨#[]⟩, .int .i64 0, .int .i64 0, .slice none 0 0, .slice none 0 0] 31)).alloc (.cells #[.int .i64 0, .int .i64 0, .int .i64 0, .int .i64 0, .int .i64 0, .int .i64 0, .int .i64 0, .int .i64 0, .int .i64 0, .string ⟨#[]⟩, .string ⟨#[]⟩, .int .i64 0, .int .i64 0, .string ⟨#[]⟩, .int .i64 0, .int .i64 0, .slice none 0 0, .slice none 0 0] 31)) = W0 at hRa hX hRes hfr hxs ⊢
  clear HGR HGX hR
  have hgx : gx ≠ g := by omega
  replace hRa := Lib.hid hRa
  replace hX := Lib.hid hX
  replace hRes := Lib.hid hRes
  replace hfr := Lib.hid hfr
  go_wp2_with fail
  refine (num_any l s hsl (0, false) 1 1 rfl g _ hRa.out (by omega) hl (by simp)).mono ?_
  rw [hq1]
  rintro e w1 ⟨rfl, hRb, hgb⟩
  have hXb : Blk w1 gx #[.int .i64 0, .int .i64 0, .int .i64 0, .int .i64 0, .int .i64 0, .int .i64 0, .int .i64 0, .int .i64 0, .int .i64 0, .string ⟨#[]⟩, .string ⟨#[]⟩, .int .i64 0, .int .i64 0, .string ⟨#[]⟩, .int .i64 0, .int .i64 0, .slice none 0 0, .slice none 0 0] 31 := hX.out.grown hgb (by intro e; injection e; omega)
  have hResb : Blk w1 gr zs18 31 := hRes.out.grown hgb (by intro e; injection e; omega)
  have hfrb := hfr.out.trans hgb
  clear hRa hX hRes hfr hgb
  have hRc := hRb.other (a := ⟨gx, 3, none⟩) (fun e => hgx e.symm) (.int .i64 n1)
  have hXc : Blk (w1.setCell ⟨gx, 3, none⟩ (.int .i64 n1)) gx #[.int .i64 0, .int .i64 0, .int .i64 0, .int .i64 n1, .int .i64 0, .int .i64 0, .int .i64 0, .int .i64 0, .int .i64 0, .string ⟨#[]⟩, .string ⟨#[]⟩, .int .i64 0, .int .i64 0, .string ⟨#[]⟩, .int .i64 0, .int .i64 0, .slice none 0 0, .slice none 0 0] 31 := hXb.set 3 (.int .i64 n1)
  have hResc := hResb.other (a := ⟨gx, 3, none⟩) (by show gr ≠ gx; omega) (.int .i64 n1)
  have hfrc := grownBy_setNew hfrb (a := ⟨gx, 3, none⟩) (by show w.heap.size ≤ gx; omega) (.int .i64 n1)
  have hxs2 : gx < (w1.setCell ⟨gx, 3, none⟩ (.int .i64 n1)).heap.size := hXc.lt
  obtain ⟨c0, c1, c2, c3, c4, c5, c6, c7, c8, c9, c10, c11, c12, c13, c14, c15, c16, c17⟩ := Blk18 hXb
  obtain ⟨y0, y1, y2, y3, y4, y5, y6, y7, y8, y9, y10, y11, y12, y13, y14, y15, y16, y17⟩ := Free18 hXb
  replace hRc := Lib.hid hRc
  replace hXc := Lib.hid hXc
  replace hResc := Lib.hid hResc
  replace hfrc := Lib.hid hfrc
  clear hRb hXb hResb hfrb hxs
  go_upto_region 3 with fail
  clear c0 c1 c2 c3 c4 c5 c6 c7 c8 c9 c10 c11 c12 c13 c14 c15 c16 c17 y0 y1 y2 y3 y4 y5 y6 y7 y8 y9 y10 y11 y12 y13 y14 y15 y16 y17
  generalize w1.setCell ⟨gx, 3, none⟩ (.int .i64 n1) = W1 at hRc hXc hResc hfrc hxs2 ⊢
  have c3 := hXc.out.cell 3 (v := .int .i64 n1) rfl
  go_wp2_with fail
  refine (HOF.out _).mono ?_
  rintro e w2 ⟨rfl, hb2⟩
  obtain ⟨gf, HGF⟩ : ∃ x, Hid (w2.heap.size = x) := ⟨_, rfl⟩
  have hxf : gx < gf := by have := hb2.size; rw [← HGF.out]; omega
  obtain ⟨FS, HFS⟩ : ∃ C : Array Value, C = #[.bool true, .bool false, .bool true, .bool false, .bool q5] := ⟨_, rfl⟩
  have hp1 : p1.1 ≤ 8 := by
    have h := congrArg (fun q => q.2.1) hq1
    simp only [numF] at h
    omega
  have hS2 := RS.start (l := l) (s := s) (p := p1) 8 ((hRc.out.below hb2).alloc (.cells #[.bool true, .bool false, .bool true, .bool false, .bool q5] 60)) ((hResc.out.below hb2).alloc _) ((hXc.out.below hb2).alloc _)
    (by have := Blk.new w2 #[.bool true, .bool false, .bool true, .bool false, .bool q5] 60; rw [HGF.out] at this; exact this) (grownBy_new (hfrc.out.trans (grownBy_below hb2 _)) _) hlt hrw hrx hxf hp1 hsl hl
  clear hRc hResc hXc hfrc hb2 hq1 hxs2
  clear c3
  replace hS2 := Lib.hid hS2
  have c3 := hS2.out.x.cell 3 (v := .int .i64 n1) rfl
  go_upto_region 4 with fail
  rw [HGF.out]
  clear HGF c3
  generalize w2.alloc _ = W3 at hS2 ⊢
  have hS := hS2
  clear hS2 HFS FS
  obtain ⟨FS, HFS⟩ : ∃ C : Array Value, C = #[.bool true, .bool false, .bool true, .bool false, .bool q5] := ⟨_, rfl⟩
  subst HFS

  obtain ⟨c0, c1, c2, c3, c4, c5, c6, c7, c8, c9, c10, c11, c12, c13, c14, c15, c16, c17⟩ := Blk18 hS.out.x
  obtain ⟨y0, y1, y2, y3, y4, y5, y6, y7, y8, y9, y10, y11, y12, y13, y14, y15, y16, y17⟩ := Free18 hS.out.x
  obtain ⟨f0, f1, f2, f3, f4⟩ := Blk5 hS.out.f
  obtain ⟨⟨n2, p2⟩, hq⟩ : ∃ q, numF l p1 6 = q := ⟨_, rfl⟩
  have HQ2 := Lib.hid hq
  go_wp2_with fail
  refine (hS.out.num (by omega) 6 6 rfl (by omega) _ hq).mono ?_
  rintro e w2 ⟨rfl, hS2, _⟩
  clear hq
  clear c0 c1 c2 c3 c4 c5 c6 c7 c8 c9 c10 c11 c12 c13 c14 c15 c16 c17 y0 y1 y2 y3 y4 y5 y6 y7 y8 y9 y10 y11 y12 y13 y14 y15 y16 y17 f0 f1 f2 f3 f4
  clear hS
  have hS := Lib.hid hS2
  clear hS2
  simp only at hS
  obtain ⟨c0, c1, c2, c3, c4, c5, c6, c7, c8, c9, c10, c11, c12, c13, c14, c15, c16, c17⟩ := Blk18 hS.out.x
  obtain ⟨y0, y1, y2, y3, y4, y5, y6, y7, y8, y9, y10, y11, y12, y13, y14, y15, y16, y17⟩ := Free18 hS.out.x
  obtain ⟨f0, f1, f2, f3, f4⟩ := Blk5 hS.out.f
  obtain ⟨⟨n3, p3⟩, hq⟩ : ∃ q, numF l p2 6 = q := ⟨_, rfl⟩
  have HQ3 := Lib.hid hq
  go_wp2_with fail
  refine (hS.out.num (by omega) 6 6 rfl (by omega) _ hq).mono ?_
  rintro e w3 ⟨rfl, hS2, _⟩
  clear hq
  clear c0 c1 c2 c3 c4 c5 c6 c7 c8 c9 c10 c11 c12 c13 c14 c15 c16 c17 y0 y1 y2 y3 y4 y5 y6 y7 y8 y9 y10 y11 y12 y13 y14 y15 y16 y17 f0 f1 f2 f3 f4
  clear hS
  have hS := Lib.hid hS2
  clear hS2
  simp only at hS
  obtain ⟨c0, c1, c2, c3, c4, c5, c6, c7, c8, c9, c10, c11, c12, c13, c14, c15, c16, c17⟩ := Blk18 hS.out.x
  obtain ⟨y0, y1, y2, y3, y4, y5, y6, y7, y8, y9, y10, y11, y12, y13, y14, y15, y16, y17⟩ := Free18 hS.out.x
  obtain ⟨f0, f1, f2, f3, f4⟩ := Blk5 hS.out.f
  obtain ⟨⟨n4, p4⟩, hq⟩ : ∃ q, numF l p3 6 = q := ⟨_, rfl⟩
  have HQ4 := Lib.hid hq
  go_wp2_with fail
  refine (hS.out.num (by omega) 6 6 rfl (by omega) _ hq).mono ?_
  rintro e w4 ⟨rfl, hS2, _⟩
  clear hq
  clear c0 c1 c2 c3 c4 c5 c6 c7 c8 c9 c10 c11 c12 c13 c14 c15 c16 c17 y0 y1 y2 y3 y4 y5 y6 y7 y8 y9 y10 y11 y12 y13 y14 y15 y16 y17 f0 f1 f2 f3 f4
  clear hS
  have hS := Lib.hid hS2
  clear hS2
  simp only at hS
  obtain ⟨c0, c1, c2, c3, c4, c5, c6, c7, c8, c9, c10, c11, c12, c13, c14, c15, c16, c17⟩ := Blk18 hS.out.x
  obtain ⟨y0, y1, y2, y3, y4, y5, y6, y7, y8, y9, y10, y11, y12, y13, y14, y15, y16, y17⟩ := Free18 hS.out.x
  obtain ⟨f0, f1, f2, f3, f4⟩ := Blk5 hS.out.f
  have hS2 : RS w (((w4.setCell ⟨gx, 0, none⟩ (.int .i64 n2)).setCell ⟨gx, 1, none⟩ (.int .i64 n3)).setCell ⟨gx, 2, none⟩ (.int .i64 n4)) g gr gx gf l s p4 _ #[.int .i64 n2, .int .i64 n3, .int .i64 n4, .int .i64 n1, .int .i64 0, .int .i64 0, .int .i64 0, .int .i64 0, .int .i64 0, .string ⟨#[]⟩, .string ⟨#[]⟩, .int .i64 0, .int .i64 0, .string ⟨#[]⟩, .int .i64 0, .int .i64 0, .slice none 0 0, .slice none 0 0] _ := (((hS.out.setX 0 (.int .i64 n2)).setX 1 (.int .i64 n3)).setX 2 (.int .i64 n4))
  go_upto_region 5 with fail
  clear c0 c1 c2 c3 c4 c5 c6 c7 c8 c9 c10 c11 c12 c13 c14 c15 c16 c17 y0 y1 y2 y3 y4 y5 y6 y7 y8 y9 y10 y11 y12 y13 y14 y15 y16 y17 f0 f1 f2 f3 f4
  generalize (((w4.setCell ⟨gx, 0, none⟩ (.int .i64 n2)).setCell ⟨gx, 1, none⟩ (.int .i64 n3)).setCell ⟨gx, 2, none⟩ (.int .i64 n4)) = v4 at hS2 ⊢
  clear hS
  have hS := Lib.hid hS2
  clear hS2
  obtain ⟨c0, c1, c2, c3, c4, c5, c6, c7, c8, c9, c10, c11, c12, c13, c14, c15, c16, c17⟩ := Blk18 hS.out.x
  obtain ⟨y0, y1, y2, y3, y4, y5, y6, y7, y8, y9, y10, y11, y12, y13, y14, y15, y16, y17⟩ := Free18 hS.out.x
  obtain ⟨f0, f1, f2, f3, f4⟩ := Blk5 hS.out.f
  obtain ⟨⟨n5, p5⟩, hq⟩ : ∃ q, numF l p4 3 = q := ⟨_, rfl⟩
  have HQ5 := Lib.hid hq
  go_wp2_with fail
  refine (hS.out.num (by omega) 3 3 rfl (by omega) _ hq).mono ?_
  rintro e w5 ⟨rfl, hS2, _⟩
  clear hq
  clear c0 c1 c2 c3 c4 c5 c6 c7 c8 c9 c10 c11 c12 c13 c14 c15 c16 c17 y0 y1 y2 y3 y4 y5 y6 y7 y8 y9 y10 y11 y12 y13 y14 y15 y16 y17 f0 f1 f2 f3 f4
  clear hS
  have hS := Lib.hid hS2
  clear hS2
  simp only at hS
  obtain ⟨c0, c1, c2, c3, c4, c5, c6, c7, c8, c9, c10, c11, c12, c13, c14, c15, c16, c17⟩ := Blk18 hS.out.x
  obtain ⟨y0, y1, y2, y3, y4, y5, y6, y7, y8, y9, y10, y11, y12, y13, y14, y15, y16, y17⟩ := Free18 hS.out.x
  obtain ⟨f0, f1, f2, f3, f4⟩ := Blk5 hS.out.f
  have hS2 : RS w (w5.setCell ⟨gx, 4, none⟩ (.int .i64 n5)) g gr gx gf l s p5 _ #[.int .i64 n2, .int .i64 n3, .int .i64 n4, .int .i64 n1, .int .i64 n5, .int .i64 0, .int .i64 0, .int .i64 0, .int .i64 0, .string ⟨#[]⟩, .string ⟨#[]⟩, .int .i64 0, .int .i64 0, .string ⟨#[]⟩, .int .i64 0, .int .i64 0, .slice none 0 0, .slice none 0 0] _ := (hS.out.setX 4 (.int .i64 n5))
  go_upto_region 7 with fail
  clear c0 c1 c2 c3 c4 c5 c6 c7 c8 c9 c10 c11 c12 c13 c14 c15 c16 c17 y0 y1 y2 y3 y4 y5 y6 y7 y8 y9 y10 y11 y12 y13 y14 y15 y16 y17 f0 f1 f2 f3 f4
  generalize (w5.setCell ⟨gx, 4, none⟩ (.int .i64 n5)) = v5 at hS2 ⊢
  clear hS
  have hS := Lib.hid hS2
  clear hS2
  obtain ⟨c0, c1, c2, c3, c4, c5, c6, c7, c8, c9, c10, c11, c12, c13, c14, c15, c16, c17⟩ := Blk18 hS.out.x
  obtain ⟨y0, y1, y2, y3, y4, y5, y6, y7, y8, y9, y10, y11, y12, y13, y14, y15, y16, y17⟩ := Free18 hS.out.x
  obtain ⟨f0, f1, f2, f3, f4⟩ := Blk5 hS.out.f
  obtain ⟨⟨n6, p6⟩, hq⟩ : ∃ q, numF l p5 1 = q := ⟨_, rfl⟩
  have HQ6 := Lib.hid hq
  go_wp2_with fail
  refine (hS.out.num (by omega) 1 1 rfl (by omega) _ hq).mono ?_
  rintro e w6 ⟨rfl, hS2, _⟩
  clear hq
  clear c0 c1 c2 c3 c4 c5 c6 c7 c8 c9 c10 c11 c12 c13 c14 c15 c16 c17 y0 y1 y2 y3 y4 y5 y6 y7 y8 y9 y10 y11 y12 y13 y14 y15 y16 y17 f0 f1 f2 f3 f4
  clear hS
  have hS := Lib.hid hS2
  clear hS2
  simp only at hS
  obtain ⟨c0, c1, c2, c3, c4, c5, c6, c7, c8, c9, c10, c11, c12, c13, c14, c15, c16, c17⟩ := Blk18 hS.out.x
  obtain ⟨y0, y1, y2, y3, y4, y5, y6, y7, y8, y9, y10, y11, y12, y13, y14, y15, y16, y17⟩ := Free18 hS.out.x
  obtain ⟨f0, f1, f2, f3, f4⟩ := Blk5 hS.out.f
  obtain ⟨⟨n7, p7⟩, hq⟩ : ∃ q, numF l p6 2 = q := ⟨_, rfl⟩
  have HQ7 := Lib.hid hq
  go_wp2_with fail
  refine (hS.out.num (by omega) 2 2 rfl (by omega) _ hq).mono ?_
  rintro e w7 ⟨rfl, hS2, _⟩
  clear hq
  clear c0 c1 c2 c3 c4 c5 c6 c7 c8 c9 c10 c11 c12 c13 c14 c15 c16 c17 y0 y1 y2 y3 y4 y5 y6 y7 y8 y9 y10 y11 y12 y13 y14 y15 y16 y17 f0 f1 f2 f3 f4
  clear hS
  have hS := Lib.hid hS2
  clear hS2
  simp only at hS
  obtain ⟨c0, c1, c2, c3, c4, c5, c6, c7, c8, c9, c10, c11, c12, c13, c14, c15, c16, c17⟩ := Blk18 hS.out.x
  obtain ⟨y0, y1, y2, y3, y4, y5, y6, y7, y8, y9, y10, y11, y12, y13, y14, y15, y16, y17⟩ := Free18 hS.out.x
  obtain ⟨f0, f1, f2, f3, f4⟩ := Blk5 hS.out.f
  obtain ⟨⟨t8, p8⟩, hq⟩ : ∃ q, textF l p7 = q := ⟨_, rfl⟩
  obtain ⟨s8, hs8⟩ : ∃ x, S t8 = x := ⟨_, rfl⟩
  have HQ8 := Lib.hid hq
  go_wp2_with fail
  refine (hS.out.text (by omega) _ hq _ hs8).mono ?_
  rintro e w8 ⟨rfl, hS2, _⟩
  have HS8 := Lib.hid hs8
  clear hq hs8
  clear c0 c1 c2 c3 c4 c5 c6 c7 c8 c9 c10 c11 c12 c13 c14 c15 c16 c17 y0 y1 y2 y3 y4 y5 y6 y7 y8 y9 y10 y11 y12 y13 y14 y15 y16 y17 f0 f1 f2 f3 f4
  clear hS
  have hS := Lib.hid hS2
  clear hS2
  simp only at hS
  obtain ⟨c0, c1, c2, c3, c4, c5, c6, c7, c8, c9, c10, c11, c12, c13, c14, c15, c16, c17⟩ := Blk18 hS.out.x
  obtain ⟨y0, y1, y2, y3, y4, y5, y6, y7, y8, y9, y10, y11, y12, y13, y14, y15, y16, y17⟩ := Free18 hS.out.x
  obtain ⟨f0, f1, f2, f3, f4⟩ := Blk5 hS.out.f
  obtain ⟨⟨t9, p9⟩, hq⟩ : ∃ q, textF l p8 = q := ⟨_, rfl⟩
  obtain ⟨s9, hs9⟩ : ∃ x, S t9 = x := ⟨_, rfl⟩
  have HQ9 := Lib.hid hq
  go_wp2_with fail
  refine (hS.out.text (by omega) _ hq _ hs9).mono ?_
  rintro e w9 ⟨rfl, hS2, _⟩
  have HS9 := Lib.hid hs9
  clear hq hs9
  clear c0 c1 c2 c3 c4 c5 c6 c7 c8 c9 c10 c11 c12 c13 c14 c15 c16 c17 y0 y1 y2 y3 y4 y5 y6 y7 y8 y9 y10 y11 y12 y13 y14 y15 y16 y17 f0 f1 f2 f3 f4
  clear hS
  have hS := Lib.hid hS2
  clear hS2
  simp only at hS
  obtain ⟨c0, c1, c2, c3, c4, c5, c6, c7, c8, c9, c10, c11, c12, c13, c14, c15, c16, c17⟩ := Blk18 hS.out.x
  obtain ⟨y0, y1, y2, y3, y4, y5, y6, y7, y8, y9, y10, y11, y12, y13, y14, y15, y16, y17⟩ := Free18 hS.out.x
  obtain ⟨f0, f1, f2, f3, f4⟩ := Blk5 hS.out.f
  have hS2 : RS w ((((w9.setCell ⟨gx, 7, none⟩ (.int .i64 n6)).setCell ⟨gx, 8, none⟩ (.int .i64 n7)).setCell ⟨gx, 9, none⟩ (.string s8)).setCell ⟨gx, 10, none⟩ (.string s9)) g gr gx gf l s p9 _ #[.int .i64 n2, .int .i64 n3, .int .i64 n4, .int .i64 n1, .int .i64 n5, .int .i64 0, .int .i64 0, .int .i64 n6, .int .i64 n7, .string s8, .string s9, .int .i64 0, .int .i64 0, .string ⟨#[]⟩, .int .i64 0, .int .i64 0, .slice none 0 0, .slice none 0 0] _ := ((((hS.out.setX 7 (.int .i64 n6)).setX 8 (.int .i64 n7)).setX 9 (.string s8)).setX 10 (.string s9))
  go_upto_region 8 with fail
  clear c0 c1 c2 c3 c4 c5 c6 c7 c8 c9 c10 c11 c12 c13 c14 c15 c16 c17 y0 y1 y2 y3 y4 y5 y6 y7 y8 y9 y10 y11 y12 y13 y14 y15 y16 y17 f0 f1 f2 f3 f4
  generalize ((((w9.setCell ⟨gx, 7, none⟩ (.int .i64 n6)).setCell ⟨gx, 8, none⟩ (.int .i64 n7)).setCell ⟨gx, 9, none⟩ (.string s8)).setCell ⟨gx, 10, none⟩ (.string s9)) = v9 at hS2 ⊢
  clear hS
  have hS := Lib.hid hS2
  clear hS2
  obtain ⟨c0, c1, c2, c3, c4, c5, c6, c7, c8, c9, c10, c11, c12, c13, c14, c15, c16, c17⟩ := Blk18 hS.out.x
  obtain ⟨y0, y1, y2, y3, y4, y5, y6, y7, y8, y9, y10, y11, y12, y13, y14, y15, y16, y17⟩ := Free18 hS.out.x
  obtain ⟨f0, f1, f2, f3, f4⟩ := Blk5 hS.out.f
  obtain ⟨⟨n10, p10⟩, hq⟩ : ∃ q, numF l p9 6 = q := ⟨_, rfl⟩
  have HQ10 := Lib.hid hq
  go_wp2_with fail
  refine (hS.out.num (by omega) 6 6 rfl (by omega) _ hq).mono ?_
  rintro e w10 ⟨rfl, hS2, _⟩
  clear hq
  clear c0 c1 c2 c3 c4 c5 c6 c7 c8 c9 c10 c11 c12 c13 c14 c15 c16 c17 y0 y1 y2 y3 y4 y5 y6 y7 y8 y9 y10 y11 y12 y13 y14 y15 y16 y17 f0 f1 f2 f3 f4
  clear hS
  have hS := Lib.hid hS2
  clear hS2
  simp only at hS
  obtain ⟨c0, c1, c2, c3, c4, c5, c6, c7, c8, c9, c10, c11, c12, c13, c14, c15, c16, c17⟩ := Blk18 hS.out.x
  obtain ⟨y0, y1, y2, y3, y4, y5, y6, y7, y8, y9, y10, y11, y12, y13, y14, y15, y16, y17⟩ := Free18 hS.out.x
  obtain ⟨f0, f1, f2, f3, f4⟩ := Blk5 hS.out.f
  have hS2 : RS w (w10.setCell ⟨gx, 5, none⟩ (.int .i64 n10)) g gr gx gf l s p10 _ #[.int .i64 n2, .int .i64 n3, .int .i64 n4, .int .i64 n1, .int .i64 n5, .int .i64 n10, .int .i64 0, .int .i64 n6, .int .i64 n7, .string s8, .string s9, .int .i64 0, .int .i64 0, .string ⟨#[]⟩, .int .i64 0, .int .i64 0, .slice none 0 0, .slice none 0 0] _ := (hS.out.setX 5 (.int .i64 n10))
  go_upto_region 16 with fail
  clear c0 c1 c2 c3 c4 c5 c6 c7 c8 c9 c10 c11 c12 c13 c14 c15 c16 c17 y0 y1 y2 y3 y4 y5 y6 y7 y8 y9 y10 y11 y12 y13 y14 y15 y16 y17 f0 f1 f2 f3 f4
  generalize (w10.setCell ⟨gx, 5, none⟩ (.int .i64 n10)) = v10 at hS2 ⊢
  clear hS
  have hS := Lib.hid hS2
  clear hS2
  obtain ⟨c0, c1, c2, c3, c4, c5, c6, c7, c8, c9, c10, c11, c12, c13, c14, c15, c16, c17⟩ := Blk18 hS.out.x
  obtain ⟨y0, y1, y2, y3, y4, y5, y6, y7, y8, y9, y10, y11, y12, y13, y14, y15, y16, y17⟩ := Free18 hS.out.x
  obtain ⟨f0, f1, f2, f3, f4⟩ := Blk5 hS.out.f
  have HFIN : Hid (R = { lsn := n2, prev := n3, txn := n4, kind := n1, page := n5, next := n10, num := 0, ok := n6, os := n7, old := t8, new := t9, how := 0, root := 0, key := [], rp := 0, rs := 0, txns := [], dirty := [] }) := by
    show _ = _
    rw [HT.out]
    simp only [chG, hoG, HQ2.out, HQ3.out, HQ4.out, HQ5.out, HQ6.out, HQ7.out, HQ8.out, HQ9.out, HQ10.out]
  clear HT HQ2 HQ3 HQ4 HQ5 HQ6 HQ7 HQ8 HQ9 HQ10
  go_wp2_with (first | (with_reducible refine wpList_load18 hS.out.x (by kernel_rfl) _ rfl rfl ?_) | ((with_reducible refine wpList_store18 hS.out.res (by kernel_rfl) (by kernel_rfl) (by kernel_rfl) rfl _ _ rfl rfl rfl ?_); intro W9 hW9 hgr9))
  have HV := rec_val hW9 rfl
  have hfr9 : w.grownBy W9 (some g) := by
    refine ⟨hgr9.os.trans hS.out.fr.os, hgr9.tape.trans hS.out.fr.tape, hgr9.output.trans hS.out.fr.output, Nat.le_trans hS.out.fr.size hgr9.size, fun k hk hne => ?_⟩
    rw [hgr9.block k (Nat.lt_of_lt_of_le hk hS.out.fr.size) (by intro e; injection e; have := hS.out.h1; omega)]
    exact hS.out.fr.block k hk hne
  refine bodyPost_ret (v := .agg #[.int .i64 n2, .int .i64 n3, .int .i64 n4, .int .i64 n1, .int .i64 n5, .int .i64 n10, .int .i64 0, .int .i64 n6, .int .i64 n7, .string s8, .string s9, .int .i64 0, .int .i64 0, .string ⟨#[]⟩, .int .i64 0, .int .i64 0, .slice none 0 0, .slice none 0 0]) ?_ rfl ?_
  · simp [results, Try.results25, asAddr, Act.put, HV]
  · refine ⟨.slice none 0 0, .slice none 0 0, ?_, ?_, ?_, hfr9⟩
    · rw [HFIN.out]; simp only [rcC, HS8.out, HS9.out]; try rfl
    · rw [HFIN.out]; exact ⟨World.ownsRow_nil _ _ _ _, Nat.zero_le _⟩
    · rw [HFIN.out]; exact ⟨World.ownsRow_nil _ _ _ _, Nat.zero_le _⟩
set_option maxHeartbeats 16000000 in
set_option maxRecDepth 100000 in
theorem record_ne (l : List UInt8) (s : ByteArray) (hsl : S l = s) (hl : l.length ≤ 1000000) (g : Nat) (w : World) (hR : Blk w g (rdC s (0, false)) 56) (hk0 : chF (numF l (0, false) 1).1 = false) (hk1 : hoF (numF l (0, false) 1).1 = false) (hk2 : neF (numF l (0, false) 1).1 = true) (hk3 : liF (numF l (0, false) 1).1 = false) :
    Calls Try.prog 25 #[.pointer (some ⟨g, 0, none⟩)] w (RecA (recF l) g w) := by
  have HT : recF l = recG (numF l) (textF l) := rfl
  obtain ⟨R, hRR⟩ : ∃ R, recF l = R := ⟨_, rfl⟩
  rw [hRR] at HT ⊢
  unfold recG at HT
  obtain ⟨⟨n1, p1⟩, hq1⟩ : ∃ q, numF l (0, false) 1 = q := ⟨_, rfl⟩
  rw [hq1] at hk0 hk1 hk2 hk3 HT
  simp only at hk0 hk1 hk2 hk3 HT
  have HOF := fun W => of_any n1 W
  simp only [formV] at HOF
  rw [hk0, hk1, hk2, hk3] at HOF
  unfold tailG at HT
  rw [hk0, hk1, hk2, hk3] at HT
  simp only [if_true, if_false, Bool.false_eq_true] at HT
  replace HT := Lib.hid HT
  replace HOF := Lib.hid HOF
  obtain ⟨q5, hq5⟩ : ∃ q, isF n1 = q := ⟨_, rfl⟩
  rw [hq5] at HOF
  have hlt := hR.lt
  clear hk0 hk1 hk2 hk3 hRR hq5
  have hRa := (hR.alloc (.cells zs18 31)).alloc (.cells zs18 31)
  have hX := Blk.new (w.alloc (.cells zs18 31)) zs18 31
  have hRes := (Blk.new w zs18 31).alloc (.cells zs18 31)
  have hfr := grownBy_new (grownBy_new (show w.grownBy w (some g) from ⟨rfl, rfl, rfl, Nat.le_refl _, fun _ _ _ => rfl⟩) (.cells zs18 31)) (.cells zs18 31)
  simp only [World.size_alloc] at hX
  obtain ⟨gr, HGR⟩ : ∃ x, Hid (w.heap.size = x) := ⟨_, rfl⟩
  obtain ⟨gx, HGX⟩ : ∃ x, Hid (w.heap.size + 1 = x) := ⟨_, rfl⟩
  have hrx : gr < gx := by rw [← HGR.out, ← HGX.out]; omega
  have hrw : w.heap.size ≤ gr := by rw [← HGR.out]; omega
  rw [HGX.out] at hX
  rw [HGR.out] at hRes
  have hxs : gx < ((w.alloc (.cells zs18 31)).alloc (.cells zs18 31)).heap.size := hX.lt
  unfold zs18 at hRa hX hRes hfr hxs
  go_enter Try.func25, Try.ntmps25
  go_upto_region 2 with fail
  rw [HGX.out, HGR.out]
  generalize ((w.alloc (.cells #[.int .i64 0, .int .i64 0, .int .i64 0, .int .i64 0, .int .i64 0, .int .i64 0, .int .i64 0, .int .i64 0, .int .i64 0, .string ⟨#[]⟩, .string ⟨#[]⟩, .int .i64 0, .int .i64 0, .string ⟨#[]⟩, .int .i64 0, .int .i64 0, .slice none 0 0, .slice none 0 0] 31)).alloc (.cells #[.int .i64 0, .int .i64 0, .int .i64 0, .int .i64 0, .int .i64 0, .int .i64 0, .int .i64 0, .int .i64 0, .int .i64 0, .string ⟨#[]⟩, .string ⟨#[]⟩, .int .i64 0, .int .i64 0, .string ⟨#[]⟩, .int .i64 0, .int .i64 0, .slice none 0 0, .slice none 0 0] 31)) = W0 at hRa hX hRes hfr hxs ⊢
  clear HGR HGX hR
  have hgx : gx ≠ g := by omega
  replace hRa := Lib.hid hRa
  replace hX := Lib.hid hX
  replace hRes := Lib.hid hRes
  replace hfr := Lib.hid hfr
  go_wp2_with fail
  refine (num_any l s hsl (0, false) 1 1 rfl g _ hRa.out (by omega) hl (by simp)).mono ?_
  rw [hq1]
  rintro e w1 ⟨rfl, hRb, hgb⟩
  have hXb : Blk w1 gx #[.int .i64 0, .int .i64 0, .int .i64 0, .int .i64 0, .int .i64 0, .int .i64 0, .int .i64 0, .int .i64 0, .int .i64 0, .string ⟨#[]⟩, .string ⟨#[]⟩, .int .i64 0, .int .i64 0, .string ⟨#[]⟩, .int .i64 0, .int .i64 0, .slice none 0 0, .slice none 0 0] 31 := hX.out.grown hgb (by intro e; injection e; omega)
  have hResb : Blk w1 gr zs18 31 := hRes.out.grown hgb (by intro e; injection e; omega)
  have hfrb := hfr.out.trans hgb
  clear hRa hX hRes hfr hgb
  have hRc := hRb.other (a := ⟨gx, 3, none⟩) (fun e => hgx e.symm) (.int .i64 n1)
  have hXc : Blk (w1.setCell ⟨gx, 3, none⟩ (.int .i64 n1)) gx #[.int .i64 0, .int .i64 0, .int .i64 0, .int .i64 n1, .int .i64 0, .int .i64 0, .int .i64 0, .int .i64 0, .int .i64 0, .string ⟨#[]⟩, .string ⟨#[]⟩, .int .i64 0, .int .i64 0, .string ⟨#[]⟩, .int .i64 0, .int .i64 0, .slice none 0 0, .slice none 0 0] 31 := hXb.set 3 (.int .i64 n1)
  have hResc := hResb.other (a := ⟨gx, 3, none⟩) (by show gr ≠ gx; omega) (.int .i64 n1)
  have hfrc := grownBy_setNew hfrb (a := ⟨gx, 3, none⟩) (by show w.heap.size ≤ gx; omega) (.int .i64 n1)
  have hxs2 : gx < (w1.setCell ⟨gx, 3, none⟩ (.int .i64 n1)).heap.size := hXc.lt
  obtain ⟨c0, c1, c2, c3, c4, c5, c6, c7, c8, c9, c10, c11, c12, c13, c14, c15, c16, c17⟩ := Blk18 hXb
  obtain ⟨y0, y1, y2, y3, y4, y5, y6, y7, y8, y9, y10, y11, y12, y13, y14, y15, y16, y17⟩ := Free18 hXb
  replace hRc := Lib.hid hRc
  replace hXc := Lib.hid hXc
  replace hResc := Lib.hid hResc
  replace hfrc := Lib.hid hfrc
  clear hRb hXb hResb hfrb hxs
  go_upto_region 3 with fail
  clear c0 c1 c2 c3 c4 c5 c6 c7 c8 c9 c10 c11 c12 c13 c14 c15 c16 c17 y0 y1 y2 y3 y4 y5 y6 y7 y8 y9 y10 y11 y12 y13 y14 y15 y16 y17
  generalize w1.setCell ⟨gx, 3, none⟩ (.int .i64 n1) = W1 at hRc hXc hResc hfrc hxs2 ⊢
  have c3 := hXc.out.cell 3 (v := .int .i64 n1) rfl
  go_wp2_with fail
  refine (HOF.out _).mono ?_
  rintro e w2 ⟨rfl, hb2⟩
  obtain ⟨gf, HGF⟩ : ∃ x, Hid (w2.heap.size = x) := ⟨_, rfl⟩
  have hxf : gx < gf := by have := hb2.size; rw [← HGF.out]; omega
  obtain ⟨FS, HFS⟩ : ∃ C : Array Value, C = #[.bool false, .bool false, .bool true, .bool false, .bool q5] := ⟨_, rfl⟩
  have hp1 : p1.1 ≤ 8 := by
    have h := congrArg (fun q => q.2.1) hq1
    simp only [numF] at h
    omega
  have hS2 := RS.start (l := l) (s := s) (p := p1) 8 ((hRc.out.below hb2).alloc (.cells #[.bool false, .bool false, .bool true, .bool false, .bool q5] 60)) ((hResc.out.below hb2).alloc _) ((hXc.out.below hb2).alloc _)
    (by have := Blk.new w2 #[.bool false, .bool false, .bool true, .bool false, .bool q5] 60; rw [HGF.out] at this; exact this) (grownBy_new (hfrc.out.trans (grownBy_below hb2 _)) _) hlt hrw hrx hxf hp1 hsl hl
  clear hRc hResc hXc hfrc hb2 hq1 hxs2
  clear c3
  replace hS2 := Lib.hid hS2
  have c3 := hS2.out.x.cell 3 (v := .int .i64 n1) rfl
  go_upto_region 4 with fail
  rw [HGF.out]
  clear HGF c3
  generalize w2.alloc _ = W3 at hS2 ⊢
  have hS := hS2
  clear hS2 HFS FS
  obtain ⟨FS, HFS⟩ : ∃ C : Array Value, C = #[.bool false, .bool false, .bool true, .bool false, .bool q5] := ⟨_, rfl⟩
  subst HFS

  obtain ⟨c0, c1, c2, c3, c4, c5, c6, c7, c8, c9, c10, c11, c12, c13, c14, c15, c16, c17⟩ := Blk18 hS.out.x
  obtain ⟨y0, y1, y2, y3, y4, y5, y6, y7, y8, y9, y10, y11, y12, y13, y14, y15, y16, y17⟩ := Free18 hS.out.x
  obtain ⟨f0, f1, f2, f3, f4⟩ := Blk5 hS.out.f
  obtain ⟨⟨n2, p2⟩, hq⟩ : ∃ q, numF l p1 6 = q := ⟨_, rfl⟩
  have HQ2 := Lib.hid hq
  go_wp2_with fail
  refine (hS.out.num (by omega) 6 6 rfl (by omega) _ hq).mono ?_
  rintro e w2 ⟨rfl, hS2, _⟩
  clear hq
  clear c0 c1 c2 c3 c4 c5 c6 c7 c8 c9 c10 c11 c12 c13 c14 c15 c16 c17 y0 y1 y2 y3 y4 y5 y6 y7 y8 y9 y10 y11 y12 y13 y14 y15 y16 y17 f0 f1 f2 f3 f4
  clear hS
  have hS := Lib.hid hS2
  clear hS2
  simp only at hS
  obtain ⟨c0, c1, c2, c3, c4, c5, c6, c7, c8, c9, c10, c11, c12, c13, c14, c15, c16, c17⟩ := Blk18 hS.out.x
  obtain ⟨y0, y1, y2, y3, y4, y5, y6, y7, y8, y9, y10, y11, y12, y13, y14, y15, y16, y17⟩ := Free18 hS.out.x
  obtain ⟨f0, f1, f2, f3, f4⟩ := Blk5 hS.out.f
  obtain ⟨⟨n3, p3⟩, hq⟩ : ∃ q, numF l p2 6 = q := ⟨_, rfl⟩
  have HQ3 := Lib.hid hq
  go_wp2_with fail
  refine (hS.out.num (by omega) 6 6 rfl (by omega) _ hq).mono ?_
  rintro e w3 ⟨rfl, hS2, _⟩
  clear hq
  clear c0 c1 c2 c3 c4 c5 c6 c7 c8 c9 c10 c11 c12 c13 c14 c15 c16 c17 y0 y1 y2 y3 y4 y5 y6 y7 y8 y9 y10 y11 y12 y13 y14 y15 y16 y17 f0 f1 f2 f3 f4
  clear hS
  have hS := Lib.hid hS2
  clear hS2
  simp only at hS
  obtain ⟨c0, c1, c2, c3, c4, c5, c6, c7, c8, c9, c10, c11, c12, c13, c14, c15, c16, c17⟩ := Blk18 hS.out.x
  obtain ⟨y0, y1, y2, y3, y4, y5, y6, y7, y8, y9, y10, y11, y12, y13, y14, y15, y16, y17⟩ := Free18 hS.out.x
  obtain ⟨f0, f1, f2, f3, f4⟩ := Blk5 hS.out.f
  obtain ⟨⟨n4, p4⟩, hq⟩ : ∃ q, numF l p3 6 = q := ⟨_, rfl⟩
  have HQ4 := Lib.hid hq
  go_wp2_with fail
  refine (hS.out.num (by omega) 6 6 rfl (by omega) _ hq).mono ?_
  rintro e w4 ⟨rfl, hS2, _⟩
  clear hq
  clear c0 c1 c2 c3 c4 c5 c6 c7 c8 c9 c10 c11 c12 c13 c14 c15 c16 c17 y0 y1 y2 y3 y4 y5 y6 y7 y8 y9 y10 y11 y12 y13 y14 y15 y16 y17 f0 f1 f2 f3 f4
  clear hS
  have hS := Lib.hid hS2
  clear hS2
  simp only at hS
  obtain ⟨c0, c1, c2, c3, c4, c5, c6, c7, c8, c9, c10, c11, c12, c13, c14, c15, c16, c17⟩ := Blk18 hS.out.x
  obtain ⟨y0, y1, y2, y3, y4, y5, y6, y7, y8, y9, y10, y11, y12, y13, y14, y15, y16, y17⟩ := Free18 hS.out.x
  obtain ⟨f0, f1, f2, f3, f4⟩ := Blk5 hS.out.f
  have hS2 : RS w (((w4.setCell ⟨gx, 0, none⟩ (.int .i64 n2)).setCell ⟨gx, 1, none⟩ (.int .i64 n3)).setCell ⟨gx, 2, none⟩ (.int .i64 n4)) g gr gx gf l s p4 _ #[.int .i64 n2, .int .i64 n3, .int .i64 n4, .int .i64 n1, .int .i64 0, .int .i64 0, .int .i64 0, .int .i64 0, .int .i64 0, .string ⟨#[]⟩, .string ⟨#[]⟩, .int .i64 0, .int .i64 0, .string ⟨#[]⟩, .int .i64 0, .int .i64 0, .slice none 0 0, .slice none 0 0] _ := (((hS.out.setX 0 (.int .i64 n2)).setX 1 (.int .i64 n3)).setX 2 (.int .i64 n4))
  go_upto_region 5 with fail
  clear c0 c1 c2 c3 c4 c5 c6 c7 c8 c9 c10 c11 c12 c13 c14 c15 c16 c17 y0 y1 y2 y3 y4 y5 y6 y7 y8 y9 y10 y11 y12 y13 y14 y15 y16 y17 f0 f1 f2 f3 f4
  generalize (((w4.setCell ⟨gx, 0, none⟩ (.int .i64 n2)).setCell ⟨gx, 1, none⟩ (.int .i64 n3)).setCell ⟨gx, 2, none⟩ (.int .i64 n4)) = v4 at hS2 ⊢
  clear hS
  have hS := Lib.hid hS2
  clear hS2
  obtain ⟨c0, c1, c2, c3, c4, c5, c6, c7, c8, c9, c10, c11, c12, c13, c14, c15, c16, c17⟩ := Blk18 hS.out.x
  obtain ⟨y0, y1, y2, y3, y4, y5, y6, y7, y8, y9, y10, y11, y12, y13, y14, y15, y16, y17⟩ := Free18 hS.out.x
  obtain ⟨f0, f1, f2, f3, f4⟩ := Blk5 hS.out.f
  obtain ⟨⟨n5, p5⟩, hq⟩ : ∃ q, numF l p4 6 = q := ⟨_, rfl⟩
  have HQ5 := Lib.hid hq
  go_wp2_with fail
  refine (hS.out.num (by omega) 6 6 rfl (by omega) _ hq).mono ?_
  rintro e w5 ⟨rfl, hS2, _⟩
  clear hq
  clear c0 c1 c2 c3 c4 c5 c6 c7 c8 c9 c10 c11 c12 c13 c14 c15 c16 c17 y0 y1 y2 y3 y4 y5 y6 y7 y8 y9 y10 y11 y12 y13 y14 y15 y16 y17 f0 f1 f2 f3 f4
  clear hS
  have hS := Lib.hid hS2
  clear hS2
  simp only at hS
  obtain ⟨c0, c1, c2, c3, c4, c5, c6, c7, c8, c9, c10, c11, c12, c13, c14, c15, c16, c17⟩ := Blk18 hS.out.x
  obtain ⟨y0, y1, y2, y3, y4, y5, y6, y7, y8, y9, y10, y11, y12, y13, y14, y15, y16, y17⟩ := Free18 hS.out.x
  obtain ⟨f0, f1, f2, f3, f4⟩ := Blk5 hS.out.f
  have hS2 : RS w (w5.setCell ⟨gx, 5, none⟩ (.int .i64 n5)) g gr gx gf l s p5 _ #[.int .i64 n2, .int .i64 n3, .int .i64 n4, .int .i64 n1, .int .i64 0, .int .i64 n5, .int .i64 0, .int .i64 0, .int .i64 0, .string ⟨#[]⟩, .string ⟨#[]⟩, .int .i64 0, .int .i64 0, .string ⟨#[]⟩, .int .i64 0, .int .i64 0, .slice none 0 0, .slice none 0 0] _ := (hS.out.setX 5 (.int .i64 n5))
  go_upto_region 16 with fail
  clear c0 c1 c2 c3 c4 c5 c6 c7 c8 c9 c10 c11 c12 c13 c14 c15 c16 c17 y0 y1 y2 y3 y4 y5 y6 y7 y8 y9 y10 y11 y12 y13 y14 y15 y16 y17 f0 f1 f2 f3 f4
  generalize (w5.setCell ⟨gx, 5, none⟩ (.int .i64 n5)) = v5 at hS2 ⊢
  clear hS
  have hS := Lib.hid hS2
  clear hS2
  obtain ⟨c0, c1, c2, c3, c4, c5, c6, c7, c8, c9, c10, c11, c12, c13, c14, c15, c16, c17⟩ := Blk18 hS.out.x
  obtain ⟨y0, y1, y2, y3, y4, y5, y6, y7, y8, y9, y10, y11, y12, y13, y14, y15, y16, y17⟩ := Free18 hS.out.x
  obtain ⟨f0, f1, f2, f3, f4⟩ := Blk5 hS.out.f
  have HFIN : Hid (R = { lsn := n2, prev := n3, txn := n4, kind := n1, page := 0, next := n5, num := 0, ok := 0, os := 0, old := [], new := [], how := 0, root := 0, key := [], rp := 0, rs := 0, txns := [], dirty := [] }) := by
    show _ = _
    rw [HT.out]
    simp only [chG, hoG, HQ2.out, HQ3.out, HQ4.out, HQ5.out]
  clear HT HQ2 HQ3 HQ4 HQ5
  go_wp2_with (first | (with_reducible refine wpList_load18 hS.out.x (by kernel_rfl) _ rfl rfl ?_) | ((with_reducible refine wpList_store18 hS.out.res (by kernel_rfl) (by kernel_rfl) (by kernel_rfl) rfl _ _ rfl rfl rfl ?_); intro W9 hW9 hgr9))
  have HV := rec_val hW9 rfl
  have hfr9 : w.grownBy W9 (some g) := by
    refine ⟨hgr9.os.trans hS.out.fr.os, hgr9.tape.trans hS.out.fr.tape, hgr9.output.trans hS.out.fr.output, Nat.le_trans hS.out.fr.size hgr9.size, fun k hk hne => ?_⟩
    rw [hgr9.block k (Nat.lt_of_lt_of_le hk hS.out.fr.size) (by intro e; injection e; have := hS.out.h1; omega)]
    exact hS.out.fr.block k hk hne
  refine bodyPost_ret (v := .agg #[.int .i64 n2, .int .i64 n3, .int .i64 n4, .int .i64 n1, .int .i64 0, .int .i64 n5, .int .i64 0, .int .i64 0, .int .i64 0, .string ⟨#[]⟩, .string ⟨#[]⟩, .int .i64 0, .int .i64 0, .string ⟨#[]⟩, .int .i64 0, .int .i64 0, .slice none 0 0, .slice none 0 0]) ?_ rfl ?_
  · simp [results, Try.results25, asAddr, Act.put, HV]
  · refine ⟨.slice none 0 0, .slice none 0 0, ?_, ?_, ?_, hfr9⟩
    · rw [HFIN.out]; rfl
    · rw [HFIN.out]; exact ⟨World.ownsRow_nil _ _ _ _, Nat.zero_le _⟩
    · rw [HFIN.out]; exact ⟨World.ownsRow_nil _ _ _ _, Nat.zero_le _⟩
set_option maxHeartbeats 16000000 in
set_option maxRecDepth 100000 in
theorem record_c (l : List UInt8) (s : ByteArray) (hsl : S l = s) (hl : l.length ≤ 1000000) (g : Nat) (w : World) (hR : Blk w g (rdC s (0, false)) 56) (hk0 : chF (numF l (0, false) 1).1 = true) (hk1 : hoF (numF l (0, false) 1).1 = false) (hk2 : neF (numF l (0, false) 1).1 = false) (hk3 : liF (numF l (0, false) 1).1 = false) :
    Calls Try.prog 25 #[.pointer (some ⟨g, 0, none⟩)] w (RecA (recF l) g w) := by
  have HT : recF l = recG (numF l) (textF l) := rfl
  obtain ⟨R, hRR⟩ : ∃ R, recF l = R := ⟨_, rfl⟩
  rw [hRR] at HT ⊢
  unfold recG at HT
  obtain ⟨⟨n1, p1⟩, hq1⟩ : ∃ q, numF l (0, false) 1 = q := ⟨_, rfl⟩
  rw [hq1] at hk0 hk1 hk2 hk3 HT
  simp only at hk0 hk1 hk2 hk3 HT
  have HOF := fun W => of_any n1 W
  simp only [formV] at HOF
  rw [hk0, hk1, hk2, hk3] at HOF
  unfold tailG at HT
  rw [hk0, hk1, hk2, hk3] at HT
  simp only [if_true, if_false, Bool.false_eq_true] at HT
  replace HT := Lib.hid HT
  replace HOF := Lib.hid HOF
  obtain ⟨q5, hq5⟩ : ∃ q, isF n1 = q := ⟨_, rfl⟩
  rw [hq5] at HOF
  have hlt := hR.lt
  clear hk0 hk1 hk2 hk3 hRR hq5
  have hRa := (hR.alloc (.cells zs18 31)).alloc (.cells zs18 31)
  have hX := Blk.new (w.alloc (.cells zs18 31)) zs18 31
  have hRes := (Blk.new w zs18 31).alloc (.cells zs18 31)
  have hfr := grownBy_new (grownBy_new (show w.grownBy w (some g) from ⟨rfl, rfl, rfl, Nat.le_refl _, fun _ _ _ => rfl⟩) (.cells zs18 31)) (.cells zs18 31)
  simp only [World.size_alloc] at hX
  obtain ⟨gr, HGR⟩ : ∃ x, Hid (w.heap.size = x) := ⟨_, rfl⟩
  obtain ⟨gx, HGX⟩ : ∃ x, Hid (w.heap.size + 1 = x) := ⟨_, rfl⟩
  have hrx : gr < gx := by rw [← HGR.out, ← HGX.out]; omega
  have hrw : w.heap.size ≤ gr := by rw [← HGR.out]; omega
  rw [HGX.out] at hX
  rw [HGR.out] at hRes
  have hxs : gx < ((w.alloc (.cells zs18 31)).alloc (.cells zs18 31)).heap.size := hX.lt
  unfold zs18 at hRa hX hRes hfr hxs
  go_enter Try.func25, Try.ntmps25
  go_upto_region 2 with fail
  rw [HGX.out, HGR.out]
  generalize ((w.alloc (.cells #[.int .i64 0, .int .i64 0, .int .i64 0, .int .i64 0, .int .i64 0, .int .i64 0, .int .i64 0, .int .i64 0, .int .i64 0, .string ⟨#[]⟩, .string ⟨#[]⟩, .int .i64 0, .int .i64 0, .string ⟨#[]⟩, .int .i64 0, .int .i64 0, .slice none 0 0, .slice none 0 0] 31)).alloc (.cells #[.int .i64 0, .int .i64 0, .int .i64 0, .int .i64 0, .int .i64 0, .int .i64 0, .int .i64 0, .int .i64 0, .int .i64 0, .string ⟨#[]⟩, .string ⟨#[]⟩, .int .i64 0, .int .i64 0, .string ⟨#[]⟩, .int .i64 0, .int .i64 0, .slice none 0 0, .slice none 0 0] 31)) = W0 at hRa hX hRes hfr hxs ⊢
  clear HGR HGX hR
  have hgx : gx ≠ g := by omega
  replace hRa := Lib.hid hRa
  replace hX := Lib.hid hX
  replace hRes := Lib.hid hRes
  replace hfr := Lib.hid hfr
  go_wp2_with fail
  refine (num_any l s hsl (0, false) 1 1 rfl g _ hRa.out (by omega) hl (by simp)).mono ?_
  rw [hq1]
  rintro e w1 ⟨rfl, hRb, hgb⟩
  have hXb : Blk w1 gx #[.int .i64 0, .int .i64 0, .int .i64 0, .int .i64 0, .int .i64 0, .int .i64 0, .int .i64 0, .int .i64 0, .int .i64 0, .string ⟨#[]⟩, .string ⟨#[]⟩, .int .i64 0, .int .i64 0, .string ⟨#[]⟩, .int .i64 0, .int .i64 0, .slice none 0 0, .slice none 0 0] 31 := hX.out.grown hgb (by intro e; injection e; omega)
  have hResb : Blk w1 gr zs18 31 := hRes.out.grown hgb (by intro e; injection e; omega)
  have hfrb := hfr.out.trans hgb
  clear hRa hX hRes hfr hgb
  have hRc := hRb.other (a := ⟨gx, 3, none⟩) (fun e => hgx e.symm) (.int .i64 n1)
  have hXc : Blk (w1.setCell ⟨gx, 3, none⟩ (.int .i64 n1)) gx #[.int .i64 0, .int .i64 0, .int .i64 0, .int .i64 n1, .int .i64 0, .int .i64 0, .int .i64 0, .int .i64 0, .int .i64 0, .string ⟨#[]⟩, .string ⟨#[]⟩, .int .i64 0, .int .i64 0, .string ⟨#[]⟩, .int .i64 0, .int .i64 0, .slice none 0 0, .slice none 0 0] 31 := hXb.set 3 (.int .i64 n1)
  have hResc := hResb.other (a := ⟨gx, 3, none⟩) (by show gr ≠ gx; omega) (.int .i64 n1)
  have hfrc := grownBy_setNew hfrb (a := ⟨gx, 3, none⟩) (by show w.heap.size ≤ gx; omega) (.int .i64 n1)
  have hxs2 : gx < (w1.setCell ⟨gx, 3, none⟩ (.int .i64 n1)).heap.size := hXc.lt
  obtain ⟨c0, c1, c2, c3, c4, c5, c6, c7, c8, c9, c10, c11, c12, c13, c14, c15, c16, c17⟩ := Blk18 hXb
  obtain ⟨y0, y1, y2, y3, y4, y5, y6, y7, y8, y9, y10, y11, y12, y13, y14, y15, y16, y17⟩ := Free18 hXb
  replace hRc := Lib.hid hRc
  replace hXc := Lib.hid hXc
  replace hResc := Lib.hid hResc
  replace hfrc := Lib.hid hfrc
  clear hRb hXb hResb hfrb hxs
  go_upto_region 3 with fail
  clear c0 c1 c2 c3 c4 c5 c6 c7 c8 c9 c10 c11 c12 c13 c14 c15 c16 c17 y0 y1 y2 y3 y4 y5 y6 y7 y8 y9 y10 y11 y12 y13 y14 y15 y16 y17
  generalize w1.setCell ⟨gx, 3, none⟩ (.int .i64 n1) = W1 at hRc hXc hResc hfrc hxs2 ⊢
  have c3 := hXc.out.cell 3 (v := .int .i64 n1) rfl
  go_wp2_with fail
  refine (HOF.out _).mono ?_
  rintro e w2 ⟨rfl, hb2⟩
  obtain ⟨gf, HGF⟩ : ∃ x, Hid (w2.heap.size = x) := ⟨_, rfl⟩
  have hxf : gx < gf := by have := hb2.size; rw [← HGF.out]; omega
  obtain ⟨FS, HFS⟩ : ∃ C : Array Value, C = #[.bool true, .bool false, .bool false, .bool false, .bool q5] := ⟨_, rfl⟩
  have hp1 : p1.1 ≤ 8 := by
    have h := congrArg (fun q => q.2.1) hq1
    simp only [numF] at h
    omega
  have hS2 := RS.start (l := l) (s := s) (p := p1) 8 ((hRc.out.below hb2).alloc (.cells #[.bool true, .bool false, .bool false, .bool false, .bool q5] 60)) ((hResc.out.below hb2).alloc _) ((hXc.out.below hb2).alloc _)
    (by have := Blk.new w2 #[.bool true, .bool false, .bool false, .bool false, .bool q5] 60; rw [HGF.out] at this; exact this) (grownBy_new (hfrc.out.trans (grownBy_below hb2 _)) _) hlt hrw hrx hxf hp1 hsl hl
  clear hRc hResc hXc hfrc hb2 hq1 hxs2
  clear c3
  replace hS2 := Lib.hid hS2
  have c3 := hS2.out.x.cell 3 (v := .int .i64 n1) rfl
  go_upto_region 4 with fail
  rw [HGF.out]
  clear HGF c3
  generalize w2.alloc _ = W3 at hS2 ⊢
  have hS := hS2
  clear hS2 HFS FS
  obtain ⟨FS, HFS⟩ : ∃ C : Array Value, C = #[.bool true, .bool false, .bool false, .bool false, .bool q5] := ⟨_, rfl⟩
  subst HFS

  obtain ⟨c0, c1, c2, c3, c4, c5, c6, c7, c8, c9, c10, c11, c12, c13, c14, c15, c16, c17⟩ := Blk18 hS.out.x
  obtain ⟨y0, y1, y2, y3, y4, y5, y6, y7, y8, y9, y10, y11, y12, y13, y14, y15, y16, y17⟩ := Free18 hS.out.x
  obtain ⟨f0, f1, f2, f3, f4⟩ := Blk5 hS.out.f
  obtain ⟨⟨n2, p2⟩, hq⟩ : ∃ q, numF l p1 6 = q := ⟨_, rfl⟩
  have HQ2 := Lib.hid hq
  go_wp2_with fail
  refine (hS.out.num (by omega) 6 6 rfl (by omega) _ hq).mono ?_
  rintro e w2 ⟨rfl, hS2, _⟩
  clear hq
  clear c0 c1 c2 c3 c4 c5 c6 c7 c8 c9 c10 c11 c12 c13 c14 c15 c16 c17 y0 y1 y2 y3 y4 y5 y6 y7 y8 y9 y10 y11 y12 y13 y14 y15 y16 y17 f0 f1 f2 f3 f4
  clear hS
  have hS := Lib.hid hS2
  clear hS2
  simp only at hS
  obtain ⟨c0, c1, c2, c3, c4, c5, c6, c7, c8, c9, c10, c11, c12, c13, c14, c15, c16, c17⟩ := Blk18 hS.out.x
  obtain ⟨y0, y1, y2, y3, y4, y5, y6, y7, y8, y9, y10, y11, y12, y13, y14, y15, y16, y17⟩ := Free18 hS.out.x
  obtain ⟨f0, f1, f2, f3, f4⟩ := Blk5 hS.out.f
  obtain ⟨⟨n3, p3⟩, hq⟩ : ∃ q, numF l p2 6 = q := ⟨_, rfl⟩
  have HQ3 := Lib.hid hq
  go_wp2_with fail
  refine (hS.out.num (by omega) 6 6 rfl (by omega) _ hq).mono ?_
  rintro e w3 ⟨rfl, hS2, _⟩
  clear hq
  clear c0 c1 c2 c3 c4 c5 c6 c7 c8 c9 c10 c11 c12 c13 c14 c15 c16 c17 y0 y1 y2 y3 y4 y5 y6 y7 y8 y9 y10 y11 y12 y13 y14 y15 y16 y17 f0 f1 f2 f3 f4
  clear hS
  have hS := Lib.hid hS2
  clear hS2
  simp only at hS
  obtain ⟨c0, c1, c2, c3, c4, c5, c6, c7, c8, c9, c10, c11, c12, c13, c14, c15, c16, c17⟩ := Blk18 hS.out.x
  obtain ⟨y0, y1, y2, y3, y4, y5, y6, y7, y8, y9, y10, y11, y12, y13, y14, y15, y16, y17⟩ := Free18 hS.out.x
  obtain ⟨f0, f1, f2, f3, f4⟩ := Blk5 hS.out.f
  obtain ⟨⟨n4, p4⟩, hq⟩ : ∃ q, numF l p3 6 = q := ⟨_, rfl⟩
  have HQ4 := Lib.hid hq
  go_wp2_with fail
  refine (hS.out.num (by omega) 6 6 rfl (by omega) _ hq).mono ?_
  rintro e w4 ⟨rfl, hS2, _⟩
  clear hq
  clear c0 c1 c2 c3 c4 c5 c6 c7 c8 c9 c10 c11 c12 c13 c14 c15 c16 c17 y0 y1 y2 y3 y4 y5 y6 y7 y8 y9 y10 y11 y12 y13 y14 y15 y16 y17 f0 f1 f2 f3 f4
  clear hS
  have hS := Lib.hid hS2
  clear hS2
  simp only at hS
  obtain ⟨c0, c1, c2, c3, c4, c5, c6, c7, c8, c9, c10, c11, c12, c13, c14, c15, c16, c17⟩ := Blk18 hS.out.x
  obtain ⟨y0, y1, y2, y3, y4, y5, y6, y7, y8, y9, y10, y11, y12, y13, y14, y15, y16, y17⟩ := Free18 hS.out.x
  obtain ⟨f0, f1, f2, f3, f4⟩ := Blk5 hS.out.f
  have hS2 : RS w (((w4.setCell ⟨gx, 0, none⟩ (.int .i64 n2)).setCell ⟨gx, 1, none⟩ (.int .i64 n3)).setCell ⟨gx, 2, none⟩ (.int .i64 n4)) g gr gx gf l s p4 _ #[.int .i64 n2, .int .i64 n3, .int .i64 n4, .int .i64 n1, .int .i64 0, .int .i64 0, .int .i64 0, .int .i64 0, .int .i64 0, .string ⟨#[]⟩, .string ⟨#[]⟩, .int .i64 0, .int .i64 0, .string ⟨#[]⟩, .int .i64 0, .int .i64 0, .slice none 0 0, .slice none 0 0] _ := (((hS.out.setX 0 (.int .i64 n2)).setX 1 (.int .i64 n3)).setX 2 (.int .i64 n4))
  go_upto_region 5 with fail
  clear c0 c1 c2 c3 c4 c5 c6 c7 c8 c9 c10 c11 c12 c13 c14 c15 c16 c17 y0 y1 y2 y3 y4 y5 y6 y7 y8 y9 y10 y11 y12 y13 y14 y15 y16 y17 f0 f1 f2 f3 f4
  generalize (((w4.setCell ⟨gx, 0, none⟩ (.int .i64 n2)).setCell ⟨gx, 1, none⟩ (.int .i64 n3)).setCell ⟨gx, 2, none⟩ (.int .i64 n4)) = v4 at hS2 ⊢
  clear hS
  have hS := Lib.hid hS2
  clear hS2
  obtain ⟨c0, c1, c2, c3, c4, c5, c6, c7, c8, c9, c10, c11, c12, c13, c14, c15, c16, c17⟩ := Blk18 hS.out.x
  obtain ⟨y0, y1, y2, y3, y4, y5, y6, y7, y8, y9, y10, y11, y12, y13, y14, y15, y16, y17⟩ := Free18 hS.out.x
  obtain ⟨f0, f1, f2, f3, f4⟩ := Blk5 hS.out.f
  obtain ⟨⟨n5, p5⟩, hq⟩ : ∃ q, numF l p4 3 = q := ⟨_, rfl⟩
  have HQ5 := Lib.hid hq
  go_wp2_with fail
  refine (hS.out.num (by omega) 3 3 rfl (by omega) _ hq).mono ?_
  rintro e w5 ⟨rfl, hS2, _⟩
  clear hq
  clear c0 c1 c2 c3 c4 c5 c6 c7 c8 c9 c10 c11 c12 c13 c14 c15 c16 c17 y0 y1 y2 y3 y4 y5 y6 y7 y8 y9 y10 y11 y12 y13 y14 y15 y16 y17 f0 f1 f2 f3 f4
  clear hS
  have hS := Lib.hid hS2
  clear hS2
  simp only at hS
  obtain ⟨c0, c1, c2, c3, c4, c5, c6, c7, c8, c9, c10, c11, c12, c13, c14, c15, c16, c17⟩ := Blk18 hS.out.x
  obtain ⟨y0, y1, y2, y3, y4, y5, y6, y7, y8, y9, y10, y11, y12, y13, y14, y15, y16, y17⟩ := Free18 hS.out.x
  obtain ⟨f0, f1, f2, f3, f4⟩ := Blk5 hS.out.f
  have hS2 : RS w (w5.setCell ⟨gx, 4, none⟩ (.int .i64 n5)) g gr gx gf l s p5 _ #[.int .i64 n2, .int .i64 n3, .int .i64 n4, .int .i64 n1, .int .i64 n5, .int .i64 0, .int .i64 0, .int .i64 0, .int .i64 0, .string ⟨#[]⟩, .string ⟨#[]⟩, .int .i64 0, .int .i64 0, .string ⟨#[]⟩, .int .i64 0, .int .i64 0, .slice none 0 0, .slice none 0 0] _ := (hS.out.setX 4 (.int .i64 n5))
  go_upto_region 7 with fail
  clear c0 c1 c2 c3 c4 c5 c6 c7 c8 c9 c10 c11 c12 c13 c14 c15 c16 c17 y0 y1 y2 y3 y4 y5 y6 y7 y8 y9 y10 y11 y12 y13 y14 y15 y16 y17 f0 f1 f2 f3 f4
  generalize (w5.setCell ⟨gx, 4, none⟩ (.int .i64 n5)) = v5 at hS2 ⊢
  clear hS
  have hS := Lib.hid hS2
  clear hS2
  obtain ⟨c0, c1, c2, c3, c4, c5, c6, c7, c8, c9, c10, c11, c12, c13, c14, c15, c16, c17⟩ := Blk18 hS.out.x
  obtain ⟨y0, y1, y2, y3, y4, y5, y6, y7, y8, y9, y10, y11, y12, y13, y14, y15, y16, y17⟩ := Free18 hS.out.x
  obtain ⟨f0, f1, f2, f3, f4⟩ := Blk5 hS.out.f
  obtain ⟨⟨n6, p6⟩, hq⟩ : ∃ q, numF l p5 1 = q := ⟨_, rfl⟩
  have HQ6 := Lib.hid hq
  go_wp2_with fail
  refine (hS.out.num (by omega) 1 1 rfl (by omega) _ hq).mono ?_
  rintro e w6 ⟨rfl, hS2, _⟩
  clear hq
  clear c0 c1 c2 c3 c4 c5 c6 c7 c8 c9 c10 c11 c12 c13 c14 c15 c16 c17 y0 y1 y2 y3 y4 y5 y6 y7 y8 y9 y10 y11 y12 y13 y14 y15 y16 y17 f0 f1 f2 f3 f4
  clear hS
  have hS := Lib.hid hS2
  clear hS2
  simp only at hS
  obtain ⟨c0, c1, c2, c3, c4, c5, c6, c7, c8, c9, c10, c11, c12, c13, c14, c15, c16, c17⟩ := Blk18 hS.out.x
  obtain ⟨y0, y1, y2, y3, y4, y5, y6, y7, y8, y9, y10, y11, y12, y13, y14, y15, y16, y17⟩ := Free18 hS.out.x
  obtain ⟨f0, f1, f2, f3, f4⟩ := Blk5 hS.out.f
  obtain ⟨⟨n7, p7⟩, hq⟩ : ∃ q, numF l p6 2 = q := ⟨_, rfl⟩
  have HQ7 := Lib.hid hq
  go_wp2_with fail
  refine (hS.out.num (by omega) 2 2 rfl (by omega) _ hq).mono ?_
  rintro e w7 ⟨rfl, hS2, _⟩
  clear hq
  clear c0 c1 c2 c3 c4 c5 c6 c7 c8 c9 c10 c11 c12 c13 c14 c15 c16 c17 y0 y1 y2 y3 y4 y5 y6 y7 y8 y9 y10 y11 y12 y13 y14 y15 y16 y17 f0 f1 f2 f3 f4
  clear hS
  have hS := Lib.hid hS2
  clear hS2
  simp only at hS
  obtain ⟨c0, c1, c2, c3, c4, c5, c6, c7, c8, c9, c10, c11, c12, c13, c14, c15, c16, c17⟩ := Blk18 hS.out.x
  obtain ⟨y0, y1, y2, y3, y4, y5, y6, y7, y8, y9, y10, y11, y12, y13, y14, y15, y16, y17⟩ := Free18 hS.out.x
  obtain ⟨f0, f1, f2, f3, f4⟩ := Blk5 hS.out.f
  obtain ⟨⟨t8, p8⟩, hq⟩ : ∃ q, textF l p7 = q := ⟨_, rfl⟩
  obtain ⟨s8, hs8⟩ : ∃ x, S t8 = x := ⟨_, rfl⟩
  have HQ8 := Lib.hid hq
  go_wp2_with fail
  refine (hS.out.text (by omega) _ hq _ hs8).mono ?_
  rintro e w8 ⟨rfl, hS2, _⟩
  have HS8 := Lib.hid hs8
  clear hq hs8
  clear c0 c1 c2 c3 c4 c5 c6 c7 c8 c9 c10 c11 c12 c13 c14 c15 c16 c17 y0 y1 y2 y3 y4 y5 y6 y7 y8 y9 y10 y11 y12 y13 y14 y15 y16 y17 f0 f1 f2 f3 f4
  clear hS
  have hS := Lib.hid hS2
  clear hS2
  simp only at hS
  obtain ⟨c0, c1, c2, c3, c4, c5, c6, c7, c8, c9, c10, c11, c12, c13, c14, c15, c16, c17⟩ := Blk18 hS.out.x
  obtain ⟨y0, y1, y2, y3, y4, y5, y6, y7, y8, y9, y10, y11, y12, y13, y14, y15, y16, y17⟩ := Free18 hS.out.x
  obtain ⟨f0, f1, f2, f3, f4⟩ := Blk5 hS.out.f
  obtain ⟨⟨t9, p9⟩, hq⟩ : ∃ q, textF l p8 = q := ⟨_, rfl⟩
  obtain ⟨s9, hs9⟩ : ∃ x, S t9 = x := ⟨_, rfl⟩
  have HQ9 := Lib.hid hq
  go_wp2_with fail
  refine (hS.out.text (by omega) _ hq _ hs9).mono ?_
  rintro e w9 ⟨rfl, hS2, _⟩
  have HS9 := Lib.hid hs9
  clear hq hs9
  clear c0 c1 c2 c3 c4 c5 c6 c7 c8 c9 c10 c11 c12 c13 c14 c15 c16 c17 y0 y1 y2 y3 y4 y5 y6 y7 y8 y9 y10 y11 y12 y13 y14 y15 y16 y17 f0 f1 f2 f3 f4
  clear hS
  have hS := Lib.hid hS2
  clear hS2
  simp only at hS
  obtain ⟨c0, c1, c2, c3, c4, c5, c6, c7, c8, c9, c10, c11, c12, c13, c14, c15, c16, c17⟩ := Blk18 hS.out.x
  obtain ⟨y0, y1, y2, y3, y4, y5, y6, y7, y8, y9, y10, y11, y12, y13, y14, y15, y16, y17⟩ := Free18 hS.out.x
  obtain ⟨f0, f1, f2, f3, f4⟩ := Blk5 hS.out.f
  have hS2 : RS w ((((w9.setCell ⟨gx, 7, none⟩ (.int .i64 n6)).setCell ⟨gx, 8, none⟩ (.int .i64 n7)).setCell ⟨gx, 9, none⟩ (.string s8)).setCell ⟨gx, 10, none⟩ (.string s9)) g gr gx gf l s p9 _ #[.int .i64 n2, .int .i64 n3, .int .i64 n4, .int .i64 n1, .int .i64 n5, .int .i64 0, .int .i64 0, .int .i64 n6, .int .i64 n7, .string s8, .string s9, .int .i64 0, .int .i64 0, .string ⟨#[]⟩, .int .i64 0, .int .i64 0, .slice none 0 0, .slice none 0 0] _ := ((((hS.out.setX 7 (.int .i64 n6)).setX 8 (.int .i64 n7)).setX 9 (.string s8)).setX 10 (.string s9))
  go_upto_region 8 with fail
  clear c0 c1 c2 c3 c4 c5 c6 c7 c8 c9 c10 c11 c12 c13 c14 c15 c16 c17 y0 y1 y2 y3 y4 y5 y6 y7 y8 y9 y10 y11 y12 y13 y14 y15 y16 y17 f0 f1 f2 f3 f4
  generalize ((((w9.setCell ⟨gx, 7, none⟩ (.int .i64 n6)).setCell ⟨gx, 8, none⟩ (.int .i64 n7)).setCell ⟨gx, 9, none⟩ (.string s8)).setCell ⟨gx, 10, none⟩ (.string s9)) = v9 at hS2 ⊢
  clear hS
  have hS := Lib.hid hS2
  clear hS2
  obtain ⟨c0, c1, c2, c3, c4, c5, c6, c7, c8, c9, c10, c11, c12, c13, c14, c15, c16, c17⟩ := Blk18 hS.out.x
  obtain ⟨y0, y1, y2, y3, y4, y5, y6, y7, y8, y9, y10, y11, y12, y13, y14, y15, y16, y17⟩ := Free18 hS.out.x
  obtain ⟨f0, f1, f2, f3, f4⟩ := Blk5 hS.out.f
  have HFIN : Hid (R = { lsn := n2, prev := n3, txn := n4, kind := n1, page := n5, next := 0, num := 0, ok := n6, os := n7, old := t8, new := t9, how := 0, root := 0, key := [], rp := 0, rs := 0, txns := [], dirty := [] }) := by
    show _ = _
    rw [HT.out]
    simp only [chG, hoG, HQ2.out, HQ3.out, HQ4.out, HQ5.out, HQ6.out, HQ7.out, HQ8.out, HQ9.out]
  clear HT HQ2 HQ3 HQ4 HQ5 HQ6 HQ7 HQ8 HQ9
  go_wp2_with (first | (with_reducible refine wpList_load18 hS.out.x (by kernel_rfl) _ rfl rfl ?_) | ((with_reducible refine wpList_store18 hS.out.res (by kernel_rfl) (by kernel_rfl) (by kernel_rfl) rfl _ _ rfl rfl rfl ?_); intro W9 hW9 hgr9))
  have HV := rec_val hW9 rfl
  have hfr9 : w.grownBy W9 (some g) := by
    refine ⟨hgr9.os.trans hS.out.fr.os, hgr9.tape.trans hS.out.fr.tape, hgr9.output.trans hS.out.fr.output, Nat.le_trans hS.out.fr.size hgr9.size, fun k hk hne => ?_⟩
    rw [hgr9.block k (Nat.lt_of_lt_of_le hk hS.out.fr.size) (by intro e; injection e; have := hS.out.h1; omega)]
    exact hS.out.fr.block k hk hne
  refine bodyPost_ret (v := .agg #[.int .i64 n2, .int .i64 n3, .int .i64 n4, .int .i64 n1, .int .i64 n5, .int .i64 0, .int .i64 0, .int .i64 n6, .int .i64 n7, .string s8, .string s9, .int .i64 0, .int .i64 0, .string ⟨#[]⟩, .int .i64 0, .int .i64 0, .slice none 0 0, .slice none 0 0]) ?_ rfl ?_
  · simp [results, Try.results25, asAddr, Act.put, HV]
  · refine ⟨.slice none 0 0, .slice none 0 0, ?_, ?_, ?_, hfr9⟩
    · rw [HFIN.out]; simp only [rcC, HS8.out, HS9.out]; try rfl
    · rw [HFIN.out]; exact ⟨World.ownsRow_nil _ _ _ _, Nat.zero_le _⟩
    · rw [HFIN.out]; exact ⟨World.ownsRow_nil _ _ _ _, Nat.zero_le _⟩
end Go.Proofs.Ytloengjcniefgaa.Rec
