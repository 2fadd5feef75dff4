/- rec: the reader's record: what it answers (the checkpoints; printed by genrecordl.py). -/
import Derived.Test.YtloengjcniefgaaRecLt
import Derived.Deep.RegionLaw
import Derived.Deep.CutRange
namespace Go.Proofs.Ytloengjcniefgaa.Rec
set_option linter.unusedVariables false
set_option linter.unusedSimpArgs false
open Go.RowKit Go.Sort
open Oct (S beN putL U I getI sumN S_size S_data)
set_option maxHeartbeats 16000000 in
set_option maxRecDepth 100000 in
theorem record_l (l : List UInt8) (s : ByteArray) (hsl : S l = s) (hl : l.length ≤ 1000000) (g : Nat) (w : World) (hR : Blk w g (rdC s (0, false)) 56) (hk0 : chF (numF l (0, false) 1).1 = false) (hk1 : hoF (numF l (0, false) 1).1 = false) (hk2 : neF (numF l (0, false) 1).1 = false) (hk3 : liF (numF l (0, false) 1).1 = true) :
    Calls Try.prog 25 #[.pointer (some ⟨g, 0, none⟩)] w (RecA (recF l) g w) := by
  have HT : recF l = recG (numF l) (textF l) := rfl
  obtain ⟨R, hRR⟩ : ∃ R, recF l = R := ⟨_, rfl⟩
  rw [hRR] at HT ⊢
  unfold recG at HT
  obtain ⟨⟨n1, p1⟩, hq1⟩ : ∃ q, numF l (0, false) 1 = q := ⟨_, rfl⟩
  rw [hq1] at hk0 hk1 hk2 hk3 HT
  simp only at hk0 hk1 hk2 hk3 HT
  have HOF := fun W => of_any n1 W
  simp only [formV] at HOF
  rw [hk0, hk1, hk2, hk3] at HOF
  unfold tailG at HT
  rw [hk0, hk1, hk2, hk3] at HT
  simp only [if_true, if_false, Bool.false_eq_true] at HT
  replace HT := Lib.hid HT
  replace HOF := Lib.hid HOF
  obtain ⟨q5, hq5⟩ : ∃ q, isF n1 = q := ⟨_, rfl⟩
  rw [hq5] at HOF
  have hlt := hR.lt
  clear hk0 hk1 hk2 hk3 hRR hq5
  have hRa := (hR.alloc (.cells zs18 31)).alloc (.cells zs18 31)
  have hX := Blk.new (w.alloc (.cells zs18 31)) zs18 31
  have hRes := (Blk.new w zs18 31).alloc (.cells zs18 31)
  have hfr := grownBy_new (grownBy_new (show w.grownBy w (some g) from ⟨rfl, rfl, rfl, Nat.le_refl _, fun _ _ _ => rfl⟩) (.cells zs18 31)) (.cells zs18 31)
  simp only [World.size_alloc] at hX
  obtain ⟨gr, HGR⟩ : ∃ x, Hid (w.heap.size = x) := ⟨_, rfl⟩
  obtain ⟨gx, HGX⟩ : ∃ x, Hid (w.heap.size + 1 = x) := ⟨_, rfl⟩
  have hrx : gr < gx := by rw [← HGR.out, ← HGX.out]; omega
  have hrw : w.heap.size ≤ gr := by rw [← HGR.out]; omega
  rw [HGX.out] at hX
  rw [HGR.out] at hRes
  have hxs : gx < ((w.alloc (.cells zs18 31)).alloc (.cells zs18 31)).heap.size := hX.lt
  unfold zs18 at hRa hX hRes hfr hxs
  go_enter Try.func25, Try.ntmps25
  go_upto_region 2 with fail
  rw [HGX.out, HGR.out]
  generalize ((w.alloc (.cells #[.int .i64 0, .int .i64 0, .int .i64 0, .int .i64 0, .int .i64 0, .int .i64 0, .int .i64 0, .int .i64 0, .int .i64 0, .string ⟨#[]⟩, .string ⟨#[]⟩, .int .i64 0, .int .i64 0, .string ⟨#[]⟩, .int .i64 0, .int .i64 0, .slice none 0 0, .slice none 0 0] 31)).alloc (.cells #[.int .i64 0, .int .i64 0, .int .i64 0, .int .i64 0, .int .i64 0, .int .i64 0, .int .i64 0, .int .i64 0, .int .i64 0, .string ⟨#[]⟩, .string ⟨#[]⟩, .int .i64 0, .int .i64 0, .string ⟨#[]⟩, .int .i64 0, .int .i64 0, .slice none 0 0, .slice none 0 0] 31)) = W0 at hRa hX hRes hfr hxs ⊢
  clear HGR HGX hR
  have hgx : gx ≠ g := by omega
  replace hRa := Lib.hid hRa
  replace hX := Lib.hid hX
  replace hRes := Lib.hid hRes
  replace hfr := Lib.hid hfr
  go_wp2_with fail
  refine (num_any l s hsl (0, false) 1 1 rfl g _ hRa.out (by omega) hl (by simp)).mono ?_
  rw [hq1]
  rintro e w1 ⟨rfl, hRb, hgb⟩
  have hXb : Blk w1 gx #[.int .i64 0, .int .i64 0, .int .i64 0, .int .i64 0, .int .i64 0, .int .i64 0, .int .i64 0, .int .i64 0, .int .i64 0, .string ⟨#[]⟩, .string ⟨#[]⟩, .int .i64 0, .int .i64 0, .string ⟨#[]⟩, .int .i64 0, .int .i64 0, .slice none 0 0, .slice none 0 0] 31 := hX.out.grown hgb (by intro e; injection e; omega)
  have hResb : Blk w1 gr zs18 31 := hRes.out.grown hgb (by intro e; injection e; omega)
  have hfrb := hfr.out.trans hgb
  clear hRa hX hRes hfr hgb
  have hRc := hRb.other (a := ⟨gx, 3, none⟩) (fun e => hgx e.symm) (.int .i64 n1)
  have hXc : Blk (w1.setCell ⟨gx, 3, none⟩ (.int .i64 n1)) gx #[.int .i64 0, .int .i64 0, .int .i64 0, .int .i64 n1, .int .i64 0, .int .i64 0, .int .i64 0, .int .i64 0, .int .i64 0, .string ⟨#[]⟩, .string ⟨#[]⟩, .int .i64 0, .int .i64 0, .string ⟨#[]⟩, .int .i64 0, .int .i64 0, .slice none 0 0, .slice none 0 0] 31 := hXb.set 3 (.int .i64 n1)
  have hResc := hResb.other (a := ⟨gx, 3, none⟩) (by show gr ≠ gx; omega) (.int .i64 n1)
  have hfrc := grownBy_setNew hfrb (a := ⟨gx, 3, none⟩) (by show w.heap.size ≤ gx; omega) (.int .i64 n1)
  have hxs2 : gx < (w1.setCell ⟨gx, 3, none⟩ (.int .i64 n1)).heap.size := hXc.lt
  obtain ⟨c0, c1, c2, c3, c4, c5, c6, c7, c8, c9, c10, c11, c12, c13, c14, c15, c16, c17⟩ := Blk18 hXb
  obtain ⟨y0, y1, y2, y3, y4, y5, y6, y7, y8, y9, y10, y11, y12, y13, y14, y15, y16, y17⟩ := Free18 hXb
  replace hRc := Lib.hid hRc
  replace hXc := Lib.hid hXc
  replace hResc := Lib.hid hResc
  replace hfrc := Lib.hid hfrc
  clear hRb hXb hResb hfrb hxs
  go_upto_region 3 with fail
  clear c0 c1 c2 c3 c4 c5 c6 c7 c8 c9 c10 c11 c12 c13 c14 c15 c16 c17 y0 y1 y2 y3 y4 y5 y6 y7 y8 y9 y10 y11 y12 y13 y14 y15 y16 y17
  generalize w1.setCell ⟨gx, 3, none⟩ (.int .i64 n1) = W1 at hRc hXc hResc hfrc hxs2 ⊢
  have c3 := hXc.out.cell 3 (v := .int .i64 n1) rfl
  go_wp2_with fail
  refine (HOF.out _).mono ?_
  rintro e w2 ⟨rfl, hb2⟩
  obtain ⟨gf, HGF⟩ : ∃ x, Hid (w2.heap.size = x) := ⟨_, rfl⟩
  have hxf : gx < gf := by have := hb2.size; rw [← HGF.out]; omega
  obtain ⟨FS, HFS⟩ : ∃ C : Array Value, C = #[.bool false, .bool false, .bool false, .bool true, .bool q5] := ⟨_, rfl⟩
  have hp1 : p1.1 ≤ 8 := by
    have h := congrArg (fun q => q.2.1) hq1
    simp only [numF] at h
    omega
  have hS2 := RS.start (l := l) (s := s) (p := p1) 8 ((hRc.out.below hb2).alloc (.cells #[.bool false, .bool false, .bool false, .bool true, .bool q5] 60)) ((hResc.out.below hb2).alloc _) ((hXc.out.below hb2).alloc _)
    (by have := Blk.new w2 #[.bool false, .bool false, .bool false, .bool true, .bool q5] 60; rw [HGF.out] at this; exact this) (grownBy_new (hfrc.out.trans (grownBy_below hb2 _)) _) hlt hrw hrx hxf hp1 hsl hl
  clear hRc hResc hXc hfrc hb2 hq1 hxs2
  clear c3
  replace hS2 := Lib.hid hS2
  have c3 := hS2.out.x.cell 3 (v := .int .i64 n1) rfl
  go_upto_region 4 with fail
  rw [HGF.out]
  clear HGF c3
  generalize w2.alloc _ = W3 at hS2 ⊢
  have hS := hS2
  clear hS2 HFS FS
  obtain ⟨FS, HFS⟩ : ∃ C : Array Value, C = #[.bool false, .bool false, .bool false, .bool true, .bool q5] := ⟨_, rfl⟩
  subst HFS

  obtain ⟨c0, c1, c2, c3, c4, c5, c6, c7, c8, c9, c10, c11, c12, c13, c14, c15, c16, c17⟩ := Blk18 hS.out.x
  obtain ⟨y0, y1, y2, y3, y4, y5, y6, y7, y8, y9, y10, y11, y12, y13, y14, y15, y16, y17⟩ := Free18 hS.out.x
  obtain ⟨f0, f1, f2, f3, f4⟩ := Blk5 hS.out.f
  obtain ⟨⟨n2, p2⟩, hq⟩ : ∃ q, numF l p1 6 = q := ⟨_, rfl⟩
  have HQ2 := Lib.hid hq
  go_wp2_with fail
  refine (hS.out.num (by omega) 6 6 rfl (by omega) _ hq).mono ?_
  rintro e w2 ⟨rfl, hS2, _⟩
  clear hq
  clear c0 c1 c2 c3 c4 c5 c6 c7 c8 c9 c10 c11 c12 c13 c14 c15 c16 c17 y0 y1 y2 y3 y4 y5 y6 y7 y8 y9 y10 y11 y12 y13 y14 y15 y16 y17 f0 f1 f2 f3 f4
  clear hS
  have hS := Lib.hid hS2
  clear hS2
  simp only at hS
  obtain ⟨c0, c1, c2, c3, c4, c5, c6, c7, c8, c9, c10, c11, c12, c13, c14, c15, c16, c17⟩ := Blk18 hS.out.x
  obtain ⟨y0, y1, y2, y3, y4, y5, y6, y7, y8, y9, y10, y11, y12, y13, y14, y15, y16, y17⟩ := Free18 hS.out.x
  obtain ⟨f0, f1, f2, f3, f4⟩ := Blk5 hS.out.f
  obtain ⟨⟨n3, p3⟩, hq⟩ : ∃ q, numF l p2 6 = q := ⟨_, rfl⟩
  have HQ3 := Lib.hid hq
  go_wp2_with fail
  refine (hS.out.num (by omega) 6 6 rfl (by omega) _ hq).mono ?_
  rintro e w3 ⟨rfl, hS2, _⟩
  clear hq
  clear c0 c1 c2 c3 c4 c5 c6 c7 c8 c9 c10 c11 c12 c13 c14 c15 c16 c17 y0 y1 y2 y3 y4 y5 y6 y7 y8 y9 y10 y11 y12 y13 y14 y15 y16 y17 f0 f1 f2 f3 f4
  clear hS
  have hS := Lib.hid hS2
  clear hS2
  simp only at hS
  obtain ⟨c0, c1, c2, c3, c4, c5, c6, c7, c8, c9, c10, c11, c12, c13, c14, c15, c16, c17⟩ := Blk18 hS.out.x
  obtain ⟨y0, y1, y2, y3, y4, y5, y6, y7, y8, y9, y10, y11, y12, y13, y14, y15, y16, y17⟩ := Free18 hS.out.x
  obtain ⟨f0, f1, f2, f3, f4⟩ := Blk5 hS.out.f
  obtain ⟨⟨n4, p4⟩, hq⟩ : ∃ q, numF l p3 6 = q := ⟨_, rfl⟩
  have HQ4 := Lib.hid hq
  go_wp2_with fail
  refine (hS.out.num (by omega) 6 6 rfl (by omega) _ hq).mono ?_
  rintro e w4 ⟨rfl, hS2, _⟩
  clear hq
  clear c0 c1 c2 c3 c4 c5 c6 c7 c8 c9 c10 c11 c12 c13 c14 c15 c16 c17 y0 y1 y2 y3 y4 y5 y6 y7 y8 y9 y10 y11 y12 y13 y14 y15 y16 y17 f0 f1 f2 f3 f4
  clear hS
  have hS := Lib.hid hS2
  clear hS2
  simp only at hS
  obtain ⟨c0, c1, c2, c3, c4, c5, c6, c7, c8, c9, c10, c11, c12, c13, c14, c15, c16, c17⟩ := Blk18 hS.out.x
  obtain ⟨y0, y1, y2, y3, y4, y5, y6, y7, y8, y9, y10, y11, y12, y13, y14, y15, y16, y17⟩ := Free18 hS.out.x
  obtain ⟨f0, f1, f2, f3, f4⟩ := Blk5 hS.out.f
  have hS2 : RS w (((w4.setCell ⟨gx, 0, none⟩ (.int .i64 n2)).setCell ⟨gx, 1, none⟩ (.int .i64 n3)).setCell ⟨gx, 2, none⟩ (.int .i64 n4)) g gr gx gf l s p4 _ #[.int .i64 n2, .int .i64 n3, .int .i64 n4, .int .i64 n1, .int .i64 0, .int .i64 0, .int .i64 0, .int .i64 0, .int .i64 0, .string ⟨#[]⟩, .string ⟨#[]⟩, .int .i64 0, .int .i64 0, .string ⟨#[]⟩, .int .i64 0, .int .i64 0, .slice none 0 0, .slice none 0 0] _ := (((hS.out.setX 0 (.int .i64 n2)).setX 1 (.int .i64 n3)).setX 2 (.int .i64 n4))
  go_upto_region 5 with fail
  clear c0 c1 c2 c3 c4 c5 c6 c7 c8 c9 c10 c11 c12 c13 c14 c15 c16 c17 y0 y1 y2 y3 y4 y5 y6 y7 y8 y9 y10 y11 y12 y13 y14 y15 y16 y17 f0 f1 f2 f3 f4
  generalize (((w4.setCell ⟨gx, 0, none⟩ (.int .i64 n2)).setCell ⟨gx, 1, none⟩ (.int .i64 n3)).setCell ⟨gx, 2, none⟩ (.int .i64 n4)) = v4 at hS2 ⊢
  clear hS
  have hS := Lib.hid hS2
  clear hS2
  obtain ⟨c0, c1, c2, c3, c4, c5, c6, c7, c8, c9, c10, c11, c12, c13, c14, c15, c16, c17⟩ := Blk18 hS.out.x
  obtain ⟨y0, y1, y2, y3, y4, y5, y6, y7, y8, y9, y10, y11, y12, y13, y14, y15, y16, y17⟩ := Free18 hS.out.x
  obtain ⟨f0, f1, f2, f3, f4⟩ := Blk5 hS.out.f
  obtain ⟨⟨n5, p5⟩, hq⟩ : ∃ q, numF l p4 6 = q := ⟨_, rfl⟩
  have HQ5 := Lib.hid hq
  go_wp2_with fail
  refine (hS.out.num (by omega) 6 6 rfl (by omega) _ hq).mono ?_
  rintro e w5 ⟨rfl, hS2, _⟩
  clear hq
  clear c0 c1 c2 c3 c4 c5 c6 c7 c8 c9 c10 c11 c12 c13 c14 c15 c16 c17 y0 y1 y2 y3 y4 y5 y6 y7 y8 y9 y10 y11 y12 y13 y14 y15 y16 y17 f0 f1 f2 f3 f4
  clear hS
  have hS := Lib.hid hS2
  clear hS2
  simp only at hS
  obtain ⟨c0, c1, c2, c3, c4, c5, c6, c7, c8, c9, c10, c11, c12, c13, c14, c15, c16, c17⟩ := Blk18 hS.out.x
  obtain ⟨y0, y1, y2, y3, y4, y5, y6, y7, y8, y9, y10, y11, y12, y13, y14, y15, y16, y17⟩ := Free18 hS.out.x
  obtain ⟨f0, f1, f2, f3, f4⟩ := Blk5 hS.out.f
  have hS2 : RS w (w5.setCell ⟨gx, 6, none⟩ (.int .i64 n5)) g gr gx gf l s p5 _ #[.int .i64 n2, .int .i64 n3, .int .i64 n4, .int .i64 n1, .int .i64 0, .int .i64 0, .int .i64 n5, .int .i64 0, .int .i64 0, .string ⟨#[]⟩, .string ⟨#[]⟩, .int .i64 0, .int .i64 0, .string ⟨#[]⟩, .int .i64 0, .int .i64 0, .slice none 0 0, .slice none 0 0] _ := (hS.out.setX 6 (.int .i64 n5))
  go_upto_region 18 with fail
  clear c0 c1 c2 c3 c4 c5 c6 c7 c8 c9 c10 c11 c12 c13 c14 c15 c16 c17 y0 y1 y2 y3 y4 y5 y6 y7 y8 y9 y10 y11 y12 y13 y14 y15 y16 y17 f0 f1 f2 f3 f4
  generalize (w5.setCell ⟨gx, 6, none⟩ (.int .i64 n5)) = v5 at hS2 ⊢
  clear hS
  have hS := Lib.hid hS2
  clear hS2
  obtain ⟨c0, c1, c2, c3, c4, c5, c6, c7, c8, c9, c10, c11, c12, c13, c14, c15, c16, c17⟩ := Blk18 hS.out.x
  obtain ⟨y0, y1, y2, y3, y4, y5, y6, y7, y8, y9, y10, y11, y12, y13, y14, y15, y16, y17⟩ := Free18 hS.out.x
  obtain ⟨f0, f1, f2, f3, f4⟩ := Blk5 hS.out.f
  obtain ⟨⟨n6, p6⟩, hq⟩ : ∃ q, numF l p5 2 = q := ⟨_, rfl⟩
  have HQ6 := Lib.hid hq
  go_wp2_with fail
  refine (hS.out.num (by omega) 2 2 rfl (by omega) _ hq).mono ?_
  rintro e w6 ⟨rfl, hS2, _⟩
  clear hq
  clear c0 c1 c2 c3 c4 c5 c6 c7 c8 c9 c10 c11 c12 c13 c14 c15 c16 c17 y0 y1 y2 y3 y4 y5 y6 y7 y8 y9 y10 y11 y12 y13 y14 y15 y16 y17 f0 f1 f2 f3 f4
  clear hS
  have hS := Lib.hid hS2
  clear hS2
  simp only at hS
  obtain ⟨c0, c1, c2, c3, c4, c5, c6, c7, c8, c9, c10, c11, c12, c13, c14, c15, c16, c17⟩ := Blk18 hS.out.x
  obtain ⟨y0, y1, y2, y3, y4, y5, y6, y7, y8, y9, y10, y11, y12, y13, y14, y15, y16, y17⟩ := Free18 hS.out.x
  obtain ⟨f0, f1, f2, f3, f4⟩ := Blk5 hS.out.f
  obtain ⟨r0, hr0, hlt0⟩ : ∃ r : Nat, n6 = (r : Int) ∧ r < 65536 := by
    obtain ⟨r, h1, h2⟩ := numF_two l p5
    rw [HQ6.out] at h1
    exact ⟨r, h1, h2⟩
  subst hr0
  have hle6 : p6.2 = false → p6.1 ≤ l.length := by
    have := numF_le l p5 2
    rw [HQ6.out] at this
    exact this
  have hp6 : p6.1 ≤ 1000100 := Nat.le_trans hS.out.le (by omega)
  obtain ⟨TT, HTT⟩ : ∃ T, Hid (txsG (numF l) r0 p6 [] = T) := ⟨_, rfl⟩
  have hl0 := hS.out.hl
  have hxw := hS.out.x.lt
  obtain ⟨B, HBW⟩ : ∃ B, Hid (w6.heap.size = B) := ⟨_, rfl⟩
  have hBf : gf < B := by have := hS.out.f.lt; rw [← HBW.out]; exact this
  have hL0 : LT w w6 g gr gx gf l s p6 1000100 #[.int .i64 n2, .int .i64 n3, .int .i64 n4, .int .i64 n1, .int .i64 0, .int .i64 0, .int .i64 n5, .int .i64 0, .int .i64 0, .string ⟨#[]⟩, .string ⟨#[]⟩, .int .i64 0, .int .i64 0, .string ⟨#[]⟩, .int .i64 0, .int .i64 0, .slice none 0 0, .slice none 0 0] #[.bool false, .bool false, .bool false, .bool true, .bool q5] B (.slice none 0 0) [] := ⟨hS.out.lower hp6, World.ownsRow_nil _ _ _ _, hBf, by rw [HBW.out]; exact Nat.le_refl _⟩
  replace hL0 := Lib.hid hL0
  have hgx6 := hS.out.hg
  clear c0 c1 c2 c3 c4 c5 c6 c7 c8 c9 c10 c11 c12 c13 c14 c15 c16 c17 y0 y1 y2 y3 y4 y5 y6 y7 y8 y9 y10 y11 y12 y13 y14 y15 y16 y17 f0 f1 f2 f3 f4
  clear hS hlt
  go_upto_region 19 with fail
  go_loopw [6] (fun nv wr => ∃ (rem : Nat) (p : Rd) (acc : List Tx) (vt : Value), nv = .int .i64 (rem : Int) ∧ acc.length + rem ≤ 65536 ∧ (p.2 = false → p.1 ≤ l.length) ∧ p.1 ≤ 1000100 ∧ Hid (LT w wr g gr gx gf l s p 1000100 #[.int .i64 n2, .int .i64 n3, .int .i64 n4, .int .i64 n1, .int .i64 0, .int .i64 0, .int .i64 n5, .int .i64 0, .int .i64 0, .string ⟨#[]⟩, .string ⟨#[]⟩, .int .i64 0, .int .i64 0, .string ⟨#[]⟩, .int .i64 0, .int .i64 0, vt, .slice none 0 0] #[.bool false, .bool false, .bool false, .bool true, .bool q5] B vt acc) ∧ Hid (txsG (numF l) rem p acc = TT)) (fun nv _ => (intOf nv).toNat)
  case atStart => exact ⟨r0, p6, [], .slice none 0 0, rfl, by show 0 + r0 ≤ 65536; omega, hle6, hp6, hL0, HTT⟩
  case round =>
    clear hL0
    obtain ⟨rem, ⟨pa, pb⟩, acc, vt, rfl, hlen, hle, hpa, HL, HG⟩ := hrel
    simp only at hle hpa
    obtain ⟨⟨z0, z1, z2⟩, zf0, zf1, zf2⟩ := Blk3 HL.out.r.rd
    clear z0 z1 zf0 zf1 zf2
    by_cases hgo : 0 < rem ∧ pb = false
    · obtain ⟨hrem, rfl⟩ := hgo
      obtain ⟨rm, rfl⟩ : ∃ rm, rem = rm + 1 := ⟨rem - 1, by omega⟩
      have hpl := hle rfl
      have hL := HL.out.drew.lower (m2 := 1000000) (by show pa ≤ _; omega)
      have hi0 : (0 : Int) < ((rm + 1 : Nat) : Int) := by omega
      have hi1 : decide ((0 : Int) < ((rm + 1 : Nat) : Int)) = true := decide_eq_true hi0
      obtain ⟨⟨k1, q1⟩, hk1⟩ : ∃ q, numF l (pa, false) 6 = q := ⟨_, rfl⟩
      obtain ⟨⟨k2, q2⟩, hk2⟩ : ∃ q, numF l q1 6 = q := ⟨_, rfl⟩
      obtain ⟨⟨k3, q3⟩, hk3⟩ : ∃ q, numF l q2 6 = q := ⟨_, rfl⟩
      obtain ⟨⟨k4, q4⟩, hk4⟩ : ∃ q, numF l q3 1 = q := ⟨_, rfl⟩
      have HK1 := Lib.hid hk1
      have HK2 := Lib.hid hk2
      have HK3 := Lib.hid hk3
      have HK4 := Lib.hid hk4
      have HG2 : Hid (txsG (numF l) rm q4 (acc ++ [⟨k1, k2, k3, k4 == 1⟩]) = TT) := by
        show _ = _
        rw [← HG.out]
        simp only [txsG, tx1, hk1, hk2, hk3, hk4, Bool.false_eq_true, if_false]
      have hle4 : q4.2 = false → q4.1 ≤ l.length := by
        have := numF_le l q3 1
        rw [hk4] at this
        exact this
      have hp4 : q4.1 = pa + 19 := by
        have e1 := congrArg (fun q => q.2.1) hk1
        have e2 := congrArg (fun q => q.2.1) hk2
        have e3 := congrArg (fun q => q.2.1) hk3
        have e4 := congrArg (fun q => q.2.1) hk4
        simp only [numF] at e1 e2 e3 e4
        omega
      have hp5 : q4.1 ≤ 1000100 := by omega
      clear hk1 hk2 hk3 hk4 HG hle hp4
      have x0 := hL.r.x.cell 16 (v := vt) rfl
      obtain ⟨i0, hi0', hz0, hz1, hz2⟩ := info_parts info_tx
      have hH : ((rm + 1 : Nat) : Int) - 1 = (rm : Int) := by omega
      replace hL := Lib.hid hL
      clear HL
      go_upto_region 21 with fail
      go_region_law (first
        | (go_simp; go_at_call 56; refine (hL3.out.num (by omega) 1 1 rfl (by omega) _ HK4.out).mono ?_; rintro e w7 ⟨rfl, hL4⟩; have x4 := hL4.r.x.cell 16 (v := vt) rfl; have hL5 := hL4.alloc (.cells #[.int .i64 k1, .int .i64 k2, .int .i64 k3, .bool (k4 == 1)] 67); have x5 := hL5.r.x.cell 16 (v := vt) rfl; replace hL4 := Lib.hid hL4; replace hL5 := Lib.hid hL5)
        | (go_simp; go_at_call 56; refine (hL2.out.num (by omega) 6 6 rfl (by omega) _ HK3.out).mono ?_; rintro e w7 ⟨rfl, hL3⟩; have x3 := hL3.r.x.cell 16 (v := vt) rfl; replace hL3 := Lib.hid hL3)
        | (go_simp; go_at_call 56; refine (hL1.out.num (by omega) 6 6 rfl (by omega) _ HK2.out).mono ?_; rintro e w7 ⟨rfl, hL2⟩; have x2 := hL2.r.x.cell 16 (v := vt) rfl; replace hL2 := Lib.hid hL2)
        | (go_simp; go_at_call 56; refine (hL.out.num (by omega) 6 6 rfl (by omega) _ HK1.out).mono ?_; rintro e w7 ⟨rfl, hL1⟩; have x1 := hL1.r.x.cell 16 (v := vt) rfl; replace hL1 := Lib.hid hL1)
        | (refine step_append_lies _ (by rfl) _ _ _ (by rfl) B 67 i0 _ 4 32 Try.underlying28 hi0' hz0 hz1 hz2 rfl (by omega) vt acc.length (txC acc).flatten rfl hL5.out.own ⟨_, 0, none⟩ 1 1 [.int .i64 k1, .int .i64 k2, .int .i64 k3, .bool (k4 == 1)] rfl (by rfl) (World.news_of_block (cs := #[.int .i64 k1, .int .i64 k2, .int .i64 k3, .bool (k4 == 1)]) (t := 67) (fr := (0, 0)) (heap_alloc_new _ _)) (by intro u hu; simp only [List.mem_cons, List.not_mem_nil, or_false] at hu; rcases hu with rfl | rfl | rfl | rfl <;> rfl) (by omega) (by unfold maxLen; omega) (by omega) hL5.out.hB _ rfl ?_; intro gg cap w8 hown8 hgrow hat hlt8; obtain ⟨hX8, hN8⟩ := hL5.out.app ⟨k1, k2, k3, k4 == 1⟩ hown8 hgrow; have x8 := hX8.cell 16 (v := vt) rfl; have f8 := hX8.free 16; replace hX8 := Lib.hid hX8; replace hN8 := Lib.hid hN8; clear hown8 hgrow))
      all_goals (try simp [go_sem]); all_goals (try go_wp2)
      all_goals go_roundw
      case rel => exact ⟨rm, q4, _, _, by go_num, by simp; omega, hle4, hp5, Lib.hid (hN8.out.lower hp5), HG2⟩
      case measure => first | (simp [intOf]; done) | (simp [intOf]; omega)
      all_goals first | exact ⟨rm, q4, _, _, by go_num, by simp; omega, hle4, hp5, Lib.hid (hN8.out.lower hp5), HG2⟩ | (simp [intOf]; done) | (simp [intOf]; omega)
    · have hex : txsG (numF l) rem (pa, pb) acc = (acc, (pa, pb)) := by
        rcases Nat.eq_zero_or_pos rem with h | h
        · subst h; rfl
        · obtain ⟨rm, rfl⟩ : ∃ rm, rem = rm + 1 := ⟨rem - 1, by omega⟩
          have hb : pb = true := by
            cases pb with
            | true => rfl
            | false => exact absurd ⟨h, rfl⟩ hgo
          subst hb
          simp [txsG]
      have HT1 : Hid (txsG (numF l) r0 p6 [] = (acc, (pa, pb))) := HTT.out.trans (HG.out.symm.trans hex)
      have hacc : acc.length ≤ 65536 := by omega
      clear HG HTT hex
      rcases Nat.eq_zero_or_pos rem with h0 | h0
      · subst h0
        clear hgo z2 hle
        obtain ⟨⟨n7, p7⟩, hq7⟩ : ∃ q, numF l (pa, pb) 2 = q := ⟨_, rfl⟩
        have HQ7 := Lib.hid hq7
        go_wp2_with fail
        refine (HL.out.num (by omega) 2 2 rfl (by omega) _ hq7).mono ?_
        rintro e w7 ⟨rfl, hL7⟩
        obtain ⟨r1, hr1, hlt1⟩ : ∃ r : Nat, n7 = (r : Int) ∧ r < 65536 := by
          obtain ⟨r, h1, h2⟩ := numF_two l (pa, pb)
          rw [hq7] at h1
          exact ⟨r, h1, h2⟩
        subst hr1
        have hle7 : p7.2 = false → p7.1 ≤ l.length := by
          have := numF_le l (pa, pb) 2
          rw [hq7] at this
          exact this
        have hp7 : p7.1 ≤ 1000110 := by
          have h := congrArg (fun q => q.2.1) hq7
          simp only [numF] at h
          omega
        obtain ⟨DD, HDD⟩ : ∃ T, Hid (dysG (numF l) r1 p7 [] = T) := ⟨_, rfl⟩
        obtain ⟨B2, HBW2⟩ : ∃ B, Hid (w7.heap.size = B) := ⟨_, rfl⟩
        have hBf2 : gf < B2 := by have := hL7.r.f.lt; rw [← HBW2.out]; exact this
        have hD0 : LD w w7 g gr gx gf l s p7 1000110 #[.int .i64 n2, .int .i64 n3, .int .i64 n4, .int .i64 n1, .int .i64 0, .int .i64 0, .int .i64 n5, .int .i64 0, .int .i64 0, .string ⟨#[]⟩, .string ⟨#[]⟩, .int .i64 0, .int .i64 0, .string ⟨#[]⟩, .int .i64 0, .int .i64 0, vt, .slice none 0 0] #[.bool false, .bool false, .bool false, .bool true, .bool q5] B vt acc B2 (.slice none 0 0) [] :=
          ⟨hL7.r.lower hp7, hL7.own, hL7.hq, fun k e => by rw [← HBW2.out]; exact (hL7.own.lt k e).2, World.ownsRow_nil _ _ _ _, hBf2, by rw [HBW2.out]; exact Nat.le_refl _⟩
        replace hD0 := Lib.hid hD0
        clear hL7 HL hq7 hlen hpa
        go_upto_region 23 with fail
        go_loopw [7] (fun nv wr => ∃ (rem : Nat) (p : Rd) (ac : List Dy) (vd : Value), nv = .int .i64 (rem : Int) ∧ ac.length + rem ≤ 65536 ∧ (p.2 = false → p.1 ≤ l.length) ∧ p.1 ≤ 1000110 ∧ Hid (LD w wr g gr gx gf l s p 1000110 #[.int .i64 n2, .int .i64 n3, .int .i64 n4, .int .i64 n1, .int .i64 0, .int .i64 0, .int .i64 n5, .int .i64 0, .int .i64 0, .string ⟨#[]⟩, .string ⟨#[]⟩, .int .i64 0, .int .i64 0, .string ⟨#[]⟩, .int .i64 0, .int .i64 0, vt, vd] #[.bool false, .bool false, .bool false, .bool true, .bool q5] B vt acc B2 vd ac) ∧ Hid (dysG (numF l) rem p ac = DD)) (fun nv _ => (intOf nv).toNat)
        case atStart => exact ⟨r1, p7, [], .slice none 0 0, rfl, by show 0 + r1 ≤ 65536; omega, hle7, hp7, hD0, HDD⟩
        case round =>
          clear hD0
          obtain ⟨rem, ⟨pc, pd⟩, ac, vd, rfl, hlen, hle, hpa, HL, HG⟩ := hrel
          simp only at hle hpa
          obtain ⟨⟨z0, z1, z2⟩, zf0, zf1, zf2⟩ := Blk3 HL.out.r.rd
          clear z0 z1 zf0 zf1 zf2
          by_cases hgo : 0 < rem ∧ pd = false
          · obtain ⟨hrem, rfl⟩ := hgo
            obtain ⟨rm, rfl⟩ : ∃ rm, rem = rm + 1 := ⟨rem - 1, by omega⟩
            have hpl := hle rfl
            have hL := HL.out.drew.lower (m2 := 1000000) (by show pc ≤ _; omega)
            have hi0 : (0 : Int) < ((rm + 1 : Nat) : Int) := by omega
            have hi1 : decide ((0 : Int) < ((rm + 1 : Nat) : Int)) = true := decide_eq_true hi0
            obtain ⟨⟨k1, q1⟩, hk1⟩ : ∃ q, numF l (pc, false) 3 = q := ⟨_, rfl⟩
            obtain ⟨⟨k2, q2⟩, hk2⟩ : ∃ q, numF l q1 6 = q := ⟨_, rfl⟩
            have HK1 := Lib.hid hk1
            have HK2 := Lib.hid hk2
            have HG2 : Hid (dysG (numF l) rm q2 (ac ++ [⟨k1, k2⟩]) = DD) := by
              show _ = _
              rw [← HG.out]
              simp only [dysG, dy1, hk1, hk2, Bool.false_eq_true, if_false]
            have hle4 : q2.2 = false → q2.1 ≤ l.length := by
              have := numF_le l q1 6
              rw [hk2] at this
              exact this
            have hp4 : q2.1 = pc + 9 := by
              have e1 := congrArg (fun q => q.2.1) hk1
              have e2 := congrArg (fun q => q.2.1) hk2
              simp only [numF] at e1 e2
              omega
            have hp5 : q2.1 ≤ 1000110 := by omega
            clear hk1 hk2 HG hle hp4
            have x0 := hL.r.x.cell 17 (v := vd) rfl
            obtain ⟨i0, hi0', hz0, hz1, hz2⟩ := info_parts info_dy
            have hH : ((rm + 1 : Nat) : Int) - 1 = (rm : Int) := by omega
            replace hL := Lib.hid hL
            clear HL
            go_upto_region 25 with fail
            go_region_law (first
              | (go_simp; go_at_call 56; refine (hL1.out.num (by omega) 6 6 rfl (by omega) _ HK2.out).mono ?_; rintro e w7 ⟨rfl, hL4⟩; have x4 := hL4.r.x.cell 17 (v := vd) rfl; have hL5 := hL4.alloc (.cells #[.int .i64 k1, .int .i64 k2] 71); have x5 := hL5.r.x.cell 17 (v := vd) rfl; replace hL4 := Lib.hid hL4; replace hL5 := Lib.hid hL5)
              | (go_simp; go_at_call 56; refine (hL.out.num (by omega) 3 3 rfl (by omega) _ HK1.out).mono ?_; rintro e w7 ⟨rfl, hL1⟩; have x1 := hL1.r.x.cell 17 (v := vd) rfl; replace hL1 := Lib.hid hL1)
              | (refine step_append_lies _ (by rfl) _ _ _ (by rfl) B2 71 i0 _ 2 16 Try.underlying29 hi0' hz0 hz1 hz2 rfl (by omega) vd ac.length (dyC ac).flatten rfl hL5.out.own ⟨_, 0, none⟩ 1 1 [.int .i64 k1, .int .i64 k2] rfl (by rfl) (World.news_of_block (cs := #[.int .i64 k1, .int .i64 k2]) (t := 71) (fr := (0, 0)) (heap_alloc_new _ _)) (by intro u hu; simp only [List.mem_cons, List.not_mem_nil, or_false] at hu; rcases hu with rfl | rfl <;> rfl) (by omega) (by unfold maxLen; omega) (by omega) hL5.out.hB _ rfl ?_; intro gg cap w8 hown8 hgrow hat hlt8; obtain ⟨hX8, hN8⟩ := hL5.out.app ⟨k1, k2⟩ hown8 hgrow; have x8 := hX8.cell 17 (v := vd) rfl; have f8 := hX8.free 17; replace hX8 := Lib.hid hX8; replace hN8 := Lib.hid hN8; clear hown8 hgrow))
            all_goals (try simp [go_sem]); all_goals (try go_wp2)
            all_goals go_roundw
            case rel => exact ⟨rm, q2, _, _, by go_num, by simp; omega, hle4, hp5, Lib.hid (hN8.out.lower hp5), HG2⟩
            case measure => first | (simp [intOf]; done) | (simp [intOf]; omega)
            all_goals first | exact ⟨rm, q2, _, _, by go_num, by simp; omega, hle4, hp5, Lib.hid (hN8.out.lower hp5), HG2⟩ | (simp [intOf]; done) | (simp [intOf]; omega)
          · have hex : dysG (numF l) rem (pc, pd) ac = (ac, (pc, pd)) := by
              rcases Nat.eq_zero_or_pos rem with h | h
              · subst h; rfl
              · obtain ⟨rm, rfl⟩ : ∃ rm, rem = rm + 1 := ⟨rem - 1, by omega⟩
                have hb : pd = true := by
                  cases pd with
                  | true => rfl
                  | false => exact absurd ⟨h, rfl⟩ hgo
                subst hb
                simp [dysG]
            have HD1 : Hid (dysG (numF l) r1 p7 [] = (ac, (pc, pd))) := HDD.out.trans (HG.out.symm.trans hex)
            have hacc2 : ac.length ≤ 65536 := by omega
            clear HG HDD hex
            have HFIN : Hid (R = { lsn := n2, prev := n3, txn := n4, kind := n1, page := 0, next := 0, num := n5, ok := 0, os := 0, old := [], new := [], how := 0, root := 0, key := [], rp := 0, rs := 0, txns := acc, dirty := ac }) := by
              show _ = _
              rw [HT.out]
              simp only [liG, HQ2.out, HQ3.out, HQ4.out, HQ5.out, HQ6.out, Int.toNat_natCast, HT1.out, HQ7.out, HD1.out]
            clear HT HT1 HD1 HQ2 HQ3 HQ4 HQ5 HQ6 HQ7
            rcases Nat.eq_zero_or_pos rem with h0 | h0
            · subst h0
              clear hgo z2 hle
              obtain ⟨va, vm, vc, rfl⟩ := row_slice HL.out.own0
              obtain ⟨da, dm, dc, rfl⟩ := row_slice HL.out.own
              go_wp2_with (first | (with_reducible refine wpList_load18 HL.out.r.x (by kernel_rfl) _ rfl rfl ?_) | ((with_reducible refine wpList_store18 HL.out.r.res (by kernel_rfl) (by kernel_rfl) (by kernel_rfl) rfl _ _ rfl rfl rfl ?_); intro W9 hW9 hgr9))
              have HV := rec_val hW9 rfl
              have b1 := HL.out.r.h1
              have b2 := HL.out.r.h2
              have b3 := HL.out.r.h3
              have b4 := HL.out.hq0
              have b5 := HL.out.hq
              have hfr9 : w.grownBy W9 (some g) := by
                refine ⟨hgr9.os.trans HL.out.r.fr.os, hgr9.tape.trans HL.out.r.fr.tape, hgr9.output.trans HL.out.r.fr.output, Nat.le_trans HL.out.r.fr.size hgr9.size, fun k hk hne => ?_⟩
                rw [hgr9.block k (Nat.lt_of_lt_of_le hk HL.out.r.fr.size) (by intro e; injection e; omega)]
                exact HL.out.r.fr.block k hk hne
              have ho1 := HL.out.own0.kept hgr9 (.inr fun e => by have := (HL.out.own0.lt _ e).1; omega)
              have ho2 := HL.out.own.kept hgr9 (.inr fun e => by have := (HL.out.own.lt _ e).1; omega)
              refine bodyPost_ret (v := .agg #[.int .i64 n2, .int .i64 n3, .int .i64 n4, .int .i64 n1, .int .i64 0, .int .i64 0, .int .i64 n5, .int .i64 0, .int .i64 0, .string ⟨#[]⟩, .string ⟨#[]⟩, .int .i64 0, .int .i64 0, .string ⟨#[]⟩, .int .i64 0, .int .i64 0, .slice va vm vc, .slice da dm dc]) ?_ rfl ?_
              · simp [results, Try.results25, asAddr, Act.put, HV]
              · refine ⟨.slice va vm vc, .slice da dm dc, ?_, ?_, ?_, hfr9⟩
                · rw [HFIN.out]; rfl
                · rw [HFIN.out]; exact ⟨row_lower ho1 (by omega), hacc⟩
                · rw [HFIN.out]; exact ⟨row_lower ho2 (by omega), hacc2⟩
            · have hb : pd = true := by
                cases pd with
                | true => rfl
                | false => exact absurd ⟨h0, rfl⟩ hgo
              subst hb
              clear hgo hle
              have hi0 : (0 : Int) < (rem : Int) := by omega
              have hi1 : decide ((0 : Int) < (rem : Int)) = true := decide_eq_true hi0
              obtain ⟨va, vm, vc, rfl⟩ := row_slice HL.out.own0
              obtain ⟨da, dm, dc, rfl⟩ := row_slice HL.out.own
              go_wp2_with (first | (with_reducible refine wpList_load18 HL.out.r.x (by kernel_rfl) _ rfl rfl ?_) | ((with_reducible refine wpList_store18 HL.out.r.res (by kernel_rfl) (by kernel_rfl) (by kernel_rfl) rfl _ _ rfl rfl rfl ?_); intro W9 hW9 hgr9))
              have HV := rec_val hW9 rfl
              have b1 := HL.out.r.h1
              have b2 := HL.out.r.h2
              have b3 := HL.out.r.h3
              have b4 := HL.out.hq0
              have b5 := HL.out.hq
              have hfr9 : w.grownBy W9 (some g) := by
                refine ⟨hgr9.os.trans HL.out.r.fr.os, hgr9.tape.trans HL.out.r.fr.tape, hgr9.output.trans HL.out.r.fr.output, Nat.le_trans HL.out.r.fr.size hgr9.size, fun k hk hne => ?_⟩
                rw [hgr9.block k (Nat.lt_of_lt_of_le hk HL.out.r.fr.size) (by intro e; injection e; omega)]
                exact HL.out.r.fr.block k hk hne
              have ho1 := HL.out.own0.kept hgr9 (.inr fun e => by have := (HL.out.own0.lt _ e).1; omega)
              have ho2 := HL.out.own.kept hgr9 (.inr fun e => by have := (HL.out.own.lt _ e).1; omega)
              refine bodyPost_ret (v := .agg #[.int .i64 n2, .int .i64 n3, .int .i64 n4, .int .i64 n1, .int .i64 0, .int .i64 0, .int .i64 n5, .int .i64 0, .int .i64 0, .string ⟨#[]⟩, .string ⟨#[]⟩, .int .i64 0, .int .i64 0, .string ⟨#[]⟩, .int .i64 0, .int .i64 0, .slice va vm vc, .slice da dm dc]) ?_ rfl ?_
              · simp [results, Try.results25, asAddr, Act.put, HV]
              · refine ⟨.slice va vm vc, .slice da dm dc, ?_, ?_, ?_, hfr9⟩
                · rw [HFIN.out]; rfl
                · rw [HFIN.out]; exact ⟨row_lower ho1 (by omega), hacc⟩
                · rw [HFIN.out]; exact ⟨row_lower ho2 (by omega), hacc2⟩
      · have hb : pb = true := by
          cases pb with
          | true => rfl
          | false => exact absurd ⟨h0, rfl⟩ hgo
        subst hb
        clear hgo hle
        have hi0 : (0 : Int) < (rem : Int) := by omega
        have hi1 : decide ((0 : Int) < (rem : Int)) = true := decide_eq_true hi0
        obtain ⟨⟨n7, p7⟩, hq7⟩ : ∃ q, numF l (pa, true) 2 = q := ⟨_, rfl⟩
        have HQ7 := Lib.hid hq7
        go_wp2_with fail
        refine (HL.out.num (by omega) 2 2 rfl (by omega) _ hq7).mono ?_
        rintro e w7 ⟨rfl, hL7⟩
        obtain ⟨r1, hr1, hlt1⟩ : ∃ r : Nat, n7 = (r : Int) ∧ r < 65536 := by
          obtain ⟨r, h1, h2⟩ := numF_two l (pa, true)
          rw [hq7] at h1
          exact ⟨r, h1, h2⟩
        subst hr1
        have hle7 : p7.2 = false → p7.1 ≤ l.length := by
          have := numF_le l (pa, true) 2
          rw [hq7] at this
          exact this
        have hp7 : p7.1 ≤ 1000110 := by
          have h := congrArg (fun q => q.2.1) hq7
          simp only [numF] at h
          omega
        obtain ⟨DD, HDD⟩ : ∃ T, Hid (dysG (numF l) r1 p7 [] = T) := ⟨_, rfl⟩
        obtain ⟨B2, HBW2⟩ : ∃ B, Hid (w7.heap.size = B) := ⟨_, rfl⟩
        have hBf2 : gf < B2 := by have := hL7.r.f.lt; rw [← HBW2.out]; exact this
        have hD0 : LD w w7 g gr gx gf l s p7 1000110 #[.int .i64 n2, .int .i64 n3, .int .i64 n4, .int .i64 n1, .int .i64 0, .int .i64 0, .int .i64 n5, .int .i64 0, .int .i64 0, .string ⟨#[]⟩, .string ⟨#[]⟩, .int .i64 0, .int .i64 0, .string ⟨#[]⟩, .int .i64 0, .int .i64 0, vt, .slice none 0 0] #[.bool false, .bool false, .bool false, .bool true, .bool q5] B vt acc B2 (.slice none 0 0) [] :=
          ⟨hL7.r.lower hp7, hL7.own, hL7.hq, fun k e => by rw [← HBW2.out]; exact (hL7.own.lt k e).2, World.ownsRow_nil _ _ _ _, hBf2, by rw [HBW2.out]; exact Nat.le_refl _⟩
        replace hD0 := Lib.hid hD0
        clear hL7 HL hq7 hlen hpa
        go_upto_region 23 with fail
        go_loopw [7] (fun nv wr => ∃ (rem : Nat) (p : Rd) (ac : List Dy) (vd : Value), nv = .int .i64 (rem : Int) ∧ ac.length + rem ≤ 65536 ∧ (p.2 = false → p.1 ≤ l.length) ∧ p.1 ≤ 1000110 ∧ Hid (LD w wr g gr gx gf l s p 1000110 #[.int .i64 n2, .int .i64 n3, .int .i64 n4, .int .i64 n1, .int .i64 0, .int .i64 0, .int .i64 n5, .int .i64 0, .int .i64 0, .string ⟨#[]⟩, .string ⟨#[]⟩, .int .i64 0, .int .i64 0, .string ⟨#[]⟩, .int .i64 0, .int .i64 0, vt, vd] #[.bool false, .bool false, .bool false, .bool true, .bool q5] B vt acc B2 vd ac) ∧ Hid (dysG (numF l) rem p ac = DD)) (fun nv _ => (intOf nv).toNat)
        case atStart => exact ⟨r1, p7, [], .slice none 0 0, rfl, by show 0 + r1 ≤ 65536; omega, hle7, hp7, hD0, HDD⟩
        case round =>
          clear hD0
          obtain ⟨rem, ⟨pc, pd⟩, ac, vd, rfl, hlen, hle, hpa, HL, HG⟩ := hrel
          simp only at hle hpa
          obtain ⟨⟨z0, z1, z2⟩, zf0, zf1, zf2⟩ := Blk3 HL.out.r.rd
          clear z0 z1 zf0 zf1 zf2
          by_cases hgo : 0 < rem ∧ pd = false
          · obtain ⟨hrem, rfl⟩ := hgo
            obtain ⟨rm, rfl⟩ : ∃ rm, rem = rm + 1 := ⟨rem - 1, by omega⟩
            have hpl := hle rfl
            have hL := HL.out.drew.lower (m2 := 1000000) (by show pc ≤ _; omega)
            have hi0 : (0 : Int) < ((rm + 1 : Nat) : Int) := by omega
            have hi1 : decide ((0 : Int) < ((rm + 1 : Nat) : Int)) = true := decide_eq_true hi0
            obtain ⟨⟨k1, q1⟩, hk1⟩ : ∃ q, numF l (pc, false) 3 = q := ⟨_, rfl⟩
            obtain ⟨⟨k2, q2⟩, hk2⟩ : ∃ q, numF l q1 6 = q := ⟨_, rfl⟩
            have HK1 := Lib.hid hk1
            have HK2 := Lib.hid hk2
            have HG2 : Hid (dysG (numF l) rm q2 (ac ++ [⟨k1, k2⟩]) = DD) := by
              show _ = _
              rw [← HG.out]
              simp only [dysG, dy1, hk1, hk2, Bool.false_eq_true, if_false]
            have hle4 : q2.2 = false → q2.1 ≤ l.length := by
              have := numF_le l q1 6
              rw [hk2] at this
              exact this
            have hp4 : q2.1 = pc + 9 := by
              have e1 := congrArg (fun q => q.2.1) hk1
              have e2 := congrArg (fun q => q.2.1) hk2
              simp only [numF] at e1 e2
              omega
            have hp5 : q2.1 ≤ 1000110 := by omega
            clear hk1 hk2 HG hle hp4
            have x0 := hL.r.x.cell 17 (v := vd) rfl
            obtain ⟨i0, hi0', hz0, hz1, hz2⟩ := info_parts info_dy
            have hH : ((rm + 1 : Nat) : Int) - 1 = (rm : Int) := by omega
            replace hL := Lib.hid hL
            clear HL
            go_upto_region 25 with fail
            go_region_law (first
              | (go_simp; go_at_call 56; refine (hL1.out.num (by omega) 6 6 rfl (by omega) _ HK2.out).mono ?_; rintro e w7 ⟨rfl, hL4⟩; have x4 := hL4.r.x.cell 17 (v := vd) rfl; have hL5 := hL4.alloc (.cells #[.int .i64 k1, .int .i64 k2] 71); have x5 := hL5.r.x.cell 17 (v := vd) rfl; replace hL4 := Lib.hid hL4; replace hL5 := Lib.hid hL5)
              | (go_simp; go_at_call 56; refine (hL.out.num (by omega) 3 3 rfl (by omega) _ HK1.out).mono ?_; rintro e w7 ⟨rfl, hL1⟩; have x1 := hL1.r.x.cell 17 (v := vd) rfl; replace hL1 := Lib.hid hL1)
              | (refine step_append_lies _ (by rfl) _ _ _ (by rfl) B2 71 i0 _ 2 16 Try.underlying29 hi0' hz0 hz1 hz2 rfl (by omega) vd ac.length (dyC ac).flatten rfl hL5.out.own ⟨_, 0, none⟩ 1 1 [.int .i64 k1, .int .i64 k2] rfl (by rfl) (World.news_of_block (cs := #[.int .i64 k1, .int .i64 k2]) (t := 71) (fr := (0, 0)) (heap_alloc_new _ _)) (by intro u hu; simp only [List.mem_cons, List.not_mem_nil, or_false] at hu; rcases hu with rfl | rfl <;> rfl) (by omega) (by unfold maxLen; omega) (by omega) hL5.out.hB _ rfl ?_; intro gg cap w8 hown8 hgrow hat hlt8; obtain ⟨hX8, hN8⟩ := hL5.out.app ⟨k1, k2⟩ hown8 hgrow; have x8 := hX8.cell 17 (v := vd) rfl; have f8 := hX8.free 17; replace hX8 := Lib.hid hX8; replace hN8 := Lib.hid hN8; clear hown8 hgrow))
            all_goals (try simp [go_sem]); all_goals (try go_wp2)
            all_goals go_roundw
            case rel => exact ⟨rm, q2, _, _, by go_num, by simp; omega, hle4, hp5, Lib.hid (hN8.out.lower hp5), HG2⟩
            case measure => first | (simp [intOf]; done) | (simp [intOf]; omega)
            all_goals first | exact ⟨rm, q2, _, _, by go_num, by simp; omega, hle4, hp5, Lib.hid (hN8.out.lower hp5), HG2⟩ | (simp [intOf]; done) | (simp [intOf]; omega)
          · have hex : dysG (numF l) rem (pc, pd) ac = (ac, (pc, pd)) := by
              rcases Nat.eq_zero_or_pos rem with h | h
              · subst h; rfl
              · obtain ⟨rm, rfl⟩ : ∃ rm, rem = rm + 1 := ⟨rem - 1, by omega⟩
                have hb : pd = true := by
                  cases pd with
                  | true => rfl
                  | false => exact absurd ⟨h, rfl⟩ hgo
                subst hb
                simp [dysG]
            have HD1 : Hid (dysG (numF l) r1 p7 [] = (ac, (pc, pd))) := HDD.out.trans (HG.out.symm.trans hex)
            have hacc2 : ac.length ≤ 65536 := by omega
            clear HG HDD hex
            have HFIN : Hid (R = { lsn := n2, prev := n3, txn := n4, kind := n1, page := 0, next := 0, num := n5, ok := 0, os := 0, old := [], new := [], how := 0, root := 0, key := [], rp := 0, rs := 0, txns := acc, dirty := ac }) := by
              show _ = _
              rw [HT.out]
              simp only [liG, HQ2.out, HQ3.out, HQ4.out, HQ5.out, HQ6.out, Int.toNat_natCast, HT1.out, HQ7.out, HD1.out]
            clear HT HT1 HD1 HQ2 HQ3 HQ4 HQ5 HQ6 HQ7
            rcases Nat.eq_zero_or_pos rem with h0 | h0
            · subst h0
              clear hgo z2 hle
              obtain ⟨va, vm, vc, rfl⟩ := row_slice HL.out.own0
              obtain ⟨da, dm, dc, rfl⟩ := row_slice HL.out.own
              go_wp2_with (first | (with_reducible refine wpList_load18 HL.out.r.x (by kernel_rfl) _ rfl rfl ?_) | ((with_reducible refine wpList_store18 HL.out.r.res (by kernel_rfl) (by kernel_rfl) (by kernel_rfl) rfl _ _ rfl rfl rfl ?_); intro W9 hW9 hgr9))
              have HV := rec_val hW9 rfl
              have b1 := HL.out.r.h1
              have b2 := HL.out.r.h2
              have b3 := HL.out.r.h3
              have b4 := HL.out.hq0
              have b5 := HL.out.hq
              have hfr9 : w.grownBy W9 (some g) := by
                refine ⟨hgr9.os.trans HL.out.r.fr.os, hgr9.tape.trans HL.out.r.fr.tape, hgr9.output.trans HL.out.r.fr.output, Nat.le_trans HL.out.r.fr.size hgr9.size, fun k hk hne => ?_⟩
                rw [hgr9.block k (Nat.lt_of_lt_of_le hk HL.out.r.fr.size) (by intro e; injection e; omega)]
                exact HL.out.r.fr.block k hk hne
              have ho1 := HL.out.own0.kept hgr9 (.inr fun e => by have := (HL.out.own0.lt _ e).1; omega)
              have ho2 := HL.out.own.kept hgr9 (.inr fun e => by have := (HL.out.own.lt _ e).1; omega)
              refine bodyPost_ret (v := .agg #[.int .i64 n2, .int .i64 n3, .int .i64 n4, .int .i64 n1, .int .i64 0, .int .i64 0, .int .i64 n5, .int .i64 0, .int .i64 0, .string ⟨#[]⟩, .string ⟨#[]⟩, .int .i64 0, .int .i64 0, .string ⟨#[]⟩, .int .i64 0, .int .i64 0, .slice va vm vc, .slice da dm dc]) ?_ rfl ?_
              · simp [results, Try.results25, asAddr, Act.put, HV]
              · refine ⟨.slice va vm vc, .slice da dm dc, ?_, ?_, ?_, hfr9⟩
                · rw [HFIN.out]; rfl
                · rw [HFIN.out]; exact ⟨row_lower ho1 (by omega), hacc⟩
                · rw [HFIN.out]; exact ⟨row_lower ho2 (by omega), hacc2⟩
            · have hb : pd = true := by
                cases pd with
                | true => rfl
                | false => exact absurd ⟨h0, rfl⟩ hgo
              subst hb
              clear hgo hle
              have hi0 : (0 : Int) < (rem : Int) := by omega
              have hi1 : decide ((0 : Int) < (rem : Int)) = true := decide_eq_true hi0
              obtain ⟨va, vm, vc, rfl⟩ := row_slice HL.out.own0
              obtain ⟨da, dm, dc, rfl⟩ := row_slice HL.out.own
              go_wp2_with (first | (with_reducible refine wpList_load18 HL.out.r.x (by kernel_rfl) _ rfl rfl ?_) | ((with_reducible refine wpList_store18 HL.out.r.res (by kernel_rfl) (by kernel_rfl) (by kernel_rfl) rfl _ _ rfl rfl rfl ?_); intro W9 hW9 hgr9))
              have HV := rec_val hW9 rfl
              have b1 := HL.out.r.h1
              have b2 := HL.out.r.h2
              have b3 := HL.out.r.h3
              have b4 := HL.out.hq0
              have b5 := HL.out.hq
              have hfr9 : w.grownBy W9 (some g) := by
                refine ⟨hgr9.os.trans HL.out.r.fr.os, hgr9.tape.trans HL.out.r.fr.tape, hgr9.output.trans HL.out.r.fr.output, Nat.le_trans HL.out.r.fr.size hgr9.size, fun k hk hne => ?_⟩
                rw [hgr9.block k (Nat.lt_of_lt_of_le hk HL.out.r.fr.size) (by intro e; injection e; omega)]
                exact HL.out.r.fr.block k hk hne
              have ho1 := HL.out.own0.kept hgr9 (.inr fun e => by have := (HL.out.own0.lt _ e).1; omega)
              have ho2 := HL.out.own.kept hgr9 (.inr fun e => by have := (HL.out.own.lt _ e).1; omega)
              refine bodyPost_ret (v := .agg #[.int .i64 n2, .int .i64 n3, .int .i64 n4, .int .i64 n1, .int .i64 0, .int .i64 0, .int .i64 n5, .int .i64 0, .int .i64 0, .string ⟨#[]⟩, .string ⟨#[]⟩, .int .i64 0, .int .i64 0, .string ⟨#[]⟩, .int .i64 0, .int .i64 0, .slice va vm vc, .slice da dm dc]) ?_ rfl ?_
              · simp [results, Try.results25, asAddr, Act.put, HV]
              · refine ⟨.slice va vm vc, .slice da dm dc, ?_, ?_, ?_, hfr9⟩
                · rw [HFIN.out]; rfl
                · rw [HFIN.out]; exact ⟨row_lower ho1 (by omega), hacc⟩
                · rw [HFIN.out]; exact ⟨row_lower ho2 (by omega), hacc2⟩
end Go.Proofs.Ytloengjcniefgaa.Rec
