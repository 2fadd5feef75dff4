/- The walk of DiskCuts. -/
import Derived.Test.YthliialieogakaaCutK36
import Derived.Test.YthliialieogakaaKitQ
import Derived.Deep.CutRange
import Derived.Deep.CutBlock
import Derived.Deep.RegionHeld3
namespace Go.Proofs.Ythliialieogakaa
set_option linter.unusedVariables false
set_option linter.unusedSimpArgs false
open Go.RowKit
open Oct (S)
theorem cuts_out (n : Int) (l : List Int) (av : Value) (w : World) (hA : ElAt w 1 av (l.map fun x => [.int .i64 x])) (hno : 20 < l.length ∨ n < 0 ∨ 100 < n) :
    Calls Try.prog 5 #[av, .int .i64 n] w (Ret (.bool true) w) := by
  have HX := Lib.hid (fun W => awake_any W)
  obtain ⟨ao, cap, rfl⟩ := hA.nil
  have hsm := hA.small
  rw [List.length_map] at hsm ⊢
  clear hA
  generalize l.length = m at *
  by_cases h1 : 20 < m
  · have h1' : (20 : Int) < m := by omega
    go_enter Try.func5, Try.ntmps5
    go_wp2_with fail
    refine (HX.out _).mono ?_
    rintro e w2 ⟨rfl, hb2⟩
    go_wp2_with fail
    go_ret
    exact ⟨rfl, hb2⟩
  · have h1' : ¬ (20 : Int) < m := by omega
    by_cases h2 : n < 0
    · go_enter Try.func5, Try.ntmps5
      go_wp2_with fail
      refine (HX.out _).mono ?_
      rintro e w2 ⟨rfl, hb2⟩
      go_wp2_with fail
      go_ret
      exact ⟨rfl, hb2⟩
    · have h3 : 100 < n := by omega
      go_enter Try.func5, Try.ntmps5
      go_wp2_with fail
      refine (HX.out _).mono ?_
      rintro e w2 ⟨rfl, hb2⟩
      go_wp2_with fail
      go_ret
      exact ⟨rfl, hb2⟩
set_option maxHeartbeats 8000000 in
set_option maxRecDepth 100000 in
theorem cuts_in (n : Nat) (l : List Int) (av : Value) (w : World) (hA : ElAt w 1 av (l.map fun x => [.int .i64 x])) (hwf : ∀ x ∈ l, (Lit.int .i64 x).wf = true) (hn : n ≤ 100) (hl : l.length ≤ 20) :
    Calls Try.prog 5 #[av, .int .i64 (n : Int)] w (Ret (.bool true) w) := by
  have HX := Lib.hid (fun W => awake_any W)
  have hnw : Dk.new 80 = (⟨sctrs (List.replicate 80 0), -1, false⟩, 0) := by
    rw [← sctrs_blank]; simp [Dk.new, Dk.blank]
  have HN := Lib.hid (fun W => new_any 80 W)
  rw [hnw] at HN
  have har : (Dk.mk (sctrs (List.replicate 80 0)) (-1) false).arm n = ⟨sctrs (List.replicate 80 0), n, false⟩ := by
    rw [Dk.arm, if_neg (by omega)]
  have HA := Lib.hid (fun v W h => arm_val ⟨sctrs (List.replicate 80 0), -1, false⟩ v n W h)
  rw [har] at HA
  have hzl : (List.replicate 80 (0 : UInt8)).length = 80 := List.length_replicate ..
  have hk0 : (sctrs (List.replicate 80 0)).length = 80 := by rw [sctrs_len, hzl]
  obtain ⟨ao, cap, rfl⟩ := hA.nil
  rw [List.length_map] at hA ⊢
  have HAC := Lib.hid hA
  have HWF := Lib.hid hwf
  obtain ⟨m, hm⟩ : ∃ m, l.length = m := ⟨_, rfl⟩
  rw [hm] at hl ⊢ HAC
  have HM := Lib.hid hm
  simp only [Dk.val] at HN HA
  clear hA hwf hnw har hm
  generalize hzz : List.replicate 80 (0 : UInt8) = zl at *
  have hcond1 : ¬ (20 : Int) < m := by omega
  have hcond2 : ¬ (n : Int) < 0 := by omega
  have hcond3 : ¬ (100 : Int) < n := by omega
  have HZ := Lib.hid hzz
  clear hzz
  go_enter Try.func5, Try.ntmps5
  go_wp2_with fail
  refine (HN.out _).mono ?_
  rintro e w1 ⟨hb1, v1, rfl, hS1⟩
  obtain ⟨ao1, cap1, rfl⟩ := hS1.nil
  rw [hk0] at hS1 ⊢
  simp only [Dk.val] at hS1 ⊢
  go_wp2_with fail
  generalize hW1 : w1.alloc (.cells #[.slice ao1 80 cap1, .int .i64 (-1), .bool false] 25) = W1
  have hD : Blk W1 w1.heap.size #[.slice ao1 80 cap1, .int .i64 (-1), .bool false] 25 := by subst hW1; exact Blk.new _ _ _
  have hv : SecAt W1 (.slice ao1 80 cap1) (sctrs zl) := by subst hW1; exact hS1.below ((Below.refl _ _).alloc (Nat.le_refl _) _)
  have hB : Below w.heap.size w W1 := by subst hW1; exact hb1.alloc (hb1.size) _
  have hDw : w.heap.size ≤ w1.heap.size := hb1.size
  clear hW1 hS1 hb1
  generalize w1.heap.size = D at *
  refine (HA.out _ _ hv).mono ?_
  rintro e w2 ⟨rfl, hb2⟩
  replace hD := hD.below hb2
  replace hB := hB.next hb2
  replace hv := hv.below hb2
  obtain ⟨x0, x1, x2, x3, x4, x5⟩ := hD.dval
  clear hb2
  go_upto_region 5 with fail
  obtain ⟨e1, e2, e3⟩ := hD.store3 n false ao1 80 cap1
  replace hB := e3 _ _ hDw hB
  replace hv := e2 _ _ hv
  clear e2 e3 hD x0 x1 x2 x3 x4 x5
  generalize ((w2.setCell ⟨D, 0, none⟩ (.slice ao1 80 cap1)).setCell ⟨D, 1, none⟩ (.int .i64 n)).setCell ⟨D, 2, none⟩ (.bool false) = W2 at *
  go_upto_region 6 with ((with_reducible refine wpList_makeBlk 43 5 Try.underlying43 info_u8p ?_); refine ⟨80, _, _, rfl, rfl, by omega, ?_⟩; intro G w3 hg hb3 hcl; rw [HZ.out] at hcl)
  have hB3 := hB.next hb3
  have hGw : w.heap.size ≤ G := Nat.le_trans hB.size hg
  have hDG : D ≠ G := by have := e1.lt; omega
  have hC : CN w w3 D G (.slice ao1 80 cap1) ⟨sctrs zl, n, false⟩ zl := ⟨hB3, e1.below hb3, hcl, hv.below hb3⟩
  clear hB hB3 hv e1 hb3 hcl hg HN HA
  go_upto_block 0 with fail
  go_cut [8, 9, 10, 11, 12, 13] from 38 to 95 (fun p8 p9 p10 p11 p12 p13 wx => ∃ (wl : List UInt8) (ao : Option Addr) (cap : Nat) (a : Int) (c : Bool), CN w wx D G (.slice ao 80 cap) ⟨sctrs wl, a, c⟩ wl ∧ wl.length = 80)
  case first =>
    go_wp2_with fail
    go_loopw [8, 9] (fun lf i wr => ∃ (j L : Nat) (wl : List UInt8) (ao : Option Addr) (cap : Nat), lf = .int .i64 (L : Int) ∧ i = .int .i64 (j : Int) ∧ j ≤ m ∧ L ≤ 100 ∧ wl.length = 80 ∧ CN w wr D G (.slice ao 80 cap) ⟨sctrs wl, L, false⟩ wl) (fun _ i _ => m - (intOf i).toNat)
    case atStart => exact ⟨0, n, zl, ao1, cap1, rfl, rfl, Nat.zero_le _, hn, hzl, hC⟩
    case round =>
      obtain ⟨j, L, wl, aov, capv, rfl, rfl, hj, hL, hwl, hX⟩ := hrel
      clear hC
      by_cases hlt : j < m
      · have hjl : j < l.length := by rw [HM.out]; exact hlt
        obtain ⟨b, off, cap', hav, hblt, hcell⟩ := (HAC.out.below hX.hb).get j (by rw [List.length_map]; exact hjl)
        obtain ⟨hav1, hav2⟩ : ao = some ⟨b, off, none⟩ ∧ cap = cap' := by
          have := hav
          simp only [List.length_map, HM.out] at this
          injection this with h1 h2 h3
          exact ⟨h1, h3⟩
        subst hav1 hav2
        have hwfx := wf_i64 (HWF.out _ (List.getElem_mem hjl))
        obtain ⟨x, hlx⟩ : ∃ x, l[j]'hjl = x := ⟨_, rfl⟩
        rw [List.getElem_map, hlx] at hcell
        rw [hlx] at hwfx
        have c0 : wr.cell? ⟨b, off + j, none⟩ = some (.int .i64 x) := by have := hcell 0 _ rfl; simpa using this
        have hj0 : (0 : Int) ≤ j := by omega
        have hj1 : (j : Int) < m := by omega
        clear hav hcell hlx hjl
        go_upto_region 11 with fail
        obtain ⟨q, hq, hqe⟩ := at_of x
        rw [hqe]
        obtain ⟨ch, hch⟩ : ∃ ch : UInt8, (ch.toNat : Int) = IntKind.u8.wrap (IntKind.i64.wrap ((j : Int) + 1)) := by
          refine ⟨UInt8.ofNat (j + 1), ?_⟩
          rw [IntWalk.i64_in _ (by omega), IntWalk.u8_in _ (by omega)]
          simp
          omega
        have HPG := Lib.hid (fun W => page_any ch W)
        rw [hch] at HPG
        have hpm : (S (pg ch)).size ≤ maxLen := by
          rw [show (S (pg ch)).size = 512 from by show (List.replicate 512 ch).toArray.size = 512; rw [List.size_toArray, List.length_replicate]]
          decide
        have hs80 : (sctrs wl).length = 80 := by rw [sctrs_len, hwl]
        have HW := Lib.hid (fun v W h => writePage_any ⟨sctrs wl, L, false⟩ v q (S (pg ch)) W h (by simp only; omega) (by simp only; omega) (by simp only; omega) hpm)
        rw [page_fill ch q L wl hwl hq] at HW
        obtain ⟨wl2, a2, c2, e2, hpf, hcase⟩ : ∃ (wl2 : List UInt8) (a2 : Int) (c2 : Bool) (e2 : Int), (if 4 ≤ L then (Dk.mk (sctrs (fill ch q 4 wl)) ((L - 4 : Nat) : Int) false, (0 : Int)) else (Dk.mk (sctrs (fill ch q L wl)) 0 true, 20)) = (⟨sctrs wl2, a2, c2⟩, e2) ∧ ((4 ≤ L ∧ e2 = 0 ∧ a2 = ((L - 4 : Nat) : Int) ∧ c2 = false ∧ wl2 = fill ch q 4 wl) ∨ (L < 4 ∧ e2 = 20 ∧ a2 = 0 ∧ c2 = true ∧ wl2 = fill ch q L wl)) := by
          by_cases h4 : 4 ≤ L
          · exact ⟨_, _, _, _, if_pos h4, .inl ⟨h4, rfl, rfl, rfl, rfl⟩⟩
          · exact ⟨_, _, _, _, if_neg h4, .inr ⟨by omega, rfl, rfl, rfl, rfl⟩⟩
        rw [hpf] at HW
        have hw2 : wl2.length = 80 := by rcases hcase with ⟨_, _, _, _, rfl⟩ | ⟨_, _, _, _, rfl⟩ <;> rw [fill_len, hwl]
        have hs2 : (sctrs wl2).length = 80 := by rw [sctrs_len, hw2]
        simp only [Dk.val] at HW
        generalize S (pg ch) = p at HPG HW
        have HCS := Lib.hid hcase
        have HCH := Lib.hid hch
        clear hch
        clear hpf hcase hqe hpm hwfx c0
        obtain ⟨x0, x1, x2, x3, x4, x5⟩ : wr.cell? ⟨D, 0, none⟩ = some (.slice aov 80 capv) ∧ wr.cell? ⟨D, 1, none⟩ = some (.int .i64 (L : Int)) ∧ wr.cell? ⟨D, 2, none⟩ = some (.bool false) ∧ _ ∧ _ ∧ _ := hX.hD.dval
        have hne1 : wr.heap.size ≠ D := Nat.ne_of_gt hX.hD.lt
        have hne2 : wr.heap.size ≠ G := Nat.ne_of_gt hX.hG.lt
        go_cut [11, 12] from 38 to 95 (fun p e wx => ∃ (E : Nat) (ao5 : Option Addr) (cap5 : Nat), p = .pointer (some ⟨E, 0, none⟩) ∧ e = .int .i64 e2 ∧ E ≠ D ∧ E ≠ G ∧ CN w wx D G (.slice aov 80 capv) ⟨sctrs wl, L, false⟩ wl ∧ Blk wx E #[.slice ao5 80 cap5, .int .i64 a2, .bool c2] 25 ∧ SecAt wx (.slice ao5 80 cap5) (sctrs wl2))
        case first =>
          go_region_held3 (fun w' => w'.cell? ⟨D, 0, none⟩ = some (.slice aov 80 capv) ∧ w'.cell? ⟨D, 1, none⟩ = some (.int .i64 (L : Int)) ∧ w'.cell? ⟨D, 2, none⟩ = some (.bool false)) (first | with_reducible exact ⟨k0, k1, k2⟩ | with_reducible exact ⟨j0, j1, j2⟩ | go_keep)
            (first
            | (go_at_call 16; refine (HPG.out _).mono ?_; rintro e wP ⟨rfl, hbP⟩; first | (have hbA := (Below.refl wr.heap.size wr).drew.trans hbP; have hDP := hX.hD.below hbA; obtain ⟨j0, j1, j2, i0, i1, i2⟩ := hDP.dval; have hneP : wP.heap.size ≠ D := Nat.ne_of_gt hDP.lt; have hneQ : wP.heap.size ≠ G := Nat.ne_of_gt (hX.hG.below hbA).lt) | (have hbA := ((Below.refl wr.heap.size wr).drew.alloc (Nat.le_refl _) _).next hbP; have hDP := hX.hD.below hbA; obtain ⟨j0, j1, j2, i0, i1, i2⟩ := hDP.dval; have hE : Blk wP wr.heap.size #[.slice none 0 0, .int .i64 0, .bool false] 25 := (Blk.new wr.drew _ _).below hbP))
            | (go_at_call 15; refine (HW.out _ _ (hX.hS.below (by first | exact hbA | exact hbA.alloc hbA.size _))).mono ?_; rintro e w5 ⟨hb5, v5, rfl, hS5⟩; obtain ⟨ao5, cap5, rfl⟩ := hS5.nil; simp only [Dk.val, hs2] at hS5 ⊢; (first | (have hE5 := hE.below hb5; have hbB := hbA.next hb5; obtain ⟨d0, d1, d2, f0, f1, f2⟩ := hE5.dval) | (have hbB := hbA.next hb5) | (have hE5 : Blk w5 wP.heap.size #[.slice none 0 0, .int .i64 0, .bool false] 25 := (Blk.new wP _ _).below hb5; have hbB := (hbA.alloc hbA.size _).next hb5; obtain ⟨d0, d1, d2, f0, f1, f2⟩ := hE5.dval)); have hX5 := hX.below hbB; obtain ⟨k0, k1, k2, l0, l1, l2⟩ := hX5.hD.dval))
          all_goals go_wp2
          all_goals go_meet
          all_goals (first | exact ⟨_, ao5, cap5, rfl, rfl, Nat.ne_of_gt hX5.hD.lt, Nat.ne_of_gt hX5.hG.lt, hX5.below ((Below.refl _ _).alloc (Nat.le_refl _) _), Blk.new _ _ _, hS5.below ((Below.refl _ _).alloc (Nat.le_refl _) _)⟩ | (obtain ⟨q1, q2, q3⟩ := hX5.far hE5 hS5 hs2 (by first | exact (hX.below hbA).hb.size | exact hX.hb.size) (by first | exact hneP | exact hne1) (by first | exact hneQ | exact hne2) a2 c2; exact ⟨_, ao5, cap5, rfl, rfl, by first | exact hneP | exact hne1, by first | exact hneQ | exact hne2, q1, q2, q3⟩))
        case rest =>
          obtain ⟨E, ao5, cap5, rfl, rfl, hED, hEG, hX5, hE5, hS5⟩ := hcut
          clear x0 x1 x2 x3 x4 x5 hne1 hne2 HW HPG hX
          rcases HCS.out with ⟨h4, rfl, rfl, rfl, rfl⟩ | ⟨h4, rfl, rfl, rfl, rfl⟩
          · have h4' : (4 : Int) ≤ L := by omega
            clear HCS
            go_wp2_with fail
            go_loopw [8, 13] (fun lf kk wr => ∃ k : Nat, k ≤ 4 ∧ lf = .int .i64 ((L : Int) - k) ∧ kk = .int .i64 (k : Int) ∧ CN w wr D G (.slice aov 80 capv) ⟨sctrs wl, L, false⟩ (fill ch q k wl) ∧ Blk wr E #[.slice ao5 80 cap5, .int .i64 ((L - 4 : Nat) : Int), .bool false] 25 ∧ SecAt wr (.slice ao5 80 cap5) (sctrs (fill ch q 4 wl))) (fun _ kk _ => 4 - (intOf kk).toNat)
            case atStart => exact ⟨0, by omega, by simp, rfl, hX5, hE5, hS5⟩
            case round =>
              obtain ⟨k, hk, rfl, rfl, hY, hE6, hS6⟩ := hrel
              by_cases hkK : k < 4
              · have hfl : (fill ch q k wl).length = 80 := by rw [fill_len, hwl]
                have hk4 : (k : Int) < 4 := by omega
                have hkL : (0 : Int) < (L : Int) - k := by omega
                have hk0 : (0 : Int) ≤ (q : Int) + k := by omega
                have hk1 : (q : Int) + k < 80 := by omega
                have hw1 : IntKind.i64.wrap ((q : Int) + k) = (q : Int) + k := IntWalk.i64_in _ (by omega)
                have hw2 : IntKind.i64.wrap ((L : Int) - k - 1) = (L : Int) - k - 1 := IntWalk.i64_in _ (by omega)
                have hqk : ((q : Int) + k).toNat = q + k := by omega
                have g0 : wr.cell? ⟨G, q + k, none⟩ = some (.int .u8 (((fill ch q k wl)[q + k]'(by omega)).toNat : Int)) := hY.hG.cell (q + k) (bcs_get _ _ _)
                have g1 := hY.hG.free (q + k)
                have hcj : (ch.toNat : Int) = (j : Int) + 1 := by rw [HCH.out, IntWalk.i64_in _ (by omega), IntWalk.u8_in _ (by omega)]
                have hset := hY.setG (k := q + k) hGw hDG ch
                rw [hcj, fill_snoc] at hset
                have hE7 := hE6.other (a := ⟨G, q + k, none⟩) hEG (.int .u8 ((j : Int) + 1))
                have hS7 := hS6.bytes (k := q + k) (u := .int .u8 ((j : Int) + 1)) hY.hG
                go_wp2_with fail
                exact ⟨⟨k + 1, by omega, by congr 1; omega, by simp, hset, hE7, hS7⟩, by simp [intOf]; omega⟩
              · obtain rfl : k = 4 := by omega
                have hfl : (sctrs (fill ch q 4 wl)).length = 80 := by rw [sctrs_len, fill_len, hwl]
                obtain ⟨x0, x1, x2, x3, x4, x5⟩ := hY.hD.dval
                obtain ⟨z0, z1, z2, z3, z4, z5⟩ := hE6.dval
                have hlz : (L : Int) - L = 0 := by omega
                go_upto_region 20 with fail
                have hX2 := hY.putD (s2 := sctrs (fill ch q 4 wl)) (m5 := cap5) (ao5 := ao5) (by rw [hfl]; exact hS6) hDw hDG ((L - 4 : Nat) : Int) false
                rw [hfl] at hX2
                clear x0 x1 x2 x3 x4 x5 z0 z1 z2 z3 z4 z5 hY hE6 hS6
                generalize ((wr.setCell ⟨D, 0, none⟩ (.slice ao5 80 cap5)).setCell ⟨D, 1, none⟩ (.int .i64 ((L - 4 : Nat) : Int))).setCell ⟨D, 2, none⟩ (.bool false) = W6 at hX2 ⊢
                go_wp2_with fail
                exact ⟨⟨j + 1, L - 4, _, ao5, cap5, by congr 1; omega, by simp, by omega, by omega, by rw [fill_len, hwl], hX2⟩, by simp [intOf]; omega⟩
          · have h4' : ¬ (4 : Int) ≤ L := by omega
            clear HCS
            go_wp2_with fail
            go_loopw [8, 13] (fun lf kk wr => ∃ k : Nat, k ≤ L ∧ lf = .int .i64 ((L : Int) - k) ∧ kk = .int .i64 (k : Int) ∧ CN w wr D G (.slice aov 80 capv) ⟨sctrs wl, L, false⟩ (fill ch q k wl) ∧ Blk wr E #[.slice ao5 80 cap5, .int .i64 0, .bool true] 25 ∧ SecAt wr (.slice ao5 80 cap5) (sctrs (fill ch q L wl))) (fun _ kk _ => L - (intOf kk).toNat)
            case atStart => exact ⟨0, by omega, by simp, rfl, hX5, hE5, hS5⟩
            case round =>
              obtain ⟨k, hk, rfl, rfl, hY, hE6, hS6⟩ := hrel
              by_cases hkK : k < L
              · have hfl : (fill ch q k wl).length = 80 := by rw [fill_len, hwl]
                have hk4 : (k : Int) < 4 := by omega
                have hkL : (0 : Int) < (L : Int) - k := by omega
                have hk0 : (0 : Int) ≤ (q : Int) + k := by omega
                have hk1 : (q : Int) + k < 80 := by omega
                have hw1 : IntKind.i64.wrap ((q : Int) + k) = (q : Int) + k := IntWalk.i64_in _ (by omega)
                have hw2 : IntKind.i64.wrap ((L : Int) - k - 1) = (L : Int) - k - 1 := IntWalk.i64_in _ (by omega)
                have hqk : ((q : Int) + k).toNat = q + k := by omega
                have g0 : wr.cell? ⟨G, q + k, none⟩ = some (.int .u8 (((fill ch q k wl)[q + k]'(by omega)).toNat : Int)) := hY.hG.cell (q + k) (bcs_get _ _ _)
                have g1 := hY.hG.free (q + k)
                have hcj : (ch.toNat : Int) = (j : Int) + 1 := by rw [HCH.out, IntWalk.i64_in _ (by omega), IntWalk.u8_in _ (by omega)]
                have hset := hY.setG (k := q + k) hGw hDG ch
                rw [hcj, fill_snoc] at hset
                have hE7 := hE6.other (a := ⟨G, q + k, none⟩) hEG (.int .u8 ((j : Int) + 1))
                have hS7 := hS6.bytes (k := q + k) (u := .int .u8 ((j : Int) + 1)) hY.hG
                go_wp2_with fail
                exact ⟨⟨k + 1, by omega, by congr 1; omega, by simp, hset, hE7, hS7⟩, by simp [intOf]; omega⟩
              · obtain rfl : L = k := by omega
                have hfl : (sctrs (fill ch q L wl)).length = 80 := by rw [sctrs_len, fill_len, hwl]
                obtain ⟨x0, x1, x2, x3, x4, x5⟩ := hY.hD.dval
                obtain ⟨z0, z1, z2, z3, z4, z5⟩ := hE6.dval
                have hlz : (L : Int) - L = 0 := by omega
                go_upto_region 20 with fail
                have hX2 := hY.putD (s2 := sctrs (fill ch q L wl)) (m5 := cap5) (ao5 := ao5) (by rw [hfl]; exact hS6) hDw hDG 0 true
                rw [hfl] at hX2
                clear x0 x1 x2 x3 x4 x5 z0 z1 z2 z3 z4 z5 hY hE6 hS6
                generalize ((wr.setCell ⟨D, 0, none⟩ (.slice ao5 80 cap5)).setCell ⟨D, 1, none⟩ (.int .i64 0)).setCell ⟨D, 2, none⟩ (.bool true) = W6 at hX2 ⊢
                go_wp2_with fail
                go_meet
                exact ⟨fill ch q L wl, ao5, cap5, 0, true, hX2, by rw [fill_len, hwl]⟩
      · go_wp2_with fail
        go_meet
        exact ⟨wl, aov, capv, L, false, hX, hwl⟩
  case rest =>
    obtain ⟨wl, aox, capx, a, c, hX1, hwl⟩ := hcut
    have hs80 : (sctrs wl).length = 80 := by rw [sctrs_len, hwl]
    have HT := Lib.hid (fun v W h => start_val ⟨sctrs wl, a, c⟩ v W h)
    have HR := Lib.hid (fun (k : Nat) (hk : k < wl.length) v W h => by
      have := read_any ⟨sctrs wl, -1, false⟩ v k W h
      rw [read_sctrs wl k hk] at this
      exact this)
    simp only [Dk.val, Dk.start] at HT HR
    obtain ⟨x0, x1, x2, x3, x4, x5⟩ : wc.cell? ⟨D, 0, none⟩ = some (.slice aox 80 capx) ∧ wc.cell? ⟨D, 1, none⟩ = some (.int .i64 a) ∧ wc.cell? ⟨D, 2, none⟩ = some (.bool c) ∧ _ ∧ _ ∧ _ := hX1.hD.dval
    go_wp2_with fail
    refine (HT.out _ _ hX1.hS).mono ?_
    rintro e w5 ⟨rfl, hb5⟩
    replace hX1 := hX1.below hb5
    clear x0 x1 x2 x3 x4 x5 hb5 hC
    obtain ⟨x0, x1, x2, x3, x4, x5⟩ := hX1.hD.dval
    go_upto_region 22 with fail
    have hX2 := hX1.putD (s2 := sctrs wl) (m5 := capx) (ao5 := aox) (by rw [hs80]; exact hX1.hS) hDw hDG (-1) false
    rw [hs80] at hX2
    clear x0 x1 x2 x3 x4 x5 hX1
    generalize ((w5.setCell ⟨D, 0, none⟩ (.slice aox 80 capx)).setCell ⟨D, 1, none⟩ (.int .i64 (-1))).setCell ⟨D, 2, none⟩ (.bool false) = W5 at hX2 ⊢
    go_wp2_with fail
    go_loopw [14] (fun i wr => ∃ k : Nat, k ≤ 80 ∧ i = .int .i64 k ∧ CN w wr D G (.slice aox 80 capx) ⟨sctrs wl, -1, false⟩ wl) (fun i _ => 80 - (intOf i).toNat)
    case atStart => exact ⟨0, by omega, rfl, hX2⟩
    case round =>
      obtain ⟨k, hk, rfl, hX⟩ := hrel
      by_cases hlt : k < 80
      · have hk0 : (0 : Int) ≤ k := by omega
        have hk1 : (k : Int) < 80 := by omega
        obtain ⟨x0, x1, x2, x3, x4, x5⟩ := hX.hD.dval
        go_wp2_with fail
        refine (HR.out k (by omega) _ _ hX.hS).mono ?_
        rintro e w6 ⟨rfl, hb6⟩
        replace hX := hX.below hb6
        clear x0 x1 x2 x3 x4 x5 hb6
        have hkw : k < wl.length := by omega
        have g0 : w6.cell? ⟨G, k, none⟩ = some (.int .u8 ((wl[k]).toNat : Int)) := hX.hG.cell k (bcs_get wl k hkw)
        obtain ⟨t, ht⟩ : ∃ t, sctr wl[k] = t := ⟨_, rfl⟩
        have ht1 : t.size = 128 := by rw [← ht]; exact sctr_size _
        have ht2 : t[0]'(by omega) = wl[k] ∧ t[127]'(by omega) = wl[k] := by
          subst ht
          exact ⟨sctr_get _ 0 (by omega) _, sctr_get _ 127 (by omega) _⟩
        obtain ⟨hv1, hv2⟩ := ht2
        rw [ht]
        generalize wl[k] = c8 at *
        have hz1 : ((t[0].toNat : Nat) : Int) = c8.toNat := by rw [hv1]
        have hz2 : ((t[127].toNat : Nat) : Int) = c8.toNat := by rw [hv2]
        clear hv1 hv2 ht
        go_wp2_with fail
        go_quiet (fail)
        have hX9 := hX.below ((Below.refl w6.heap.size w6).drewN nq)
        go_wp2_with fail
        go_roundw
        case rel => exact ⟨k + 1, by omega, by go_num, hX9⟩
        case measure => simp [intOf]; omega
      · go_wp2_with fail
        refine (HX.out _).mono ?_
        rintro e w6 ⟨rfl, hb6⟩
        go_wp2_with fail
        go_ret
        exact ⟨rfl, hX.hb.next hb6⟩
theorem walk_DiskCuts (l : List Int) (av : Value) (n : Int) (w : World) (hA : ElAt w 1 av (l.map fun x => [.int .i64 x])) (hwf : ∀ x ∈ l, (Lit.int .i64 x).wf = true) (hn : (Lit.int .i64 n).wf = true) :
    Calls Try.prog 5 #[av, .int .i64 n] w (Ret (.bool true) w) := by
  by_cases h : 20 < l.length ∨ n < 0 ∨ 100 < n
  · exact cuts_out n l av w hA h
  · obtain ⟨m, rfl⟩ : ∃ m : Nat, n = m := ⟨n.toNat, by omega⟩
    exact cuts_in m l av w hA hwf (by omega) (by omega)
end Go.Proofs.Ythliialieogakaa
