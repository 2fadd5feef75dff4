/- The walk of DiskPlays. -/
import Derived.Test.YthliialieogakaaPlyP36
import Derived.Test.YthliialieogakaaKitQ
import Derived.Test.YthliialieogakaaKitT
import Derived.Deep.CutRange
import Derived.Deep.RegionHeld3
import Derived.Deep.RegionLaw
namespace Go.Proofs.Ythliialieogakaa
set_option linter.unusedVariables false
set_option linter.unusedSimpArgs false
open Go.RowKit
open Oct (S)
open Go.Sort
theorem same_self2 (s : List ByteArray) (a : Int) (c : Bool) (v u : Value) (w : World) (hv : SecAt w v s) (hu : SecAt w u s) (hl : s.length ≤ 100000) : Calls Try.prog 10 #[.agg #[v, .int .i64 a, .bool c], .agg #[u, .int .i64 a, .bool c]] w (Ret (.bool true) w) := by
  have := same_any ⟨s, a, c⟩ ⟨s, a, c⟩ v u w hv hu hl
  simpa [Dk.val] using this
set_option maxHeartbeats 8000000 in
set_option maxRecDepth 100000 in
theorem walk_DiskPlays (n : Int) (l : List Ac) (av : Value) (w : World) (hn : (Lit.int .i64 n).wf = true) (hA : ElAt w 4 av (l.map Ac.cells)) (hok : ∀ x ∈ l, x.ok) :
    Calls Try.prog 3 #[.int .i64 n, av] w (Ret (.bool true) w) := by
  have hlsm := hA.small
  rw [List.length_map] at hlsm
  have HN1 := Lib.hid (fun W => new_any (min n 100) W)
  have HN2 := Lib.hid (fun W => rnew_any (min n 100) W)
  obtain ⟨⟨⟨s0, a0, c0⟩, e0⟩, hnw⟩ : ∃ r, Dk.new (min n 100) = r := ⟨_, rfl⟩
  rw [hnw] at HN1 HN2
  have hI0 : s0.length ≤ 100000 ∧ (e0 = 0 → Inv ⟨s0, a0, c0⟩) ∧ (e0 = 0 ∨ e0 = 1) := by
    unfold Dk.new at hnw
    split at hnw
    · have h1 := congrArg (fun z => z.1.s.length) hnw
      have h2 := congrArg (fun z => z.2) hnw
      simp [Dk.zero] at h1 h2
      exact ⟨by omega, fun e => by omega, .inr h2.symm⟩
    · have hb := Inv.blank (min n 100).toNat (by omega)
      have h1 := congrArg (fun z => z.1) hnw
      have h2 := congrArg (fun z => z.2) hnw
      simp only at h1 h2
      rw [h1] at hb
      exact ⟨by have := hb.len; simp only at this; omega, fun _ => hb, .inl h2.symm⟩
  have HX := Lib.hid (fun W => awake_any W)
  have HE := Lib.hid (fun s a c v u W hv hu hl => same_self2 s a c v u W hv hu hl)
  obtain ⟨aao, acap, rfl⟩ := hA.nil
  rw [List.length_map] at hA ⊢
  have HOK := Lib.hid hok
  have HI0 := Lib.hid hI0
  obtain ⟨m, hm⟩ : ∃ m, l.length = m := ⟨_, rfl⟩
  rw [hm] at hlsm hA ⊢
  have HAC := Lib.hid hA
  have HM := Lib.hid hm
  simp only [Dk.val] at HN1 HN2
  clear hA hok hI0 hnw hm
  go_enter Try.func3, Try.ntmps3
  go_wp2_with fail
  refine (HN1.out _).mono ?_
  rintro e w1 ⟨hb1, v1, rfl, hS1⟩
  obtain ⟨ao1, cap1, rfl⟩ := hS1.nil
  simp only [Dk.val] at hS1 ⊢
  go_wp2_with fail
  generalize hW1 : w1.alloc (.cells #[.slice ao1 s0.length cap1, .int .i64 a0, .bool c0] 25) = W1
  have hD : Blk W1 w1.heap.size #[.slice ao1 s0.length cap1, .int .i64 a0, .bool c0] 25 := by subst hW1; exact Blk.new _ _ _
  have hv : SecAt W1 (.slice ao1 s0.length cap1) s0 := by subst hW1; exact hS1.below ((Below.refl _ _).alloc (Nat.le_refl _) _)
  have hB : Below w.heap.size w W1 := by subst hW1; exact hb1.alloc (hb1.size) _
  have hDw : w.heap.size ≤ w1.heap.size := hb1.size
  clear hW1 hS1 hb1
  generalize w1.heap.size = D at *
  refine (HN2.out _).mono ?_
  rintro e w2 ⟨hb2, v2, rfl, hS2⟩
  obtain ⟨ao2, cap2, rfl⟩ := hS2.nil
  simp only [Dk.val] at hS2 ⊢
  have hDlt : D < w2.heap.size := (hD.below hb2).lt
  go_wp2_with fail
  generalize hW2 : w2.alloc (.cells #[.slice ao2 s0.length cap2, .int .i64 a0, .bool c0] 25) = W2
  have hX : Blk W2 w2.heap.size #[.slice ao2 s0.length cap2, .int .i64 a0, .bool c0] 25 := by subst hW2; exact Blk.new _ _ _
  have hb22 : Below W1.heap.size W1 W2 := by subst hW2; exact hb2.alloc hb2.size _
  have hu : SecAt W2 (.slice ao2 s0.length cap2) s0 := by subst hW2; exact hS2.below ((Below.refl _ _).alloc (Nat.le_refl _) _)
  have hXw : w.heap.size ≤ w2.heap.size := by omega
  have hne : D ≠ w2.heap.size := by omega
  clear hW2 hS2 hb2 hDlt
  generalize w2.heap.size = X at *
  have hP : PN w W2 D X (.slice ao1 s0.length cap1) (.slice ao2 s0.length cap2) ⟨s0, a0, c0⟩ ⟨s0, a0, c0⟩ := ⟨hB.next hb22, hD.below hb22, hX, hv.below hb22, hu⟩
  clear hD hv hB hb22 hX hu
  refine (HX.out _).mono ?_
  rintro e w3 ⟨rfl, hb3⟩
  replace hP := hP.below hb3
  clear hb3
  obtain ⟨x0, x1, x2, y0, y1, y2⟩ := hP.hD.dval
  obtain ⟨z0, z1, z2, t0, t1, t2⟩ := hP.hX.dval
  go_wp2_with fail
  refine (HE.out _ _ _ _ _ _ hP.hv hP.hu HI0.out.1).mono ?_
  rintro e w4 ⟨rfl, hb4⟩
  replace hP := hP.below hb4
  clear hb4 x0 x1 x2 y0 y1 y2 z0 z1 z2 t0 t1 t2
  by_cases h60 : 60 < m
  · have h60' : (60 : Int) < m := by omega
    go_wp2_with fail
    go_ret
    exact ⟨rfl, hP.hb⟩
  have h60' : ¬ (60 : Int) < m := by omega
  by_cases he : e0 = 0
  case neg =>
    obtain rfl : e0 = 1 := by have := HI0.out.2.2; omega
    go_wp2_with fail
    go_ret
    exact ⟨rfl, hP.hb⟩
  subst he
  go_wp2_with fail
  go_loopw [6, 8, 9] (fun e f i wr => ∃ (j : Nat) (ev : Int) (v u : Value) (d : Dk), e = .int .i64 ev ∧ f = .int .i64 ev ∧ i = .int .i64 j ∧ j ≤ m ∧ PN w wr D X v u d d ∧ Inv d) (fun _ _ i _ => m - (intOf i).toNat)
  case atStart => exact ⟨0, 0, _, _, _, rfl, rfl, rfl, Nat.zero_le _, hP, HI0.out.2.1 (by simp)⟩
  case round =>
    obtain ⟨j, ev, v, u, d, rfl, rfl, rfl, hj, hQ, hI⟩ := hrel
    by_cases hlt : j < m
    · have hjl : j < l.length := by rw [HM.out]; exact hlt
      obtain ⟨b, off, cap, hav, hblt, hcell⟩ := (HAC.out.below hQ.hb).get j (by rw [List.length_map]; exact hjl)
      obtain ⟨hav1, hav2⟩ : aao = some ⟨b, off, none⟩ ∧ acap = cap := by
        have := hav
        simp only [List.length_map, HM.out] at this
        injection this with h1 h2 h3
        exact ⟨h1, h3⟩
      subst hav1 hav2
      obtain ⟨⟨kd, at_, nn, bb⟩, hla⟩ : ∃ x, l[j]'hjl = x := ⟨_, rfl⟩
      have hoka := HOK.out _ (List.getElem_mem hjl)
      rw [List.getElem_map, hla] at hcell
      rw [hla] at hoka
      have c0 : wr.cell? ⟨b, off + j * 4, none⟩ = some (.int .i64 kd) := by have := hcell 0 _ rfl; simpa using this
      have c1 : wr.cell? ⟨b, off + j * 4 + 1, none⟩ = some (.int .i64 at_) := hcell 1 _ rfl
      have c2 : wr.cell? ⟨b, off + j * 4 + 2, none⟩ = some (.int .i64 nn) := hcell 2 _ rfl
      have c3 : wr.cell? ⟨b, off + j * 4 + 3, none⟩ = some (.string bb) := hcell 3 _ rfl
      have HO1 := Lib.hid hoka
      have hj0 : (0 : Int) ≤ j := by omega
      have hj1 : (j : Int) < m := by omega
      clear hav hcell hla hoka hjl
      go_upto_region 12 with fail
      have hP : PN w (wr.alloc (.cells #[.int .i64 kd, .int .i64 at_, .int .i64 nn, .string bb] 32)) D X v u d d := hQ.below ((Below.refl _ _).alloc (Nat.le_refl _) _)
      have hA := Blk.new wr #[.int .i64 kd, .int .i64 at_, .int .i64 nn, .string bb] 32
      have hDA : wr.heap.size ≠ D := Nat.ne_of_gt hQ.hD.lt
      have hXA : wr.heap.size ≠ X := Nat.ne_of_gt hQ.hX.lt
      generalize wr.alloc (.cells #[.int .i64 kd, .int .i64 at_, .int .i64 nn, .string bb] 32) = W at hP hA ⊢
      generalize wr.heap.size = A at hDA hXA hA ⊢
      obtain ⟨hok1, hok2, hok3, hok4⟩ := HO1.out
      simp only at hok1 hok2 hok3 hok4
      obtain ⟨aov, capv, rfl⟩ := hP.hv.nil
      obtain ⟨aou, capu, rfl⟩ := hP.hu.nil
      obtain ⟨s, a, c⟩ := d
      have hl1 := hI.len
      simp only at hl1
      have hl5 : s.length ≤ 100000 := by omega
      have hsz : ∀ x ∈ s, x.size ≤ 1000 := fun x hx => by rw [hI.each x hx]; omega
      have hlf : -9223372036854775808 ≤ a ∧ a ≤ 9223372036854775807 := ⟨hI.lo, hI.hi⟩
      simp only at hP
      clear c0 c1 c2 c3 hQ
      obtain ⟨q0, q1, q2, q3⟩ : W.cell? ⟨A, 0, none⟩ = some (.int .i64 kd) ∧ W.cell? ⟨A, 1, none⟩ = some (.int .i64 at_) ∧ W.cell? ⟨A, 2, none⟩ = some (.int .i64 nn) ∧ W.cell? ⟨A, 3, none⟩ = some (.string bb) := ⟨hA.cell 0 rfl, hA.cell 1 rfl, hA.cell 2 rfl, hA.cell 3 rfl⟩
      have hwk := wf_i64 hok2
      have hwn := wf_i64 hok3
      by_cases k0 : kd = 0
      · subst k0
        have HW1 := Lib.hid (fun v W h => write_any ⟨s, a, c⟩ v at_ bb W h hl5 hlf.1 hlf.2 hok4)
        have HW2 := Lib.hid (fun v W h => rwrite_any ⟨s, a, c⟩ v at_ bb W h hl5 hlf.1 hlf.2 hok4)
        have hI2 := hI.write at_ bb
        obtain ⟨⟨⟨s2, a2, c2⟩, e2⟩, hr⟩ : ∃ r, (Dk.mk s a c).write at_ bb = r := ⟨_, rfl⟩
        rw [hr] at HW1 HW2 hI2
        simp only [Dk.val] at HW1 HW2 hI2
        have hl2 : s2.length ≤ 100000 := by have := hI2.len; simp only at this; omega
        clear hr
        obtain ⟨x0, x1, x2, x3, x4, x5⟩ := hP.hD.dval
        go_wp2_with fail
        refine (HW1.out _ _ hP.hv).mono ?_
        rintro e w5 ⟨hb5, v5, rfl, hS5⟩
        obtain ⟨ao5, cap5, rfl⟩ := hS5.nil
        simp only [Dk.val] at hS5 ⊢
        replace hP := hP.below hb5
        replace hA := hA.below hb5
        clear x0 x1 x2 x3 x4 x5 q0 q1 q2 q3 hb5
        obtain ⟨x0, x1, x2, x3, x4, x5⟩ := hP.hD.dval
        go_upto_region 16 with fail
        have hP2 := hP.putD hS5 hDw hne a2 c2
        have hA2 := ((hA.other (a := ⟨D, 0, none⟩) hDA (.slice ao5 s2.length cap5)).other (a := ⟨D, 1, none⟩) hDA (.int .i64 a2)).other (a := ⟨D, 2, none⟩) hDA (.bool c2)
        clear x0 x1 x2 x3 x4 x5
        generalize ((w5.setCell ⟨D, 0, none⟩ (.slice ao5 s2.length cap5)).setCell ⟨D, 1, none⟩ (.int .i64 a2)).setCell ⟨D, 2, none⟩ (.bool c2) = W5 at hP2 hA2 ⊢
        obtain ⟨z0, z1, z2, z3, z4, z5⟩ := hP2.hX.dval
        obtain ⟨q0, q1, q2, q3⟩ : W5.cell? ⟨A, 0, none⟩ = some (.int .i64 0) ∧ W5.cell? ⟨A, 1, none⟩ = some (.int .i64 at_) ∧ W5.cell? ⟨A, 2, none⟩ = some (.int .i64 nn) ∧ W5.cell? ⟨A, 3, none⟩ = some (.string bb) := ⟨hA2.cell 0 rfl, hA2.cell 1 rfl, hA2.cell 2 rfl, hA2.cell 3 rfl⟩
        go_wp2_with fail
        refine (HW2.out _ _ hP2.hu).mono ?_
        rintro e w6 ⟨hb6, v6, rfl, hS6⟩
        obtain ⟨ao6, cap6, rfl⟩ := hS6.nil
        simp only [Dk.val] at hS6 ⊢
        replace hP2 := hP2.below hb6
        clear z0 z1 z2 z3 z4 z5 q0 q1 q2 q3 hb6
        obtain ⟨z0, z1, z2, z3, z4, z5⟩ := hP2.hX.dval
        go_upto_region 28 with fail
        have hP3 := hP2.putX hS6 hXw hne a2 c2
        clear z0 z1 z2 z3 z4 z5
        generalize ((w6.setCell ⟨X, 0, none⟩ (.slice ao6 s2.length cap6)).setCell ⟨X, 1, none⟩ (.int .i64 a2)).setCell ⟨X, 2, none⟩ (.bool c2) = W6 at hP3 ⊢
        obtain ⟨x0, x1, x2, x3, x4, x5⟩ := hP3.hD.dval
        obtain ⟨z0, z1, z2, z3, z4, z5⟩ := hP3.hX.dval
        go_wp2_with fail
        refine (HE.out _ _ _ _ _ _ hP3.hv hP3.hu hl2).mono ?_
        rintro e w9 ⟨rfl, hb9⟩
        clear x0 x1 x2 x3 x4 x5 z0 z1 z2 z3 z4 z5
        go_wp2_with fail
        exact ⟨⟨j + 1, e2, _, _, _, rfl, rfl, by simp, by omega, hP3.below hb9, hI2⟩, by simp [intOf]; omega⟩
      have k0' : (kd == 0) = false := by simp [k0]
      by_cases k1 : kd = 1
      · subst k1
        have HR1 := Lib.hid (fun v W h => read_any ⟨s, a, c⟩ v at_ W h)
        have HR2 := Lib.hid (fun v W h => rread_any ⟨s, a, c⟩ v at_ W h)
        obtain ⟨⟨t, e2⟩, hr⟩ : ∃ r, (Dk.mk s a c).read at_ = r := ⟨_, rfl⟩
        rw [hr] at HR1 HR2
        simp only [Dk.val] at HR1 HR2
        clear hr
        obtain ⟨x0, x1, x2, x3, x4, x5⟩ := hP.hD.dval
        go_wp2_with fail
        refine (HR1.out _ _ hP.hv).mono ?_
        rintro e w5 ⟨rfl, hb5⟩
        replace hP := hP.below hb5
        replace hA := hA.below hb5
        clear x0 x1 x2 x3 x4 x5 q0 q1 q2 q3 hb5
        obtain ⟨z0, z1, z2, z3, z4, z5⟩ := hP.hX.dval
        obtain ⟨q0, q1, q2, q3⟩ : w5.cell? ⟨A, 0, none⟩ = some (.int .i64 1) ∧ w5.cell? ⟨A, 1, none⟩ = some (.int .i64 at_) ∧ w5.cell? ⟨A, 2, none⟩ = some (.int .i64 nn) ∧ w5.cell? ⟨A, 3, none⟩ = some (.string bb) := ⟨hA.cell 0 rfl, hA.cell 1 rfl, hA.cell 2 rfl, hA.cell 3 rfl⟩
        go_wp2_with fail
        refine (HR2.out _ _ hP.hu).mono ?_
        rintro e w6 ⟨rfl, hb6⟩
        replace hP := hP.below hb6
        clear z0 z1 z2 z3 z4 z5 q0 q1 q2 q3 hb6
        obtain ⟨x0, x1, x2, x3, x4, x5⟩ := hP.hD.dval
        obtain ⟨z0, z1, z2, z3, z4, z5⟩ := hP.hX.dval
        go_wp2_with fail
        refine (HE.out _ _ _ _ _ _ hP.hv hP.hu hl5).mono ?_
        rintro e w9 ⟨rfl, hb9⟩
        clear x0 x1 x2 x3 x4 x5 z0 z1 z2 z3 z4 z5
        go_wp2_with fail
        exact ⟨⟨j + 1, e2, _, _, _, rfl, rfl, by simp, by omega, hP.below hb9, hI⟩, by simp [intOf]; omega⟩
      have k1' : (kd == 1) = false := by simp [k1]
      by_cases k2 : kd = 2
      · subst k2
        obtain ⟨ch, hch⟩ : ∃ ch : UInt8, (ch.toNat : Int) = IntKind.u8.wrap nn := ⟨UInt8.ofNat (nn % 256).toNat, by simp [IntKind.wrap, IntKind.bits, IntKind.signed]; omega⟩
        have HPG := Lib.hid (fun W => page_any ch W)
        rw [hch] at HPG
        have hp : (S (pg ch)).size = 512 := by show (List.replicate 512 ch).toArray.size = 512; rw [List.size_toArray, List.length_replicate]
        generalize S (pg ch) = p at HPG hp
        have hpm : p.size ≤ maxLen := by rw [hp]; decide
        have HW1 := Lib.hid (fun v W h => writePage_any ⟨s, a, c⟩ v at_ p W h hl5 hlf.1 hlf.2 hpm)
        have HW2 := Lib.hid (fun v W h => rwritePage_any ⟨s, a, c⟩ v at_ p W h hl5 hlf.1 hlf.2 hpm)
        have hI2 := hI.writePage at_ p
        obtain ⟨⟨⟨s2, a2, c2⟩, e2⟩, hr⟩ : ∃ r, (Dk.mk s a c).writePage at_ p = r := ⟨_, rfl⟩
        rw [hr] at HW1 HW2 hI2
        simp only [Dk.val] at HW1 HW2 hI2
        have hl2 : s2.length ≤ 100000 := by have := hI2.len; simp only at this; omega
        clear hr hch hp hpm
        go_upto_region 21 with fail
        go_cut [6] from 45 to 160 (fun e wx => ∃ (aoN : Option Addr) (capN : Nat), e = .int .i64 e2 ∧ PN w wx D X (.slice aoN s2.length capN) (.slice aou s.length capu) ⟨s2, a2, c2⟩ ⟨s, a, c⟩ ∧ Blk wx A #[.int .i64 2, .int .i64 at_, .int .i64 nn, .string bb] 32)
        case first =>
          obtain ⟨x0, x1, x2, x3, x4, x5⟩ := hP.hD.dval
          have hb0 := (Below.refl W.heap.size W).drew
          go_region_law (first
            | (go_simp; go_at_call 16; refine (HPG.out _).mono ?_; rintro e wP ⟨rfl, hbP⟩; have hPP := hP.below (hb0.trans hbP); have hAP := hA.below (hb0.trans hbP); have j1 : wP.cell? ⟨A, 1, none⟩ = some (.int .i64 at_) := hAP.cell 1 rfl; obtain ⟨x6, x7, x8, x9, xa, xb⟩ := hPP.hD.dval)
            | (go_simp; go_at_call 15; refine (HW1.out _ _ hPP.hv).mono ?_; rintro e w5 ⟨hb5, v5, rfl, hS5⟩; obtain ⟨ao5, cap5, rfl⟩ := hS5.nil; simp only [Dk.val]; have hP5 := hPP.below hb5; have hA5 := hAP.below hb5; obtain ⟨h0, h1, h2, h3, h4, h5⟩ := hP5.hD.dval))
          all_goals (try simp [go_sem])
          all_goals (try go_wp2)
          all_goals go_meet
          all_goals exact ⟨ao5, cap5, rfl, hP5.putD hS5 hDw hne a2 c2, ((hA5.other (a := ⟨D, 0, none⟩) hDA (.slice ao5 s2.length cap5)).other (a := ⟨D, 1, none⟩) hDA (.int .i64 a2)).other (a := ⟨D, 2, none⟩) hDA (.bool c2)⟩
        case rest =>
          clear hP hA HW1 q0 q1 q2 q3
          obtain ⟨aoM, capM, rfl, hP, hA⟩ := hcut
          have q1 : wc.cell? ⟨A, 1, none⟩ = some (.int .i64 at_) := hA.cell 1 rfl
          have q2 : wc.cell? ⟨A, 2, none⟩ = some (.int .i64 nn) := hA.cell 2 rfl
          go_upto_region 22 with fail
          obtain ⟨x0, x1, x2, x3, x4, x5⟩ := hP.hX.dval
          have hb0 := (Below.refl wc.heap.size wc).drew
          go_region_law (first
            | (go_simp; go_at_call 16; refine (HPG.out _).mono ?_; rintro e wP ⟨rfl, hbP⟩; have hPP := hP.below (hb0.trans hbP); have hAP := hA.below (hb0.trans hbP); have j1 : wP.cell? ⟨A, 1, none⟩ = some (.int .i64 at_) := hAP.cell 1 rfl; obtain ⟨x6, x7, x8, x9, xa, xb⟩ := hPP.hX.dval)
            | (go_simp; go_at_call 17; refine (HW2.out _ _ hPP.hu).mono ?_; rintro e w5 ⟨hb5, v5, rfl, hS5⟩; obtain ⟨ao5, cap5, rfl⟩ := hS5.nil; simp only [Dk.val]; have hP5 := hPP.below hb5; have hA5 := hAP.below hb5; obtain ⟨h0, h1, h2, h3, h4, h5⟩ := hP5.hX.dval))
          all_goals
            have hP3 := hP5.putX hS5 hXw hne a2 c2
            clear x0 x1 x2 x3 x4 x5 x6 x7 x8 x9 xa xb h0 h1 h2 h3 h4 h5 j1 q1 q2
            generalize ((w5.setCell ⟨X, 0, none⟩ (.slice ao5 s2.length cap5)).setCell ⟨X, 1, none⟩ (.int .i64 a2)).setCell ⟨X, 2, none⟩ (.bool c2) = W6 at hP3 ⊢
            obtain ⟨x0, x1, x2, x3, x4, x5⟩ := hP3.hD.dval
            obtain ⟨z0, z1, z2, z3, z4, z5⟩ := hP3.hX.dval
            go_wp2_with fail
            refine (HE.out _ _ _ _ _ _ hP3.hv hP3.hu hl2).mono ?_
            rintro e w9 ⟨rfl, hb9⟩
            clear x0 x1 x2 x3 x4 x5 z0 z1 z2 z3 z4 z5
            go_wp2_with fail
            exact ⟨⟨j + 1, e2, _, _, _, rfl, rfl, by simp, by omega, hP3.below hb9, hI2⟩, by simp [intOf]; omega⟩
      have k2' : (kd == 2) = false := by simp [k2]
      by_cases k3 : kd = 3
      · subst k3
        have HR1 := Lib.hid (fun v W h => readPage_any ⟨s, a, c⟩ v at_ W h hwk hsz)
        have HR2 := Lib.hid (fun v W h => rreadPage_any ⟨s, a, c⟩ v at_ W h hwk hl5 hsz)
        obtain ⟨⟨t, e2⟩, hr⟩ : ∃ r, (Dk.mk s a c).readPage at_ = r := ⟨_, rfl⟩
        rw [hr] at HR1 HR2
        simp only [Dk.val] at HR1 HR2
        clear hr
        obtain ⟨x0, x1, x2, x3, x4, x5⟩ := hP.hD.dval
        go_wp2_with fail
        refine (HR1.out _ _ hP.hv).mono ?_
        rintro e w5 ⟨rfl, hb5⟩
        replace hP := hP.below hb5
        replace hA := hA.below hb5
        clear x0 x1 x2 x3 x4 x5 q0 q1 q2 q3 hb5
        obtain ⟨z0, z1, z2, z3, z4, z5⟩ := hP.hX.dval
        obtain ⟨q0, q1, q2, q3⟩ : w5.cell? ⟨A, 0, none⟩ = some (.int .i64 3) ∧ w5.cell? ⟨A, 1, none⟩ = some (.int .i64 at_) ∧ w5.cell? ⟨A, 2, none⟩ = some (.int .i64 nn) ∧ w5.cell? ⟨A, 3, none⟩ = some (.string bb) := ⟨hA.cell 0 rfl, hA.cell 1 rfl, hA.cell 2 rfl, hA.cell 3 rfl⟩
        go_wp2_with fail
        refine (HR2.out _ _ hP.hu).mono ?_
        rintro e w6 ⟨rfl, hb6⟩
        replace hP := hP.below hb6
        clear z0 z1 z2 z3 z4 z5 q0 q1 q2 q3 hb6
        obtain ⟨x0, x1, x2, x3, x4, x5⟩ := hP.hD.dval
        obtain ⟨z0, z1, z2, z3, z4, z5⟩ := hP.hX.dval
        go_wp2_with fail
        refine (HE.out _ _ _ _ _ _ hP.hv hP.hu hl5).mono ?_
        rintro e w9 ⟨rfl, hb9⟩
        clear x0 x1 x2 x3 x4 x5 z0 z1 z2 z3 z4 z5
        go_wp2_with fail
        exact ⟨⟨j + 1, e2, _, _, _, rfl, rfl, by simp, by omega, hP.below hb9, hI⟩, by simp [intOf]; omega⟩
      have k3' : (kd == 3) = false := by simp [k3]
      by_cases k4 : kd = 4
      · subst k4
        have HT1 := Lib.hid (fun W h => arm_val ⟨s, a, c⟩ (.slice aov s.length capv) nn W h)
        have HT2 := Lib.hid (fun W h => rarm_val ⟨s, a, c⟩ (.slice aou s.length capu) nn W h)
        have hI2 := hI.arm nn hwn.2
        obtain ⟨a2, ha2⟩ : ∃ a2, (Dk.mk s a c).arm nn = ⟨s, a2, c⟩ := ⟨_, rfl⟩
        rw [ha2] at HT1 HT2 hI2
        simp only [Dk.val] at HT1 HT2 hI2
        clear ha2
        have hne2 : X ≠ D := fun e => hne e.symm
        have hbq : ∀ p : Regrown, Below W.heap.size W (grow (redrawn W p.d) p.os) := fun p => below_regrown _ _ _
        have cT1 := Lib.hid (fun p : Regrown => HT1.out (grow (redrawn W p.d) p.os) (hP.hv.below (hbq p)))
        have cT2 := Lib.hid (fun p : Regrown => HT2.out (grow (redrawn W p.d) p.os) (hP.hu.below (hbq p)))
        have e0 : ∀ p : Regrown, (grow (redrawn W p.d) p.os).cell? ⟨D, 0, none⟩ = some (.slice aov s.length capv) := fun q => cell_regrown (hP.hD.cell 0 rfl) q.d q.os
        have e1 : ∀ p : Regrown, (grow (redrawn W p.d) p.os).cell? ⟨D, 1, none⟩ = some (.int .i64 a) := fun q => cell_regrown (hP.hD.cell 1 rfl) q.d q.os
        have e2 : ∀ p : Regrown, (grow (redrawn W p.d) p.os).cell? ⟨D, 2, none⟩ = some (.bool c) := fun q => cell_regrown (hP.hD.cell 2 rfl) q.d q.os
        have f0 : ∀ p : Regrown, (grow (redrawn W p.d) p.os).cell? ⟨X, 0, none⟩ = some (.slice aou s.length capu) := fun q => cell_regrown (hP.hX.cell 0 rfl) q.d q.os
        have f1 : ∀ p : Regrown, (grow (redrawn W p.d) p.os).cell? ⟨X, 1, none⟩ = some (.int .i64 a) := fun q => cell_regrown (hP.hX.cell 1 rfl) q.d q.os
        have f2 : ∀ p : Regrown, (grow (redrawn W p.d) p.os).cell? ⟨X, 2, none⟩ = some (.bool c) := fun q => cell_regrown (hP.hX.cell 2 rfl) q.d q.os
        have d2 : ∀ p : Regrown, (grow (redrawn W p.d) p.os).cell? ⟨A, 2, none⟩ = some (.int .i64 nn) := fun q => cell_regrown q2 q.d q.os
        go_upto_region 27 with fail
        refine wp_region_quiet_tail 8 (by kernel_rfl) (by kernel_rfl) ?_
        simp only [List.take, List.drop]
        repeat (go_big_quiet_step (first | (go_at_call 20; with_reducible exact Ret.regrown (cT1.out _)) | (go_at_call 21; with_reducible exact Ret.regrown (cT2.out _))))
        refine wpQuiet_nil ?_
        intro w5 hw5
        have hP5 := hP.below (below_of_regrown hw5)
        clear hw5 e0 e1 e2 f0 f1 f2 cT1 cT2 hbq d2
        obtain ⟨x0, x1, x2, x3, x4, x5⟩ := hP5.hD.dval
        obtain ⟨z0, z1, z2, z3, z4, z5⟩ := hP5.hX.dval
        go_upto_region 28 with fail
        have hP2 := hP5.putD hP5.hv hDw hne a2 c
        have hP3 := hP2.putX hP2.hu hXw hne a2 c
        clear x0 x1 x2 x3 x4 x5 z0 z1 z2 z3 z4 z5
        generalize (((((w5.setCell ⟨D, 0, none⟩ (.slice aov s.length capv)).setCell ⟨D, 1, none⟩ (.int .i64 a2)).setCell ⟨D, 2, none⟩ (.bool c)).setCell ⟨X, 0, none⟩ (.slice aou s.length capu)).setCell ⟨X, 1, none⟩ (.int .i64 a2)).setCell ⟨X, 2, none⟩ (.bool c) = W6 at hP3 ⊢
        obtain ⟨x0, x1, x2, x3, x4, x5⟩ := hP3.hD.dval
        obtain ⟨z0, z1, z2, z3, z4, z5⟩ := hP3.hX.dval
        go_wp2_with fail
        refine (HE.out _ _ _ _ _ _ hP3.hv hP3.hu hl5).mono ?_
        rintro e w9 ⟨rfl, hb9⟩
        clear x0 x1 x2 x3 x4 x5 z0 z1 z2 z3 z4 z5
        go_wp2_with fail
        exact ⟨⟨j + 1, ev, _, _, _, rfl, rfl, by simp, by omega, hP3.below hb9, hI2⟩, by simp [intOf]; omega⟩
      have k4' : (kd == 4) = false := by simp [k4]
      have HT1 := Lib.hid (fun W h => start_val ⟨s, a, c⟩ (.slice aov s.length capv) W h)
      have HT2 := Lib.hid (fun W h => rstart_val ⟨s, a, c⟩ (.slice aou s.length capu) W h)
      have hI2 := hI.start
      simp only [Dk.val, Dk.start] at HT1 HT2 hI2
      obtain ⟨a2, ha2⟩ : ∃ a2 : Int, -1 = a2 := ⟨_, rfl⟩
      obtain ⟨c2, hc2⟩ : ∃ c2, false = c2 := ⟨_, rfl⟩
      rw [ha2, hc2] at HT1 HT2 hI2
      clear ha2 hc2
      have hne2 : X ≠ D := fun e => hne e.symm
      have hbq : ∀ p : Regrown, Below W.heap.size W (grow (redrawn W p.d) p.os) := fun p => below_regrown _ _ _
      have cT1 := Lib.hid (fun p : Regrown => HT1.out (grow (redrawn W p.d) p.os) (hP.hv.below (hbq p)))
      have cT2 := Lib.hid (fun p : Regrown => HT2.out (grow (redrawn W p.d) p.os) (hP.hu.below (hbq p)))
      have e0 : ∀ p : Regrown, (grow (redrawn W p.d) p.os).cell? ⟨D, 0, none⟩ = some (.slice aov s.length capv) := fun q => cell_regrown (hP.hD.cell 0 rfl) q.d q.os
      have e1 : ∀ p : Regrown, (grow (redrawn W p.d) p.os).cell? ⟨D, 1, none⟩ = some (.int .i64 a) := fun q => cell_regrown (hP.hD.cell 1 rfl) q.d q.os
      have e2 : ∀ p : Regrown, (grow (redrawn W p.d) p.os).cell? ⟨D, 2, none⟩ = some (.bool c) := fun q => cell_regrown (hP.hD.cell 2 rfl) q.d q.os
      have f0 : ∀ p : Regrown, (grow (redrawn W p.d) p.os).cell? ⟨X, 0, none⟩ = some (.slice aou s.length capu) := fun q => cell_regrown (hP.hX.cell 0 rfl) q.d q.os
      have f1 : ∀ p : Regrown, (grow (redrawn W p.d) p.os).cell? ⟨X, 1, none⟩ = some (.int .i64 a) := fun q => cell_regrown (hP.hX.cell 1 rfl) q.d q.os
      have f2 : ∀ p : Regrown, (grow (redrawn W p.d) p.os).cell? ⟨X, 2, none⟩ = some (.bool c) := fun q => cell_regrown (hP.hX.cell 2 rfl) q.d q.os
      go_upto_region 13 with fail
      refine wp_region_quiet_tail 4 (by kernel_rfl) (by kernel_rfl) ?_
      simp only [List.take, List.drop]
      repeat (go_big_quiet_step (first | (go_at_call 22; with_reducible exact Ret.regrown (cT1.out _)) | (go_at_call 23; with_reducible exact Ret.regrown (cT2.out _))))
      refine wpQuiet_nil ?_
      intro w5 hw5
      have hP5 := hP.below (below_of_regrown hw5)
      clear hw5 e0 e1 e2 f0 f1 f2 cT1 cT2 hbq
      obtain ⟨x0, x1, x2, x3, x4, x5⟩ := hP5.hD.dval
      obtain ⟨z0, z1, z2, z3, z4, z5⟩ := hP5.hX.dval
      go_upto_region 28 with fail
      have hP2 := hP5.putD hP5.hv hDw hne a2 c2
      have hP3 := hP2.putX hP2.hu hXw hne a2 c2
      clear x0 x1 x2 x3 x4 x5 z0 z1 z2 z3 z4 z5
      generalize (((((w5.setCell ⟨D, 0, none⟩ (.slice aov s.length capv)).setCell ⟨D, 1, none⟩ (.int .i64 a2)).setCell ⟨D, 2, none⟩ (.bool c2)).setCell ⟨X, 0, none⟩ (.slice aou s.length capu)).setCell ⟨X, 1, none⟩ (.int .i64 a2)).setCell ⟨X, 2, none⟩ (.bool c2) = W6 at hP3 ⊢
      obtain ⟨x0, x1, x2, x3, x4, x5⟩ := hP3.hD.dval
      obtain ⟨z0, z1, z2, z3, z4, z5⟩ := hP3.hX.dval
      go_wp2_with fail
      refine (HE.out _ _ _ _ _ _ hP3.hv hP3.hu hl5).mono ?_
      rintro e w9 ⟨rfl, hb9⟩
      clear x0 x1 x2 x3 x4 x5 z0 z1 z2 z3 z4 z5
      go_wp2_with fail
      exact ⟨⟨j + 1, ev, _, _, _, rfl, rfl, by simp, by omega, hP3.below hb9, hI2⟩, by simp [intOf]; omega⟩
    · go_wp2_with fail
      go_ret
      exact ⟨rfl, hQ.hb⟩
end Go.Proofs.Ythliialieogakaa
