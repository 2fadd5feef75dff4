/- The walk of VersionTurns. -/
import Derived.Test.YtcboeggfincakaaWalk50
namespace Go.Proofs.Ytcboeggfincakaa
set_option linter.unusedVariables false
set_option linter.unusedSimpArgs false
open Go.RowKit Go.Sort
theorem seen_no1 {f u n : Int} (h : ¬ f ≤ n) : seenB f u n = false := by rw [seenB, decide_eq_false h, Bool.false_and]
theorem seen_no2 {f u n : Int} (h : 0 < u) (h2 : u ≤ n) : seenB f u n = false := by
  rw [seenB, decide_eq_false (p := n < u) (by omega)]
  have : (u == 0) = false := by rw [beq_eq_false_iff_ne]; omega
  rw [this, Bool.or_false, Bool.and_false]
theorem seen_no3 {f u n : Int} (h : u ≠ 0) (h2 : ¬ n < u) : seenB f u n = false := by
  rw [seenB, decide_eq_false h2]
  have : (u == 0) = false := by rw [beq_eq_false_iff_ne]; omega
  rw [this, Bool.or_false, Bool.and_false]
theorem seen_yes0 {f u n : Int} (h : f ≤ n) (h2 : u = 0) : seenB f u n = true := by subst h2; rw [seenB, decide_eq_true h]; rfl
theorem seen_yes1 {f u n : Int} (h : f ≤ n) (h2 : n < u) : seenB f u n = true := by rw [seenB, decide_eq_true h, decide_eq_true h2, Bool.or_true]; rfl
theorem old_yes {u n : Int} (h : 0 < u) (h2 : u ≤ n) : oldB u n = true := by rw [oldB, decide_eq_true h, decide_eq_true h2]; rfl
theorem old_no {u n : Int} (h : ¬ (0 < u ∧ u ≤ n)) : oldB u n = false := by
  rw [oldB]
  by_cases h1 : 0 < u
  · rw [decide_eq_false (p := u ≤ n) (by omega), Bool.and_false]
  · rw [decide_eq_false h1, Bool.false_and]
set_option maxRecDepth 100000 in
theorem turns_out1 (a b c d : Int) (w : World) (hd1 : -9223372036854775808 ≤ d) (hd2 : d ≤ 9223372036854775807) (h1 : b ≤ a) : Calls Try.prog 6 #[.agg #[.int .i64 a, .int .i64 b, .int .i64 c, .int .i64 d]] w (Ret (.bool true) w) := by
  have HA := Lib.hid awake50
  have hB := Blk.new w #[.int .i64 a, .int .i64 b, .int .i64 c, .int .i64 d] 45
  have hb : Below w.heap.size w (w.alloc (.cells #[.int .i64 a, .int .i64 b, .int .i64 c, .int .i64 d] 45)) := (Below.refl _ _).alloc (Nat.le_refl _) _
  obtain ⟨c0, c1, c2, c3⟩ := hB.four
  go_enter Try.func6, Try.ntmps6
  go_wp2
  go_quiet (fail)
  clear c0 c1 c2 c3 hB
  go_wp2_with fail
  obtain ⟨W, hW⟩ : ∃ W, ((((w.alloc (.cells #[.int .i64 a, .int .i64 b, .int .i64 c, .int .i64 d] 45)).drewN nq).alloc (.cells #[.int .i64 0, .int .i64 a, .int .i64 b, .slice none 0 0] 25)).alloc (.cells #[.int .i64 0, .int .i64 b, .int .i64 c, .slice none 0 0] 25)) = W := ⟨_, rfl⟩
  have hV1 := (Blk.new ((w.alloc (.cells #[.int .i64 a, .int .i64 b, .int .i64 c, .int .i64 d] 45)).drewN nq) #[.int .i64 0, .int .i64 a, .int .i64 b, .slice none 0 0] 25).alloc (.cells #[.int .i64 0, .int .i64 b, .int .i64 c, .slice none 0 0] 25)
  have hV2 := Blk.new (((w.alloc (.cells #[.int .i64 a, .int .i64 b, .int .i64 c, .int .i64 d] 45)).drewN nq).alloc (.cells #[.int .i64 0, .int .i64 a, .int .i64 b, .slice none 0 0] 25)) #[.int .i64 0, .int .i64 b, .int .i64 c, .slice none 0 0] 25
  simp only [World.size_alloc, World.heap_drewN] at hV1 hV2
  replace hb := ((hb.drewN nq).alloc (by simp) (.cells #[.int .i64 0, .int .i64 a, .int .i64 b, .slice none 0 0] 25)).alloc (by simp; omega) (.cells #[.int .i64 0, .int .i64 b, .int .i64 c, .slice none 0 0] 25)
  rw [hW] at hV1 hV2 hb ⊢
  clear hW
  refine (HA.out _).mono ?_
  rintro x w1 ⟨rfl, hb1⟩
  replace hb := hb.next hb1
  go_wp2_with fail
  go_ret
  exact ⟨rfl, hb⟩
set_option maxRecDepth 100000 in
theorem turns_out2 (a b c d : Int) (w : World) (hd1 : -9223372036854775808 ≤ d) (hd2 : d ≤ 9223372036854775807) (h1 : ¬ b ≤ a) (h2 : b ≤ 0) : Calls Try.prog 6 #[.agg #[.int .i64 a, .int .i64 b, .int .i64 c, .int .i64 d]] w (Ret (.bool true) w) := by
  have HA := Lib.hid awake50
  have hB := Blk.new w #[.int .i64 a, .int .i64 b, .int .i64 c, .int .i64 d] 45
  have hb : Below w.heap.size w (w.alloc (.cells #[.int .i64 a, .int .i64 b, .int .i64 c, .int .i64 d] 45)) := (Below.refl _ _).alloc (Nat.le_refl _) _
  obtain ⟨c0, c1, c2, c3⟩ := hB.four
  go_enter Try.func6, Try.ntmps6
  go_wp2
  go_quiet (fail)
  clear c0 c1 c2 c3 hB
  go_wp2_with fail
  obtain ⟨W, hW⟩ : ∃ W, ((((w.alloc (.cells #[.int .i64 a, .int .i64 b, .int .i64 c, .int .i64 d] 45)).drewN nq).alloc (.cells #[.int .i64 0, .int .i64 a, .int .i64 b, .slice none 0 0] 25)).alloc (.cells #[.int .i64 0, .int .i64 b, .int .i64 c, .slice none 0 0] 25)) = W := ⟨_, rfl⟩
  have hV1 := (Blk.new ((w.alloc (.cells #[.int .i64 a, .int .i64 b, .int .i64 c, .int .i64 d] 45)).drewN nq) #[.int .i64 0, .int .i64 a, .int .i64 b, .slice none 0 0] 25).alloc (.cells #[.int .i64 0, .int .i64 b, .int .i64 c, .slice none 0 0] 25)
  have hV2 := Blk.new (((w.alloc (.cells #[.int .i64 a, .int .i64 b, .int .i64 c, .int .i64 d] 45)).drewN nq).alloc (.cells #[.int .i64 0, .int .i64 a, .int .i64 b, .slice none 0 0] 25)) #[.int .i64 0, .int .i64 b, .int .i64 c, .slice none 0 0] 25
  simp only [World.size_alloc, World.heap_drewN] at hV1 hV2
  replace hb := ((hb.drewN nq).alloc (by simp) (.cells #[.int .i64 0, .int .i64 a, .int .i64 b, .slice none 0 0] 25)).alloc (by simp; omega) (.cells #[.int .i64 0, .int .i64 b, .int .i64 c, .slice none 0 0] 25)
  rw [hW] at hV1 hV2 hb ⊢
  clear hW
  refine (HA.out _).mono ?_
  rintro x w1 ⟨rfl, hb1⟩
  replace hb := hb.next hb1
  go_wp2_with fail
  go_ret
  exact ⟨rfl, hb⟩
set_option maxRecDepth 100000 in
set_option maxHeartbeats 4000000 in
theorem turns_c1 (a b c d : Int) (w : World) (hd1 : -9223372036854775808 ≤ d) (hd2 : d ≤ 9223372036854775807) (h1 : a < b) (h2 : 0 < b) (p1 : ¬ a ≤ d) : Calls Try.prog 6 #[.agg #[.int .i64 a, .int .i64 b, .int .i64 c, .int .i64 d]] w (Ret (.bool true) w) := by
  have g1 : decide (b ≤ a) = false := decide_eq_false (by omega)
  have g2 : decide (b ≤ 0) = false := decide_eq_false (by omega)
  have S1 := Lib.hid (fun W => seen_any 0 a b d (.slice none 0 0) ⟨_, _, _, rfl⟩ false (seen_no1 p1) W)
  have S2 := Lib.hid (fun W => seen_any 0 b c d (.slice none 0 0) ⟨_, _, _, rfl⟩ false (seen_no1 (by omega)) W)
  have t1 : decide (a ≤ d) = false := decide_eq_false p1
  have HA := Lib.hid awake50
  have hB := Blk.new w #[.int .i64 a, .int .i64 b, .int .i64 c, .int .i64 d] 45
  have hb : Below w.heap.size w (w.alloc (.cells #[.int .i64 a, .int .i64 b, .int .i64 c, .int .i64 d] 45)) := (Below.refl _ _).alloc (Nat.le_refl _) _
  obtain ⟨c0, c1, c2, c3⟩ := hB.four
  go_enter Try.func6, Try.ntmps6
  go_wp2
  go_quiet (fail)
  clear c0 c1 c2 c3 hB
  go_wp2_with fail
  obtain ⟨W, hW⟩ : ∃ W, ((((w.alloc (.cells #[.int .i64 a, .int .i64 b, .int .i64 c, .int .i64 d] 45)).drewN nq).alloc (.cells #[.int .i64 0, .int .i64 a, .int .i64 b, .slice none 0 0] 25)).alloc (.cells #[.int .i64 0, .int .i64 b, .int .i64 c, .slice none 0 0] 25)) = W := ⟨_, rfl⟩
  have hV1 := (Blk.new ((w.alloc (.cells #[.int .i64 a, .int .i64 b, .int .i64 c, .int .i64 d] 45)).drewN nq) #[.int .i64 0, .int .i64 a, .int .i64 b, .slice none 0 0] 25).alloc (.cells #[.int .i64 0, .int .i64 b, .int .i64 c, .slice none 0 0] 25)
  have hV2 := Blk.new (((w.alloc (.cells #[.int .i64 a, .int .i64 b, .int .i64 c, .int .i64 d] 45)).drewN nq).alloc (.cells #[.int .i64 0, .int .i64 a, .int .i64 b, .slice none 0 0] 25)) #[.int .i64 0, .int .i64 b, .int .i64 c, .slice none 0 0] 25
  simp only [World.size_alloc, World.heap_drewN] at hV1 hV2
  replace hb := ((hb.drewN nq).alloc (by simp) (.cells #[.int .i64 0, .int .i64 a, .int .i64 b, .slice none 0 0] 25)).alloc (by simp; omega) (.cells #[.int .i64 0, .int .i64 b, .int .i64 c, .slice none 0 0] 25)
  rw [hW] at hV1 hV2 hb ⊢
  clear hW
  obtain ⟨m0, m1, m2, m3⟩ := hV1.four
  obtain ⟨n0, n1, n2, n3⟩ := hV2.four
  have e0 : ∀ p' : Regrown, (grow (redrawn W p'.d) p'.os).cell? ⟨w.heap.size + 1, 0, none⟩ = some (.int .i64 0) := fun r => cell_regrown m0 r.d r.os
  have e1 : ∀ p' : Regrown, (grow (redrawn W p'.d) p'.os).cell? ⟨w.heap.size + 1, 1, none⟩ = some (.int .i64 a) := fun r => cell_regrown m1 r.d r.os
  have e2 : ∀ p' : Regrown, (grow (redrawn W p'.d) p'.os).cell? ⟨w.heap.size + 1, 2, none⟩ = some (.int .i64 b) := fun r => cell_regrown m2 r.d r.os
  have e3 : ∀ p' : Regrown, (grow (redrawn W p'.d) p'.os).cell? ⟨w.heap.size + 1, 3, none⟩ = some (.slice none 0 0) := fun r => cell_regrown m3 r.d r.os
  have j0 : ∀ p' : Regrown, (grow (redrawn W p'.d) p'.os).cell? ⟨w.heap.size + 1 + 1, 0, none⟩ = some (.int .i64 0) := fun r => cell_regrown n0 r.d r.os
  have j1 : ∀ p' : Regrown, (grow (redrawn W p'.d) p'.os).cell? ⟨w.heap.size + 1 + 1, 1, none⟩ = some (.int .i64 b) := fun r => cell_regrown n1 r.d r.os
  have j2 : ∀ p' : Regrown, (grow (redrawn W p'.d) p'.os).cell? ⟨w.heap.size + 1 + 1, 2, none⟩ = some (.int .i64 c) := fun r => cell_regrown n2 r.d r.os
  have j3 : ∀ p' : Regrown, (grow (redrawn W p'.d) p'.os).cell? ⟨w.heap.size + 1 + 1, 3, none⟩ = some (.slice none 0 0) := fun r => cell_regrown n3 r.d r.os
  clear m0 m1 m2 m3 n0 n1 n2 n3
  refine wp_region_quiet_below (by kernel_rfl) (by kernel_rfl) ?_
  repeat (go_big_quiet_step (first | (go_at_call 14; with_reducible exact Ret.regrown (S1.out _)) | (go_at_call 14; with_reducible exact Ret.regrown (S2.out _))))
  refine wpQuiet_nil ?_
  intro w2 hw2
  have hb2 := below_of_regrown hw2
  clear hw2 e0 e1 e2 e3 j0 j1 j2 j3
  replace hV1 := hV1.below hb2
  replace hV2 := hV2.below hb2
  replace hb := hb.next hb2
  clear hb2
  go_wp2_with fail
  go_loopw [12] (fun i wr => ∃ k : Nat, k ≤ 2 ∧ i = .int .i64 k ∧ Below w.heap.size w wr ∧ Blk wr (w.heap.size + 1) #[.int .i64 0, .int .i64 a, .int .i64 b, .slice none 0 0] 25 ∧ Blk wr (w.heap.size + 1 + 1) #[.int .i64 0, .int .i64 b, .int .i64 c, .slice none 0 0] 25) (fun i _ => 2 - (intOf i).toNat)
  case atStart => exact ⟨0, by omega, rfl, hb, hV1, hV2⟩
  case round =>
    clear hb hV1 hV2
    obtain ⟨k, hk, rfl, hb, hV1, hV2⟩ := hrel
    have hk3 : k = 0 ∨ k = 1 ∨ k = 2 := by omega
    rcases hk3 with rfl | rfl | rfl
    · rw [show ((0 : Nat) : Int) = 0 from rfl]
      by_cases ho : 0 < b ∧ b ≤ d
      · have HO := Lib.hid (fun W => old_any 0 a b d (.slice none 0 0) ⟨_, _, _, rfl⟩ true (old_yes ho.1 ho.2) W)
        have HS := Lib.hid (fun W => seen_any 0 a b d (.slice none 0 0) ⟨_, _, _, rfl⟩ false (seen_no2 ho.1 ho.2) W)
        by_cases h60 : d < 1152921504606846976
        · have HT := Lib.hid (fun W => seen_any 0 a b (d + 1) (.slice none 0 0) ⟨_, _, _, rfl⟩ false (seen_no2 ho.1 (by omega)) W)
          clear ho
          obtain ⟨m0, m1, m2, m3⟩ := hV1.four
          obtain ⟨n0, n1, n2, n3⟩ := hV2.four
          have hT := Blk.new (wr.alloc (.cells #[.int .i64 0, .int .i64 a, .int .i64 b, .slice none 0 0, .int .i64 0, .int .i64 b, .int .i64 c, .slice none 0 0] 25)) #[.int .i64 0, .int .i64 a, .int .i64 b, .slice none 0 0] 25
          simp only [World.size_alloc] at hT
          have hbl : Below wr.heap.size wr ((wr.alloc (.cells #[.int .i64 0, .int .i64 a, .int .i64 b, .slice none 0 0, .int .i64 0, .int .i64 b, .int .i64 c, .slice none 0 0] 25)).alloc (.cells #[.int .i64 0, .int .i64 a, .int .i64 b, .slice none 0 0] 25)) := ((Below.refl _ _).alloc (Nat.le_refl _) _).alloc (by simp) _
          replace hb := hb.next hbl
          replace hV1 := hV1.below hbl
          replace hV2 := hV2.below hbl
          clear hbl
          go_wp2_with fail
          refine (HO.out _).mono ?_
          rintro x w4 ⟨rfl, hb2⟩
          replace hb := hb.next hb2
          replace hV1 := hV1.below hb2
          replace hV2 := hV2.below hb2
          replace hT := hT.below hb2
          try clear q0 q1 q2 q3
          obtain ⟨q0, q1, q2, q3⟩ := hT.four
          clear hb2
          go_wp2_with fail
          refine (HS.out _).mono ?_
          rintro x w5 ⟨rfl, hb2⟩
          replace hb := hb.next hb2
          replace hV1 := hV1.below hb2
          replace hV2 := hV2.below hb2
          replace hT := hT.below hb2
          try clear q0 q1 q2 q3
          obtain ⟨q0, q1, q2, q3⟩ := hT.four
          clear hb2
          go_wp2_with fail
          refine (HT.out _).mono ?_
          rintro x w6 ⟨rfl, hb2⟩
          replace hb := hb.next hb2
          replace hV1 := hV1.below hb2
          replace hV2 := hV2.below hb2
          replace hT := hT.below hb2
          try clear q0 q1 q2 q3
          obtain ⟨q0, q1, q2, q3⟩ := hT.four
          clear hb2
          go_wp2_with fail
          go_roundw
          case rel => exact ⟨1, by omega, rfl, hb, hV1, hV2⟩
          case measure => simp [intOf]
        · clear ho
          obtain ⟨m0, m1, m2, m3⟩ := hV1.four
          obtain ⟨n0, n1, n2, n3⟩ := hV2.four
          have hT := Blk.new (wr.alloc (.cells #[.int .i64 0, .int .i64 a, .int .i64 b, .slice none 0 0, .int .i64 0, .int .i64 b, .int .i64 c, .slice none 0 0] 25)) #[.int .i64 0, .int .i64 a, .int .i64 b, .slice none 0 0] 25
          simp only [World.size_alloc] at hT
          have hbl : Below wr.heap.size wr ((wr.alloc (.cells #[.int .i64 0, .int .i64 a, .int .i64 b, .slice none 0 0, .int .i64 0, .int .i64 b, .int .i64 c, .slice none 0 0] 25)).alloc (.cells #[.int .i64 0, .int .i64 a, .int .i64 b, .slice none 0 0] 25)) := ((Below.refl _ _).alloc (Nat.le_refl _) _).alloc (by simp) _
          replace hb := hb.next hbl
          replace hV1 := hV1.below hbl
          replace hV2 := hV2.below hbl
          clear hbl
          go_wp2_with fail
          refine (HO.out _).mono ?_
          rintro x w4 ⟨rfl, hb2⟩
          replace hb := hb.next hb2
          replace hV1 := hV1.below hb2
          replace hV2 := hV2.below hb2
          replace hT := hT.below hb2
          try clear q0 q1 q2 q3
          obtain ⟨q0, q1, q2, q3⟩ := hT.four
          clear hb2
          go_wp2_with fail
          refine (HS.out _).mono ?_
          rintro x w5 ⟨rfl, hb2⟩
          replace hb := hb.next hb2
          replace hV1 := hV1.below hb2
          replace hV2 := hV2.below hb2
          replace hT := hT.below hb2
          try clear q0 q1 q2 q3
          obtain ⟨q0, q1, q2, q3⟩ := hT.four
          clear hb2
          go_wp2_with fail
          go_roundw
          case rel => exact ⟨1, by omega, rfl, hb, hV1, hV2⟩
          case measure => simp [intOf]
      · have HO := Lib.hid (fun W => old_any 0 a b d (.slice none 0 0) ⟨_, _, _, rfl⟩ false (old_no ho) W)
        clear ho
        obtain ⟨m0, m1, m2, m3⟩ := hV1.four
        obtain ⟨n0, n1, n2, n3⟩ := hV2.four
        have hT := Blk.new (wr.alloc (.cells #[.int .i64 0, .int .i64 a, .int .i64 b, .slice none 0 0, .int .i64 0, .int .i64 b, .int .i64 c, .slice none 0 0] 25)) #[.int .i64 0, .int .i64 a, .int .i64 b, .slice none 0 0] 25
        simp only [World.size_alloc] at hT
        have hbl : Below wr.heap.size wr ((wr.alloc (.cells #[.int .i64 0, .int .i64 a, .int .i64 b, .slice none 0 0, .int .i64 0, .int .i64 b, .int .i64 c, .slice none 0 0] 25)).alloc (.cells #[.int .i64 0, .int .i64 a, .int .i64 b, .slice none 0 0] 25)) := ((Below.refl _ _).alloc (Nat.le_refl _) _).alloc (by simp) _
        replace hb := hb.next hbl
        replace hV1 := hV1.below hbl
        replace hV2 := hV2.below hbl
        clear hbl
        go_wp2_with fail
        refine (HO.out _).mono ?_
        rintro x w4 ⟨rfl, hb2⟩
        replace hb := hb.next hb2
        replace hV1 := hV1.below hb2
        replace hV2 := hV2.below hb2
        replace hT := hT.below hb2
        try clear q0 q1 q2 q3
        obtain ⟨q0, q1, q2, q3⟩ := hT.four
        clear hb2
        go_wp2_with fail
        go_roundw
        case rel => exact ⟨1, by omega, rfl, hb, hV1, hV2⟩
        case measure => simp [intOf]
    · rw [show ((1 : Nat) : Int) = 1 from rfl]
      by_cases ho : 0 < c ∧ c ≤ d
      · have HO := Lib.hid (fun W => old_any 0 b c d (.slice none 0 0) ⟨_, _, _, rfl⟩ true (old_yes ho.1 ho.2) W)
        have HS := Lib.hid (fun W => seen_any 0 b c d (.slice none 0 0) ⟨_, _, _, rfl⟩ false (seen_no2 ho.1 ho.2) W)
        by_cases h60 : d < 1152921504606846976
        · have HT := Lib.hid (fun W => seen_any 0 b c (d + 1) (.slice none 0 0) ⟨_, _, _, rfl⟩ false (seen_no2 ho.1 (by omega)) W)
          clear ho
          obtain ⟨m0, m1, m2, m3⟩ := hV1.four
          obtain ⟨n0, n1, n2, n3⟩ := hV2.four
          have hT := Blk.new (wr.alloc (.cells #[.int .i64 0, .int .i64 a, .int .i64 b, .slice none 0 0, .int .i64 0, .int .i64 b, .int .i64 c, .slice none 0 0] 25)) #[.int .i64 0, .int .i64 b, .int .i64 c, .slice none 0 0] 25
          simp only [World.size_alloc] at hT
          have hbl : Below wr.heap.size wr ((wr.alloc (.cells #[.int .i64 0, .int .i64 a, .int .i64 b, .slice none 0 0, .int .i64 0, .int .i64 b, .int .i64 c, .slice none 0 0] 25)).alloc (.cells #[.int .i64 0, .int .i64 b, .int .i64 c, .slice none 0 0] 25)) := ((Below.refl _ _).alloc (Nat.le_refl _) _).alloc (by simp) _
          replace hb := hb.next hbl
          replace hV1 := hV1.below hbl
          replace hV2 := hV2.below hbl
          clear hbl
          go_wp2_with fail
          refine (HO.out _).mono ?_
          rintro x w4 ⟨rfl, hb2⟩
          replace hb := hb.next hb2
          replace hV1 := hV1.below hb2
          replace hV2 := hV2.below hb2
          replace hT := hT.below hb2
          try clear q0 q1 q2 q3
          obtain ⟨q0, q1, q2, q3⟩ := hT.four
          clear hb2
          go_wp2_with fail
          refine (HS.out _).mono ?_
          rintro x w5 ⟨rfl, hb2⟩
          replace hb := hb.next hb2
          replace hV1 := hV1.below hb2
          replace hV2 := hV2.below hb2
          replace hT := hT.below hb2
          try clear q0 q1 q2 q3
          obtain ⟨q0, q1, q2, q3⟩ := hT.four
          clear hb2
          go_wp2_with fail
          refine (HT.out _).mono ?_
          rintro x w6 ⟨rfl, hb2⟩
          replace hb := hb.next hb2
          replace hV1 := hV1.below hb2
          replace hV2 := hV2.below hb2
          replace hT := hT.below hb2
          try clear q0 q1 q2 q3
          obtain ⟨q0, q1, q2, q3⟩ := hT.four
          clear hb2
          go_wp2_with fail
          go_roundw
          case rel => exact ⟨2, by omega, rfl, hb, hV1, hV2⟩
          case measure => simp [intOf]
        · clear ho
          obtain ⟨m0, m1, m2, m3⟩ := hV1.four
          obtain ⟨n0, n1, n2, n3⟩ := hV2.four
          have hT := Blk.new (wr.alloc (.cells #[.int .i64 0, .int .i64 a, .int .i64 b, .slice none 0 0, .int .i64 0, .int .i64 b, .int .i64 c, .slice none 0 0] 25)) #[.int .i64 0, .int .i64 b, .int .i64 c, .slice none 0 0] 25
          simp only [World.size_alloc] at hT
          have hbl : Below wr.heap.size wr ((wr.alloc (.cells #[.int .i64 0, .int .i64 a, .int .i64 b, .slice none 0 0, .int .i64 0, .int .i64 b, .int .i64 c, .slice none 0 0] 25)).alloc (.cells #[.int .i64 0, .int .i64 b, .int .i64 c, .slice none 0 0] 25)) := ((Below.refl _ _).alloc (Nat.le_refl _) _).alloc (by simp) _
          replace hb := hb.next hbl
          replace hV1 := hV1.below hbl
          replace hV2 := hV2.below hbl
          clear hbl
          go_wp2_with fail
          refine (HO.out _).mono ?_
          rintro x w4 ⟨rfl, hb2⟩
          replace hb := hb.next hb2
          replace hV1 := hV1.below hb2
          replace hV2 := hV2.below hb2
          replace hT := hT.below hb2
          try clear q0 q1 q2 q3
          obtain ⟨q0, q1, q2, q3⟩ := hT.four
          clear hb2
          go_wp2_with fail
          refine (HS.out _).mono ?_
          rintro x w5 ⟨rfl, hb2⟩
          replace hb := hb.next hb2
          replace hV1 := hV1.below hb2
          replace hV2 := hV2.below hb2
          replace hT := hT.below hb2
          try clear q0 q1 q2 q3
          obtain ⟨q0, q1, q2, q3⟩ := hT.four
          clear hb2
          go_wp2_with fail
          go_roundw
          case rel => exact ⟨2, by omega, rfl, hb, hV1, hV2⟩
          case measure => simp [intOf]
      · have HO := Lib.hid (fun W => old_any 0 b c d (.slice none 0 0) ⟨_, _, _, rfl⟩ false (old_no ho) W)
        clear ho
        obtain ⟨m0, m1, m2, m3⟩ := hV1.four
        obtain ⟨n0, n1, n2, n3⟩ := hV2.four
        have hT := Blk.new (wr.alloc (.cells #[.int .i64 0, .int .i64 a, .int .i64 b, .slice none 0 0, .int .i64 0, .int .i64 b, .int .i64 c, .slice none 0 0] 25)) #[.int .i64 0, .int .i64 b, .int .i64 c, .slice none 0 0] 25
        simp only [World.size_alloc] at hT
        have hbl : Below wr.heap.size wr ((wr.alloc (.cells #[.int .i64 0, .int .i64 a, .int .i64 b, .slice none 0 0, .int .i64 0, .int .i64 b, .int .i64 c, .slice none 0 0] 25)).alloc (.cells #[.int .i64 0, .int .i64 b, .int .i64 c, .slice none 0 0] 25)) := ((Below.refl _ _).alloc (Nat.le_refl _) _).alloc (by simp) _
        replace hb := hb.next hbl
        replace hV1 := hV1.below hbl
        replace hV2 := hV2.below hbl
        clear hbl
        go_wp2_with fail
        refine (HO.out _).mono ?_
        rintro x w4 ⟨rfl, hb2⟩
        replace hb := hb.next hb2
        replace hV1 := hV1.below hb2
        replace hV2 := hV2.below hb2
        replace hT := hT.below hb2
        try clear q0 q1 q2 q3
        obtain ⟨q0, q1, q2, q3⟩ := hT.four
        clear hb2
        go_wp2_with fail
        go_roundw
        case rel => exact ⟨2, by omega, rfl, hb, hV1, hV2⟩
        case measure => simp [intOf]
    · rw [show ((2 : Nat) : Int) = 2 from rfl]
      go_wp2_with fail
      refine (HA.out _).mono ?_
      rintro x w1 ⟨rfl, hb1⟩
      replace hb := hb.next hb1
      go_wp2_with fail
      go_ret
      exact ⟨rfl, hb⟩
set_option maxRecDepth 100000 in
set_option maxHeartbeats 4000000 in
theorem turns_c2a (a b c d : Int) (w : World) (hd1 : -9223372036854775808 ≤ d) (hd2 : d ≤ 9223372036854775807) (h1 : a < b) (h2 : 0 < b) (p1 : a ≤ d) (p2 : d < b) (p3 : c = 0) : Calls Try.prog 6 #[.agg #[.int .i64 a, .int .i64 b, .int .i64 c, .int .i64 d]] w (Ret (.bool true) w) := by
  have g1 : decide (b ≤ a) = false := decide_eq_false (by omega)
  have g2 : decide (b ≤ 0) = false := decide_eq_false (by omega)
  have S1 := Lib.hid (fun W => seen_any 0 a b d (.slice none 0 0) ⟨_, _, _, rfl⟩ true (seen_yes1 p1 p2) W)
  have S2 := Lib.hid (fun W => seen_any 0 b c d (.slice none 0 0) ⟨_, _, _, rfl⟩ false (seen_no1 (by omega)) W)
  have t3 : (c == 0) = true := by rw [beq_iff_eq]; exact p3
  clear p3
  have HA := Lib.hid awake50
  have hB := Blk.new w #[.int .i64 a, .int .i64 b, .int .i64 c, .int .i64 d] 45
  have hb : Below w.heap.size w (w.alloc (.cells #[.int .i64 a, .int .i64 b, .int .i64 c, .int .i64 d] 45)) := (Below.refl _ _).alloc (Nat.le_refl _) _
  obtain ⟨c0, c1, c2, c3⟩ := hB.four
  go_enter Try.func6, Try.ntmps6
  go_wp2
  go_quiet (fail)
  clear c0 c1 c2 c3 hB
  go_wp2_with fail
  obtain ⟨W, hW⟩ : ∃ W, ((((w.alloc (.cells #[.int .i64 a, .int .i64 b, .int .i64 c, .int .i64 d] 45)).drewN nq).alloc (.cells #[.int .i64 0, .int .i64 a, .int .i64 b, .slice none 0 0] 25)).alloc (.cells #[.int .i64 0, .int .i64 b, .int .i64 c, .slice none 0 0] 25)) = W := ⟨_, rfl⟩
  have hV1 := (Blk.new ((w.alloc (.cells #[.int .i64 a, .int .i64 b, .int .i64 c, .int .i64 d] 45)).drewN nq) #[.int .i64 0, .int .i64 a, .int .i64 b, .slice none 0 0] 25).alloc (.cells #[.int .i64 0, .int .i64 b, .int .i64 c, .slice none 0 0] 25)
  have hV2 := Blk.new (((w.alloc (.cells #[.int .i64 a, .int .i64 b, .int .i64 c, .int .i64 d] 45)).drewN nq).alloc (.cells #[.int .i64 0, .int .i64 a, .int .i64 b, .slice none 0 0] 25)) #[.int .i64 0, .int .i64 b, .int .i64 c, .slice none 0 0] 25
  simp only [World.size_alloc, World.heap_drewN] at hV1 hV2
  replace hb := ((hb.drewN nq).alloc (by simp) (.cells #[.int .i64 0, .int .i64 a, .int .i64 b, .slice none 0 0] 25)).alloc (by simp; omega) (.cells #[.int .i64 0, .int .i64 b, .int .i64 c, .slice none 0 0] 25)
  rw [hW] at hV1 hV2 hb ⊢
  clear hW
  obtain ⟨m0, m1, m2, m3⟩ := hV1.four
  obtain ⟨n0, n1, n2, n3⟩ := hV2.four
  have e0 : ∀ p' : Regrown, (grow (redrawn W p'.d) p'.os).cell? ⟨w.heap.size + 1, 0, none⟩ = some (.int .i64 0) := fun r => cell_regrown m0 r.d r.os
  have e1 : ∀ p' : Regrown, (grow (redrawn W p'.d) p'.os).cell? ⟨w.heap.size + 1, 1, none⟩ = some (.int .i64 a) := fun r => cell_regrown m1 r.d r.os
  have e2 : ∀ p' : Regrown, (grow (redrawn W p'.d) p'.os).cell? ⟨w.heap.size + 1, 2, none⟩ = some (.int .i64 b) := fun r => cell_regrown m2 r.d r.os
  have e3 : ∀ p' : Regrown, (grow (redrawn W p'.d) p'.os).cell? ⟨w.heap.size + 1, 3, none⟩ = some (.slice none 0 0) := fun r => cell_regrown m3 r.d r.os
  have j0 : ∀ p' : Regrown, (grow (redrawn W p'.d) p'.os).cell? ⟨w.heap.size + 1 + 1, 0, none⟩ = some (.int .i64 0) := fun r => cell_regrown n0 r.d r.os
  have j1 : ∀ p' : Regrown, (grow (redrawn W p'.d) p'.os).cell? ⟨w.heap.size + 1 + 1, 1, none⟩ = some (.int .i64 b) := fun r => cell_regrown n1 r.d r.os
  have j2 : ∀ p' : Regrown, (grow (redrawn W p'.d) p'.os).cell? ⟨w.heap.size + 1 + 1, 2, none⟩ = some (.int .i64 c) := fun r => cell_regrown n2 r.d r.os
  have j3 : ∀ p' : Regrown, (grow (redrawn W p'.d) p'.os).cell? ⟨w.heap.size + 1 + 1, 3, none⟩ = some (.slice none 0 0) := fun r => cell_regrown n3 r.d r.os
  clear m0 m1 m2 m3 n0 n1 n2 n3
  refine wp_region_quiet_below (by kernel_rfl) (by kernel_rfl) ?_
  repeat (go_big_quiet_step (first | (go_at_call 14; with_reducible exact Ret.regrown (S1.out _)) | (go_at_call 14; with_reducible exact Ret.regrown (S2.out _))))
  refine wpQuiet_nil ?_
  intro w2 hw2
  have hb2 := below_of_regrown hw2
  clear hw2 e0 e1 e2 e3 j0 j1 j2 j3
  replace hV1 := hV1.below hb2
  replace hV2 := hV2.below hb2
  replace hb := hb.next hb2
  clear hb2
  go_wp2_with fail
  go_loopw [12] (fun i wr => ∃ k : Nat, k ≤ 2 ∧ i = .int .i64 k ∧ Below w.heap.size w wr ∧ Blk wr (w.heap.size + 1) #[.int .i64 0, .int .i64 a, .int .i64 b, .slice none 0 0] 25 ∧ Blk wr (w.heap.size + 1 + 1) #[.int .i64 0, .int .i64 b, .int .i64 c, .slice none 0 0] 25) (fun i _ => 2 - (intOf i).toNat)
  case atStart => exact ⟨0, by omega, rfl, hb, hV1, hV2⟩
  case round =>
    clear hb hV1 hV2
    obtain ⟨k, hk, rfl, hb, hV1, hV2⟩ := hrel
    have hk3 : k = 0 ∨ k = 1 ∨ k = 2 := by omega
    rcases hk3 with rfl | rfl | rfl
    · rw [show ((0 : Nat) : Int) = 0 from rfl]
      by_cases ho : 0 < b ∧ b ≤ d
      · have HO := Lib.hid (fun W => old_any 0 a b d (.slice none 0 0) ⟨_, _, _, rfl⟩ true (old_yes ho.1 ho.2) W)
        have HS := Lib.hid (fun W => seen_any 0 a b d (.slice none 0 0) ⟨_, _, _, rfl⟩ false (seen_no2 ho.1 ho.2) W)
        by_cases h60 : d < 1152921504606846976
        · have HT := Lib.hid (fun W => seen_any 0 a b (d + 1) (.slice none 0 0) ⟨_, _, _, rfl⟩ false (seen_no2 ho.1 (by omega)) W)
          clear ho
          obtain ⟨m0, m1, m2, m3⟩ := hV1.four
          obtain ⟨n0, n1, n2, n3⟩ := hV2.four
          have hT := Blk.new (wr.alloc (.cells #[.int .i64 0, .int .i64 a, .int .i64 b, .slice none 0 0, .int .i64 0, .int .i64 b, .int .i64 c, .slice none 0 0] 25)) #[.int .i64 0, .int .i64 a, .int .i64 b, .slice none 0 0] 25
          simp only [World.size_alloc] at hT
          have hbl : Below wr.heap.size wr ((wr.alloc (.cells #[.int .i64 0, .int .i64 a, .int .i64 b, .slice none 0 0, .int .i64 0, .int .i64 b, .int .i64 c, .slice none 0 0] 25)).alloc (.cells #[.int .i64 0, .int .i64 a, .int .i64 b, .slice none 0 0] 25)) := ((Below.refl _ _).alloc (Nat.le_refl _) _).alloc (by simp) _
          replace hb := hb.next hbl
          replace hV1 := hV1.below hbl
          replace hV2 := hV2.below hbl
          clear hbl
          go_wp2_with fail
          refine (HO.out _).mono ?_
          rintro x w4 ⟨rfl, hb2⟩
          replace hb := hb.next hb2
          replace hV1 := hV1.below hb2
          replace hV2 := hV2.below hb2
          replace hT := hT.below hb2
          try clear q0 q1 q2 q3
          obtain ⟨q0, q1, q2, q3⟩ := hT.four
          clear hb2
          go_wp2_with fail
          refine (HS.out _).mono ?_
          rintro x w5 ⟨rfl, hb2⟩
          replace hb := hb.next hb2
          replace hV1 := hV1.below hb2
          replace hV2 := hV2.below hb2
          replace hT := hT.below hb2
          try clear q0 q1 q2 q3
          obtain ⟨q0, q1, q2, q3⟩ := hT.four
          clear hb2
          go_wp2_with fail
          refine (HT.out _).mono ?_
          rintro x w6 ⟨rfl, hb2⟩
          replace hb := hb.next hb2
          replace hV1 := hV1.below hb2
          replace hV2 := hV2.below hb2
          replace hT := hT.below hb2
          try clear q0 q1 q2 q3
          obtain ⟨q0, q1, q2, q3⟩ := hT.four
          clear hb2
          go_wp2_with fail
          go_roundw
          case rel => exact ⟨1, by omega, rfl, hb, hV1, hV2⟩
          case measure => simp [intOf]
        · clear ho
          obtain ⟨m0, m1, m2, m3⟩ := hV1.four
          obtain ⟨n0, n1, n2, n3⟩ := hV2.four
          have hT := Blk.new (wr.alloc (.cells #[.int .i64 0, .int .i64 a, .int .i64 b, .slice none 0 0, .int .i64 0, .int .i64 b, .int .i64 c, .slice none 0 0] 25)) #[.int .i64 0, .int .i64 a, .int .i64 b, .slice none 0 0] 25
          simp only [World.size_alloc] at hT
          have hbl : Below wr.heap.size wr ((wr.alloc (.cells #[.int .i64 0, .int .i64 a, .int .i64 b, .slice none 0 0, .int .i64 0, .int .i64 b, .int .i64 c, .slice none 0 0] 25)).alloc (.cells #[.int .i64 0, .int .i64 a, .int .i64 b, .slice none 0 0] 25)) := ((Below.refl _ _).alloc (Nat.le_refl _) _).alloc (by simp) _
          replace hb := hb.next hbl
          replace hV1 := hV1.below hbl
          replace hV2 := hV2.below hbl
          clear hbl
          go_wp2_with fail
          refine (HO.out _).mono ?_
          rintro x w4 ⟨rfl, hb2⟩
          replace hb := hb.next hb2
          replace hV1 := hV1.below hb2
          replace hV2 := hV2.below hb2
          replace hT := hT.below hb2
          try clear q0 q1 q2 q3
          obtain ⟨q0, q1, q2, q3⟩ := hT.four
          clear hb2
          go_wp2_with fail
          refine (HS.out _).mono ?_
          rintro x w5 ⟨rfl, hb2⟩
          replace hb := hb.next hb2
          replace hV1 := hV1.below hb2
          replace hV2 := hV2.below hb2
          replace hT := hT.below hb2
          try clear q0 q1 q2 q3
          obtain ⟨q0, q1, q2, q3⟩ := hT.four
          clear hb2
          go_wp2_with fail
          go_roundw
          case rel => exact ⟨1, by omega, rfl, hb, hV1, hV2⟩
          case measure => simp [intOf]
      · have HO := Lib.hid (fun W => old_any 0 a b d (.slice none 0 0) ⟨_, _, _, rfl⟩ false (old_no ho) W)
        clear ho
        obtain ⟨m0, m1, m2, m3⟩ := hV1.four
        obtain ⟨n0, n1, n2, n3⟩ := hV2.four
        have hT := Blk.new (wr.alloc (.cells #[.int .i64 0, .int .i64 a, .int .i64 b, .slice none 0 0, .int .i64 0, .int .i64 b, .int .i64 c, .slice none 0 0] 25)) #[.int .i64 0, .int .i64 a, .int .i64 b, .slice none 0 0] 25
        simp only [World.size_alloc] at hT
        have hbl : Below wr.heap.size wr ((wr.alloc (.cells #[.int .i64 0, .int .i64 a, .int .i64 b, .slice none 0 0, .int .i64 0, .int .i64 b, .int .i64 c, .slice none 0 0] 25)).alloc (.cells #[.int .i64 0, .int .i64 a, .int .i64 b, .slice none 0 0] 25)) := ((Below.refl _ _).alloc (Nat.le_refl _) _).alloc (by simp) _
        replace hb := hb.next hbl
        replace hV1 := hV1.below hbl
        replace hV2 := hV2.below hbl
        clear hbl
        go_wp2_with fail
        refine (HO.out _).mono ?_
        rintro x w4 ⟨rfl, hb2⟩
        replace hb := hb.next hb2
        replace hV1 := hV1.below hb2
        replace hV2 := hV2.below hb2
        replace hT := hT.below hb2
        try clear q0 q1 q2 q3
        obtain ⟨q0, q1, q2, q3⟩ := hT.four
        clear hb2
        go_wp2_with fail
        go_roundw
        case rel => exact ⟨1, by omega, rfl, hb, hV1, hV2⟩
        case measure => simp [intOf]
    · rw [show ((1 : Nat) : Int) = 1 from rfl]
      by_cases ho : 0 < c ∧ c ≤ d
      · have HO := Lib.hid (fun W => old_any 0 b c d (.slice none 0 0) ⟨_, _, _, rfl⟩ true (old_yes ho.1 ho.2) W)
        have HS := Lib.hid (fun W => seen_any 0 b c d (.slice none 0 0) ⟨_, _, _, rfl⟩ false (seen_no2 ho.1 ho.2) W)
        by_cases h60 : d < 1152921504606846976
        · have HT := Lib.hid (fun W => seen_any 0 b c (d + 1) (.slice none 0 0) ⟨_, _, _, rfl⟩ false (seen_no2 ho.1 (by omega)) W)
          clear ho
          obtain ⟨m0, m1, m2, m3⟩ := hV1.four
          obtain ⟨n0, n1, n2, n3⟩ := hV2.four
          have hT := Blk.new (wr.alloc (.cells #[.int .i64 0, .int .i64 a, .int .i64 b, .slice none 0 0, .int .i64 0, .int .i64 b, .int .i64 c, .slice none 0 0] 25)) #[.int .i64 0, .int .i64 b, .int .i64 c, .slice none 0 0] 25
          simp only [World.size_alloc] at hT
          have hbl : Below wr.heap.size wr ((wr.alloc (.cells #[.int .i64 0, .int .i64 a, .int .i64 b, .slice none 0 0, .int .i64 0, .int .i64 b, .int .i64 c, .slice none 0 0] 25)).alloc (.cells #[.int .i64 0, .int .i64 b, .int .i64 c, .slice none 0 0] 25)) := ((Below.refl _ _).alloc (Nat.le_refl _) _).alloc (by simp) _
          replace hb := hb.next hbl
          replace hV1 := hV1.below hbl
          replace hV2 := hV2.below hbl
          clear hbl
          go_wp2_with fail
          refine (HO.out _).mono ?_
          rintro x w4 ⟨rfl, hb2⟩
          replace hb := hb.next hb2
          replace hV1 := hV1.below hb2
          replace hV2 := hV2.below hb2
          replace hT := hT.below hb2
          try clear q0 q1 q2 q3
          obtain ⟨q0, q1, q2, q3⟩ := hT.four
          clear hb2
          go_wp2_with fail
          refine (HS.out _).mono ?_
          rintro x w5 ⟨rfl, hb2⟩
          replace hb := hb.next hb2
          replace hV1 := hV1.below hb2
          replace hV2 := hV2.below hb2
          replace hT := hT.below hb2
          try clear q0 q1 q2 q3
          obtain ⟨q0, q1, q2, q3⟩ := hT.four
          clear hb2
          go_wp2_with fail
          refine (HT.out _).mono ?_
          rintro x w6 ⟨rfl, hb2⟩
          replace hb := hb.next hb2
          replace hV1 := hV1.below hb2
          replace hV2 := hV2.below hb2
          replace hT := hT.below hb2
          try clear q0 q1 q2 q3
          obtain ⟨q0, q1, q2, q3⟩ := hT.four
          clear hb2
          go_wp2_with fail
          go_roundw
          case rel => exact ⟨2, by omega, rfl, hb, hV1, hV2⟩
          case measure => simp [intOf]
        · clear ho
          obtain ⟨m0, m1, m2, m3⟩ := hV1.four
          obtain ⟨n0, n1, n2, n3⟩ := hV2.four
          have hT := Blk.new (wr.alloc (.cells #[.int .i64 0, .int .i64 a, .int .i64 b, .slice none 0 0, .int .i64 0, .int .i64 b, .int .i64 c, .slice none 0 0] 25)) #[.int .i64 0, .int .i64 b, .int .i64 c, .slice none 0 0] 25
          simp only [World.size_alloc] at hT
          have hbl : Below wr.heap.size wr ((wr.alloc (.cells #[.int .i64 0, .int .i64 a, .int .i64 b, .slice none 0 0, .int .i64 0, .int .i64 b, .int .i64 c, .slice none 0 0] 25)).alloc (.cells #[.int .i64 0, .int .i64 b, .int .i64 c, .slice none 0 0] 25)) := ((Below.refl _ _).alloc (Nat.le_refl _) _).alloc (by simp) _
          replace hb := hb.next hbl
          replace hV1 := hV1.below hbl
          replace hV2 := hV2.below hbl
          clear hbl
          go_wp2_with fail
          refine (HO.out _).mono ?_
          rintro x w4 ⟨rfl, hb2⟩
          replace hb := hb.next hb2
          replace hV1 := hV1.below hb2
          replace hV2 := hV2.below hb2
          replace hT := hT.below hb2
          try clear q0 q1 q2 q3
          obtain ⟨q0, q1, q2, q3⟩ := hT.four
          clear hb2
          go_wp2_with fail
          refine (HS.out _).mono ?_
          rintro x w5 ⟨rfl, hb2⟩
          replace hb := hb.next hb2
          replace hV1 := hV1.below hb2
          replace hV2 := hV2.below hb2
          replace hT := hT.below hb2
          try clear q0 q1 q2 q3
          obtain ⟨q0, q1, q2, q3⟩ := hT.four
          clear hb2
          go_wp2_with fail
          go_roundw
          case rel => exact ⟨2, by omega, rfl, hb, hV1, hV2⟩
          case measure => simp [intOf]
      · have HO := Lib.hid (fun W => old_any 0 b c d (.slice none 0 0) ⟨_, _, _, rfl⟩ false (old_no ho) W)
        clear ho
        obtain ⟨m0, m1, m2, m3⟩ := hV1.four
        obtain ⟨n0, n1, n2, n3⟩ := hV2.four
        have hT := Blk.new (wr.alloc (.cells #[.int .i64 0, .int .i64 a, .int .i64 b, .slice none 0 0, .int .i64 0, .int .i64 b, .int .i64 c, .slice none 0 0] 25)) #[.int .i64 0, .int .i64 b, .int .i64 c, .slice none 0 0] 25
        simp only [World.size_alloc] at hT
        have hbl : Below wr.heap.size wr ((wr.alloc (.cells #[.int .i64 0, .int .i64 a, .int .i64 b, .slice none 0 0, .int .i64 0, .int .i64 b, .int .i64 c, .slice none 0 0] 25)).alloc (.cells #[.int .i64 0, .int .i64 b, .int .i64 c, .slice none 0 0] 25)) := ((Below.refl _ _).alloc (Nat.le_refl _) _).alloc (by simp) _
        replace hb := hb.next hbl
        replace hV1 := hV1.below hbl
        replace hV2 := hV2.below hbl
        clear hbl
        go_wp2_with fail
        refine (HO.out _).mono ?_
        rintro x w4 ⟨rfl, hb2⟩
        replace hb := hb.next hb2
        replace hV1 := hV1.below hb2
        replace hV2 := hV2.below hb2
        replace hT := hT.below hb2
        try clear q0 q1 q2 q3
        obtain ⟨q0, q1, q2, q3⟩ := hT.four
        clear hb2
        go_wp2_with fail
        go_roundw
        case rel => exact ⟨2, by omega, rfl, hb, hV1, hV2⟩
        case measure => simp [intOf]
    · rw [show ((2 : Nat) : Int) = 2 from rfl]
      go_wp2_with fail
      refine (HA.out _).mono ?_
      rintro x w1 ⟨rfl, hb1⟩
      replace hb := hb.next hb1
      go_wp2_with fail
      go_ret
      exact ⟨rfl, hb⟩
set_option maxRecDepth 100000 in
set_option maxHeartbeats 4000000 in
theorem turns_c2b (a b c d : Int) (w : World) (hd1 : -9223372036854775808 ≤ d) (hd2 : d ≤ 9223372036854775807) (h1 : a < b) (h2 : 0 < b) (p1 : a ≤ d) (p2 : d < b) (p3 : c ≠ 0) (p4 : d < c) : Calls Try.prog 6 #[.agg #[.int .i64 a, .int .i64 b, .int .i64 c, .int .i64 d]] w (Ret (.bool true) w) := by
  have g1 : decide (b ≤ a) = false := decide_eq_false (by omega)
  have g2 : decide (b ≤ 0) = false := decide_eq_false (by omega)
  have S1 := Lib.hid (fun W => seen_any 0 a b d (.slice none 0 0) ⟨_, _, _, rfl⟩ true (seen_yes1 p1 p2) W)
  have S2 := Lib.hid (fun W => seen_any 0 b c d (.slice none 0 0) ⟨_, _, _, rfl⟩ false (seen_no1 (by omega)) W)
  have t3 : (c == 0) = false := by rw [beq_eq_false_iff_ne]; exact p3
  have HA := Lib.hid awake50
  have hB := Blk.new w #[.int .i64 a, .int .i64 b, .int .i64 c, .int .i64 d] 45
  have hb : Below w.heap.size w (w.alloc (.cells #[.int .i64 a, .int .i64 b, .int .i64 c, .int .i64 d] 45)) := (Below.refl _ _).alloc (Nat.le_refl _) _
  obtain ⟨c0, c1, c2, c3⟩ := hB.four
  go_enter Try.func6, Try.ntmps6
  go_wp2
  go_quiet (fail)
  clear c0 c1 c2 c3 hB
  go_wp2_with fail
  obtain ⟨W, hW⟩ : ∃ W, ((((w.alloc (.cells #[.int .i64 a, .int .i64 b, .int .i64 c, .int .i64 d] 45)).drewN nq).alloc (.cells #[.int .i64 0, .int .i64 a, .int .i64 b, .slice none 0 0] 25)).alloc (.cells #[.int .i64 0, .int .i64 b, .int .i64 c, .slice none 0 0] 25)) = W := ⟨_, rfl⟩
  have hV1 := (Blk.new ((w.alloc (.cells #[.int .i64 a, .int .i64 b, .int .i64 c, .int .i64 d] 45)).drewN nq) #[.int .i64 0, .int .i64 a, .int .i64 b, .slice none 0 0] 25).alloc (.cells #[.int .i64 0, .int .i64 b, .int .i64 c, .slice none 0 0] 25)
  have hV2 := Blk.new (((w.alloc (.cells #[.int .i64 a, .int .i64 b, .int .i64 c, .int .i64 d] 45)).drewN nq).alloc (.cells #[.int .i64 0, .int .i64 a, .int .i64 b, .slice none 0 0] 25)) #[.int .i64 0, .int .i64 b, .int .i64 c, .slice none 0 0] 25
  simp only [World.size_alloc, World.heap_drewN] at hV1 hV2
  replace hb := ((hb.drewN nq).alloc (by simp) (.cells #[.int .i64 0, .int .i64 a, .int .i64 b, .slice none 0 0] 25)).alloc (by simp; omega) (.cells #[.int .i64 0, .int .i64 b, .int .i64 c, .slice none 0 0] 25)
  rw [hW] at hV1 hV2 hb ⊢
  clear hW
  obtain ⟨m0, m1, m2, m3⟩ := hV1.four
  obtain ⟨n0, n1, n2, n3⟩ := hV2.four
  have e0 : ∀ p' : Regrown, (grow (redrawn W p'.d) p'.os).cell? ⟨w.heap.size + 1, 0, none⟩ = some (.int .i64 0) := fun r => cell_regrown m0 r.d r.os
  have e1 : ∀ p' : Regrown, (grow (redrawn W p'.d) p'.os).cell? ⟨w.heap.size + 1, 1, none⟩ = some (.int .i64 a) := fun r => cell_regrown m1 r.d r.os
  have e2 : ∀ p' : Regrown, (grow (redrawn W p'.d) p'.os).cell? ⟨w.heap.size + 1, 2, none⟩ = some (.int .i64 b) := fun r => cell_regrown m2 r.d r.os
  have e3 : ∀ p' : Regrown, (grow (redrawn W p'.d) p'.os).cell? ⟨w.heap.size + 1, 3, none⟩ = some (.slice none 0 0) := fun r => cell_regrown m3 r.d r.os
  have j0 : ∀ p' : Regrown, (grow (redrawn W p'.d) p'.os).cell? ⟨w.heap.size + 1 + 1, 0, none⟩ = some (.int .i64 0) := fun r => cell_regrown n0 r.d r.os
  have j1 : ∀ p' : Regrown, (grow (redrawn W p'.d) p'.os).cell? ⟨w.heap.size + 1 + 1, 1, none⟩ = some (.int .i64 b) := fun r => cell_regrown n1 r.d r.os
  have j2 : ∀ p' : Regrown, (grow (redrawn W p'.d) p'.os).cell? ⟨w.heap.size + 1 + 1, 2, none⟩ = some (.int .i64 c) := fun r => cell_regrown n2 r.d r.os
  have j3 : ∀ p' : Regrown, (grow (redrawn W p'.d) p'.os).cell? ⟨w.heap.size + 1 + 1, 3, none⟩ = some (.slice none 0 0) := fun r => cell_regrown n3 r.d r.os
  clear m0 m1 m2 m3 n0 n1 n2 n3
  refine wp_region_quiet_below (by kernel_rfl) (by kernel_rfl) ?_
  repeat (go_big_quiet_step (first | (go_at_call 14; with_reducible exact Ret.regrown (S1.out _)) | (go_at_call 14; with_reducible exact Ret.regrown (S2.out _))))
  refine wpQuiet_nil ?_
  intro w2 hw2
  have hb2 := below_of_regrown hw2
  clear hw2 e0 e1 e2 e3 j0 j1 j2 j3
  replace hV1 := hV1.below hb2
  replace hV2 := hV2.below hb2
  replace hb := hb.next hb2
  clear hb2
  go_wp2_with fail
  go_loopw [12] (fun i wr => ∃ k : Nat, k ≤ 2 ∧ i = .int .i64 k ∧ Below w.heap.size w wr ∧ Blk wr (w.heap.size + 1) #[.int .i64 0, .int .i64 a, .int .i64 b, .slice none 0 0] 25 ∧ Blk wr (w.heap.size + 1 + 1) #[.int .i64 0, .int .i64 b, .int .i64 c, .slice none 0 0] 25) (fun i _ => 2 - (intOf i).toNat)
  case atStart => exact ⟨0, by omega, rfl, hb, hV1, hV2⟩
  case round =>
    clear hb hV1 hV2
    obtain ⟨k, hk, rfl, hb, hV1, hV2⟩ := hrel
    have hk3 : k = 0 ∨ k = 1 ∨ k = 2 := by omega
    rcases hk3 with rfl | rfl | rfl
    · rw [show ((0 : Nat) : Int) = 0 from rfl]
      by_cases ho : 0 < b ∧ b ≤ d
      · have HO := Lib.hid (fun W => old_any 0 a b d (.slice none 0 0) ⟨_, _, _, rfl⟩ true (old_yes ho.1 ho.2) W)
        have HS := Lib.hid (fun W => seen_any 0 a b d (.slice none 0 0) ⟨_, _, _, rfl⟩ false (seen_no2 ho.1 ho.2) W)
        by_cases h60 : d < 1152921504606846976
        · have HT := Lib.hid (fun W => seen_any 0 a b (d + 1) (.slice none 0 0) ⟨_, _, _, rfl⟩ false (seen_no2 ho.1 (by omega)) W)
          clear ho
          obtain ⟨m0, m1, m2, m3⟩ := hV1.four
          obtain ⟨n0, n1, n2, n3⟩ := hV2.four
          have hT := Blk.new (wr.alloc (.cells #[.int .i64 0, .int .i64 a, .int .i64 b, .slice none 0 0, .int .i64 0, .int .i64 b, .int .i64 c, .slice none 0 0] 25)) #[.int .i64 0, .int .i64 a, .int .i64 b, .slice none 0 0] 25
          simp only [World.size_alloc] at hT
          have hbl : Below wr.heap.size wr ((wr.alloc (.cells #[.int .i64 0, .int .i64 a, .int .i64 b, .slice none 0 0, .int .i64 0, .int .i64 b, .int .i64 c, .slice none 0 0] 25)).alloc (.cells #[.int .i64 0, .int .i64 a, .int .i64 b, .slice none 0 0] 25)) := ((Below.refl _ _).alloc (Nat.le_refl _) _).alloc (by simp) _
          replace hb := hb.next hbl
          replace hV1 := hV1.below hbl
          replace hV2 := hV2.below hbl
          clear hbl
          go_wp2_with fail
          refine (HO.out _).mono ?_
          rintro x w4 ⟨rfl, hb2⟩
          replace hb := hb.next hb2
          replace hV1 := hV1.below hb2
          replace hV2 := hV2.below hb2
          replace hT := hT.below hb2
          try clear q0 q1 q2 q3
          obtain ⟨q0, q1, q2, q3⟩ := hT.four
          clear hb2
          go_wp2_with fail
          refine (HS.out _).mono ?_
          rintro x w5 ⟨rfl, hb2⟩
          replace hb := hb.next hb2
          replace hV1 := hV1.below hb2
          replace hV2 := hV2.below hb2
          replace hT := hT.below hb2
          try clear q0 q1 q2 q3
          obtain ⟨q0, q1, q2, q3⟩ := hT.four
          clear hb2
          go_wp2_with fail
          refine (HT.out _).mono ?_
          rintro x w6 ⟨rfl, hb2⟩
          replace hb := hb.next hb2
          replace hV1 := hV1.below hb2
          replace hV2 := hV2.below hb2
          replace hT := hT.below hb2
          try clear q0 q1 q2 q3
          obtain ⟨q0, q1, q2, q3⟩ := hT.four
          clear hb2
          go_wp2_with fail
          go_roundw
          case rel => exact ⟨1, by omega, rfl, hb, hV1, hV2⟩
          case measure => simp [intOf]
        · clear ho
          obtain ⟨m0, m1, m2, m3⟩ := hV1.four
          obtain ⟨n0, n1, n2, n3⟩ := hV2.four
          have hT := Blk.new (wr.alloc (.cells #[.int .i64 0, .int .i64 a, .int .i64 b, .slice none 0 0, .int .i64 0, .int .i64 b, .int .i64 c, .slice none 0 0] 25)) #[.int .i64 0, .int .i64 a, .int .i64 b, .slice none 0 0] 25
          simp only [World.size_alloc] at hT
          have hbl : Below wr.heap.size wr ((wr.alloc (.cells #[.int .i64 0, .int .i64 a, .int .i64 b, .slice none 0 0, .int .i64 0, .int .i64 b, .int .i64 c, .slice none 0 0] 25)).alloc (.cells #[.int .i64 0, .int .i64 a, .int .i64 b, .slice none 0 0] 25)) := ((Below.refl _ _).alloc (Nat.le_refl _) _).alloc (by simp) _
          replace hb := hb.next hbl
          replace hV1 := hV1.below hbl
          replace hV2 := hV2.below hbl
          clear hbl
          go_wp2_with fail
          refine (HO.out _).mono ?_
          rintro x w4 ⟨rfl, hb2⟩
          replace hb := hb.next hb2
          replace hV1 := hV1.below hb2
          replace hV2 := hV2.below hb2
          replace hT := hT.below hb2
          try clear q0 q1 q2 q3
          obtain ⟨q0, q1, q2, q3⟩ := hT.four
          clear hb2
          go_wp2_with fail
          refine (HS.out _).mono ?_
          rintro x w5 ⟨rfl, hb2⟩
          replace hb := hb.next hb2
          replace hV1 := hV1.below hb2
          replace hV2 := hV2.below hb2
          replace hT := hT.below hb2
          try clear q0 q1 q2 q3
          obtain ⟨q0, q1, q2, q3⟩ := hT.four
          clear hb2
          go_wp2_with fail
          go_roundw
          case rel => exact ⟨1, by omega, rfl, hb, hV1, hV2⟩
          case measure => simp [intOf]
      · have HO := Lib.hid (fun W => old_any 0 a b d (.slice none 0 0) ⟨_, _, _, rfl⟩ false (old_no ho) W)
        clear ho
        obtain ⟨m0, m1, m2, m3⟩ := hV1.four
        obtain ⟨n0, n1, n2, n3⟩ := hV2.four
        have hT := Blk.new (wr.alloc (.cells #[.int .i64 0, .int .i64 a, .int .i64 b, .slice none 0 0, .int .i64 0, .int .i64 b, .int .i64 c, .slice none 0 0] 25)) #[.int .i64 0, .int .i64 a, .int .i64 b, .slice none 0 0] 25
        simp only [World.size_alloc] at hT
        have hbl : Below wr.heap.size wr ((wr.alloc (.cells #[.int .i64 0, .int .i64 a, .int .i64 b, .slice none 0 0, .int .i64 0, .int .i64 b, .int .i64 c, .slice none 0 0] 25)).alloc (.cells #[.int .i64 0, .int .i64 a, .int .i64 b, .slice none 0 0] 25)) := ((Below.refl _ _).alloc (Nat.le_refl _) _).alloc (by simp) _
        replace hb := hb.next hbl
        replace hV1 := hV1.below hbl
        replace hV2 := hV2.below hbl
        clear hbl
        go_wp2_with fail
        refine (HO.out _).mono ?_
        rintro x w4 ⟨rfl, hb2⟩
        replace hb := hb.next hb2
        replace hV1 := hV1.below hb2
        replace hV2 := hV2.below hb2
        replace hT := hT.below hb2
        try clear q0 q1 q2 q3
        obtain ⟨q0, q1, q2, q3⟩ := hT.four
        clear hb2
        go_wp2_with fail
        go_roundw
        case rel => exact ⟨1, by omega, rfl, hb, hV1, hV2⟩
        case measure => simp [intOf]
    · rw [show ((1 : Nat) : Int) = 1 from rfl]
      by_cases ho : 0 < c ∧ c ≤ d
      · have HO := Lib.hid (fun W => old_any 0 b c d (.slice none 0 0) ⟨_, _, _, rfl⟩ true (old_yes ho.1 ho.2) W)
        have HS := Lib.hid (fun W => seen_any 0 b c d (.slice none 0 0) ⟨_, _, _, rfl⟩ false (seen_no2 ho.1 ho.2) W)
        by_cases h60 : d < 1152921504606846976
        · have HT := Lib.hid (fun W => seen_any 0 b c (d + 1) (.slice none 0 0) ⟨_, _, _, rfl⟩ false (seen_no2 ho.1 (by omega)) W)
          clear ho
          obtain ⟨m0, m1, m2, m3⟩ := hV1.four
          obtain ⟨n0, n1, n2, n3⟩ := hV2.four
          have hT := Blk.new (wr.alloc (.cells #[.int .i64 0, .int .i64 a, .int .i64 b, .slice none 0 0, .int .i64 0, .int .i64 b, .int .i64 c, .slice none 0 0] 25)) #[.int .i64 0, .int .i64 b, .int .i64 c, .slice none 0 0] 25
          simp only [World.size_alloc] at hT
          have hbl : Below wr.heap.size wr ((wr.alloc (.cells #[.int .i64 0, .int .i64 a, .int .i64 b, .slice none 0 0, .int .i64 0, .int .i64 b, .int .i64 c, .slice none 0 0] 25)).alloc (.cells #[.int .i64 0, .int .i64 b, .int .i64 c, .slice none 0 0] 25)) := ((Below.refl _ _).alloc (Nat.le_refl _) _).alloc (by simp) _
          replace hb := hb.next hbl
          replace hV1 := hV1.below hbl
          replace hV2 := hV2.below hbl
          clear hbl
          go_wp2_with fail
          refine (HO.out _).mono ?_
          rintro x w4 ⟨rfl, hb2⟩
          replace hb := hb.next hb2
          replace hV1 := hV1.below hb2
          replace hV2 := hV2.below hb2
          replace hT := hT.below hb2
          try clear q0 q1 q2 q3
          obtain ⟨q0, q1, q2, q3⟩ := hT.four
          clear hb2
          go_wp2_with fail
          refine (HS.out _).mono ?_
          rintro x w5 ⟨rfl, hb2⟩
          replace hb := hb.next hb2
          replace hV1 := hV1.below hb2
          replace hV2 := hV2.below hb2
          replace hT := hT.below hb2
          try clear q0 q1 q2 q3
          obtain ⟨q0, q1, q2, q3⟩ := hT.four
          clear hb2
          go_wp2_with fail
          refine (HT.out _).mono ?_
          rintro x w6 ⟨rfl, hb2⟩
          replace hb := hb.next hb2
          replace hV1 := hV1.below hb2
          replace hV2 := hV2.below hb2
          replace hT := hT.below hb2
          try clear q0 q1 q2 q3
          obtain ⟨q0, q1, q2, q3⟩ := hT.four
          clear hb2
          go_wp2_with fail
          go_roundw
          case rel => exact ⟨2, by omega, rfl, hb, hV1, hV2⟩
          case measure => simp [intOf]
        · clear ho
          obtain ⟨m0, m1, m2, m3⟩ := hV1.four
          obtain ⟨n0, n1, n2, n3⟩ := hV2.four
          have hT := Blk.new (wr.alloc (.cells #[.int .i64 0, .int .i64 a, .int .i64 b, .slice none 0 0, .int .i64 0, .int .i64 b, .int .i64 c, .slice none 0 0] 25)) #[.int .i64 0, .int .i64 b, .int .i64 c, .slice none 0 0] 25
          simp only [World.size_alloc] at hT
          have hbl : Below wr.heap.size wr ((wr.alloc (.cells #[.int .i64 0, .int .i64 a, .int .i64 b, .slice none 0 0, .int .i64 0, .int .i64 b, .int .i64 c, .slice none 0 0] 25)).alloc (.cells #[.int .i64 0, .int .i64 b, .int .i64 c, .slice none 0 0] 25)) := ((Below.refl _ _).alloc (Nat.le_refl _) _).alloc (by simp) _
          replace hb := hb.next hbl
          replace hV1 := hV1.below hbl
          replace hV2 := hV2.below hbl
          clear hbl
          go_wp2_with fail
          refine (HO.out _).mono ?_
          rintro x w4 ⟨rfl, hb2⟩
          replace hb := hb.next hb2
          replace hV1 := hV1.below hb2
          replace hV2 := hV2.below hb2
          replace hT := hT.below hb2
          try clear q0 q1 q2 q3
          obtain ⟨q0, q1, q2, q3⟩ := hT.four
          clear hb2
          go_wp2_with fail
          refine (HS.out _).mono ?_
          rintro x w5 ⟨rfl, hb2⟩
          replace hb := hb.next hb2
          replace hV1 := hV1.below hb2
          replace hV2 := hV2.below hb2
          replace hT := hT.below hb2
          try clear q0 q1 q2 q3
          obtain ⟨q0, q1, q2, q3⟩ := hT.four
          clear hb2
          go_wp2_with fail
          go_roundw
          case rel => exact ⟨2, by omega, rfl, hb, hV1, hV2⟩
          case measure => simp [intOf]
      · have HO := Lib.hid (fun W => old_any 0 b c d (.slice none 0 0) ⟨_, _, _, rfl⟩ false (old_no ho) W)
        clear ho
        obtain ⟨m0, m1, m2, m3⟩ := hV1.four
        obtain ⟨n0, n1, n2, n3⟩ := hV2.four
        have hT := Blk.new (wr.alloc (.cells #[.int .i64 0, .int .i64 a, .int .i64 b, .slice none 0 0, .int .i64 0, .int .i64 b, .int .i64 c, .slice none 0 0] 25)) #[.int .i64 0, .int .i64 b, .int .i64 c, .slice none 0 0] 25
        simp only [World.size_alloc] at hT
        have hbl : Below wr.heap.size wr ((wr.alloc (.cells #[.int .i64 0, .int .i64 a, .int .i64 b, .slice none 0 0, .int .i64 0, .int .i64 b, .int .i64 c, .slice none 0 0] 25)).alloc (.cells #[.int .i64 0, .int .i64 b, .int .i64 c, .slice none 0 0] 25)) := ((Below.refl _ _).alloc (Nat.le_refl _) _).alloc (by simp) _
        replace hb := hb.next hbl
        replace hV1 := hV1.below hbl
        replace hV2 := hV2.below hbl
        clear hbl
        go_wp2_with fail
        refine (HO.out _).mono ?_
        rintro x w4 ⟨rfl, hb2⟩
        replace hb := hb.next hb2
        replace hV1 := hV1.below hb2
        replace hV2 := hV2.below hb2
        replace hT := hT.below hb2
        try clear q0 q1 q2 q3
        obtain ⟨q0, q1, q2, q3⟩ := hT.four
        clear hb2
        go_wp2_with fail
        go_roundw
        case rel => exact ⟨2, by omega, rfl, hb, hV1, hV2⟩
        case measure => simp [intOf]
    · rw [show ((2 : Nat) : Int) = 2 from rfl]
      go_wp2_with fail
      refine (HA.out _).mono ?_
      rintro x w1 ⟨rfl, hb1⟩
      replace hb := hb.next hb1
      go_wp2_with fail
      go_ret
      exact ⟨rfl, hb⟩
set_option maxRecDepth 100000 in
set_option maxHeartbeats 4000000 in
theorem turns_c2c (a b c d : Int) (w : World) (hd1 : -9223372036854775808 ≤ d) (hd2 : d ≤ 9223372036854775807) (h1 : a < b) (h2 : 0 < b) (p1 : a ≤ d) (p2 : d < b) (p3 : c ≠ 0) (p4 : ¬ d < c) : Calls Try.prog 6 #[.agg #[.int .i64 a, .int .i64 b, .int .i64 c, .int .i64 d]] w (Ret (.bool true) w) := by
  have g1 : decide (b ≤ a) = false := decide_eq_false (by omega)
  have g2 : decide (b ≤ 0) = false := decide_eq_false (by omega)
  have S1 := Lib.hid (fun W => seen_any 0 a b d (.slice none 0 0) ⟨_, _, _, rfl⟩ true (seen_yes1 p1 p2) W)
  have S2 := Lib.hid (fun W => seen_any 0 b c d (.slice none 0 0) ⟨_, _, _, rfl⟩ false (seen_no1 (by omega)) W)
  have t3 : (c == 0) = false := by rw [beq_eq_false_iff_ne]; exact p3
  have t4 : decide (d < c) = false := decide_eq_false p4
  have HA := Lib.hid awake50
  have hB := Blk.new w #[.int .i64 a, .int .i64 b, .int .i64 c, .int .i64 d] 45
  have hb : Below w.heap.size w (w.alloc (.cells #[.int .i64 a, .int .i64 b, .int .i64 c, .int .i64 d] 45)) := (Below.refl _ _).alloc (Nat.le_refl _) _
  obtain ⟨c0, c1, c2, c3⟩ := hB.four
  go_enter Try.func6, Try.ntmps6
  go_wp2
  go_quiet (fail)
  clear c0 c1 c2 c3 hB
  go_wp2_with fail
  obtain ⟨W, hW⟩ : ∃ W, ((((w.alloc (.cells #[.int .i64 a, .int .i64 b, .int .i64 c, .int .i64 d] 45)).drewN nq).alloc (.cells #[.int .i64 0, .int .i64 a, .int .i64 b, .slice none 0 0] 25)).alloc (.cells #[.int .i64 0, .int .i64 b, .int .i64 c, .slice none 0 0] 25)) = W := ⟨_, rfl⟩
  have hV1 := (Blk.new ((w.alloc (.cells #[.int .i64 a, .int .i64 b, .int .i64 c, .int .i64 d] 45)).drewN nq) #[.int .i64 0, .int .i64 a, .int .i64 b, .slice none 0 0] 25).alloc (.cells #[.int .i64 0, .int .i64 b, .int .i64 c, .slice none 0 0] 25)
  have hV2 := Blk.new (((w.alloc (.cells #[.int .i64 a, .int .i64 b, .int .i64 c, .int .i64 d] 45)).drewN nq).alloc (.cells #[.int .i64 0, .int .i64 a, .int .i64 b, .slice none 0 0] 25)) #[.int .i64 0, .int .i64 b, .int .i64 c, .slice none 0 0] 25
  simp only [World.size_alloc, World.heap_drewN] at hV1 hV2
  replace hb := ((hb.drewN nq).alloc (by simp) (.cells #[.int .i64 0, .int .i64 a, .int .i64 b, .slice none 0 0] 25)).alloc (by simp; omega) (.cells #[.int .i64 0, .int .i64 b, .int .i64 c, .slice none 0 0] 25)
  rw [hW] at hV1 hV2 hb ⊢
  clear hW
  obtain ⟨m0, m1, m2, m3⟩ := hV1.four
  obtain ⟨n0, n1, n2, n3⟩ := hV2.four
  have e0 : ∀ p' : Regrown, (grow (redrawn W p'.d) p'.os).cell? ⟨w.heap.size + 1, 0, none⟩ = some (.int .i64 0) := fun r => cell_regrown m0 r.d r.os
  have e1 : ∀ p' : Regrown, (grow (redrawn W p'.d) p'.os).cell? ⟨w.heap.size + 1, 1, none⟩ = some (.int .i64 a) := fun r => cell_regrown m1 r.d r.os
  have e2 : ∀ p' : Regrown, (grow (redrawn W p'.d) p'.os).cell? ⟨w.heap.size + 1, 2, none⟩ = some (.int .i64 b) := fun r => cell_regrown m2 r.d r.os
  have e3 : ∀ p' : Regrown, (grow (redrawn W p'.d) p'.os).cell? ⟨w.heap.size + 1, 3, none⟩ = some (.slice none 0 0) := fun r => cell_regrown m3 r.d r.os
  have j0 : ∀ p' : Regrown, (grow (redrawn W p'.d) p'.os).cell? ⟨w.heap.size + 1 + 1, 0, none⟩ = some (.int .i64 0) := fun r => cell_regrown n0 r.d r.os
  have j1 : ∀ p' : Regrown, (grow (redrawn W p'.d) p'.os).cell? ⟨w.heap.size + 1 + 1, 1, none⟩ = some (.int .i64 b) := fun r => cell_regrown n1 r.d r.os
  have j2 : ∀ p' : Regrown, (grow (redrawn W p'.d) p'.os).cell? ⟨w.heap.size + 1 + 1, 2, none⟩ = some (.int .i64 c) := fun r => cell_regrown n2 r.d r.os
  have j3 : ∀ p' : Regrown, (grow (redrawn W p'.d) p'.os).cell? ⟨w.heap.size + 1 + 1, 3, none⟩ = some (.slice none 0 0) := fun r => cell_regrown n3 r.d r.os
  clear m0 m1 m2 m3 n0 n1 n2 n3
  refine wp_region_quiet_below (by kernel_rfl) (by kernel_rfl) ?_
  repeat (go_big_quiet_step (first | (go_at_call 14; with_reducible exact Ret.regrown (S1.out _)) | (go_at_call 14; with_reducible exact Ret.regrown (S2.out _))))
  refine wpQuiet_nil ?_
  intro w2 hw2
  have hb2 := below_of_regrown hw2
  clear hw2 e0 e1 e2 e3 j0 j1 j2 j3
  replace hV1 := hV1.below hb2
  replace hV2 := hV2.below hb2
  replace hb := hb.next hb2
  clear hb2
  go_wp2_with fail
  go_loopw [12] (fun i wr => ∃ k : Nat, k ≤ 2 ∧ i = .int .i64 k ∧ Below w.heap.size w wr ∧ Blk wr (w.heap.size + 1) #[.int .i64 0, .int .i64 a, .int .i64 b, .slice none 0 0] 25 ∧ Blk wr (w.heap.size + 1 + 1) #[.int .i64 0, .int .i64 b, .int .i64 c, .slice none 0 0] 25) (fun i _ => 2 - (intOf i).toNat)
  case atStart => exact ⟨0, by omega, rfl, hb, hV1, hV2⟩
  case round =>
    clear hb hV1 hV2
    obtain ⟨k, hk, rfl, hb, hV1, hV2⟩ := hrel
    have hk3 : k = 0 ∨ k = 1 ∨ k = 2 := by omega
    rcases hk3 with rfl | rfl | rfl
    · rw [show ((0 : Nat) : Int) = 0 from rfl]
      by_cases ho : 0 < b ∧ b ≤ d
      · have HO := Lib.hid (fun W => old_any 0 a b d (.slice none 0 0) ⟨_, _, _, rfl⟩ true (old_yes ho.1 ho.2) W)
        have HS := Lib.hid (fun W => seen_any 0 a b d (.slice none 0 0) ⟨_, _, _, rfl⟩ false (seen_no2 ho.1 ho.2) W)
        by_cases h60 : d < 1152921504606846976
        · have HT := Lib.hid (fun W => seen_any 0 a b (d + 1) (.slice none 0 0) ⟨_, _, _, rfl⟩ false (seen_no2 ho.1 (by omega)) W)
          clear ho
          obtain ⟨m0, m1, m2, m3⟩ := hV1.four
          obtain ⟨n0, n1, n2, n3⟩ := hV2.four
          have hT := Blk.new (wr.alloc (.cells #[.int .i64 0, .int .i64 a, .int .i64 b, .slice none 0 0, .int .i64 0, .int .i64 b, .int .i64 c, .slice none 0 0] 25)) #[.int .i64 0, .int .i64 a, .int .i64 b, .slice none 0 0] 25
          simp only [World.size_alloc] at hT
          have hbl : Below wr.heap.size wr ((wr.alloc (.cells #[.int .i64 0, .int .i64 a, .int .i64 b, .slice none 0 0, .int .i64 0, .int .i64 b, .int .i64 c, .slice none 0 0] 25)).alloc (.cells #[.int .i64 0, .int .i64 a, .int .i64 b, .slice none 0 0] 25)) := ((Below.refl _ _).alloc (Nat.le_refl _) _).alloc (by simp) _
          replace hb := hb.next hbl
          replace hV1 := hV1.below hbl
          replace hV2 := hV2.below hbl
          clear hbl
          go_wp2_with fail
          refine (HO.out _).mono ?_
          rintro x w4 ⟨rfl, hb2⟩
          replace hb := hb.next hb2
          replace hV1 := hV1.below hb2
          replace hV2 := hV2.below hb2
          replace hT := hT.below hb2
          try clear q0 q1 q2 q3
          obtain ⟨q0, q1, q2, q3⟩ := hT.four
          clear hb2
          go_wp2_with fail
          refine (HS.out _).mono ?_
          rintro x w5 ⟨rfl, hb2⟩
          replace hb := hb.next hb2
          replace hV1 := hV1.below hb2
          replace hV2 := hV2.below hb2
          replace hT := hT.below hb2
          try clear q0 q1 q2 q3
          obtain ⟨q0, q1, q2, q3⟩ := hT.four
          clear hb2
          go_wp2_with fail
          refine (HT.out _).mono ?_
          rintro x w6 ⟨rfl, hb2⟩
          replace hb := hb.next hb2
          replace hV1 := hV1.below hb2
          replace hV2 := hV2.below hb2
          replace hT := hT.below hb2
          try clear q0 q1 q2 q3
          obtain ⟨q0, q1, q2, q3⟩ := hT.four
          clear hb2
          go_wp2_with fail
          go_roundw
          case rel => exact ⟨1, by omega, rfl, hb, hV1, hV2⟩
          case measure => simp [intOf]
        · clear ho
          obtain ⟨m0, m1, m2, m3⟩ := hV1.four
          obtain ⟨n0, n1, n2, n3⟩ := hV2.four
          have hT := Blk.new (wr.alloc (.cells #[.int .i64 0, .int .i64 a, .int .i64 b, .slice none 0 0, .int .i64 0, .int .i64 b, .int .i64 c, .slice none 0 0] 25)) #[.int .i64 0, .int .i64 a, .int .i64 b, .slice none 0 0] 25
          simp only [World.size_alloc] at hT
          have hbl : Below wr.heap.size wr ((wr.alloc (.cells #[.int .i64 0, .int .i64 a, .int .i64 b, .slice none 0 0, .int .i64 0, .int .i64 b, .int .i64 c, .slice none 0 0] 25)).alloc (.cells #[.int .i64 0, .int .i64 a, .int .i64 b, .slice none 0 0] 25)) := ((Below.refl _ _).alloc (Nat.le_refl _) _).alloc (by simp) _
          replace hb := hb.next hbl
          replace hV1 := hV1.below hbl
          replace hV2 := hV2.below hbl
          clear hbl
          go_wp2_with fail
          refine (HO.out _).mono ?_
          rintro x w4 ⟨rfl, hb2⟩
          replace hb := hb.next hb2
          replace hV1 := hV1.below hb2
          replace hV2 := hV2.below hb2
          replace hT := hT.below hb2
          try clear q0 q1 q2 q3
          obtain ⟨q0, q1, q2, q3⟩ := hT.four
          clear hb2
          go_wp2_with fail
          refine (HS.out _).mono ?_
          rintro x w5 ⟨rfl, hb2⟩
          replace hb := hb.next hb2
          replace hV1 := hV1.below hb2
          replace hV2 := hV2.below hb2
          replace hT := hT.below hb2
          try clear q0 q1 q2 q3
          obtain ⟨q0, q1, q2, q3⟩ := hT.four
          clear hb2
          go_wp2_with fail
          go_roundw
          case rel => exact ⟨1, by omega, rfl, hb, hV1, hV2⟩
          case measure => simp [intOf]
      · have HO := Lib.hid (fun W => old_any 0 a b d (.slice none 0 0) ⟨_, _, _, rfl⟩ false (old_no ho) W)
        clear ho
        obtain ⟨m0, m1, m2, m3⟩ := hV1.four
        obtain ⟨n0, n1, n2, n3⟩ := hV2.four
        have hT := Blk.new (wr.alloc (.cells #[.int .i64 0, .int .i64 a, .int .i64 b, .slice none 0 0, .int .i64 0, .int .i64 b, .int .i64 c, .slice none 0 0] 25)) #[.int .i64 0, .int .i64 a, .int .i64 b, .slice none 0 0] 25
        simp only [World.size_alloc] at hT
        have hbl : Below wr.heap.size wr ((wr.alloc (.cells #[.int .i64 0, .int .i64 a, .int .i64 b, .slice none 0 0, .int .i64 0, .int .i64 b, .int .i64 c, .slice none 0 0] 25)).alloc (.cells #[.int .i64 0, .int .i64 a, .int .i64 b, .slice none 0 0] 25)) := ((Below.refl _ _).alloc (Nat.le_refl _) _).alloc (by simp) _
        replace hb := hb.next hbl
        replace hV1 := hV1.below hbl
        replace hV2 := hV2.below hbl
        clear hbl
        go_wp2_with fail
        refine (HO.out _).mono ?_
        rintro x w4 ⟨rfl, hb2⟩
        replace hb := hb.next hb2
        replace hV1 := hV1.below hb2
        replace hV2 := hV2.below hb2
        replace hT := hT.below hb2
        try clear q0 q1 q2 q3
        obtain ⟨q0, q1, q2, q3⟩ := hT.four
        clear hb2
        go_wp2_with fail
        go_roundw
        case rel => exact ⟨1, by omega, rfl, hb, hV1, hV2⟩
        case measure => simp [intOf]
    · rw [show ((1 : Nat) : Int) = 1 from rfl]
      by_cases ho : 0 < c ∧ c ≤ d
      · have HO := Lib.hid (fun W => old_any 0 b c d (.slice none 0 0) ⟨_, _, _, rfl⟩ true (old_yes ho.1 ho.2) W)
        have HS := Lib.hid (fun W => seen_any 0 b c d (.slice none 0 0) ⟨_, _, _, rfl⟩ false (seen_no2 ho.1 ho.2) W)
        by_cases h60 : d < 1152921504606846976
        · have HT := Lib.hid (fun W => seen_any 0 b c (d + 1) (.slice none 0 0) ⟨_, _, _, rfl⟩ false (seen_no2 ho.1 (by omega)) W)
          clear ho
          obtain ⟨m0, m1, m2, m3⟩ := hV1.four
          obtain ⟨n0, n1, n2, n3⟩ := hV2.four
          have hT := Blk.new (wr.alloc (.cells #[.int .i64 0, .int .i64 a, .int .i64 b, .slice none 0 0, .int .i64 0, .int .i64 b, .int .i64 c, .slice none 0 0] 25)) #[.int .i64 0, .int .i64 b, .int .i64 c, .slice none 0 0] 25
          simp only [World.size_alloc] at hT
          have hbl : Below wr.heap.size wr ((wr.alloc (.cells #[.int .i64 0, .int .i64 a, .int .i64 b, .slice none 0 0, .int .i64 0, .int .i64 b, .int .i64 c, .slice none 0 0] 25)).alloc (.cells #[.int .i64 0, .int .i64 b, .int .i64 c, .slice none 0 0] 25)) := ((Below.refl _ _).alloc (Nat.le_refl _) _).alloc (by simp) _
          replace hb := hb.next hbl
          replace hV1 := hV1.below hbl
          replace hV2 := hV2.below hbl
          clear hbl
          go_wp2_with fail
          refine (HO.out _).mono ?_
          rintro x w4 ⟨rfl, hb2⟩
          replace hb := hb.next hb2
          replace hV1 := hV1.below hb2
          replace hV2 := hV2.below hb2
          replace hT := hT.below hb2
          try clear q0 q1 q2 q3
          obtain ⟨q0, q1, q2, q3⟩ := hT.four
          clear hb2
          go_wp2_with fail
          refine (HS.out _).mono ?_
          rintro x w5 ⟨rfl, hb2⟩
          replace hb := hb.next hb2
          replace hV1 := hV1.below hb2
          replace hV2 := hV2.below hb2
          replace hT := hT.below hb2
          try clear q0 q1 q2 q3
          obtain ⟨q0, q1, q2, q3⟩ := hT.four
          clear hb2
          go_wp2_with fail
          refine (HT.out _).mono ?_
          rintro x w6 ⟨rfl, hb2⟩
          replace hb := hb.next hb2
          replace hV1 := hV1.below hb2
          replace hV2 := hV2.below hb2
          replace hT := hT.below hb2
          try clear q0 q1 q2 q3
          obtain ⟨q0, q1, q2, q3⟩ := hT.four
          clear hb2
          go_wp2_with fail
          go_roundw
          case rel => exact ⟨2, by omega, rfl, hb, hV1, hV2⟩
          case measure => simp [intOf]
        · clear ho
          obtain ⟨m0, m1, m2, m3⟩ := hV1.four
          obtain ⟨n0, n1, n2, n3⟩ := hV2.four
          have hT := Blk.new (wr.alloc (.cells #[.int .i64 0, .int .i64 a, .int .i64 b, .slice none 0 0, .int .i64 0, .int .i64 b, .int .i64 c, .slice none 0 0] 25)) #[.int .i64 0, .int .i64 b, .int .i64 c, .slice none 0 0] 25
          simp only [World.size_alloc] at hT
          have hbl : Below wr.heap.size wr ((wr.alloc (.cells #[.int .i64 0, .int .i64 a, .int .i64 b, .slice none 0 0, .int .i64 0, .int .i64 b, .int .i64 c, .slice none 0 0] 25)).alloc (.cells #[.int .i64 0, .int .i64 b, .int .i64 c, .slice none 0 0] 25)) := ((Below.refl _ _).alloc (Nat.le_refl _) _).alloc (by simp) _
          replace hb := hb.next hbl
          replace hV1 := hV1.below hbl
          replace hV2 := hV2.below hbl
          clear hbl
          go_wp2_with fail
          refine (HO.out _).mono ?_
          rintro x w4 ⟨rfl, hb2⟩
          replace hb := hb.next hb2
          replace hV1 := hV1.below hb2
          replace hV2 := hV2.below hb2
          replace hT := hT.below hb2
          try clear q0 q1 q2 q3
          obtain ⟨q0, q1, q2, q3⟩ := hT.four
          clear hb2
          go_wp2_with fail
          refine (HS.out _).mono ?_
          rintro x w5 ⟨rfl, hb2⟩
          replace hb := hb.next hb2
          replace hV1 := hV1.below hb2
          replace hV2 := hV2.below hb2
          replace hT := hT.below hb2
          try clear q0 q1 q2 q3
          obtain ⟨q0, q1, q2, q3⟩ := hT.four
          clear hb2
          go_wp2_with fail
          go_roundw
          case rel => exact ⟨2, by omega, rfl, hb, hV1, hV2⟩
          case measure => simp [intOf]
      · have HO := Lib.hid (fun W => old_any 0 b c d (.slice none 0 0) ⟨_, _, _, rfl⟩ false (old_no ho) W)
        clear ho
        obtain ⟨m0, m1, m2, m3⟩ := hV1.four
        obtain ⟨n0, n1, n2, n3⟩ := hV2.four
        have hT := Blk.new (wr.alloc (.cells #[.int .i64 0, .int .i64 a, .int .i64 b, .slice none 0 0, .int .i64 0, .int .i64 b, .int .i64 c, .slice none 0 0] 25)) #[.int .i64 0, .int .i64 b, .int .i64 c, .slice none 0 0] 25
        simp only [World.size_alloc] at hT
        have hbl : Below wr.heap.size wr ((wr.alloc (.cells #[.int .i64 0, .int .i64 a, .int .i64 b, .slice none 0 0, .int .i64 0, .int .i64 b, .int .i64 c, .slice none 0 0] 25)).alloc (.cells #[.int .i64 0, .int .i64 b, .int .i64 c, .slice none 0 0] 25)) := ((Below.refl _ _).alloc (Nat.le_refl _) _).alloc (by simp) _
        replace hb := hb.next hbl
        replace hV1 := hV1.below hbl
        replace hV2 := hV2.below hbl
        clear hbl
        go_wp2_with fail
        refine (HO.out _).mono ?_
        rintro x w4 ⟨rfl, hb2⟩
        replace hb := hb.next hb2
        replace hV1 := hV1.below hb2
        replace hV2 := hV2.below hb2
        replace hT := hT.below hb2
        try clear q0 q1 q2 q3
        obtain ⟨q0, q1, q2, q3⟩ := hT.four
        clear hb2
        go_wp2_with fail
        go_roundw
        case rel => exact ⟨2, by omega, rfl, hb, hV1, hV2⟩
        case measure => simp [intOf]
    · rw [show ((2 : Nat) : Int) = 2 from rfl]
      go_wp2_with fail
      refine (HA.out _).mono ?_
      rintro x w1 ⟨rfl, hb1⟩
      replace hb := hb.next hb1
      go_wp2_with fail
      go_ret
      exact ⟨rfl, hb⟩
set_option maxRecDepth 100000 in
set_option maxHeartbeats 4000000 in
theorem turns_c3a (a b c d : Int) (w : World) (hd1 : -9223372036854775808 ≤ d) (hd2 : d ≤ 9223372036854775807) (h1 : a < b) (h2 : 0 < b) (p1 : a ≤ d) (p2 : ¬ d < b) (p3 : c = 0) : Calls Try.prog 6 #[.agg #[.int .i64 a, .int .i64 b, .int .i64 c, .int .i64 d]] w (Ret (.bool true) w) := by
  have g1 : decide (b ≤ a) = false := decide_eq_false (by omega)
  have g2 : decide (b ≤ 0) = false := decide_eq_false (by omega)
  have S1 := Lib.hid (fun W => seen_any 0 a b d (.slice none 0 0) ⟨_, _, _, rfl⟩ false (seen_no2 h2 (by omega)) W)
  have S2 := Lib.hid (fun W => seen_any 0 b c d (.slice none 0 0) ⟨_, _, _, rfl⟩ true (seen_yes0 (by omega) p3) W)
  have t3 : (c == 0) = true := by rw [beq_iff_eq]; exact p3
  clear p3
  have HA := Lib.hid awake50
  have hB := Blk.new w #[.int .i64 a, .int .i64 b, .int .i64 c, .int .i64 d] 45
  have hb : Below w.heap.size w (w.alloc (.cells #[.int .i64 a, .int .i64 b, .int .i64 c, .int .i64 d] 45)) := (Below.refl _ _).alloc (Nat.le_refl _) _
  obtain ⟨c0, c1, c2, c3⟩ := hB.four
  go_enter Try.func6, Try.ntmps6
  go_wp2
  go_quiet (fail)
  clear c0 c1 c2 c3 hB
  go_wp2_with fail
  obtain ⟨W, hW⟩ : ∃ W, ((((w.alloc (.cells #[.int .i64 a, .int .i64 b, .int .i64 c, .int .i64 d] 45)).drewN nq).alloc (.cells #[.int .i64 0, .int .i64 a, .int .i64 b, .slice none 0 0] 25)).alloc (.cells #[.int .i64 0, .int .i64 b, .int .i64 c, .slice none 0 0] 25)) = W := ⟨_, rfl⟩
  have hV1 := (Blk.new ((w.alloc (.cells #[.int .i64 a, .int .i64 b, .int .i64 c, .int .i64 d] 45)).drewN nq) #[.int .i64 0, .int .i64 a, .int .i64 b, .slice none 0 0] 25).alloc (.cells #[.int .i64 0, .int .i64 b, .int .i64 c, .slice none 0 0] 25)
  have hV2 := Blk.new (((w.alloc (.cells #[.int .i64 a, .int .i64 b, .int .i64 c, .int .i64 d] 45)).drewN nq).alloc (.cells #[.int .i64 0, .int .i64 a, .int .i64 b, .slice none 0 0] 25)) #[.int .i64 0, .int .i64 b, .int .i64 c, .slice none 0 0] 25
  simp only [World.size_alloc, World.heap_drewN] at hV1 hV2
  replace hb := ((hb.drewN nq).alloc (by simp) (.cells #[.int .i64 0, .int .i64 a, .int .i64 b, .slice none 0 0] 25)).alloc (by simp; omega) (.cells #[.int .i64 0, .int .i64 b, .int .i64 c, .slice none 0 0] 25)
  rw [hW] at hV1 hV2 hb ⊢
  clear hW
  obtain ⟨m0, m1, m2, m3⟩ := hV1.four
  obtain ⟨n0, n1, n2, n3⟩ := hV2.four
  have e0 : ∀ p' : Regrown, (grow (redrawn W p'.d) p'.os).cell? ⟨w.heap.size + 1, 0, none⟩ = some (.int .i64 0) := fun r => cell_regrown m0 r.d r.os
  have e1 : ∀ p' : Regrown, (grow (redrawn W p'.d) p'.os).cell? ⟨w.heap.size + 1, 1, none⟩ = some (.int .i64 a) := fun r => cell_regrown m1 r.d r.os
  have e2 : ∀ p' : Regrown, (grow (redrawn W p'.d) p'.os).cell? ⟨w.heap.size + 1, 2, none⟩ = some (.int .i64 b) := fun r => cell_regrown m2 r.d r.os
  have e3 : ∀ p' : Regrown, (grow (redrawn W p'.d) p'.os).cell? ⟨w.heap.size + 1, 3, none⟩ = some (.slice none 0 0) := fun r => cell_regrown m3 r.d r.os
  have j0 : ∀ p' : Regrown, (grow (redrawn W p'.d) p'.os).cell? ⟨w.heap.size + 1 + 1, 0, none⟩ = some (.int .i64 0) := fun r => cell_regrown n0 r.d r.os
  have j1 : ∀ p' : Regrown, (grow (redrawn W p'.d) p'.os).cell? ⟨w.heap.size + 1 + 1, 1, none⟩ = some (.int .i64 b) := fun r => cell_regrown n1 r.d r.os
  have j2 : ∀ p' : Regrown, (grow (redrawn W p'.d) p'.os).cell? ⟨w.heap.size + 1 + 1, 2, none⟩ = some (.int .i64 c) := fun r => cell_regrown n2 r.d r.os
  have j3 : ∀ p' : Regrown, (grow (redrawn W p'.d) p'.os).cell? ⟨w.heap.size + 1 + 1, 3, none⟩ = some (.slice none 0 0) := fun r => cell_regrown n3 r.d r.os
  clear m0 m1 m2 m3 n0 n1 n2 n3
  refine wp_region_quiet_below (by kernel_rfl) (by kernel_rfl) ?_
  repeat (go_big_quiet_step (first | (go_at_call 14; with_reducible exact Ret.regrown (S1.out _)) | (go_at_call 14; with_reducible exact Ret.regrown (S2.out _))))
  refine wpQuiet_nil ?_
  intro w2 hw2
  have hb2 := below_of_regrown hw2
  clear hw2 e0 e1 e2 e3 j0 j1 j2 j3
  replace hV1 := hV1.below hb2
  replace hV2 := hV2.below hb2
  replace hb := hb.next hb2
  clear hb2
  go_wp2_with fail
  go_loopw [12] (fun i wr => ∃ k : Nat, k ≤ 2 ∧ i = .int .i64 k ∧ Below w.heap.size w wr ∧ Blk wr (w.heap.size + 1) #[.int .i64 0, .int .i64 a, .int .i64 b, .slice none 0 0] 25 ∧ Blk wr (w.heap.size + 1 + 1) #[.int .i64 0, .int .i64 b, .int .i64 c, .slice none 0 0] 25) (fun i _ => 2 - (intOf i).toNat)
  case atStart => exact ⟨0, by omega, rfl, hb, hV1, hV2⟩
  case round =>
    clear hb hV1 hV2
    obtain ⟨k, hk, rfl, hb, hV1, hV2⟩ := hrel
    have hk3 : k = 0 ∨ k = 1 ∨ k = 2 := by omega
    rcases hk3 with rfl | rfl | rfl
    · rw [show ((0 : Nat) : Int) = 0 from rfl]
      by_cases ho : 0 < b ∧ b ≤ d
      · have HO := Lib.hid (fun W => old_any 0 a b d (.slice none 0 0) ⟨_, _, _, rfl⟩ true (old_yes ho.1 ho.2) W)
        have HS := Lib.hid (fun W => seen_any 0 a b d (.slice none 0 0) ⟨_, _, _, rfl⟩ false (seen_no2 ho.1 ho.2) W)
        by_cases h60 : d < 1152921504606846976
        · have HT := Lib.hid (fun W => seen_any 0 a b (d + 1) (.slice none 0 0) ⟨_, _, _, rfl⟩ false (seen_no2 ho.1 (by omega)) W)
          clear ho
          obtain ⟨m0, m1, m2, m3⟩ := hV1.four
          obtain ⟨n0, n1, n2, n3⟩ := hV2.four
          have hT := Blk.new (wr.alloc (.cells #[.int .i64 0, .int .i64 a, .int .i64 b, .slice none 0 0, .int .i64 0, .int .i64 b, .int .i64 c, .slice none 0 0] 25)) #[.int .i64 0, .int .i64 a, .int .i64 b, .slice none 0 0] 25
          simp only [World.size_alloc] at hT
          have hbl : Below wr.heap.size wr ((wr.alloc (.cells #[.int .i64 0, .int .i64 a, .int .i64 b, .slice none 0 0, .int .i64 0, .int .i64 b, .int .i64 c, .slice none 0 0] 25)).alloc (.cells #[.int .i64 0, .int .i64 a, .int .i64 b, .slice none 0 0] 25)) := ((Below.refl _ _).alloc (Nat.le_refl _) _).alloc (by simp) _
          replace hb := hb.next hbl
          replace hV1 := hV1.below hbl
          replace hV2 := hV2.below hbl
          clear hbl
          go_wp2_with fail
          refine (HO.out _).mono ?_
          rintro x w4 ⟨rfl, hb2⟩
          replace hb := hb.next hb2
          replace hV1 := hV1.below hb2
          replace hV2 := hV2.below hb2
          replace hT := hT.below hb2
          try clear q0 q1 q2 q3
          obtain ⟨q0, q1, q2, q3⟩ := hT.four
          clear hb2
          go_wp2_with fail
          refine (HS.out _).mono ?_
          rintro x w5 ⟨rfl, hb2⟩
          replace hb := hb.next hb2
          replace hV1 := hV1.below hb2
          replace hV2 := hV2.below hb2
          replace hT := hT.below hb2
          try clear q0 q1 q2 q3
          obtain ⟨q0, q1, q2, q3⟩ := hT.four
          clear hb2
          go_wp2_with fail
          refine (HT.out _).mono ?_
          rintro x w6 ⟨rfl, hb2⟩
          replace hb := hb.next hb2
          replace hV1 := hV1.below hb2
          replace hV2 := hV2.below hb2
          replace hT := hT.below hb2
          try clear q0 q1 q2 q3
          obtain ⟨q0, q1, q2, q3⟩ := hT.four
          clear hb2
          go_wp2_with fail
          go_roundw
          case rel => exact ⟨1, by omega, rfl, hb, hV1, hV2⟩
          case measure => simp [intOf]
        · clear ho
          obtain ⟨m0, m1, m2, m3⟩ := hV1.four
          obtain ⟨n0, n1, n2, n3⟩ := hV2.four
          have hT := Blk.new (wr.alloc (.cells #[.int .i64 0, .int .i64 a, .int .i64 b, .slice none 0 0, .int .i64 0, .int .i64 b, .int .i64 c, .slice none 0 0] 25)) #[.int .i64 0, .int .i64 a, .int .i64 b, .slice none 0 0] 25
          simp only [World.size_alloc] at hT
          have hbl : Below wr.heap.size wr ((wr.alloc (.cells #[.int .i64 0, .int .i64 a, .int .i64 b, .slice none 0 0, .int .i64 0, .int .i64 b, .int .i64 c, .slice none 0 0] 25)).alloc (.cells #[.int .i64 0, .int .i64 a, .int .i64 b, .slice none 0 0] 25)) := ((Below.refl _ _).alloc (Nat.le_refl _) _).alloc (by simp) _
          replace hb := hb.next hbl
          replace hV1 := hV1.below hbl
          replace hV2 := hV2.below hbl
          clear hbl
          go_wp2_with fail
          refine (HO.out _).mono ?_
          rintro x w4 ⟨rfl, hb2⟩
          replace hb := hb.next hb2
          replace hV1 := hV1.below hb2
          replace hV2 := hV2.below hb2
          replace hT := hT.below hb2
          try clear q0 q1 q2 q3
          obtain ⟨q0, q1, q2, q3⟩ := hT.four
          clear hb2
          go_wp2_with fail
          refine (HS.out _).mono ?_
          rintro x w5 ⟨rfl, hb2⟩
          replace hb := hb.next hb2
          replace hV1 := hV1.below hb2
          replace hV2 := hV2.below hb2
          replace hT := hT.below hb2
          try clear q0 q1 q2 q3
          obtain ⟨q0, q1, q2, q3⟩ := hT.four
          clear hb2
          go_wp2_with fail
          go_roundw
          case rel => exact ⟨1, by omega, rfl, hb, hV1, hV2⟩
          case measure => simp [intOf]
      · have HO := Lib.hid (fun W => old_any 0 a b d (.slice none 0 0) ⟨_, _, _, rfl⟩ false (old_no ho) W)
        clear ho
        obtain ⟨m0, m1, m2, m3⟩ := hV1.four
        obtain ⟨n0, n1, n2, n3⟩ := hV2.four
        have hT := Blk.new (wr.alloc (.cells #[.int .i64 0, .int .i64 a, .int .i64 b, .slice none 0 0, .int .i64 0, .int .i64 b, .int .i64 c, .slice none 0 0] 25)) #[.int .i64 0, .int .i64 a, .int .i64 b, .slice none 0 0] 25
        simp only [World.size_alloc] at hT
        have hbl : Below wr.heap.size wr ((wr.alloc (.cells #[.int .i64 0, .int .i64 a, .int .i64 b, .slice none 0 0, .int .i64 0, .int .i64 b, .int .i64 c, .slice none 0 0] 25)).alloc (.cells #[.int .i64 0, .int .i64 a, .int .i64 b, .slice none 0 0] 25)) := ((Below.refl _ _).alloc (Nat.le_refl _) _).alloc (by simp) _
        replace hb := hb.next hbl
        replace hV1 := hV1.below hbl
        replace hV2 := hV2.below hbl
        clear hbl
        go_wp2_with fail
        refine (HO.out _).mono ?_
        rintro x w4 ⟨rfl, hb2⟩
        replace hb := hb.next hb2
        replace hV1 := hV1.below hb2
        replace hV2 := hV2.below hb2
        replace hT := hT.below hb2
        try clear q0 q1 q2 q3
        obtain ⟨q0, q1, q2, q3⟩ := hT.four
        clear hb2
        go_wp2_with fail
        go_roundw
        case rel => exact ⟨1, by omega, rfl, hb, hV1, hV2⟩
        case measure => simp [intOf]
    · rw [show ((1 : Nat) : Int) = 1 from rfl]
      by_cases ho : 0 < c ∧ c ≤ d
      · have HO := Lib.hid (fun W => old_any 0 b c d (.slice none 0 0) ⟨_, _, _, rfl⟩ true (old_yes ho.1 ho.2) W)
        have HS := Lib.hid (fun W => seen_any 0 b c d (.slice none 0 0) ⟨_, _, _, rfl⟩ false (seen_no2 ho.1 ho.2) W)
        by_cases h60 : d < 1152921504606846976
        · have HT := Lib.hid (fun W => seen_any 0 b c (d + 1) (.slice none 0 0) ⟨_, _, _, rfl⟩ false (seen_no2 ho.1 (by omega)) W)
          clear ho
          obtain ⟨m0, m1, m2, m3⟩ := hV1.four
          obtain ⟨n0, n1, n2, n3⟩ := hV2.four
          have hT := Blk.new (wr.alloc (.cells #[.int .i64 0, .int .i64 a, .int .i64 b, .slice none 0 0, .int .i64 0, .int .i64 b, .int .i64 c, .slice none 0 0] 25)) #[.int .i64 0, .int .i64 b, .int .i64 c, .slice none 0 0] 25
          simp only [World.size_alloc] at hT
          have hbl : Below wr.heap.size wr ((wr.alloc (.cells #[.int .i64 0, .int .i64 a, .int .i64 b, .slice none 0 0, .int .i64 0, .int .i64 b, .int .i64 c, .slice none 0 0] 25)).alloc (.cells #[.int .i64 0, .int .i64 b, .int .i64 c, .slice none 0 0] 25)) := ((Below.refl _ _).alloc (Nat.le_refl _) _).alloc (by simp) _
          replace hb := hb.next hbl
          replace hV1 := hV1.below hbl
          replace hV2 := hV2.below hbl
          clear hbl
          go_wp2_with fail
          refine (HO.out _).mono ?_
          rintro x w4 ⟨rfl, hb2⟩
          replace hb := hb.next hb2
          replace hV1 := hV1.below hb2
          replace hV2 := hV2.below hb2
          replace hT := hT.below hb2
          try clear q0 q1 q2 q3
          obtain ⟨q0, q1, q2, q3⟩ := hT.four
          clear hb2
          go_wp2_with fail
          refine (HS.out _).mono ?_
          rintro x w5 ⟨rfl, hb2⟩
          replace hb := hb.next hb2
          replace hV1 := hV1.below hb2
          replace hV2 := hV2.below hb2
          replace hT := hT.below hb2
          try clear q0 q1 q2 q3
          obtain ⟨q0, q1, q2, q3⟩ := hT.four
          clear hb2
          go_wp2_with fail
          refine (HT.out _).mono ?_
          rintro x w6 ⟨rfl, hb2⟩
          replace hb := hb.next hb2
          replace hV1 := hV1.below hb2
          replace hV2 := hV2.below hb2
          replace hT := hT.below hb2
          try clear q0 q1 q2 q3
          obtain ⟨q0, q1, q2, q3⟩ := hT.four
          clear hb2
          go_wp2_with fail
          go_roundw
          case rel => exact ⟨2, by omega, rfl, hb, hV1, hV2⟩
          case measure => simp [intOf]
        · clear ho
          obtain ⟨m0, m1, m2, m3⟩ := hV1.four
          obtain ⟨n0, n1, n2, n3⟩ := hV2.four
          have hT := Blk.new (wr.alloc (.cells #[.int .i64 0, .int .i64 a, .int .i64 b, .slice none 0 0, .int .i64 0, .int .i64 b, .int .i64 c, .slice none 0 0] 25)) #[.int .i64 0, .int .i64 b, .int .i64 c, .slice none 0 0] 25
          simp only [World.size_alloc] at hT
          have hbl : Below wr.heap.size wr ((wr.alloc (.cells #[.int .i64 0, .int .i64 a, .int .i64 b, .slice none 0 0, .int .i64 0, .int .i64 b, .int .i64 c, .slice none 0 0] 25)).alloc (.cells #[.int .i64 0, .int .i64 b, .int .i64 c, .slice none 0 0] 25)) := ((Below.refl _ _).alloc (Nat.le_refl _) _).alloc (by simp) _
          replace hb := hb.next hbl
          replace hV1 := hV1.below hbl
          replace hV2 := hV2.below hbl
          clear hbl
          go_wp2_with fail
          refine (HO.out _).mono ?_
          rintro x w4 ⟨rfl, hb2⟩
          replace hb := hb.next hb2
          replace hV1 := hV1.below hb2
          replace hV2 := hV2.below hb2
          replace hT := hT.below hb2
          try clear q0 q1 q2 q3
          obtain ⟨q0, q1, q2, q3⟩ := hT.four
          clear hb2
          go_wp2_with fail
          refine (HS.out _).mono ?_
          rintro x w5 ⟨rfl, hb2⟩
          replace hb := hb.next hb2
          replace hV1 := hV1.below hb2
          replace hV2 := hV2.below hb2
          replace hT := hT.below hb2
          try clear q0 q1 q2 q3
          obtain ⟨q0, q1, q2, q3⟩ := hT.four
          clear hb2
          go_wp2_with fail
          go_roundw
          case rel => exact ⟨2, by omega, rfl, hb, hV1, hV2⟩
          case measure => simp [intOf]
      · have HO := Lib.hid (fun W => old_any 0 b c d (.slice none 0 0) ⟨_, _, _, rfl⟩ false (old_no ho) W)
        clear ho
        obtain ⟨m0, m1, m2, m3⟩ := hV1.four
        obtain ⟨n0, n1, n2, n3⟩ := hV2.four
        have hT := Blk.new (wr.alloc (.cells #[.int .i64 0, .int .i64 a, .int .i64 b, .slice none 0 0, .int .i64 0, .int .i64 b, .int .i64 c, .slice none 0 0] 25)) #[.int .i64 0, .int .i64 b, .int .i64 c, .slice none 0 0] 25
        simp only [World.size_alloc] at hT
        have hbl : Below wr.heap.size wr ((wr.alloc (.cells #[.int .i64 0, .int .i64 a, .int .i64 b, .slice none 0 0, .int .i64 0, .int .i64 b, .int .i64 c, .slice none 0 0] 25)).alloc (.cells #[.int .i64 0, .int .i64 b, .int .i64 c, .slice none 0 0] 25)) := ((Below.refl _ _).alloc (Nat.le_refl _) _).alloc (by simp) _
        replace hb := hb.next hbl
        replace hV1 := hV1.below hbl
        replace hV2 := hV2.below hbl
        clear hbl
        go_wp2_with fail
        refine (HO.out _).mono ?_
        rintro x w4 ⟨rfl, hb2⟩
        replace hb := hb.next hb2
        replace hV1 := hV1.below hb2
        replace hV2 := hV2.below hb2
        replace hT := hT.below hb2
        try clear q0 q1 q2 q3
        obtain ⟨q0, q1, q2, q3⟩ := hT.four
        clear hb2
        go_wp2_with fail
        go_roundw
        case rel => exact ⟨2, by omega, rfl, hb, hV1, hV2⟩
        case measure => simp [intOf]
    · rw [show ((2 : Nat) : Int) = 2 from rfl]
      go_wp2_with fail
      refine (HA.out _).mono ?_
      rintro x w1 ⟨rfl, hb1⟩
      replace hb := hb.next hb1
      go_wp2_with fail
      go_ret
      exact ⟨rfl, hb⟩
set_option maxRecDepth 100000 in
set_option maxHeartbeats 4000000 in
theorem turns_c3b (a b c d : Int) (w : World) (hd1 : -9223372036854775808 ≤ d) (hd2 : d ≤ 9223372036854775807) (h1 : a < b) (h2 : 0 < b) (p1 : a ≤ d) (p2 : ¬ d < b) (p3 : c ≠ 0) (p4 : d < c) : Calls Try.prog 6 #[.agg #[.int .i64 a, .int .i64 b, .int .i64 c, .int .i64 d]] w (Ret (.bool true) w) := by
  have g1 : decide (b ≤ a) = false := decide_eq_false (by omega)
  have g2 : decide (b ≤ 0) = false := decide_eq_false (by omega)
  have S1 := Lib.hid (fun W => seen_any 0 a b d (.slice none 0 0) ⟨_, _, _, rfl⟩ false (seen_no2 h2 (by omega)) W)
  have S2 := Lib.hid (fun W => seen_any 0 b c d (.slice none 0 0) ⟨_, _, _, rfl⟩ true (seen_yes1 (by omega) p4) W)
  have t3 : (c == 0) = false := by rw [beq_eq_false_iff_ne]; exact p3
  have HA := Lib.hid awake50
  have hB := Blk.new w #[.int .i64 a, .int .i64 b, .int .i64 c, .int .i64 d] 45
  have hb : Below w.heap.size w (w.alloc (.cells #[.int .i64 a, .int .i64 b, .int .i64 c, .int .i64 d] 45)) := (Below.refl _ _).alloc (Nat.le_refl _) _
  obtain ⟨c0, c1, c2, c3⟩ := hB.four
  go_enter Try.func6, Try.ntmps6
  go_wp2
  go_quiet (fail)
  clear c0 c1 c2 c3 hB
  go_wp2_with fail
  obtain ⟨W, hW⟩ : ∃ W, ((((w.alloc (.cells #[.int .i64 a, .int .i64 b, .int .i64 c, .int .i64 d] 45)).drewN nq).alloc (.cells #[.int .i64 0, .int .i64 a, .int .i64 b, .slice none 0 0] 25)).alloc (.cells #[.int .i64 0, .int .i64 b, .int .i64 c, .slice none 0 0] 25)) = W := ⟨_, rfl⟩
  have hV1 := (Blk.new ((w.alloc (.cells #[.int .i64 a, .int .i64 b, .int .i64 c, .int .i64 d] 45)).drewN nq) #[.int .i64 0, .int .i64 a, .int .i64 b, .slice none 0 0] 25).alloc (.cells #[.int .i64 0, .int .i64 b, .int .i64 c, .slice none 0 0] 25)
  have hV2 := Blk.new (((w.alloc (.cells #[.int .i64 a, .int .i64 b, .int .i64 c, .int .i64 d] 45)).drewN nq).alloc (.cells #[.int .i64 0, .int .i64 a, .int .i64 b, .slice none 0 0] 25)) #[.int .i64 0, .int .i64 b, .int .i64 c, .slice none 0 0] 25
  simp only [World.size_alloc, World.heap_drewN] at hV1 hV2
  replace hb := ((hb.drewN nq).alloc (by simp) (.cells #[.int .i64 0, .int .i64 a, .int .i64 b, .slice none 0 0] 25)).alloc (by simp; omega) (.cells #[.int .i64 0, .int .i64 b, .int .i64 c, .slice none 0 0] 25)
  rw [hW] at hV1 hV2 hb ⊢
  clear hW
  obtain ⟨m0, m1, m2, m3⟩ := hV1.four
  obtain ⟨n0, n1, n2, n3⟩ := hV2.four
  have e0 : ∀ p' : Regrown, (grow (redrawn W p'.d) p'.os).cell? ⟨w.heap.size + 1, 0, none⟩ = some (.int .i64 0) := fun r => cell_regrown m0 r.d r.os
  have e1 : ∀ p' : Regrown, (grow (redrawn W p'.d) p'.os).cell? ⟨w.heap.size + 1, 1, none⟩ = some (.int .i64 a) := fun r => cell_regrown m1 r.d r.os
  have e2 : ∀ p' : Regrown, (grow (redrawn W p'.d) p'.os).cell? ⟨w.heap.size + 1, 2, none⟩ = some (.int .i64 b) := fun r => cell_regrown m2 r.d r.os
  have e3 : ∀ p' : Regrown, (grow (redrawn W p'.d) p'.os).cell? ⟨w.heap.size + 1, 3, none⟩ = some (.slice none 0 0) := fun r => cell_regrown m3 r.d r.os
  have j0 : ∀ p' : Regrown, (grow (redrawn W p'.d) p'.os).cell? ⟨w.heap.size + 1 + 1, 0, none⟩ = some (.int .i64 0) := fun r => cell_regrown n0 r.d r.os
  have j1 : ∀ p' : Regrown, (grow (redrawn W p'.d) p'.os).cell? ⟨w.heap.size + 1 + 1, 1, none⟩ = some (.int .i64 b) := fun r => cell_regrown n1 r.d r.os
  have j2 : ∀ p' : Regrown, (grow (redrawn W p'.d) p'.os).cell? ⟨w.heap.size + 1 + 1, 2, none⟩ = some (.int .i64 c) := fun r => cell_regrown n2 r.d r.os
  have j3 : ∀ p' : Regrown, (grow (redrawn W p'.d) p'.os).cell? ⟨w.heap.size + 1 + 1, 3, none⟩ = some (.slice none 0 0) := fun r => cell_regrown n3 r.d r.os
  clear m0 m1 m2 m3 n0 n1 n2 n3
  refine wp_region_quiet_below (by kernel_rfl) (by kernel_rfl) ?_
  repeat (go_big_quiet_step (first | (go_at_call 14; with_reducible exact Ret.regrown (S1.out _)) | (go_at_call 14; with_reducible exact Ret.regrown (S2.out _))))
  refine wpQuiet_nil ?_
  intro w2 hw2
  have hb2 := below_of_regrown hw2
  clear hw2 e0 e1 e2 e3 j0 j1 j2 j3
  replace hV1 := hV1.below hb2
  replace hV2 := hV2.below hb2
  replace hb := hb.next hb2
  clear hb2
  go_wp2_with fail
  go_loopw [12] (fun i wr => ∃ k : Nat, k ≤ 2 ∧ i = .int .i64 k ∧ Below w.heap.size w wr ∧ Blk wr (w.heap.size + 1) #[.int .i64 0, .int .i64 a, .int .i64 b, .slice none 0 0] 25 ∧ Blk wr (w.heap.size + 1 + 1) #[.int .i64 0, .int .i64 b, .int .i64 c, .slice none 0 0] 25) (fun i _ => 2 - (intOf i).toNat)
  case atStart => exact ⟨0, by omega, rfl, hb, hV1, hV2⟩
  case round =>
    clear hb hV1 hV2
    obtain ⟨k, hk, rfl, hb, hV1, hV2⟩ := hrel
    have hk3 : k = 0 ∨ k = 1 ∨ k = 2 := by omega
    rcases hk3 with rfl | rfl | rfl
    · rw [show ((0 : Nat) : Int) = 0 from rfl]
      by_cases ho : 0 < b ∧ b ≤ d
      · have HO := Lib.hid (fun W => old_any 0 a b d (.slice none 0 0) ⟨_, _, _, rfl⟩ true (old_yes ho.1 ho.2) W)
        have HS := Lib.hid (fun W => seen_any 0 a b d (.slice none 0 0) ⟨_, _, _, rfl⟩ false (seen_no2 ho.1 ho.2) W)
        by_cases h60 : d < 1152921504606846976
        · have HT := Lib.hid (fun W => seen_any 0 a b (d + 1) (.slice none 0 0) ⟨_, _, _, rfl⟩ false (seen_no2 ho.1 (by omega)) W)
          clear ho
          obtain ⟨m0, m1, m2, m3⟩ := hV1.four
          obtain ⟨n0, n1, n2, n3⟩ := hV2.four
          have hT := Blk.new (wr.alloc (.cells #[.int .i64 0, .int .i64 a, .int .i64 b, .slice none 0 0, .int .i64 0, .int .i64 b, .int .i64 c, .slice none 0 0] 25)) #[.int .i64 0, .int .i64 a, .int .i64 b, .slice none 0 0] 25
          simp only [World.size_alloc] at hT
          have hbl : Below wr.heap.size wr ((wr.alloc (.cells #[.int .i64 0, .int .i64 a, .int .i64 b, .slice none 0 0, .int .i64 0, .int .i64 b, .int .i64 c, .slice none 0 0] 25)).alloc (.cells #[.int .i64 0, .int .i64 a, .int .i64 b, .slice none 0 0] 25)) := ((Below.refl _ _).alloc (Nat.le_refl _) _).alloc (by simp) _
          replace hb := hb.next hbl
          replace hV1 := hV1.below hbl
          replace hV2 := hV2.below hbl
          clear hbl
          go_wp2_with fail
          refine (HO.out _).mono ?_
          rintro x w4 ⟨rfl, hb2⟩
          replace hb := hb.next hb2
          replace hV1 := hV1.below hb2
          replace hV2 := hV2.below hb2
          replace hT := hT.below hb2
          try clear q0 q1 q2 q3
          obtain ⟨q0, q1, q2, q3⟩ := hT.four
          clear hb2
          go_wp2_with fail
          refine (HS.out _).mono ?_
          rintro x w5 ⟨rfl, hb2⟩
          replace hb := hb.next hb2
          replace hV1 := hV1.below hb2
          replace hV2 := hV2.below hb2
          replace hT := hT.below hb2
          try clear q0 q1 q2 q3
          obtain ⟨q0, q1, q2, q3⟩ := hT.four
          clear hb2
          go_wp2_with fail
          refine (HT.out _).mono ?_
          rintro x w6 ⟨rfl, hb2⟩
          replace hb := hb.next hb2
          replace hV1 := hV1.below hb2
          replace hV2 := hV2.below hb2
          replace hT := hT.below hb2
          try clear q0 q1 q2 q3
          obtain ⟨q0, q1, q2, q3⟩ := hT.four
          clear hb2
          go_wp2_with fail
          go_roundw
          case rel => exact ⟨1, by omega, rfl, hb, hV1, hV2⟩
          case measure => simp [intOf]
        · clear ho
          obtain ⟨m0, m1, m2, m3⟩ := hV1.four
          obtain ⟨n0, n1, n2, n3⟩ := hV2.four
          have hT := Blk.new (wr.alloc (.cells #[.int .i64 0, .int .i64 a, .int .i64 b, .slice none 0 0, .int .i64 0, .int .i64 b, .int .i64 c, .slice none 0 0] 25)) #[.int .i64 0, .int .i64 a, .int .i64 b, .slice none 0 0] 25
          simp only [World.size_alloc] at hT
          have hbl : Below wr.heap.size wr ((wr.alloc (.cells #[.int .i64 0, .int .i64 a, .int .i64 b, .slice none 0 0, .int .i64 0, .int .i64 b, .int .i64 c, .slice none 0 0] 25)).alloc (.cells #[.int .i64 0, .int .i64 a, .int .i64 b, .slice none 0 0] 25)) := ((Below.refl _ _).alloc (Nat.le_refl _) _).alloc (by simp) _
          replace hb := hb.next hbl
          replace hV1 := hV1.below hbl
          replace hV2 := hV2.below hbl
          clear hbl
          go_wp2_with fail
          refine (HO.out _).mono ?_
          rintro x w4 ⟨rfl, hb2⟩
          replace hb := hb.next hb2
          replace hV1 := hV1.below hb2
          replace hV2 := hV2.below hb2
          replace hT := hT.below hb2
          try clear q0 q1 q2 q3
          obtain ⟨q0, q1, q2, q3⟩ := hT.four
          clear hb2
          go_wp2_with fail
          refine (HS.out _).mono ?_
          rintro x w5 ⟨rfl, hb2⟩
          replace hb := hb.next hb2
          replace hV1 := hV1.below hb2
          replace hV2 := hV2.below hb2
          replace hT := hT.below hb2
          try clear q0 q1 q2 q3
          obtain ⟨q0, q1, q2, q3⟩ := hT.four
          clear hb2
          go_wp2_with fail
          go_roundw
          case rel => exact ⟨1, by omega, rfl, hb, hV1, hV2⟩
          case measure => simp [intOf]
      · have HO := Lib.hid (fun W => old_any 0 a b d (.slice none 0 0) ⟨_, _, _, rfl⟩ false (old_no ho) W)
        clear ho
        obtain ⟨m0, m1, m2, m3⟩ := hV1.four
        obtain ⟨n0, n1, n2, n3⟩ := hV2.four
        have hT := Blk.new (wr.alloc (.cells #[.int .i64 0, .int .i64 a, .int .i64 b, .slice none 0 0, .int .i64 0, .int .i64 b, .int .i64 c, .slice none 0 0] 25)) #[.int .i64 0, .int .i64 a, .int .i64 b, .slice none 0 0] 25
        simp only [World.size_alloc] at hT
        have hbl : Below wr.heap.size wr ((wr.alloc (.cells #[.int .i64 0, .int .i64 a, .int .i64 b, .slice none 0 0, .int .i64 0, .int .i64 b, .int .i64 c, .slice none 0 0] 25)).alloc (.cells #[.int .i64 0, .int .i64 a, .int .i64 b, .slice none 0 0] 25)) := ((Below.refl _ _).alloc (Nat.le_refl _) _).alloc (by simp) _
        replace hb := hb.next hbl
        replace hV1 := hV1.below hbl
        replace hV2 := hV2.below hbl
        clear hbl
        go_wp2_with fail
        refine (HO.out _).mono ?_
        rintro x w4 ⟨rfl, hb2⟩
        replace hb := hb.next hb2
        replace hV1 := hV1.below hb2
        replace hV2 := hV2.below hb2
        replace hT := hT.below hb2
        try clear q0 q1 q2 q3
        obtain ⟨q0, q1, q2, q3⟩ := hT.four
        clear hb2
        go_wp2_with fail
        go_roundw
        case rel => exact ⟨1, by omega, rfl, hb, hV1, hV2⟩
        case measure => simp [intOf]
    · rw [show ((1 : Nat) : Int) = 1 from rfl]
      by_cases ho : 0 < c ∧ c ≤ d
      · have HO := Lib.hid (fun W => old_any 0 b c d (.slice none 0 0) ⟨_, _, _, rfl⟩ true (old_yes ho.1 ho.2) W)
        have HS := Lib.hid (fun W => seen_any 0 b c d (.slice none 0 0) ⟨_, _, _, rfl⟩ false (seen_no2 ho.1 ho.2) W)
        by_cases h60 : d < 1152921504606846976
        · have HT := Lib.hid (fun W => seen_any 0 b c (d + 1) (.slice none 0 0) ⟨_, _, _, rfl⟩ false (seen_no2 ho.1 (by omega)) W)
          clear ho
          obtain ⟨m0, m1, m2, m3⟩ := hV1.four
          obtain ⟨n0, n1, n2, n3⟩ := hV2.four
          have hT := Blk.new (wr.alloc (.cells #[.int .i64 0, .int .i64 a, .int .i64 b, .slice none 0 0, .int .i64 0, .int .i64 b, .int .i64 c, .slice none 0 0] 25)) #[.int .i64 0, .int .i64 b, .int .i64 c, .slice none 0 0] 25
          simp only [World.size_alloc] at hT
          have hbl : Below wr.heap.size wr ((wr.alloc (.cells #[.int .i64 0, .int .i64 a, .int .i64 b, .slice none 0 0, .int .i64 0, .int .i64 b, .int .i64 c, .slice none 0 0] 25)).alloc (.cells #[.int .i64 0, .int .i64 b, .int .i64 c, .slice none 0 0] 25)) := ((Below.refl _ _).alloc (Nat.le_refl _) _).alloc (by simp) _
          replace hb := hb.next hbl
          replace hV1 := hV1.below hbl
          replace hV2 := hV2.below hbl
          clear hbl
          go_wp2_with fail
          refine (HO.out _).mono ?_
          rintro x w4 ⟨rfl, hb2⟩
          replace hb := hb.next hb2
          replace hV1 := hV1.below hb2
          replace hV2 := hV2.below hb2
          replace hT := hT.below hb2
          try clear q0 q1 q2 q3
          obtain ⟨q0, q1, q2, q3⟩ := hT.four
          clear hb2
          go_wp2_with fail
          refine (HS.out _).mono ?_
          rintro x w5 ⟨rfl, hb2⟩
          replace hb := hb.next hb2
          replace hV1 := hV1.below hb2
          replace hV2 := hV2.below hb2
          replace hT := hT.below hb2
          try clear q0 q1 q2 q3
          obtain ⟨q0, q1, q2, q3⟩ := hT.four
          clear hb2
          go_wp2_with fail
          refine (HT.out _).mono ?_
          rintro x w6 ⟨rfl, hb2⟩
          replace hb := hb.next hb2
          replace hV1 := hV1.below hb2
          replace hV2 := hV2.below hb2
          replace hT := hT.below hb2
          try clear q0 q1 q2 q3
          obtain ⟨q0, q1, q2, q3⟩ := hT.four
          clear hb2
          go_wp2_with fail
          go_roundw
          case rel => exact ⟨2, by omega, rfl, hb, hV1, hV2⟩
          case measure => simp [intOf]
        · clear ho
          obtain ⟨m0, m1, m2, m3⟩ := hV1.four
          obtain ⟨n0, n1, n2, n3⟩ := hV2.four
          have hT := Blk.new (wr.alloc (.cells #[.int .i64 0, .int .i64 a, .int .i64 b, .slice none 0 0, .int .i64 0, .int .i64 b, .int .i64 c, .slice none 0 0] 25)) #[.int .i64 0, .int .i64 b, .int .i64 c, .slice none 0 0] 25
          simp only [World.size_alloc] at hT
          have hbl : Below wr.heap.size wr ((wr.alloc (.cells #[.int .i64 0, .int .i64 a, .int .i64 b, .slice none 0 0, .int .i64 0, .int .i64 b, .int .i64 c, .slice none 0 0] 25)).alloc (.cells #[.int .i64 0, .int .i64 b, .int .i64 c, .slice none 0 0] 25)) := ((Below.refl _ _).alloc (Nat.le_refl _) _).alloc (by simp) _
          replace hb := hb.next hbl
          replace hV1 := hV1.below hbl
          replace hV2 := hV2.below hbl
          clear hbl
          go_wp2_with fail
          refine (HO.out _).mono ?_
          rintro x w4 ⟨rfl, hb2⟩
          replace hb := hb.next hb2
          replace hV1 := hV1.below hb2
          replace hV2 := hV2.below hb2
          replace hT := hT.below hb2
          try clear q0 q1 q2 q3
          obtain ⟨q0, q1, q2, q3⟩ := hT.four
          clear hb2
          go_wp2_with fail
          refine (HS.out _).mono ?_
          rintro x w5 ⟨rfl, hb2⟩
          replace hb := hb.next hb2
          replace hV1 := hV1.below hb2
          replace hV2 := hV2.below hb2
          replace hT := hT.below hb2
          try clear q0 q1 q2 q3
          obtain ⟨q0, q1, q2, q3⟩ := hT.four
          clear hb2
          go_wp2_with fail
          go_roundw
          case rel => exact ⟨2, by omega, rfl, hb, hV1, hV2⟩
          case measure => simp [intOf]
      · have HO := Lib.hid (fun W => old_any 0 b c d (.slice none 0 0) ⟨_, _, _, rfl⟩ false (old_no ho) W)
        clear ho
        obtain ⟨m0, m1, m2, m3⟩ := hV1.four
        obtain ⟨n0, n1, n2, n3⟩ := hV2.four
        have hT := Blk.new (wr.alloc (.cells #[.int .i64 0, .int .i64 a, .int .i64 b, .slice none 0 0, .int .i64 0, .int .i64 b, .int .i64 c, .slice none 0 0] 25)) #[.int .i64 0, .int .i64 b, .int .i64 c, .slice none 0 0] 25
        simp only [World.size_alloc] at hT
        have hbl : Below wr.heap.size wr ((wr.alloc (.cells #[.int .i64 0, .int .i64 a, .int .i64 b, .slice none 0 0, .int .i64 0, .int .i64 b, .int .i64 c, .slice none 0 0] 25)).alloc (.cells #[.int .i64 0, .int .i64 b, .int .i64 c, .slice none 0 0] 25)) := ((Below.refl _ _).alloc (Nat.le_refl _) _).alloc (by simp) _
        replace hb := hb.next hbl
        replace hV1 := hV1.below hbl
        replace hV2 := hV2.below hbl
        clear hbl
        go_wp2_with fail
        refine (HO.out _).mono ?_
        rintro x w4 ⟨rfl, hb2⟩
        replace hb := hb.next hb2
        replace hV1 := hV1.below hb2
        replace hV2 := hV2.below hb2
        replace hT := hT.below hb2
        try clear q0 q1 q2 q3
        obtain ⟨q0, q1, q2, q3⟩ := hT.four
        clear hb2
        go_wp2_with fail
        go_roundw
        case rel => exact ⟨2, by omega, rfl, hb, hV1, hV2⟩
        case measure => simp [intOf]
    · rw [show ((2 : Nat) : Int) = 2 from rfl]
      go_wp2_with fail
      refine (HA.out _).mono ?_
      rintro x w1 ⟨rfl, hb1⟩
      replace hb := hb.next hb1
      go_wp2_with fail
      go_ret
      exact ⟨rfl, hb⟩
set_option maxRecDepth 100000 in
set_option maxHeartbeats 4000000 in
theorem turns_c3c (a b c d : Int) (w : World) (hd1 : -9223372036854775808 ≤ d) (hd2 : d ≤ 9223372036854775807) (h1 : a < b) (h2 : 0 < b) (p1 : a ≤ d) (p2 : ¬ d < b) (p3 : c ≠ 0) (p4 : ¬ d < c) : Calls Try.prog 6 #[.agg #[.int .i64 a, .int .i64 b, .int .i64 c, .int .i64 d]] w (Ret (.bool true) w) := by
  have g1 : decide (b ≤ a) = false := decide_eq_false (by omega)
  have g2 : decide (b ≤ 0) = false := decide_eq_false (by omega)
  have S1 := Lib.hid (fun W => seen_any 0 a b d (.slice none 0 0) ⟨_, _, _, rfl⟩ false (seen_no2 h2 (by omega)) W)
  have S2 := Lib.hid (fun W => seen_any 0 b c d (.slice none 0 0) ⟨_, _, _, rfl⟩ false (seen_no3 p3 p4) W)
  have t3 : (c == 0) = false := by rw [beq_eq_false_iff_ne]; exact p3
  have t4 : decide (d < c) = false := decide_eq_false p4
  have HA := Lib.hid awake50
  have hB := Blk.new w #[.int .i64 a, .int .i64 b, .int .i64 c, .int .i64 d] 45
  have hb : Below w.heap.size w (w.alloc (.cells #[.int .i64 a, .int .i64 b, .int .i64 c, .int .i64 d] 45)) := (Below.refl _ _).alloc (Nat.le_refl _) _
  obtain ⟨c0, c1, c2, c3⟩ := hB.four
  go_enter Try.func6, Try.ntmps6
  go_wp2
  go_quiet (fail)
  clear c0 c1 c2 c3 hB
  go_wp2_with fail
  obtain ⟨W, hW⟩ : ∃ W, ((((w.alloc (.cells #[.int .i64 a, .int .i64 b, .int .i64 c, .int .i64 d] 45)).drewN nq).alloc (.cells #[.int .i64 0, .int .i64 a, .int .i64 b, .slice none 0 0] 25)).alloc (.cells #[.int .i64 0, .int .i64 b, .int .i64 c, .slice none 0 0] 25)) = W := ⟨_, rfl⟩
  have hV1 := (Blk.new ((w.alloc (.cells #[.int .i64 a, .int .i64 b, .int .i64 c, .int .i64 d] 45)).drewN nq) #[.int .i64 0, .int .i64 a, .int .i64 b, .slice none 0 0] 25).alloc (.cells #[.int .i64 0, .int .i64 b, .int .i64 c, .slice none 0 0] 25)
  have hV2 := Blk.new (((w.alloc (.cells #[.int .i64 a, .int .i64 b, .int .i64 c, .int .i64 d] 45)).drewN nq).alloc (.cells #[.int .i64 0, .int .i64 a, .int .i64 b, .slice none 0 0] 25)) #[.int .i64 0, .int .i64 b, .int .i64 c, .slice none 0 0] 25
  simp only [World.size_alloc, World.heap_drewN] at hV1 hV2
  replace hb := ((hb.drewN nq).alloc (by simp) (.cells #[.int .i64 0, .int .i64 a, .int .i64 b, .slice none 0 0] 25)).alloc (by simp; omega) (.cells #[.int .i64 0, .int .i64 b, .int .i64 c, .slice none 0 0] 25)
  rw [hW] at hV1 hV2 hb ⊢
  clear hW
  obtain ⟨m0, m1, m2, m3⟩ := hV1.four
  obtain ⟨n0, n1, n2, n3⟩ := hV2.four
  have e0 : ∀ p' : Regrown, (grow (redrawn W p'.d) p'.os).cell? ⟨w.heap.size + 1, 0, none⟩ = some (.int .i64 0) := fun r => cell_regrown m0 r.d r.os
  have e1 : ∀ p' : Regrown, (grow (redrawn W p'.d) p'.os).cell? ⟨w.heap.size + 1, 1, none⟩ = some (.int .i64 a) := fun r => cell_regrown m1 r.d r.os
  have e2 : ∀ p' : Regrown, (grow (redrawn W p'.d) p'.os).cell? ⟨w.heap.size + 1, 2, none⟩ = some (.int .i64 b) := fun r => cell_regrown m2 r.d r.os
  have e3 : ∀ p' : Regrown, (grow (redrawn W p'.d) p'.os).cell? ⟨w.heap.size + 1, 3, none⟩ = some (.slice none 0 0) := fun r => cell_regrown m3 r.d r.os
  have j0 : ∀ p' : Regrown, (grow (redrawn W p'.d) p'.os).cell? ⟨w.heap.size + 1 + 1, 0, none⟩ = some (.int .i64 0) := fun r => cell_regrown n0 r.d r.os
  have j1 : ∀ p' : Regrown, (grow (redrawn W p'.d) p'.os).cell? ⟨w.heap.size + 1 + 1, 1, none⟩ = some (.int .i64 b) := fun r => cell_regrown n1 r.d r.os
  have j2 : ∀ p' : Regrown, (grow (redrawn W p'.d) p'.os).cell? ⟨w.heap.size + 1 + 1, 2, none⟩ = some (.int .i64 c) := fun r => cell_regrown n2 r.d r.os
  have j3 : ∀ p' : Regrown, (grow (redrawn W p'.d) p'.os).cell? ⟨w.heap.size + 1 + 1, 3, none⟩ = some (.slice none 0 0) := fun r => cell_regrown n3 r.d r.os
  clear m0 m1 m2 m3 n0 n1 n2 n3
  refine wp_region_quiet_below (by kernel_rfl) (by kernel_rfl) ?_
  repeat (go_big_quiet_step (first | (go_at_call 14; with_reducible exact Ret.regrown (S1.out _)) | (go_at_call 14; with_reducible exact Ret.regrown (S2.out _))))
  refine wpQuiet_nil ?_
  intro w2 hw2
  have hb2 := below_of_regrown hw2
  clear hw2 e0 e1 e2 e3 j0 j1 j2 j3
  replace hV1 := hV1.below hb2
  replace hV2 := hV2.below hb2
  replace hb := hb.next hb2
  clear hb2
  go_wp2_with fail
  go_loopw [12] (fun i wr => ∃ k : Nat, k ≤ 2 ∧ i = .int .i64 k ∧ Below w.heap.size w wr ∧ Blk wr (w.heap.size + 1) #[.int .i64 0, .int .i64 a, .int .i64 b, .slice none 0 0] 25 ∧ Blk wr (w.heap.size + 1 + 1) #[.int .i64 0, .int .i64 b, .int .i64 c, .slice none 0 0] 25) (fun i _ => 2 - (intOf i).toNat)
  case atStart => exact ⟨0, by omega, rfl, hb, hV1, hV2⟩
  case round =>
    clear hb hV1 hV2
    obtain ⟨k, hk, rfl, hb, hV1, hV2⟩ := hrel
    have hk3 : k = 0 ∨ k = 1 ∨ k = 2 := by omega
    rcases hk3 with rfl | rfl | rfl
    · rw [show ((0 : Nat) : Int) = 0 from rfl]
      by_cases ho : 0 < b ∧ b ≤ d
      · have HO := Lib.hid (fun W => old_any 0 a b d (.slice none 0 0) ⟨_, _, _, rfl⟩ true (old_yes ho.1 ho.2) W)
        have HS := Lib.hid (fun W => seen_any 0 a b d (.slice none 0 0) ⟨_, _, _, rfl⟩ false (seen_no2 ho.1 ho.2) W)
        by_cases h60 : d < 1152921504606846976
        · have HT := Lib.hid (fun W => seen_any 0 a b (d + 1) (.slice none 0 0) ⟨_, _, _, rfl⟩ false (seen_no2 ho.1 (by omega)) W)
          clear ho
          obtain ⟨m0, m1, m2, m3⟩ := hV1.four
          obtain ⟨n0, n1, n2, n3⟩ := hV2.four
          have hT := Blk.new (wr.alloc (.cells #[.int .i64 0, .int .i64 a, .int .i64 b, .slice none 0 0, .int .i64 0, .int .i64 b, .int .i64 c, .slice none 0 0] 25)) #[.int .i64 0, .int .i64 a, .int .i64 b, .slice none 0 0] 25
          simp only [World.size_alloc] at hT
          have hbl : Below wr.heap.size wr ((wr.alloc (.cells #[.int .i64 0, .int .i64 a, .int .i64 b, .slice none 0 0, .int .i64 0, .int .i64 b, .int .i64 c, .slice none 0 0] 25)).alloc (.cells #[.int .i64 0, .int .i64 a, .int .i64 b, .slice none 0 0] 25)) := ((Below.refl _ _).alloc (Nat.le_refl _) _).alloc (by simp) _
          replace hb := hb.next hbl
          replace hV1 := hV1.below hbl
          replace hV2 := hV2.below hbl
          clear hbl
          go_wp2_with fail
          refine (HO.out _).mono ?_
          rintro x w4 ⟨rfl, hb2⟩
          replace hb := hb.next hb2
          replace hV1 := hV1.below hb2
          replace hV2 := hV2.below hb2
          replace hT := hT.below hb2
          try clear q0 q1 q2 q3
          obtain ⟨q0, q1, q2, q3⟩ := hT.four
          clear hb2
          go_wp2_with fail
          refine (HS.out _).mono ?_
          rintro x w5 ⟨rfl, hb2⟩
          replace hb := hb.next hb2
          replace hV1 := hV1.below hb2
          replace hV2 := hV2.below hb2
          replace hT := hT.below hb2
          try clear q0 q1 q2 q3
          obtain ⟨q0, q1, q2, q3⟩ := hT.four
          clear hb2
          go_wp2_with fail
          refine (HT.out _).mono ?_
          rintro x w6 ⟨rfl, hb2⟩
          replace hb := hb.next hb2
          replace hV1 := hV1.below hb2
          replace hV2 := hV2.below hb2
          replace hT := hT.below hb2
          try clear q0 q1 q2 q3
          obtain ⟨q0, q1, q2, q3⟩ := hT.four
          clear hb2
          go_wp2_with fail
          go_roundw
          case rel => exact ⟨1, by omega, rfl, hb, hV1, hV2⟩
          case measure => simp [intOf]
        · clear ho
          obtain ⟨m0, m1, m2, m3⟩ := hV1.four
          obtain ⟨n0, n1, n2, n3⟩ := hV2.four
          have hT := Blk.new (wr.alloc (.cells #[.int .i64 0, .int .i64 a, .int .i64 b, .slice none 0 0, .int .i64 0, .int .i64 b, .int .i64 c, .slice none 0 0] 25)) #[.int .i64 0, .int .i64 a, .int .i64 b, .slice none 0 0] 25
          simp only [World.size_alloc] at hT
          have hbl : Below wr.heap.size wr ((wr.alloc (.cells #[.int .i64 0, .int .i64 a, .int .i64 b, .slice none 0 0, .int .i64 0, .int .i64 b, .int .i64 c, .slice none 0 0] 25)).alloc (.cells #[.int .i64 0, .int .i64 a, .int .i64 b, .slice none 0 0] 25)) := ((Below.refl _ _).alloc (Nat.le_refl _) _).alloc (by simp) _
          replace hb := hb.next hbl
          replace hV1 := hV1.below hbl
          replace hV2 := hV2.below hbl
          clear hbl
          go_wp2_with fail
          refine (HO.out _).mono ?_
          rintro x w4 ⟨rfl, hb2⟩
          replace hb := hb.next hb2
          replace hV1 := hV1.below hb2
          replace hV2 := hV2.below hb2
          replace hT := hT.below hb2
          try clear q0 q1 q2 q3
          obtain ⟨q0, q1, q2, q3⟩ := hT.four
          clear hb2
          go_wp2_with fail
          refine (HS.out _).mono ?_
          rintro x w5 ⟨rfl, hb2⟩
          replace hb := hb.next hb2
          replace hV1 := hV1.below hb2
          replace hV2 := hV2.below hb2
          replace hT := hT.below hb2
          try clear q0 q1 q2 q3
          obtain ⟨q0, q1, q2, q3⟩ := hT.four
          clear hb2
          go_wp2_with fail
          go_roundw
          case rel => exact ⟨1, by omega, rfl, hb, hV1, hV2⟩
          case measure => simp [intOf]
      · have HO := Lib.hid (fun W => old_any 0 a b d (.slice none 0 0) ⟨_, _, _, rfl⟩ false (old_no ho) W)
        clear ho
        obtain ⟨m0, m1, m2, m3⟩ := hV1.four
        obtain ⟨n0, n1, n2, n3⟩ := hV2.four
        have hT := Blk.new (wr.alloc (.cells #[.int .i64 0, .int .i64 a, .int .i64 b, .slice none 0 0, .int .i64 0, .int .i64 b, .int .i64 c, .slice none 0 0] 25)) #[.int .i64 0, .int .i64 a, .int .i64 b, .slice none 0 0] 25
        simp only [World.size_alloc] at hT
        have hbl : Below wr.heap.size wr ((wr.alloc (.cells #[.int .i64 0, .int .i64 a, .int .i64 b, .slice none 0 0, .int .i64 0, .int .i64 b, .int .i64 c, .slice none 0 0] 25)).alloc (.cells #[.int .i64 0, .int .i64 a, .int .i64 b, .slice none 0 0] 25)) := ((Below.refl _ _).alloc (Nat.le_refl _) _).alloc (by simp) _
        replace hb := hb.next hbl
        replace hV1 := hV1.below hbl
        replace hV2 := hV2.below hbl
        clear hbl
        go_wp2_with fail
        refine (HO.out _).mono ?_
        rintro x w4 ⟨rfl, hb2⟩
        replace hb := hb.next hb2
        replace hV1 := hV1.below hb2
        replace hV2 := hV2.below hb2
        replace hT := hT.below hb2
        try clear q0 q1 q2 q3
        obtain ⟨q0, q1, q2, q3⟩ := hT.four
        clear hb2
        go_wp2_with fail
        go_roundw
        case rel => exact ⟨1, by omega, rfl, hb, hV1, hV2⟩
        case measure => simp [intOf]
    · rw [show ((1 : Nat) : Int) = 1 from rfl]
      by_cases ho : 0 < c ∧ c ≤ d
      · have HO := Lib.hid (fun W => old_any 0 b c d (.slice none 0 0) ⟨_, _, _, rfl⟩ true (old_yes ho.1 ho.2) W)
        have HS := Lib.hid (fun W => seen_any 0 b c d (.slice none 0 0) ⟨_, _, _, rfl⟩ false (seen_no2 ho.1 ho.2) W)
        by_cases h60 : d < 1152921504606846976
        · have HT := Lib.hid (fun W => seen_any 0 b c (d + 1) (.slice none 0 0) ⟨_, _, _, rfl⟩ false (seen_no2 ho.1 (by omega)) W)
          clear ho
          obtain ⟨m0, m1, m2, m3⟩ := hV1.four
          obtain ⟨n0, n1, n2, n3⟩ := hV2.four
          have hT := Blk.new (wr.alloc (.cells #[.int .i64 0, .int .i64 a, .int .i64 b, .slice none 0 0, .int .i64 0, .int .i64 b, .int .i64 c, .slice none 0 0] 25)) #[.int .i64 0, .int .i64 b, .int .i64 c, .slice none 0 0] 25
          simp only [World.size_alloc] at hT
          have hbl : Below wr.heap.size wr ((wr.alloc (.cells #[.int .i64 0, .int .i64 a, .int .i64 b, .slice none 0 0, .int .i64 0, .int .i64 b, .int .i64 c, .slice none 0 0] 25)).alloc (.cells #[.int .i64 0, .int .i64 b, .int .i64 c, .slice none 0 0] 25)) := ((Below.refl _ _).alloc (Nat.le_refl _) _).alloc (by simp) _
          replace hb := hb.next hbl
          replace hV1 := hV1.below hbl
          replace hV2 := hV2.below hbl
          clear hbl
          go_wp2_with fail
          refine (HO.out _).mono ?_
          rintro x w4 ⟨rfl, hb2⟩
          replace hb := hb.next hb2
          replace hV1 := hV1.below hb2
          replace hV2 := hV2.below hb2
          replace hT := hT.below hb2
          try clear q0 q1 q2 q3
          obtain ⟨q0, q1, q2, q3⟩ := hT.four
          clear hb2
          go_wp2_with fail
          refine (HS.out _).mono ?_
          rintro x w5 ⟨rfl, hb2⟩
          replace hb := hb.next hb2
          replace hV1 := hV1.below hb2
          replace hV2 := hV2.below hb2
          replace hT := hT.below hb2
          try clear q0 q1 q2 q3
          obtain ⟨q0, q1, q2, q3⟩ := hT.four
          clear hb2
          go_wp2_with fail
          refine (HT.out _).mono ?_
          rintro x w6 ⟨rfl, hb2⟩
          replace hb := hb.next hb2
          replace hV1 := hV1.below hb2
          replace hV2 := hV2.below hb2
          replace hT := hT.below hb2
          try clear q0 q1 q2 q3
          obtain ⟨q0, q1, q2, q3⟩ := hT.four
          clear hb2
          go_wp2_with fail
          go_roundw
          case rel => exact ⟨2, by omega, rfl, hb, hV1, hV2⟩
          case measure => simp [intOf]
        · clear ho
          obtain ⟨m0, m1, m2, m3⟩ := hV1.four
          obtain ⟨n0, n1, n2, n3⟩ := hV2.four
          have hT := Blk.new (wr.alloc (.cells #[.int .i64 0, .int .i64 a, .int .i64 b, .slice none 0 0, .int .i64 0, .int .i64 b, .int .i64 c, .slice none 0 0] 25)) #[.int .i64 0, .int .i64 b, .int .i64 c, .slice none 0 0] 25
          simp only [World.size_alloc] at hT
          have hbl : Below wr.heap.size wr ((wr.alloc (.cells #[.int .i64 0, .int .i64 a, .int .i64 b, .slice none 0 0, .int .i64 0, .int .i64 b, .int .i64 c, .slice none 0 0] 25)).alloc (.cells #[.int .i64 0, .int .i64 b, .int .i64 c, .slice none 0 0] 25)) := ((Below.refl _ _).alloc (Nat.le_refl _) _).alloc (by simp) _
          replace hb := hb.next hbl
          replace hV1 := hV1.below hbl
          replace hV2 := hV2.below hbl
          clear hbl
          go_wp2_with fail
          refine (HO.out _).mono ?_
          rintro x w4 ⟨rfl, hb2⟩
          replace hb := hb.next hb2
          replace hV1 := hV1.below hb2
          replace hV2 := hV2.below hb2
          replace hT := hT.below hb2
          try clear q0 q1 q2 q3
          obtain ⟨q0, q1, q2, q3⟩ := hT.four
          clear hb2
          go_wp2_with fail
          refine (HS.out _).mono ?_
          rintro x w5 ⟨rfl, hb2⟩
          replace hb := hb.next hb2
          replace hV1 := hV1.below hb2
          replace hV2 := hV2.below hb2
          replace hT := hT.below hb2
          try clear q0 q1 q2 q3
          obtain ⟨q0, q1, q2, q3⟩ := hT.four
          clear hb2
          go_wp2_with fail
          go_roundw
          case rel => exact ⟨2, by omega, rfl, hb, hV1, hV2⟩
          case measure => simp [intOf]
      · have HO := Lib.hid (fun W => old_any 0 b c d (.slice none 0 0) ⟨_, _, _, rfl⟩ false (old_no ho) W)
        clear ho
        obtain ⟨m0, m1, m2, m3⟩ := hV1.four
        obtain ⟨n0, n1, n2, n3⟩ := hV2.four
        have hT := Blk.new (wr.alloc (.cells #[.int .i64 0, .int .i64 a, .int .i64 b, .slice none 0 0, .int .i64 0, .int .i64 b, .int .i64 c, .slice none 0 0] 25)) #[.int .i64 0, .int .i64 b, .int .i64 c, .slice none 0 0] 25
        simp only [World.size_alloc] at hT
        have hbl : Below wr.heap.size wr ((wr.alloc (.cells #[.int .i64 0, .int .i64 a, .int .i64 b, .slice none 0 0, .int .i64 0, .int .i64 b, .int .i64 c, .slice none 0 0] 25)).alloc (.cells #[.int .i64 0, .int .i64 b, .int .i64 c, .slice none 0 0] 25)) := ((Below.refl _ _).alloc (Nat.le_refl _) _).alloc (by simp) _
        replace hb := hb.next hbl
        replace hV1 := hV1.below hbl
        replace hV2 := hV2.below hbl
        clear hbl
        go_wp2_with fail
        refine (HO.out _).mono ?_
        rintro x w4 ⟨rfl, hb2⟩
        replace hb := hb.next hb2
        replace hV1 := hV1.below hb2
        replace hV2 := hV2.below hb2
        replace hT := hT.below hb2
        try clear q0 q1 q2 q3
        obtain ⟨q0, q1, q2, q3⟩ := hT.four
        clear hb2
        go_wp2_with fail
        go_roundw
        case rel => exact ⟨2, by omega, rfl, hb, hV1, hV2⟩
        case measure => simp [intOf]
    · rw [show ((2 : Nat) : Int) = 2 from rfl]
      go_wp2_with fail
      refine (HA.out _).mono ?_
      rintro x w1 ⟨rfl, hb1⟩
      replace hb := hb.next hb1
      go_wp2_with fail
      go_ret
      exact ⟨rfl, hb⟩
theorem walk_VersionTurns (a b c d : Int) (w : World) (hd1 : -9223372036854775808 ≤ d) (hd2 : d ≤ 9223372036854775807) : Calls Try.prog 6 #[.agg #[.int .i64 a, .int .i64 b, .int .i64 c, .int .i64 d]] w (Ret (.bool true) w) := by
  by_cases h1 : b ≤ a
  · exact turns_out1 a b c d w hd1 hd2 h1
  · by_cases h2 : b ≤ 0
    · exact turns_out2 a b c d w hd1 hd2 h1 h2
    · by_cases p1 : a ≤ d
      · by_cases p2 : d < b
        · by_cases p3 : c = 0
          · exact turns_c2a a b c d w hd1 hd2 (by omega) (by omega) p1 p2 p3
          · by_cases p4 : d < c
            · exact turns_c2b a b c d w hd1 hd2 (by omega) (by omega) p1 p2 p3 p4
            · exact turns_c2c a b c d w hd1 hd2 (by omega) (by omega) p1 p2 p3 p4
        · by_cases p3 : c = 0
          · exact turns_c3a a b c d w hd1 hd2 (by omega) (by omega) p1 p2 p3
          · by_cases p4 : d < c
            · exact turns_c3b a b c d w hd1 hd2 (by omega) (by omega) p1 p2 p3 p4
            · exact turns_c3c a b c d w hd1 hd2 (by omega) (by omega) p1 p2 p3 p4
      · exact turns_c1 a b c d w hd1 hd2 (by omega) (by omega) p1
end Go.Proofs.Ytcboeggfincakaa
