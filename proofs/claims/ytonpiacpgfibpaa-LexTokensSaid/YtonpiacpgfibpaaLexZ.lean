/- lex: sign: what it answers. -/
import Derived.Test.YtonpiacpgfibpaaLexY
import Derived.Deep.CutRange
namespace Go.Proofs.Ytonpiacpgfibpaa.Lex
set_option linter.unusedVariables false
set_option linter.unusedSimpArgs false
open Go.RowKit
open Oct (S S_size S_data)
open Lib (indexByte)
theorem signF_0 {c : UInt8} {r : List UInt8} (h : signN c (r.headD 0) = 0) : signF c r = bad 2 := by
  unfold signF; simp only [h]; rfl
theorem signF_z {c : UInt8} {r : List UInt8} {z : Nat} (h : signN c (r.headD 0) = z) (h0 : z ≠ 0) : signF c r = ⟨5, z, 0, (c :: r).take z, 0⟩ := by
  unfold signF; simp only [h, h0]; rfl
set_option maxHeartbeats 16000000 in
theorem sign_any (l : List UInt8) (a : Nat) (w : World) (ha : a < l.length) (hl : l.length ≤ 100000) : Calls Try.prog 27 #[.string (S l), .int .i64 (a : Int)] w (PcR (signF l[a] (l.drop (a + 1))) a w) := by
  have hsz := S_size l
  have hc0 : a < (S l).size := by omega
  have hce : (((S l)[a]'hc0).toNat : Int) = (l[a]).toNat := by rw [S_at l a ha]
  have hd := List.drop_eq_getElem_cons ha
  have hcut : ∀ j, a + j ≤ l.length → (S l).extract a (a + j) = S ((l.drop a).take j) := fun j hj => by
    rw [S_cut l a (a + j) hj]; congr 2; omega
  have hC1 : a + 1 ≤ l.length → (S l).extract a (a + 1) = S ((l.drop a).take 1) := hcut 1
  have hC2 : a + 2 ≤ l.length → (S l).extract a (a + 2) = S ((l.drop a).take 2) := hcut 2
  have ha0 : (0 : Int) ≤ a := by omega
  have ha1 : (a : Int) < l.length := by omega
  have ha2 : (a : Int) + 1 ≤ l.length := by omega
  obtain ⟨c, hcc⟩ : ∃ c, l[a] = c := ⟨_, rfl⟩
  rw [hcc] at hd hce ⊢
  obtain ⟨d, hdd⟩ : ∃ d, (l.drop (a + 1)).headD 0 = d := ⟨_, rfl⟩
  obtain ⟨hv, hb⟩ := tnew w
  have hs0 : signN c d = 0 → signF c (l.drop (a + 1)) = bad 2 := fun h => signF_0 (by rw [hdd]; exact h)
  have hsz2 : ∀ z, signN c d = z → z ≠ 0 → signF c (l.drop (a + 1)) = ⟨5, z, 0, (l.drop a).take z, 0⟩ := fun z h h0 => by rw [hd]; exact signF_z (by rw [hdd]; exact h) h0
  have hnx : (a + 1 < l.length → ∃ h : a + 1 < (S l).size, (((S l)[a + 1]'h).toNat : Int) = d.toNat) ∧ (¬ a + 1 < l.length → d = 0) := by
    constructor
    · intro h
      refine ⟨by omega, ?_⟩
      rw [S_at l (a + 1) h]
      rw [List.drop_eq_getElem_cons h, List.headD_cons] at hdd
      rw [hdd]
    · intro h
      rw [List.drop_of_length_le (by omega)] at hdd
      exact hdd.symm
  generalize signF c (l.drop (a + 1)) = p at *
  clear hd hcc hdd hcut
  have HL := Lib.hid hl
  by_cases hlt : a + 1 < l.length
  · skip
    obtain ⟨hc1, hde⟩ := hnx.1 hlt
    have ha3 : (a : Int) + 1 < l.length := by omega
    have ha4 : (a : Int) + 2 ≤ l.length := by omega
    have hE1 := Lib.hid (hC1 (by omega))
    have hE2 := Lib.hid (hC2 (by omega))
    clear hnx hC1 hC2 hlt
    go_enter Try.func27, Try.ntmps27
    go_upto_region 4 with fail
    generalize hW : (w.alloc (.cells #[.int .i64 0, .int .i64 0, .int .i64 0, .int .i64 0, .string ⟨#[]⟩] 24)) = W0 at hv hb ⊢
    clear hW
    obtain ⟨z0, z1, z2, z3, z4, f0, f1, f2, f3, f4⟩ := tval hv
    rcases signN_cases c d with ⟨rfl, hD, hN⟩ | ⟨rfl, hD, hN⟩ | ⟨rfl, hD, hN⟩ | ⟨rfl, hD, hN⟩ | ⟨rfl, hD, hD2, hN⟩ | ⟨rfl, hD, hN⟩ | ⟨rfl, hD, hN⟩ | ⟨_, _, _, hA, hN⟩ | ⟨k1, k2, k3, k4, k5, k6, k7, k8, k9, k10, k11, k12, k13, k14, hN⟩
    · obtain rfl := hsz2 2 hN (by decide)
      replace hce : (((S l)[a]'hc0).toNat : Int) = 124 := hce
      have hdl : (d.toNat : Int) = 124 := by rw [hD]; rfl
      rw [hdl]
      clear hdl
      clear hs0 hsz2 hN hD
      go_wp2_with fail
      rw [hE2.out]
      obtain ⟨hbE, e0, e1, e2, e3, e4⟩ := tfin hv hb (Nat.le_refl _) (.int .i64 5) (.int .i64 (a : Int)) (.int .i64 2) (.int .i64 0) (.string (S ((l.drop a).take 2)))
      exact bodyPost_ret (v := .tuple #[.agg #[.int .i64 5, .int .i64 (a : Int), .int .i64 2, .int .i64 0, .string (S ((l.drop a).take 2))], .int .i64 0]) (by simp [results, Try.results27, go_sem, e0, e1, e2, e3, e4]) rfl ⟨rfl, hbE⟩
    · obtain rfl := hs0 hN
      replace hce : (((S l)[a]'hc0).toNat : Int) = 124 := hce
      have m0 := neq8 hD
      simp only [show ((124 : UInt8).toNat : Int) = 124 from rfl, show ((62 : UInt8).toNat : Int) = 62 from rfl, show ((61 : UInt8).toNat : Int) = 61 from rfl] at m0
      clear hs0 hsz2 hN hD
      go_wp2_with fail
      obtain ⟨hbE, e0, e1, e2, e3, e4⟩ := tfin hv hb (Nat.le_refl _) (.int .i64 0) (.int .i64 (a : Int)) (.int .i64 0) (.int .i64 0) (.string ⟨#[]⟩)
      exact bodyPost_ret (v := .tuple #[.agg #[.int .i64 0, .int .i64 (a : Int), .int .i64 0, .int .i64 0, .string ⟨#[]⟩], .int .i64 2]) (by simp [results, Try.results27, go_sem, e0, e1, e2, e3, e4]) rfl ⟨rfl, hbE⟩
    · obtain rfl := hsz2 2 hN (by decide)
      replace hce : (((S l)[a]'hc0).toNat : Int) = 60 := hce
      have hdl : (d.toNat : Int) = 62 := by rw [hD]; rfl
      rw [hdl]
      clear hdl
      clear hs0 hsz2 hN hD
      go_wp2_with fail
      rw [hE2.out]
      obtain ⟨hbE, e0, e1, e2, e3, e4⟩ := tfin hv hb (Nat.le_refl _) (.int .i64 5) (.int .i64 (a : Int)) (.int .i64 2) (.int .i64 0) (.string (S ((l.drop a).take 2)))
      exact bodyPost_ret (v := .tuple #[.agg #[.int .i64 5, .int .i64 (a : Int), .int .i64 2, .int .i64 0, .string (S ((l.drop a).take 2))], .int .i64 0]) (by simp [results, Try.results27, go_sem, e0, e1, e2, e3, e4]) rfl ⟨rfl, hbE⟩
    · obtain rfl := hsz2 2 hN (by decide)
      replace hce : (((S l)[a]'hc0).toNat : Int) = 60 := hce
      have hdl : (d.toNat : Int) = 61 := by rw [hD]; rfl
      rw [hdl]
      clear hdl
      clear hs0 hsz2 hN hD
      go_wp2_with fail
      rw [hE2.out]
      obtain ⟨hbE, e0, e1, e2, e3, e4⟩ := tfin hv hb (Nat.le_refl _) (.int .i64 5) (.int .i64 (a : Int)) (.int .i64 2) (.int .i64 0) (.string (S ((l.drop a).take 2)))
      exact bodyPost_ret (v := .tuple #[.agg #[.int .i64 5, .int .i64 (a : Int), .int .i64 2, .int .i64 0, .string (S ((l.drop a).take 2))], .int .i64 0]) (by simp [results, Try.results27, go_sem, e0, e1, e2, e3, e4]) rfl ⟨rfl, hbE⟩
    · obtain rfl := hsz2 1 hN (by decide)
      replace hce : (((S l)[a]'hc0).toNat : Int) = 60 := hce
      have m0 := neq8 hD
      have m1 := neq8 hD2
      simp only [show ((124 : UInt8).toNat : Int) = 124 from rfl, show ((62 : UInt8).toNat : Int) = 62 from rfl, show ((61 : UInt8).toNat : Int) = 61 from rfl] at m0 m1
      clear hs0 hsz2 hN hD hD2
      go_wp2_with fail
      rw [hE1.out]
      obtain ⟨hbE, e0, e1, e2, e3, e4⟩ := tfin hv hb (Nat.le_refl _) (.int .i64 5) (.int .i64 (a : Int)) (.int .i64 1) (.int .i64 0) (.string (S ((l.drop a).take 1)))
      exact bodyPost_ret (v := .tuple #[.agg #[.int .i64 5, .int .i64 (a : Int), .int .i64 1, .int .i64 0, .string (S ((l.drop a).take 1))], .int .i64 0]) (by simp [results, Try.results27, go_sem, e0, e1, e2, e3, e4]) rfl ⟨rfl, hbE⟩
    · obtain rfl := hsz2 2 hN (by decide)
      replace hce : (((S l)[a]'hc0).toNat : Int) = 62 := hce
      have hdl : (d.toNat : Int) = 61 := by rw [hD]; rfl
      rw [hdl]
      clear hdl
      clear hs0 hsz2 hN hD
      go_wp2_with fail
      rw [hE2.out]
      obtain ⟨hbE, e0, e1, e2, e3, e4⟩ := tfin hv hb (Nat.le_refl _) (.int .i64 5) (.int .i64 (a : Int)) (.int .i64 2) (.int .i64 0) (.string (S ((l.drop a).take 2)))
      exact bodyPost_ret (v := .tuple #[.agg #[.int .i64 5, .int .i64 (a : Int), .int .i64 2, .int .i64 0, .string (S ((l.drop a).take 2))], .int .i64 0]) (by simp [results, Try.results27, go_sem, e0, e1, e2, e3, e4]) rfl ⟨rfl, hbE⟩
    · obtain rfl := hsz2 1 hN (by decide)
      replace hce : (((S l)[a]'hc0).toNat : Int) = 62 := hce
      have m0 := neq8 hD
      simp only [show ((124 : UInt8).toNat : Int) = 124 from rfl, show ((62 : UInt8).toNat : Int) = 62 from rfl, show ((61 : UInt8).toNat : Int) = 61 from rfl] at m0
      clear hs0 hsz2 hN hD
      go_wp2_with fail
      rw [hE1.out]
      obtain ⟨hbE, e0, e1, e2, e3, e4⟩ := tfin hv hb (Nat.le_refl _) (.int .i64 5) (.int .i64 (a : Int)) (.int .i64 1) (.int .i64 0) (.string (S ((l.drop a).take 1)))
      exact bodyPost_ret (v := .tuple #[.agg #[.int .i64 5, .int .i64 (a : Int), .int .i64 1, .int .i64 0, .string (S ((l.drop a).take 1))], .int .i64 0]) (by simp [results, Try.results27, go_sem, e0, e1, e2, e3, e4]) rfl ⟨rfl, hbE⟩
    · rcases hA with rfl | rfl | rfl | rfl | rfl | rfl | rfl | rfl | rfl | rfl | rfl
      · obtain rfl := hsz2 1 hN (by decide)
        replace hce : (((S l)[a]'hc0).toNat : Int) = 40 := hce
        clear hs0 hsz2 hN
        go_wp2_with fail
        rw [hE1.out]
        obtain ⟨hbE, e0, e1, e2, e3, e4⟩ := tfin hv hb (Nat.le_refl _) (.int .i64 5) (.int .i64 (a : Int)) (.int .i64 1) (.int .i64 0) (.string (S ((l.drop a).take 1)))
        exact bodyPost_ret (v := .tuple #[.agg #[.int .i64 5, .int .i64 (a : Int), .int .i64 1, .int .i64 0, .string (S ((l.drop a).take 1))], .int .i64 0]) (by simp [results, Try.results27, go_sem, e0, e1, e2, e3, e4]) rfl ⟨rfl, hbE⟩
      · obtain rfl := hsz2 1 hN (by decide)
        replace hce : (((S l)[a]'hc0).toNat : Int) = 41 := hce
        clear hs0 hsz2 hN
        go_wp2_with fail
        rw [hE1.out]
        obtain ⟨hbE, e0, e1, e2, e3, e4⟩ := tfin hv hb (Nat.le_refl _) (.int .i64 5) (.int .i64 (a : Int)) (.int .i64 1) (.int .i64 0) (.string (S ((l.drop a).take 1)))
        exact bodyPost_ret (v := .tuple #[.agg #[.int .i64 5, .int .i64 (a : Int), .int .i64 1, .int .i64 0, .string (S ((l.drop a).take 1))], .int .i64 0]) (by simp [results, Try.results27, go_sem, e0, e1, e2, e3, e4]) rfl ⟨rfl, hbE⟩
      · obtain rfl := hsz2 1 hN (by decide)
        replace hce : (((S l)[a]'hc0).toNat : Int) = 44 := hce
        clear hs0 hsz2 hN
        go_wp2_with fail
        rw [hE1.out]
        obtain ⟨hbE, e0, e1, e2, e3, e4⟩ := tfin hv hb (Nat.le_refl _) (.int .i64 5) (.int .i64 (a : Int)) (.int .i64 1) (.int .i64 0) (.string (S ((l.drop a).take 1)))
        exact bodyPost_ret (v := .tuple #[.agg #[.int .i64 5, .int .i64 (a : Int), .int .i64 1, .int .i64 0, .string (S ((l.drop a).take 1))], .int .i64 0]) (by simp [results, Try.results27, go_sem, e0, e1, e2, e3, e4]) rfl ⟨rfl, hbE⟩
      · obtain rfl := hsz2 1 hN (by decide)
        replace hce : (((S l)[a]'hc0).toNat : Int) = 46 := hce
        clear hs0 hsz2 hN
        go_wp2_with fail
        rw [hE1.out]
        obtain ⟨hbE, e0, e1, e2, e3, e4⟩ := tfin hv hb (Nat.le_refl _) (.int .i64 5) (.int .i64 (a : Int)) (.int .i64 1) (.int .i64 0) (.string (S ((l.drop a).take 1)))
        exact bodyPost_ret (v := .tuple #[.agg #[.int .i64 5, .int .i64 (a : Int), .int .i64 1, .int .i64 0, .string (S ((l.drop a).take 1))], .int .i64 0]) (by simp [results, Try.results27, go_sem, e0, e1, e2, e3, e4]) rfl ⟨rfl, hbE⟩
      · obtain rfl := hsz2 1 hN (by decide)
        replace hce : (((S l)[a]'hc0).toNat : Int) = 59 := hce
        clear hs0 hsz2 hN
        go_wp2_with fail
        rw [hE1.out]
        obtain ⟨hbE, e0, e1, e2, e3, e4⟩ := tfin hv hb (Nat.le_refl _) (.int .i64 5) (.int .i64 (a : Int)) (.int .i64 1) (.int .i64 0) (.string (S ((l.drop a).take 1)))
        exact bodyPost_ret (v := .tuple #[.agg #[.int .i64 5, .int .i64 (a : Int), .int .i64 1, .int .i64 0, .string (S ((l.drop a).take 1))], .int .i64 0]) (by simp [results, Try.results27, go_sem, e0, e1, e2, e3, e4]) rfl ⟨rfl, hbE⟩
      · obtain rfl := hsz2 1 hN (by decide)
        replace hce : (((S l)[a]'hc0).toNat : Int) = 43 := hce
        clear hs0 hsz2 hN
        go_wp2_with fail
        rw [hE1.out]
        obtain ⟨hbE, e0, e1, e2, e3, e4⟩ := tfin hv hb (Nat.le_refl _) (.int .i64 5) (.int .i64 (a : Int)) (.int .i64 1) (.int .i64 0) (.string (S ((l.drop a).take 1)))
        exact bodyPost_ret (v := .tuple #[.agg #[.int .i64 5, .int .i64 (a : Int), .int .i64 1, .int .i64 0, .string (S ((l.drop a).take 1))], .int .i64 0]) (by simp [results, Try.results27, go_sem, e0, e1, e2, e3, e4]) rfl ⟨rfl, hbE⟩
      · obtain rfl := hsz2 1 hN (by decide)
        replace hce : (((S l)[a]'hc0).toNat : Int) = 45 := hce
        clear hs0 hsz2 hN
        go_wp2_with fail
        rw [hE1.out]
        obtain ⟨hbE, e0, e1, e2, e3, e4⟩ := tfin hv hb (Nat.le_refl _) (.int .i64 5) (.int .i64 (a : Int)) (.int .i64 1) (.int .i64 0) (.string (S ((l.drop a).take 1)))
        exact bodyPost_ret (v := .tuple #[.agg #[.int .i64 5, .int .i64 (a : Int), .int .i64 1, .int .i64 0, .string (S ((l.drop a).take 1))], .int .i64 0]) (by simp [results, Try.results27, go_sem, e0, e1, e2, e3, e4]) rfl ⟨rfl, hbE⟩
      · obtain rfl := hsz2 1 hN (by decide)
        replace hce : (((S l)[a]'hc0).toNat : Int) = 42 := hce
        clear hs0 hsz2 hN
        go_wp2_with fail
        rw [hE1.out]
        obtain ⟨hbE, e0, e1, e2, e3, e4⟩ := tfin hv hb (Nat.le_refl _) (.int .i64 5) (.int .i64 (a : Int)) (.int .i64 1) (.int .i64 0) (.string (S ((l.drop a).take 1)))
        exact bodyPost_ret (v := .tuple #[.agg #[.int .i64 5, .int .i64 (a : Int), .int .i64 1, .int .i64 0, .string (S ((l.drop a).take 1))], .int .i64 0]) (by simp [results, Try.results27, go_sem, e0, e1, e2, e3, e4]) rfl ⟨rfl, hbE⟩
      · obtain rfl := hsz2 1 hN (by decide)
        replace hce : (((S l)[a]'hc0).toNat : Int) = 47 := hce
        clear hs0 hsz2 hN
        go_wp2_with fail
        rw [hE1.out]
        obtain ⟨hbE, e0, e1, e2, e3, e4⟩ := tfin hv hb (Nat.le_refl _) (.int .i64 5) (.int .i64 (a : Int)) (.int .i64 1) (.int .i64 0) (.string (S ((l.drop a).take 1)))
        exact bodyPost_ret (v := .tuple #[.agg #[.int .i64 5, .int .i64 (a : Int), .int .i64 1, .int .i64 0, .string (S ((l.drop a).take 1))], .int .i64 0]) (by simp [results, Try.results27, go_sem, e0, e1, e2, e3, e4]) rfl ⟨rfl, hbE⟩
      · obtain rfl := hsz2 1 hN (by decide)
        replace hce : (((S l)[a]'hc0).toNat : Int) = 37 := hce
        clear hs0 hsz2 hN
        go_wp2_with fail
        rw [hE1.out]
        obtain ⟨hbE, e0, e1, e2, e3, e4⟩ := tfin hv hb (Nat.le_refl _) (.int .i64 5) (.int .i64 (a : Int)) (.int .i64 1) (.int .i64 0) (.string (S ((l.drop a).take 1)))
        exact bodyPost_ret (v := .tuple #[.agg #[.int .i64 5, .int .i64 (a : Int), .int .i64 1, .int .i64 0, .string (S ((l.drop a).take 1))], .int .i64 0]) (by simp [results, Try.results27, go_sem, e0, e1, e2, e3, e4]) rfl ⟨rfl, hbE⟩
      · obtain rfl := hsz2 1 hN (by decide)
        replace hce : (((S l)[a]'hc0).toNat : Int) = 61 := hce
        clear hs0 hsz2 hN
        go_wp2_with fail
        rw [hE1.out]
        obtain ⟨hbE, e0, e1, e2, e3, e4⟩ := tfin hv hb (Nat.le_refl _) (.int .i64 5) (.int .i64 (a : Int)) (.int .i64 1) (.int .i64 0) (.string (S ((l.drop a).take 1)))
        exact bodyPost_ret (v := .tuple #[.agg #[.int .i64 5, .int .i64 (a : Int), .int .i64 1, .int .i64 0, .string (S ((l.drop a).take 1))], .int .i64 0]) (by simp [results, Try.results27, go_sem, e0, e1, e2, e3, e4]) rfl ⟨rfl, hbE⟩
    · obtain rfl := hs0 hN
      have j1 := neq8 k1
      have j2 := neq8 k2
      have j3 := neq8 k3
      have j4 := neq8 k4
      have j5 := neq8 k5
      have j6 := neq8 k6
      have j7 := neq8 k7
      have j8 := neq8 k8
      have j9 := neq8 k9
      have j10 := neq8 k10
      have j11 := neq8 k11
      have j12 := neq8 k12
      have j13 := neq8 k13
      have j14 := neq8 k14
      simp only [show ((124 : UInt8).toNat : Int) = 124 from rfl, show ((60 : UInt8).toNat : Int) = 60 from rfl, show ((62 : UInt8).toNat : Int) = 62 from rfl, show ((40 : UInt8).toNat : Int) = 40 from rfl, show ((41 : UInt8).toNat : Int) = 41 from rfl, show ((44 : UInt8).toNat : Int) = 44 from rfl, show ((46 : UInt8).toNat : Int) = 46 from rfl, show ((59 : UInt8).toNat : Int) = 59 from rfl, show ((43 : UInt8).toNat : Int) = 43 from rfl, show ((45 : UInt8).toNat : Int) = 45 from rfl, show ((42 : UInt8).toNat : Int) = 42 from rfl, show ((47 : UInt8).toNat : Int) = 47 from rfl, show ((37 : UInt8).toNat : Int) = 37 from rfl, show ((61 : UInt8).toNat : Int) = 61 from rfl] at j1 j2 j3 j4 j5 j6 j7 j8 j9 j10 j11 j12 j13 j14
      clear k1 k2 k3 k4 k5 k6 k7 k8 k9 k10 k11 k12 k13 k14
      clear hs0 hsz2 hN
      go_wp2_with fail
      obtain ⟨hbE, e0, e1, e2, e3, e4⟩ := tfin hv hb (Nat.le_refl _) (.int .i64 0) (.int .i64 (a : Int)) (.int .i64 0) (.int .i64 0) (.string ⟨#[]⟩)
      exact bodyPost_ret (v := .tuple #[.agg #[.int .i64 0, .int .i64 (a : Int), .int .i64 0, .int .i64 0, .string ⟨#[]⟩], .int .i64 2]) (by simp [results, Try.results27, go_sem, e0, e1, e2, e3, e4]) rfl ⟨rfl, hbE⟩
  · skip
    have hd0 := hnx.2 hlt
    have ha3 : ¬ (a : Int) + 1 < l.length := by omega
    have hE1 := Lib.hid (hC1 (by omega))
    clear hnx hC1 hC2 hlt
    go_enter Try.func27, Try.ntmps27
    go_upto_region 4 with fail
    generalize hW : (w.alloc (.cells #[.int .i64 0, .int .i64 0, .int .i64 0, .int .i64 0, .string ⟨#[]⟩] 24)) = W0 at hv hb ⊢
    clear hW
    obtain ⟨z0, z1, z2, z3, z4, f0, f1, f2, f3, f4⟩ := tval hv
    rcases signN_cases c d with ⟨rfl, hD, hN⟩ | ⟨rfl, hD, hN⟩ | ⟨rfl, hD, hN⟩ | ⟨rfl, hD, hN⟩ | ⟨rfl, hD, hD2, hN⟩ | ⟨rfl, hD, hN⟩ | ⟨rfl, hD, hN⟩ | ⟨_, _, _, hA, hN⟩ | ⟨k1, k2, k3, k4, k5, k6, k7, k8, k9, k10, k11, k12, k13, k14, hN⟩
    · exfalso
      rw [hd0] at hD
      exact absurd hD (by decide)
    · obtain rfl := hs0 hN
      replace hce : (((S l)[a]'hc0).toNat : Int) = 124 := hce
      clear hs0 hsz2 hN hD
      go_wp2_with fail
      obtain ⟨hbE, e0, e1, e2, e3, e4⟩ := tfin hv hb (Nat.le_refl _) (.int .i64 0) (.int .i64 (a : Int)) (.int .i64 0) (.int .i64 0) (.string ⟨#[]⟩)
      exact bodyPost_ret (v := .tuple #[.agg #[.int .i64 0, .int .i64 (a : Int), .int .i64 0, .int .i64 0, .string ⟨#[]⟩], .int .i64 2]) (by simp [results, Try.results27, go_sem, e0, e1, e2, e3, e4]) rfl ⟨rfl, hbE⟩
    · exfalso
      rw [hd0] at hD
      exact absurd hD (by decide)
    · exfalso
      rw [hd0] at hD
      exact absurd hD (by decide)
    · obtain rfl := hsz2 1 hN (by decide)
      replace hce : (((S l)[a]'hc0).toNat : Int) = 60 := hce
      clear hs0 hsz2 hN hD hD2
      go_wp2_with fail
      rw [hE1.out]
      obtain ⟨hbE, e0, e1, e2, e3, e4⟩ := tfin hv hb (Nat.le_refl _) (.int .i64 5) (.int .i64 (a : Int)) (.int .i64 1) (.int .i64 0) (.string (S ((l.drop a).take 1)))
      exact bodyPost_ret (v := .tuple #[.agg #[.int .i64 5, .int .i64 (a : Int), .int .i64 1, .int .i64 0, .string (S ((l.drop a).take 1))], .int .i64 0]) (by simp [results, Try.results27, go_sem, e0, e1, e2, e3, e4]) rfl ⟨rfl, hbE⟩
    · exfalso
      rw [hd0] at hD
      exact absurd hD (by decide)
    · obtain rfl := hsz2 1 hN (by decide)
      replace hce : (((S l)[a]'hc0).toNat : Int) = 62 := hce
      clear hs0 hsz2 hN hD
      go_wp2_with fail
      rw [hE1.out]
      obtain ⟨hbE, e0, e1, e2, e3, e4⟩ := tfin hv hb (Nat.le_refl _) (.int .i64 5) (.int .i64 (a : Int)) (.int .i64 1) (.int .i64 0) (.string (S ((l.drop a).take 1)))
      exact bodyPost_ret (v := .tuple #[.agg #[.int .i64 5, .int .i64 (a : Int), .int .i64 1, .int .i64 0, .string (S ((l.drop a).take 1))], .int .i64 0]) (by simp [results, Try.results27, go_sem, e0, e1, e2, e3, e4]) rfl ⟨rfl, hbE⟩
    · rcases hA with rfl | rfl | rfl | rfl | rfl | rfl | rfl | rfl | rfl | rfl | rfl
      · obtain rfl := hsz2 1 hN (by decide)
        replace hce : (((S l)[a]'hc0).toNat : Int) = 40 := hce
        clear hs0 hsz2 hN
        go_wp2_with fail
        rw [hE1.out]
        obtain ⟨hbE, e0, e1, e2, e3, e4⟩ := tfin hv hb (Nat.le_refl _) (.int .i64 5) (.int .i64 (a : Int)) (.int .i64 1) (.int .i64 0) (.string (S ((l.drop a).take 1)))
        exact bodyPost_ret (v := .tuple #[.agg #[.int .i64 5, .int .i64 (a : Int), .int .i64 1, .int .i64 0, .string (S ((l.drop a).take 1))], .int .i64 0]) (by simp [results, Try.results27, go_sem, e0, e1, e2, e3, e4]) rfl ⟨rfl, hbE⟩
      · obtain rfl := hsz2 1 hN (by decide)
        replace hce : (((S l)[a]'hc0).toNat : Int) = 41 := hce
        clear hs0 hsz2 hN
        go_wp2_with fail
        rw [hE1.out]
        obtain ⟨hbE, e0, e1, e2, e3, e4⟩ := tfin hv hb (Nat.le_refl _) (.int .i64 5) (.int .i64 (a : Int)) (.int .i64 1) (.int .i64 0) (.string (S ((l.drop a).take 1)))
        exact bodyPost_ret (v := .tuple #[.agg #[.int .i64 5, .int .i64 (a : Int), .int .i64 1, .int .i64 0, .string (S ((l.drop a).take 1))], .int .i64 0]) (by simp [results, Try.results27, go_sem, e0, e1, e2, e3, e4]) rfl ⟨rfl, hbE⟩
      · obtain rfl := hsz2 1 hN (by decide)
        replace hce : (((S l)[a]'hc0).toNat : Int) = 44 := hce
        clear hs0 hsz2 hN
        go_wp2_with fail
        rw [hE1.out]
        obtain ⟨hbE, e0, e1, e2, e3, e4⟩ := tfin hv hb (Nat.le_refl _) (.int .i64 5) (.int .i64 (a : Int)) (.int .i64 1) (.int .i64 0) (.string (S ((l.drop a).take 1)))
        exact bodyPost_ret (v := .tuple #[.agg #[.int .i64 5, .int .i64 (a : Int), .int .i64 1, .int .i64 0, .string (S ((l.drop a).take 1))], .int .i64 0]) (by simp [results, Try.results27, go_sem, e0, e1, e2, e3, e4]) rfl ⟨rfl, hbE⟩
      · obtain rfl := hsz2 1 hN (by decide)
        replace hce : (((S l)[a]'hc0).toNat : Int) = 46 := hce
        clear hs0 hsz2 hN
        go_wp2_with fail
        rw [hE1.out]
        obtain ⟨hbE, e0, e1, e2, e3, e4⟩ := tfin hv hb (Nat.le_refl _) (.int .i64 5) (.int .i64 (a : Int)) (.int .i64 1) (.int .i64 0) (.string (S ((l.drop a).take 1)))
        exact bodyPost_ret (v := .tuple #[.agg #[.int .i64 5, .int .i64 (a : Int), .int .i64 1, .int .i64 0, .string (S ((l.drop a).take 1))], .int .i64 0]) (by simp [results, Try.results27, go_sem, e0, e1, e2, e3, e4]) rfl ⟨rfl, hbE⟩
      · obtain rfl := hsz2 1 hN (by decide)
        replace hce : (((S l)[a]'hc0).toNat : Int) = 59 := hce
        clear hs0 hsz2 hN
        go_wp2_with fail
        rw [hE1.out]
        obtain ⟨hbE, e0, e1, e2, e3, e4⟩ := tfin hv hb (Nat.le_refl _) (.int .i64 5) (.int .i64 (a : Int)) (.int .i64 1) (.int .i64 0) (.string (S ((l.drop a).take 1)))
        exact bodyPost_ret (v := .tuple #[.agg #[.int .i64 5, .int .i64 (a : Int), .int .i64 1, .int .i64 0, .string (S ((l.drop a).take 1))], .int .i64 0]) (by simp [results, Try.results27, go_sem, e0, e1, e2, e3, e4]) rfl ⟨rfl, hbE⟩
      · obtain rfl := hsz2 1 hN (by decide)
        replace hce : (((S l)[a]'hc0).toNat : Int) = 43 := hce
        clear hs0 hsz2 hN
        go_wp2_with fail
        rw [hE1.out]
        obtain ⟨hbE, e0, e1, e2, e3, e4⟩ := tfin hv hb (Nat.le_refl _) (.int .i64 5) (.int .i64 (a : Int)) (.int .i64 1) (.int .i64 0) (.string (S ((l.drop a).take 1)))
        exact bodyPost_ret (v := .tuple #[.agg #[.int .i64 5, .int .i64 (a : Int), .int .i64 1, .int .i64 0, .string (S ((l.drop a).take 1))], .int .i64 0]) (by simp [results, Try.results27, go_sem, e0, e1, e2, e3, e4]) rfl ⟨rfl, hbE⟩
      · obtain rfl := hsz2 1 hN (by decide)
        replace hce : (((S l)[a]'hc0).toNat : Int) = 45 := hce
        clear hs0 hsz2 hN
        go_wp2_with fail
        rw [hE1.out]
        obtain ⟨hbE, e0, e1, e2, e3, e4⟩ := tfin hv hb (Nat.le_refl _) (.int .i64 5) (.int .i64 (a : Int)) (.int .i64 1) (.int .i64 0) (.string (S ((l.drop a).take 1)))
        exact bodyPost_ret (v := .tuple #[.agg #[.int .i64 5, .int .i64 (a : Int), .int .i64 1, .int .i64 0, .string (S ((l.drop a).take 1))], .int .i64 0]) (by simp [results, Try.results27, go_sem, e0, e1, e2, e3, e4]) rfl ⟨rfl, hbE⟩
      · obtain rfl := hsz2 1 hN (by decide)
        replace hce : (((S l)[a]'hc0).toNat : Int) = 42 := hce
        clear hs0 hsz2 hN
        go_wp2_with fail
        rw [hE1.out]
        obtain ⟨hbE, e0, e1, e2, e3, e4⟩ := tfin hv hb (Nat.le_refl _) (.int .i64 5) (.int .i64 (a : Int)) (.int .i64 1) (.int .i64 0) (.string (S ((l.drop a).take 1)))
        exact bodyPost_ret (v := .tuple #[.agg #[.int .i64 5, .int .i64 (a : Int), .int .i64 1, .int .i64 0, .string (S ((l.drop a).take 1))], .int .i64 0]) (by simp [results, Try.results27, go_sem, e0, e1, e2, e3, e4]) rfl ⟨rfl, hbE⟩
      · obtain rfl := hsz2 1 hN (by decide)
        replace hce : (((S l)[a]'hc0).toNat : Int) = 47 := hce
        clear hs0 hsz2 hN
        go_wp2_with fail
        rw [hE1.out]
        obtain ⟨hbE, e0, e1, e2, e3, e4⟩ := tfin hv hb (Nat.le_refl _) (.int .i64 5) (.int .i64 (a : Int)) (.int .i64 1) (.int .i64 0) (.string (S ((l.drop a).take 1)))
        exact bodyPost_ret (v := .tuple #[.agg #[.int .i64 5, .int .i64 (a : Int), .int .i64 1, .int .i64 0, .string (S ((l.drop a).take 1))], .int .i64 0]) (by simp [results, Try.results27, go_sem, e0, e1, e2, e3, e4]) rfl ⟨rfl, hbE⟩
      · obtain rfl := hsz2 1 hN (by decide)
        replace hce : (((S l)[a]'hc0).toNat : Int) = 37 := hce
        clear hs0 hsz2 hN
        go_wp2_with fail
        rw [hE1.out]
        obtain ⟨hbE, e0, e1, e2, e3, e4⟩ := tfin hv hb (Nat.le_refl _) (.int .i64 5) (.int .i64 (a : Int)) (.int .i64 1) (.int .i64 0) (.string (S ((l.drop a).take 1)))
        exact bodyPost_ret (v := .tuple #[.agg #[.int .i64 5, .int .i64 (a : Int), .int .i64 1, .int .i64 0, .string (S ((l.drop a).take 1))], .int .i64 0]) (by simp [results, Try.results27, go_sem, e0, e1, e2, e3, e4]) rfl ⟨rfl, hbE⟩
      · obtain rfl := hsz2 1 hN (by decide)
        replace hce : (((S l)[a]'hc0).toNat : Int) = 61 := hce
        clear hs0 hsz2 hN
        go_wp2_with fail
        rw [hE1.out]
        obtain ⟨hbE, e0, e1, e2, e3, e4⟩ := tfin hv hb (Nat.le_refl _) (.int .i64 5) (.int .i64 (a : Int)) (.int .i64 1) (.int .i64 0) (.string (S ((l.drop a).take 1)))
        exact bodyPost_ret (v := .tuple #[.agg #[.int .i64 5, .int .i64 (a : Int), .int .i64 1, .int .i64 0, .string (S ((l.drop a).take 1))], .int .i64 0]) (by simp [results, Try.results27, go_sem, e0, e1, e2, e3, e4]) rfl ⟨rfl, hbE⟩
    · obtain rfl := hs0 hN
      have j1 := neq8 k1
      have j2 := neq8 k2
      have j3 := neq8 k3
      have j4 := neq8 k4
      have j5 := neq8 k5
      have j6 := neq8 k6
      have j7 := neq8 k7
      have j8 := neq8 k8
      have j9 := neq8 k9
      have j10 := neq8 k10
      have j11 := neq8 k11
      have j12 := neq8 k12
      have j13 := neq8 k13
      have j14 := neq8 k14
      simp only [show ((124 : UInt8).toNat : Int) = 124 from rfl, show ((60 : UInt8).toNat : Int) = 60 from rfl, show ((62 : UInt8).toNat : Int) = 62 from rfl, show ((40 : UInt8).toNat : Int) = 40 from rfl, show ((41 : UInt8).toNat : Int) = 41 from rfl, show ((44 : UInt8).toNat : Int) = 44 from rfl, show ((46 : UInt8).toNat : Int) = 46 from rfl, show ((59 : UInt8).toNat : Int) = 59 from rfl, show ((43 : UInt8).toNat : Int) = 43 from rfl, show ((45 : UInt8).toNat : Int) = 45 from rfl, show ((42 : UInt8).toNat : Int) = 42 from rfl, show ((47 : UInt8).toNat : Int) = 47 from rfl, show ((37 : UInt8).toNat : Int) = 37 from rfl, show ((61 : UInt8).toNat : Int) = 61 from rfl] at j1 j2 j3 j4 j5 j6 j7 j8 j9 j10 j11 j12 j13 j14
      clear k1 k2 k3 k4 k5 k6 k7 k8 k9 k10 k11 k12 k13 k14
      clear hs0 hsz2 hN
      go_wp2_with fail
      obtain ⟨hbE, e0, e1, e2, e3, e4⟩ := tfin hv hb (Nat.le_refl _) (.int .i64 0) (.int .i64 (a : Int)) (.int .i64 0) (.int .i64 0) (.string ⟨#[]⟩)
      exact bodyPost_ret (v := .tuple #[.agg #[.int .i64 0, .int .i64 (a : Int), .int .i64 0, .int .i64 0, .string ⟨#[]⟩], .int .i64 2]) (by simp [results, Try.results27, go_sem, e0, e1, e2, e3, e4]) rfl ⟨rfl, hbE⟩
end Go.Proofs.Ytonpiacpgfibpaa.Lex
