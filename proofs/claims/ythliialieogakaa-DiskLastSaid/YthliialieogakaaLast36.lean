/- The walk of DiskLast. -/
import Derived.Test.YthliialieogakaaDskD
import Derived.Test.YthliialieogakaaKitQ
import Derived.Deep.CutRange
import Derived.Deep.RegionHeld3
namespace Go.Proofs.Ythliialieogakaa
set_option linter.unusedVariables false
set_option linter.unusedSimpArgs false
open Go.RowKit
open Oct (S)
/-- What the calls of DiskLast answer. -/
structure LastP (k o : Int) (b X Z : ByteArray) (s1 s2 : List ByteArray) (e1 f1 e3 e4 : Int) (t1 t2 : ByteArray) : Prop where
  w1 : (Dk.blank 16).write k X = (⟨s1, -1, false⟩, e1)
  w2 : (Dk.mk s1 (-1) false).write k b = (⟨s2, -1, false⟩, f1)
  r1 : (Dk.mk s2 (-1) false).read k = (t1, e3)
  r2 : (Dk.mk s2 (-1) false).read o = (t2, e4)
  l1 : s1.length = 16
  l2 : s2.length = 16
  out : k < 0 ∨ 16 ≤ k → e1 = 1 ∧ f1 = 1 ∧ e3 = 1 ∧ t1 = ⟨#[]⟩
  inn : 0 ≤ k ∧ k < 16 → e1 = 0 ∧ e3 = 0
  yes : 0 ≤ k ∧ k < 16 → b.size = 128 → f1 = 0 ∧ t1 = b
  no : 0 ≤ k ∧ k < 16 → b.size ≠ 128 → f1 = 1 ∧ t1 = X
  oout : o < 0 ∨ 16 ≤ o → e4 = 1
  oin : 0 ≤ o ∧ o < 16 → e4 = 0
  same : 0 ≤ k ∧ k < 16 → o = k → t2 = t1
  other : 0 ≤ k ∧ k < 16 → 0 ≤ o ∧ o < 16 → o ≠ k → t2 = Z
theorem last_plain (k o : Int) (b X Z : ByteArray) (hX : X.size = 128) (hZ : Z = S (zer 128)) : ∃ s1 s2 e1 f1 e3 e4 t1 t2, LastP k o b X Z s1 s2 e1 f1 e3 e4 t1 t2 := by
  have hbl : (Dk.blank 16) = ⟨List.replicate 16 Z, -1, false⟩ := by rw [hZ]; rfl
  generalize hs0 : List.replicate 16 Z = s0 at hbl
  have hl0 : s0.length = 16 := by rw [← hs0]; simp
  have hg0 : ∀ i, i < 16 → s0[i]? = some Z := fun i hi => by rw [← hs0, List.getElem?_replicate, if_pos hi]
  have ho : ∀ (s : List ByteArray), s.length = 16 → (o < 0 ∨ 16 ≤ o → ((Dk.mk s (-1) false).read o).2 = 1) ∧ (0 ≤ o ∧ o < 16 → ((Dk.mk s (-1) false).read o) = (s[o.toNat]?.getD ⟨#[]⟩, 0)) := by
    intro s hs
    constructor
    · intro h
      have : ¬ (0 ≤ o ∧ o < 16) := by omega
      simp [Dk.read, Dk.is, hs, this]
    · intro h
      simp [Dk.read, Dk.is, hs, h]
  by_cases hk : 0 ≤ k ∧ k < 16
  · have h1 : (Dk.blank 16).write k X = (⟨s0.set k.toNat X, -1, false⟩, 0) := by rw [hbl]; simp [Dk.write, Dk.is, hl0, hk, hX]
    obtain ⟨s1, hs1⟩ : ∃ s1, s0.set k.toNat X = s1 := ⟨_, rfl⟩
    have hl1 : s1.length = 16 := by rw [← hs1]; simpa using hl0
    rw [hs1] at h1
    have hkn : k.toNat < 16 := by omega
    by_cases hb : b.size = 128
    · have h2 : (Dk.mk s1 (-1) false).write k b = (⟨s1.set k.toNat b, -1, false⟩, 0) := by simp [Dk.write, Dk.is, hl1, hk, hb]
      have hl2 : (s1.set k.toNat b).length = 16 := by simpa using hl1
      have h3 : (Dk.mk (s1.set k.toNat b) (-1) false).read k = (b, 0) := by simp [Dk.read, Dk.is, hl1, hk, hkn]
      refine ⟨s1, s1.set k.toNat b, 0, 0, 0, ((Dk.mk (s1.set k.toNat b) (-1) false).read o).2, b, ((Dk.mk (s1.set k.toNat b) (-1) false).read o).1, h1, h2, h3, rfl, hl1, hl2, fun h => by omega, fun _ => ⟨rfl, rfl⟩, fun _ _ => ⟨rfl, rfl⟩, fun _ h => (h hb).elim, (ho _ hl2).1, fun h => by rw [(ho _ hl2).2 h], fun _ h => ?_, fun _ h2 h3 => ?_⟩
      · subst h; rw [h3]
      · rw [(ho _ hl2).2 h2]
        have hne : k.toNat ≠ o.toNat := by omega
        simp [List.getElem?_set_ne hne, ← hs1, hg0 o.toNat (by omega)]
    · have h2 : (Dk.mk s1 (-1) false).write k b = (⟨s1, -1, false⟩, 1) := by simp [Dk.write, Dk.is, hl1, hk, hb]
      have h3 : (Dk.mk s1 (-1) false).read k = (X, 0) := by simp [Dk.read, Dk.is, hl1, hk, ← hs1, hl0, hkn]
      refine ⟨s1, s1, 0, 1, 0, ((Dk.mk s1 (-1) false).read o).2, X, ((Dk.mk s1 (-1) false).read o).1, h1, h2, h3, rfl, hl1, hl1, fun h => by omega, fun _ => ⟨rfl, rfl⟩, fun _ h => (hb h).elim, fun _ _ => ⟨rfl, rfl⟩, (ho _ hl1).1, fun h => by rw [(ho _ hl1).2 h], fun _ h => ?_, fun _ h2 h3 => ?_⟩
      · subst h; rw [h3]
      · rw [(ho _ hl1).2 h2]
        have hne : k.toNat ≠ o.toNat := by omega
        simp [List.getElem?_set_ne hne, ← hs1, hg0 o.toNat (by omega)]
  · have h1 : (Dk.blank 16).write k X = (⟨s0, -1, false⟩, 1) := by rw [hbl]; simp [Dk.write, Dk.is, hl0, hk]
    have h2 : (Dk.mk s0 (-1) false).write k b = (⟨s0, -1, false⟩, 1) := by simp [Dk.write, Dk.is, hl0, hk]
    have h3 : (Dk.mk s0 (-1) false).read k = (⟨#[]⟩, 1) := by simp [Dk.read, Dk.is, hl0, hk]
    exact ⟨s0, s0, 1, 1, 1, ((Dk.mk s0 (-1) false).read o).2, ⟨#[]⟩, ((Dk.mk s0 (-1) false).read o).1, h1, h2, h3, rfl, hl0, hl0, fun _ => ⟨rfl, rfl, rfl, rfl⟩, fun h => (hk h).elim, fun h => (hk h).elim, fun h => (hk h).elim, (ho _ hl0).1, fun h => by rw [(ho _ hl0).2 h], fun h => (hk h).elim, fun h => (hk h).elim⟩
set_option maxHeartbeats 4000000 in
set_option maxRecDepth 100000 in
theorem walk_DiskLast (k o : Int) (b : ByteArray) (w : World) (hk : (Lit.int .i64 k).wf = true) (ho : (Lit.int .i64 o).wf = true) (hb0 : b.size ≤ 140737488351232) :
    Calls Try.prog 6 #[.int .i64 k, .int .i64 o, .string b] w (Ret (.bool true) w) := by
  have hbm : b.size ≤ maxLen := by unfold maxLen; omega
  have HP1 := Lib.hid (fun w => page_any 120 w)
  have hp1 : (S (pg 120)).size = 512 := by decide +kernel
  generalize S (pg 120) = p1 at HP1 hp1
  have HP0 := Lib.hid (fun w => page_any 0 w)
  have hp0 : (S (pg 0)).size = 512 := by decide +kernel
  have hz0 : (S (pg 0)).extract 0 128 = S (zer 128) := by decide +kernel
  generalize S (pg 0) = p0 at HP0 hp0 hz0
  have hX : (p1.extract 0 128).size = 128 := by simp [hp1]
  obtain ⟨X, hX1⟩ : ∃ X, p1.extract 0 128 = X := ⟨_, rfl⟩
  obtain ⟨Z, hZ1⟩ : ∃ Z, p0.extract 0 128 = Z := ⟨_, rfl⟩
  rw [hX1] at hX
  rw [hZ1] at hz0
  obtain ⟨s1, s2, e1, f1, e3, e4, t1, t2, hL⟩ := last_plain k o b X Z hX hz0
  have hl0 : (Dk.blank 16).s.length = 16 := by simp [Dk.blank]
  have hbl : Dk.blank 16 = ⟨(Dk.blank 16).s, -1, false⟩ := rfl
  have hnw : Dk.new 16 = (Dk.blank 16, 0) := by simp [Dk.new]
  have hw1 := hL.w1
  generalize (Dk.blank 16).s = s0 at hbl hl0
  rw [hbl] at hnw hw1
  have HN := Lib.hid (fun W => new_any 16 W)
  rw [hnw] at HN
  have HW1 := Lib.hid (fun v W h => write_any ⟨s0, -1, false⟩ v k X W h (by simp only; omega) (by simp) (by simp) (by unfold maxLen; omega))
  rw [hw1] at HW1
  have HW2 := Lib.hid (fun v W h => write_any ⟨s1, -1, false⟩ v k b W h (by simp only; have := hL.l1; omega) (by simp) (by simp) hbm)
  rw [hL.w2] at HW2
  have HR1 := Lib.hid (fun v W h => read_any ⟨s2, -1, false⟩ v k W h)
  rw [hL.r1] at HR1
  have HR2 := Lib.hid (fun v W h => read_any ⟨s2, -1, false⟩ v o W h)
  rw [hL.r2] at HR2
  have HA := Lib.hid (fun W => awake_any W)
  have HL := Lib.hid hL
  have HX1 := Lib.hid hX1
  have HZ1 := Lib.hid hZ1
  simp only [Dk.val] at HN HW1 HW2 HR1 HR2
  clear hbl hl0 hnw hw1 hL hX hX1 hZ1 hz0 hbm
  go_enter Try.func6, Try.ntmps6
  go_wp2_with fail
  refine (HN.out _).mono ?_
  rintro e w1 ⟨hb1, v1, rfl, hS1⟩
  obtain ⟨ao1, cap1, rfl⟩ := hS1.nil
  simp only [Dk.val] at hS1 ⊢
  go_upto_region 2 with fail
  generalize hW1 : w1.alloc (.cells #[.slice ao1 s0.length cap1, .int .i64 (-1), .bool false] 25) = W1
  have hD1 : Blk W1 w1.heap.size #[.slice ao1 s0.length cap1, .int .i64 (-1), .bool false] 25 := by subst hW1; exact Blk.new _ _ _
  have hS2 : SecAt W1 (.slice ao1 s0.length cap1) s0 := by subst hW1; exact hS1.below ((Below.refl _ _).alloc (Nat.le_refl _) _)
  have hB1 : Below w.heap.size w W1 := by subst hW1; exact hb1.alloc (hb1.size) _
  clear hW1 hS1
  go_cut [9, 10] from 22 to 29 (fun p e wx => ∃ (D : Nat) (ao : Option Addr) (cap : Nat), p = .pointer (some ⟨D, 0, none⟩) ∧ e = .int .i64 e1 ∧ Below w.heap.size w wx ∧ Blk wx D #[.slice ao s1.length cap, .int .i64 (-1), .bool false] 25 ∧ SecAt wx (.slice ao s1.length cap) s1)
  case first =>
    generalize w1.heap.size = G at *
    obtain ⟨x0, x1, x2, y0, y1, y2⟩ := hD1.dval
    have hne1 : W1.heap.size ≠ G := Nat.ne_of_gt hD1.lt
    have hx128 : (0 : Int) ≤ 128 ∧ (128 : Int) ≤ p1.size := by omega
    go_region_held3 (fun w' => w'.cell? ⟨G, 0, none⟩ = some (.slice ao1 s0.length cap1) ∧ w'.cell? ⟨G, 1, none⟩ = some (.int .i64 (-1)) ∧ w'.cell? ⟨G, 2, none⟩ = some (.bool false)) (first | exact ⟨x0, x1, x2⟩ | exact ⟨k0, k1, k2⟩ | exact ⟨j0, j1, j2⟩ | go_keep)
      (first
      | (go_at_call 16; refine (HP1.out _).mono ?_; rintro e wP ⟨rfl, hbP⟩; first | (have hbA := (Below.refl W1.heap.size W1).drew.trans hbP; have hDP := hD1.below hbA; obtain ⟨j0, j1, j2, i0, i1, i2⟩ := hDP.dval; have hneP : wP.heap.size ≠ G := Nat.ne_of_gt hDP.lt) | (have hbA := ((Below.refl W1.heap.size W1).drew.alloc (Nat.le_refl _) _).next hbP; have hDP := hD1.below hbA; obtain ⟨j0, j1, j2, i0, i1, i2⟩ := hDP.dval; have hE : Blk wP W1.heap.size #[.slice none 0 0, .int .i64 0, .bool false] 25 := (Blk.new W1.drew _ _).below hbP))
      | (go_at_call 11; rw [HX1.out]; refine (HW1.out _ _ (hS2.below (by first | exact hbA | exact hbA.alloc hbA.size _))).mono ?_; rintro e w5 ⟨hb5, v5, rfl, hS5⟩; obtain ⟨ao5, cap5, rfl⟩ := hS5.nil; simp only [Dk.val]; (first | (have hE5 := hE.below hb5; have hbB := hbA.next hb5; obtain ⟨d0, d1, d2, f0, f1, f2⟩ := hE5.dval) | (have hbB := hbA.next hb5) | (have hE5 : Blk w5 wP.heap.size #[.slice none 0 0, .int .i64 0, .bool false] 25 := (Blk.new wP _ _).below hb5; have hbB := (hbA.alloc hbA.size _).next hb5; obtain ⟨d0, d1, d2, f0, f1, f2⟩ := hE5.dval)); obtain ⟨k0, k1, k2, l0, l1, l2⟩ := (hD1.below hbB).dval))
    all_goals have hBw := hB1.next hbB
    all_goals go_wp2
    all_goals go_meet
    all_goals (first | exact ⟨_, ao5, cap5, rfl, rfl, hBw.alloc hBw.size _, Blk.new _ _ _, hS5.below ((Below.refl _ _).alloc (Nat.le_refl _) _)⟩ | (obtain ⟨q1, q2, q3⟩ := hE5.store3 (-1) false ao5 s1.length cap5; exact ⟨_, ao5, cap5, rfl, rfl, q3 _ _ (by first | exact (hB1.next hbA).size | exact hB1.size) hBw, q1, q2 _ _ hS5⟩))
  case rest =>
    obtain ⟨D, ao, cap, rfl, rfl, hB, hD, hS⟩ := hcut
    obtain rfl := HX1.out
    obtain rfl := HZ1.out
    clear hD1 hS2 hB1 HN HW1 HX1 HZ1
    obtain ⟨x0, x1, x2, y0, y1, y2⟩ := hD.dval
    go_wp2_with fail
    refine (HW2.out _ _ hS).mono ?_
    rintro e w3 ⟨hb3, v3, rfl, hS3⟩
    obtain ⟨ao3, cap3, rfl⟩ := hS3.nil
    simp only [Dk.val] at hS3 ⊢
    replace hB := hB.next hb3
    clear x0 x1 x2 y0 y1 y2 hD hS hb3
    go_wp2_with fail
    generalize hW4 : w3.alloc (.cells #[.slice ao3 s2.length cap3, .int .i64 (-1), .bool false] 25) = W4
    have hD4 : Blk W4 w3.heap.size #[.slice ao3 s2.length cap3, .int .i64 (-1), .bool false] 25 := by subst hW4; exact Blk.new _ _ _
    have hS4 : SecAt W4 (.slice ao3 s2.length cap3) s2 := by subst hW4; exact hS3.below ((Below.refl _ _).alloc (Nat.le_refl _) _)
    have hB4 : Below w.heap.size w W4 := by subst hW4; exact hB.alloc (hB.size) _
    clear hW4 hS3 hB
    generalize w3.heap.size = G at *
    refine (HR1.out _ _ hS4).mono ?_
    rintro e w5 ⟨rfl, hb5⟩
    replace hD4 := hD4.below hb5
    replace hS4 := hS4.below hb5
    replace hB4 := hB4.next hb5
    obtain ⟨x0, x1, x2, y0, y1, y2⟩ := hD4.dval
    clear hb5
    go_wp2_with fail
    refine (HR2.out _ _ hS4).mono ?_
    rintro e w6 ⟨rfl, hb6⟩
    replace hB4 := hB4.next hb6
    clear hb6 x0 x1 x2 y0 y1 y2 hD4 hS4
    go_wp2_with fail
    refine (HA.out _).mono ?_
    rintro e w7 ⟨rfl, hb7⟩
    replace hB4 := hB4.next hb7
    clear hb7 HR1 HR2 HW2 HA
    have hl := HL.out
    by_cases hk1 : k < 0
    · obtain ⟨rfl, rfl, rfl, rfl⟩ := hl.out (.inl hk1)
      by_cases ho1 : o < 0
      · obtain rfl := hl.oout (.inl ho1)
        clear hl HL
        go_wp2_with fail
        go_ret
        exact ⟨rfl, hB4⟩
      · by_cases ho2 : 16 ≤ o
        · obtain rfl := hl.oout (.inr ho2)
          clear hl HL
          go_wp2_with fail
          go_ret
          exact ⟨rfl, hB4⟩
        · obtain rfl := hl.oin (by omega)
          clear hl HL
          go_wp2_with fail
          go_ret
          exact ⟨rfl, hB4⟩
    · by_cases hk2 : 16 ≤ k
      · obtain ⟨rfl, rfl, rfl, rfl⟩ := hl.out (.inr hk2)
        by_cases ho1 : o < 0
        · obtain rfl := hl.oout (.inl ho1)
          clear hl HL
          go_wp2_with fail
          go_ret
          exact ⟨rfl, hB4⟩
        · by_cases ho2 : 16 ≤ o
          · obtain rfl := hl.oout (.inr ho2)
            clear hl HL
            go_wp2_with fail
            go_ret
            exact ⟨rfl, hB4⟩
          · obtain rfl := hl.oin (by omega)
            clear hl HL
            go_wp2_with fail
            go_ret
            exact ⟨rfl, hB4⟩
      · obtain ⟨rfl, rfl⟩ := hl.inn (by omega)
        by_cases hbs : b.size = 128
        · obtain ⟨rfl, rfl⟩ := hl.yes (by omega) hbs
          by_cases ho1 : o < 0
          · obtain rfl := hl.oout (.inl ho1)
            clear hl HL
            go_wp2_with fail
            refine (HP1.out _).mono ?_
            rintro e w8 ⟨rfl, hb8⟩
            replace hB4 := hB4.next hb8
            clear hb8
            go_wp2_with fail
            go_ret
            exact ⟨rfl, hB4⟩
          · by_cases ho2 : 16 ≤ o
            · obtain rfl := hl.oout (.inr ho2)
              clear hl HL
              go_wp2_with fail
              refine (HP1.out _).mono ?_
              rintro e w8 ⟨rfl, hb8⟩
              replace hB4 := hB4.next hb8
              clear hb8
              go_wp2_with fail
              go_ret
              exact ⟨rfl, hB4⟩
            · obtain rfl := hl.oin (by omega)
              by_cases hok : o = k
              · obtain rfl := hl.same (by omega) hok
                subst hok
                clear hl HL
                go_wp2_with fail
                refine (HP1.out _).mono ?_
                rintro e w8 ⟨rfl, hb8⟩
                replace hB4 := hB4.next hb8
                clear hb8
                go_wp2_with fail
                go_ret
                exact ⟨rfl, hB4⟩
              · obtain rfl := hl.other (by omega) (by omega) hok
                have hne9 : (o != k) = true := by simp [hok]
                clear hl HL
                go_wp2_with fail
                refine (HP1.out _).mono ?_
                rintro e w8 ⟨rfl, hb8⟩
                replace hB4 := hB4.next hb8
                clear hb8
                go_wp2_with fail
                refine (HP0.out _).mono ?_
                rintro e w9 ⟨rfl, hb9⟩
                replace hB4 := hB4.next hb9
                go_wp2_with fail
                go_ret
                exact ⟨rfl, hB4⟩
        · obtain ⟨rfl, rfl⟩ := hl.no (by omega) hbs
          have hbs2 : ¬ (b.size : Int) = 128 := by omega
          have hbs3 : ((b.size : Int) == 128) = false := by simp [hbs2]
          by_cases ho1 : o < 0
          · obtain rfl := hl.oout (.inl ho1)
            clear hl HL
            go_wp2_with fail
            refine (HP1.out _).mono ?_
            rintro e w8 ⟨rfl, hb8⟩
            replace hB4 := hB4.next hb8
            clear hb8
            go_wp2_with fail
            go_ret
            exact ⟨rfl, hB4⟩
          · by_cases ho2 : 16 ≤ o
            · obtain rfl := hl.oout (.inr ho2)
              clear hl HL
              go_wp2_with fail
              refine (HP1.out _).mono ?_
              rintro e w8 ⟨rfl, hb8⟩
              replace hB4 := hB4.next hb8
              clear hb8
              go_wp2_with fail
              go_ret
              exact ⟨rfl, hB4⟩
            · obtain rfl := hl.oin (by omega)
              by_cases hok : o = k
              · obtain rfl := hl.same (by omega) hok
                subst hok
                clear hl HL
                go_wp2_with fail
                refine (HP1.out _).mono ?_
                rintro e w8 ⟨rfl, hb8⟩
                replace hB4 := hB4.next hb8
                clear hb8
                go_wp2_with fail
                go_ret
                exact ⟨rfl, hB4⟩
              · obtain rfl := hl.other (by omega) (by omega) hok
                have hne9 : (o != k) = true := by simp [hok]
                clear hl HL
                go_wp2_with fail
                refine (HP1.out _).mono ?_
                rintro e w8 ⟨rfl, hb8⟩
                replace hB4 := hB4.next hb8
                clear hb8
                go_wp2_with fail
                refine (HP0.out _).mono ?_
                rintro e w9 ⟨rfl, hb9⟩
                replace hB4 := hB4.next hb9
                go_wp2_with fail
                go_ret
                exact ⟨rfl, hB4⟩
end Go.Proofs.Ythliialieogakaa
