/- Disks: WritePage. -/
import Derived.Test.YthliialieogakaaDskX
import Derived.Deep.RegionHeld3
import Derived.Deep.RegionLaw
namespace Go.Proofs.Ythliialieogakaa
set_option linter.unusedVariables false
set_option linter.unusedSimpArgs false
open Go.RowKit
open Oct (S)
/-- The world in the loop: the parameter's variable holds the disk d, its sectors in v. -/
structure WN (w w' : World) (v : Value) (d : Dk) : Prop where
  hb : Below w.heap.size w w'
  hP : Blk w' w.heap.size #[v, .int .i64 d.left, .bool d.down] 25
  hR : Blk w' (w.heap.size + 1) #[.slice none 0 0, .int .i64 0, .bool false] 25
  hS : SecAt w' v d.s
theorem WN.below {w w1 w2 : World} {v : Value} {d : Dk} (h : WN w w1 v d) (hb : Below w1.heap.size w1 w2) : WN w w2 v d :=
  ⟨h.hb.next hb, h.hP.below hb, h.hR.below hb, h.hS.below hb⟩
/-- The variable gets another disk. -/
theorem WN.put {w W : World} {ao1 ao5 : Option Addr} {n1 m1 m5 : Nat} {d : Dk} {s2 : List ByteArray} (h : WN w W (.slice ao1 n1 m1) d) (hS : SecAt W (.slice ao5 s2.length m5) s2) (a2 : Int) (c2 : Bool) :
    WN w (((W.setCell ⟨w.heap.size, 0, none⟩ (.slice ao5 s2.length m5)).setCell ⟨w.heap.size, 1, none⟩ (.int .i64 a2)).setCell ⟨w.heap.size, 2, none⟩ (.bool c2)) (.slice ao5 s2.length m5) ⟨s2, a2, c2⟩ := by
  obtain ⟨h1, h2, h3⟩ := h.hP.store3 a2 c2 ao5 s2.length m5
  exact ⟨h3 _ _ (Nat.le_refl _) h.hb, h1, ((h.hR.other (by simp) _).other (by simp) _).other (by simp) _, h2 _ _ hS⟩
/-- Another disk's variable is written. -/
theorem WN.far {w W : World} {v : Value} {ao5 : Option Addr} {m5 D : Nat} {d : Dk} {s2 : List ByteArray} (h : WN w W v d) (hD : Blk W D #[.slice none 0 0, .int .i64 0, .bool false] 25) (hS : SecAt W (.slice ao5 s2.length m5) s2) (h1 : w.heap.size + 2 ≤ D) (a2 : Int) (c2 : Bool) :
    WN w (((W.setCell ⟨D, 0, none⟩ (.slice ao5 s2.length m5)).setCell ⟨D, 1, none⟩ (.int .i64 a2)).setCell ⟨D, 2, none⟩ (.bool c2)) v d ∧
    Blk (((W.setCell ⟨D, 0, none⟩ (.slice ao5 s2.length m5)).setCell ⟨D, 1, none⟩ (.int .i64 a2)).setCell ⟨D, 2, none⟩ (.bool c2)) D #[.slice ao5 s2.length m5, .int .i64 a2, .bool c2] 25 ∧
    SecAt (((W.setCell ⟨D, 0, none⟩ (.slice ao5 s2.length m5)).setCell ⟨D, 1, none⟩ (.int .i64 a2)).setCell ⟨D, 2, none⟩ (.bool c2)) (.slice ao5 s2.length m5) s2 := by
  obtain ⟨e1, e2, e3⟩ := hD.store3 a2 c2 ao5 s2.length m5
  have n0 : w.heap.size ≠ D := by omega
  have n1 : w.heap.size + 1 ≠ D := by omega
  exact ⟨⟨e3 _ _ (by omega) h.hb, ((h.hP.other n0 _).other n0 _).other n0 _, ((h.hR.other n1 _).other n1 _).other n1 _, e2 _ _ h.hS⟩, e1, e2 _ _ hS⟩
theorem Dk.write_len (d : Dk) (k : Int) (b : ByteArray) : (d.write k b).1.s.length = d.s.length := by
  unfold Dk.write; split; rfl; split; rfl; split; rfl; simp
theorem Dk.write_left (d : Dk) (k : Int) (b : ByteArray) (h1 : -9223372036854775808 ≤ d.left) (h2 : d.left ≤ 9223372036854775807) : -9223372036854775808 ≤ (d.write k b).1.left ∧ (d.write k b).1.left ≤ 9223372036854775807 := by
  unfold Dk.write; split; exact ⟨h1, h2⟩; split; exact ⟨h1, h2⟩; split; exact ⟨h1, h2⟩
  simp only; split <;> omega
theorem cutAt_size (p : ByteArray) (hp : p.size = 512) (j : Nat) (hj : j < 4) : (Dk.cutAt p j).size = 128 := by
  simp [Dk.cutAt, hp]; omega
theorem Dk.from_step {d d2 : Dk} {k e2 : Int} {p : ByteArray} {j : Nat} {r : Dk × Int} (hj : j < 4) (hw : d.write (k + j) (Dk.cutAt p j) = (d2, e2)) (h : Dk.writeFrom k p d j (4 - j) = r) :
    if e2 = 0 then Dk.writeFrom k p d2 (j + 1) (4 - (j + 1)) = r else r = (d2, e2) := by
  obtain ⟨n, hn⟩ : ∃ n, 4 - j = n + 1 := ⟨3 - j, by omega⟩
  have hn2 : 4 - (j + 1) = n := by omega
  rw [hn, Dk.writeFrom, hw] at h
  rw [hn2]
  split <;> rename_i he
  · simpa [he] using h
  · simpa [he] using h.symm
set_option maxHeartbeats 1600000 in
set_option maxRecDepth 10000 in
theorem writePage_loop (d : Dk) (v : Value) (k : Int) (p : ByteArray) (w : World) (h : SecAt w v d.s) (hl : d.s.length ≤ 100000) (ha1 : -9223372036854775808 ≤ d.left) (ha2 : d.left ≤ 9223372036854775807)
    (hd : d.down = false) (hp : p.size = 512) (hf : d.fits k = true) :
    Calls Try.prog 15 #[d.val v, .int .i64 k, .string p] w (DkP (Dk.writeFrom k p d 0 4).1 (Dk.writeFrom k p d 0 4).2 w) := by
  have hk : 0 ≤ k ∧ k ≤ 100000 := by simp [Dk.fits] at hf; omega
  have HW := Lib.hid (fun (d' : Dk) v k b W h x y z e => write_any d' v k b W h x y z e)
  have HS := Lib.hid h
  obtain ⟨s, a, c⟩ := d
  obtain ⟨ao, cap, rfl⟩ := h.nil
  simp only at hd ha1 ha2 hl
  subst hd
  obtain ⟨s0, hs0⟩ : ∃ d0, Dk.writeFrom k p (Dk.mk s a false) 0 4 = d0 := ⟨_, rfl⟩
  rw [hs0]
  have HS0 := Lib.hid hs0
  clear hs0
  have HF := Lib.hid (fun W h => fits_any (Dk.mk s a false) (.slice ao s.length cap) k W h)
  rw [hf] at HF
  show Calls Try.prog 15 #[.agg #[.slice ao s.length cap, .int .i64 a, .bool false], .int .i64 k, .string p] w _
  change Hid (∀ W, _ → Calls Try.prog 32 #[.agg #[.slice ao s.length cap, .int .i64 a, .bool false], .int .i64 k] W _) at HF
  obtain ⟨hb, hX, hR, hsz⟩ := bx2_facts w ao s.length cap a false
  obtain ⟨W, hW⟩ : ∃ W, bx2 w ao s.length cap a false = W := ⟨_, rfl⟩
  have hW' := Lib.hid hW
  rw [hW] at hb hX hR hsz
  clear hW h hf
  go_enter Try.func15, Try.ntmps15
  go_wp2_with fail
  rw [show (w.alloc (.cells #[.slice ao s.length cap, .int .i64 a, .bool false] 25)).alloc (.cells #[.slice none 0 0, .int .i64 0, .bool false] 25) = W from hW'.out]
  refine (HF.out _ (HS.out.below hb)).mono ?_
  rintro e w2 ⟨rfl, hb2⟩
  have hN : WN w w2 (.slice ao s.length cap) (Dk.mk s a false) := (WN.mk hb hX hR (HS.out.below hb)).below hb2
  clear hb hX hR hb2 HF
  go_wp2_with fail
  go_loopw [26] (fun i wr => ∃ (j : Nat) (v : Value) (d : Dk), j ≤ 4 ∧ i = .int .i64 j ∧ WN w wr v d ∧ d.s.length = s.length ∧ (-9223372036854775808 ≤ d.left ∧ d.left ≤ 9223372036854775807) ∧ Hid (Dk.writeFrom k p d j (4 - j) = s0)) (fun i _ => 4 - (intOf i).toNat)
  case atStart => exact ⟨0, _, _, Nat.zero_le _, rfl, hN, rfl, ⟨ha1, ha2⟩, HS0⟩
  case round =>
    obtain ⟨j, v, d, hj, rfl, hM, hlen, ⟨hl1, hl2⟩, hs1⟩ := hrel
    clear hN HS0
    obtain ⟨s1, a1, c1⟩ := d
    simp only at hlen hl1 hl2
    have HL := Lib.hid hlen
    clear hlen
    obtain ⟨ao1, cap1, rfl⟩ := hM.hS.nil
    simp only at hM
    obtain ⟨x0, x1, x2, y0, y1, y2⟩ := hM.hP.dval
    have hne1 : wr.heap.size ≠ w.heap.size := Nat.ne_of_gt hM.hP.lt
    by_cases hlt : j < 4
    · have hb1 : (j : Int) < 4 := by omega
      have hw1 : IntKind.i64.wrap (k + j) = k + j := IntWalk.i64_in _ (by omega)
      have hw2 : IntKind.i64.wrap ((j : Int) * 128) = (j : Int) * 128 := IntWalk.i64_in _ (by omega)
      have hw3 : IntKind.i64.wrap ((j : Int) + 1) = (j : Int) + 1 := IntWalk.i64_in _ (by omega)
      have hw4 : IntKind.i64.wrap (((j : Int) + 1) * 128) = ((j : Int) + 1) * 128 := IntWalk.i64_in _ (by omega)
      have hq0 : (0 : Int) ≤ ((j : Int) + 1) * 128 := by omega
      have hq5 : (j : Int) ≤ (j : Int) + 1 := by omega
      have hq1 : (0 : Int) ≤ (j : Int) * 128 := by omega
      have hq2 : (j : Int) * 128 ≤ ((j : Int) + 1) * 128 := by omega
      have hq3 : ((j : Int) + 1) * 128 ≤ (512 : Int) := by omega
      have hq4 : ((j : Int) + 1) * 128 ≤ (p.size : Int) := by omega
      obtain ⟨⟨⟨s2, a2, c2⟩, e2⟩, hr⟩ : ∃ r, (Dk.mk s1 a1 c1).write (k + j) (Dk.cutAt p j) = r := ⟨_, rfl⟩
      have HW1 := Lib.hid (fun W h => HW.out (Dk.mk s1 a1 c1) (.slice ao1 s1.length cap1) (k + j) (Dk.cutAt p j) W h (by have := HL.out; simp only; omega) hl1 hl2 (by rw [cutAt_size p hp j hlt]; decide))
      rw [hr] at HW1
      have hr1 := Lib.hid hr
      have HE : Hid (p.extract ((j : Int) * 128).toNat (((j : Int) + 1) * 128).toNat = Dk.cutAt p j) := Lib.hid (by rw [Dk.cutAt, show ((j : Int) * 128).toNat = j * 128 by omega, show (((j : Int) + 1) * 128).toNat = (j + 1) * 128 by omega])
      change Hid (∀ W, _ → Calls Try.prog 11 #[.agg #[.slice ao1 s1.length cap1, .int .i64 a1, .bool c1], .int .i64 (k + j), .string (Dk.cutAt p j)] W _) at HW1
      clear hr HW
      go_wp2
      go_region_held3 (fun w' => w'.cell? ⟨w.heap.size, 0, none⟩ = some (.slice ao1 s1.length cap1) ∧ w'.cell? ⟨w.heap.size, 1, none⟩ = some (.int .i64 a1) ∧ w'.cell? ⟨w.heap.size, 2, none⟩ = some (.bool c1)) (first | exact ⟨x0, x1, x2⟩ | exact ⟨k0, k1, k2⟩ | go_keep) (first | (go_at_call 11; rw [HE.out]; refine (HW1.out _ (hM.hS.below (by first | exact (Below.refl _ _).drew | exact (Below.refl _ _).drew.alloc (Nat.le_refl _) _))).mono ?_; rintro e w5 ⟨hb5, v5, rfl, hS5⟩; obtain ⟨ao5, cap5, rfl⟩ := hS5.nil; simp only [Dk.val]; first | (have hM5 := hM.below ((Below.refl _ _).drew.trans hb5); obtain ⟨k0, k1, k2, l0, l1, l2⟩ := hM5.hP.dval) | (have hM5 := hM.below (((Below.refl _ _).drew.alloc (Nat.le_refl _) _).next hb5); have hD5 : Blk w5 wr.heap.size #[.slice none 0 0, .int .i64 0, .bool false] 25 := (Blk.new wr.drew _ _).below hb5; obtain ⟨k0, k1, k2, l0, l1, l2⟩ := hM5.hP.dval; obtain ⟨d0, d1, d2, f0, f1, f2⟩ := hD5.dval)))
      case' _ =>
        have hN6 := hM5.below ((Below.refl _ _).alloc (Nat.le_refl _) (.cells #[.slice ao5 s2.length cap5, .int .i64 a2, .bool c2] 25))
        have hD6 := Blk.new w5 #[.slice ao5 s2.length cap5, .int .i64 a2, .bool c2] 25
        have hS6 := hS5.below ((Below.refl _ _).alloc (Nat.le_refl _) (.cells #[.slice ao5 s2.length cap5, .int .i64 a2, .bool c2] 25))
        rename_i hHeld; clear hHeld
        generalize w5.alloc (.cells #[.slice ao5 s2.length cap5, .int .i64 a2, .bool c2] 25) = W6 at hN6 hD6 hS6 ⊢
      rotate_left
      case' _ =>
        obtain ⟨hN6, hD6, hS6⟩ := hM5.far hD5 hS5 (by have := hM.hR.lt; omega) a2 c2
        rename_i hHeld; clear hHeld d0 d1 d2 f0 f1 f2
        generalize ((w5.setCell ⟨wr.heap.size, 0, none⟩ (.slice ao5 s2.length cap5)).setCell ⟨wr.heap.size, 1, none⟩ (.int .i64 a2)).setCell ⟨wr.heap.size, 2, none⟩ (.bool c2) = W6 at hN6 hD6 hS6 ⊢
      all_goals
        clear k0 k1 k2 l0 l1 l2 x0 x1 x2 y0 y1 y2
        obtain ⟨k0, k1, k2, l0, l1, l2⟩ := hN6.hP.dval
        obtain ⟨d0, d1, d2, f0, f1, f2⟩ := hD6.dval
        have hN7 := hN6.put hS6 a2 c2
        by_cases he : e2 = 0
        · subst he
          go_wp2
          have hst := Dk.from_step hlt hr1.out hs1.out
          rw [if_pos rfl] at hst
          have hlen2 := Dk.write_len (Dk.mk s1 a1 c1) (k + j) (Dk.cutAt p j)
          have hlef2 := Dk.write_left (Dk.mk s1 a1 c1) (k + j) (Dk.cutAt p j) hl1 hl2
          rw [hr1.out] at hlen2 hlef2
          exact ⟨⟨j + 1, _, _, by omega, by simp, hN7, hlen2.trans HL.out, hlef2, Lib.hid hst⟩, by simp [intOf]; omega⟩
        · obtain ⟨m0, m1, m2, n0, n1, n2⟩ := hN6.hR.dval
          go_wp2
          have hst := Dk.from_step hlt hr1.out hs1.out
          rw [if_neg he] at hst
          obtain ⟨hbE, hSE, g0, g1, g2⟩ := hN7.hR.fin3 hN7.hb (by omega) hN7.hS a2 c2 ao5 s2.length cap5
          rw [hst]
          exact bodyPost_ret (v := .tuple #[.agg #[.slice ao5 s2.length cap5, .int .i64 a2, .bool c2], .int .i64 e2]) (by simp [results, Try.results15, go_sem, g0, g1, g2]) rfl ⟨hbE, .slice ao5 s2.length cap5, rfl, hSE⟩
    · obtain rfl : j = 4 := by omega
      obtain ⟨m0, m1, m2, n0, n1, n2⟩ := hM.hR.dval
      go_wp2
      have hst := hs1.out
      simp only [Dk.writeFrom, Nat.sub_self] at hst
      obtain ⟨hbE, hSE, g0, g1, g2⟩ := hM.hR.fin3 hM.hb (by omega) hM.hS a1 c1 ao1 s1.length cap1
      rw [← hst]
      exact bodyPost_ret (v := .tuple #[.agg #[.slice ao1 s1.length cap1, .int .i64 a1, .bool c1], .int .i64 0]) (by simp [results, Try.results15, go_sem, g0, g1, g2]) rfl ⟨hbE, .slice ao1 s1.length cap1, rfl, hSE⟩
end Go.Proofs.Ythliialieogakaa
