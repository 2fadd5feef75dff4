/- Disks: the page's example. -/
import Derived.Test.YthliialieogakaaDskK
import Derived.Test.YthliialieogakaaDskQ
import Derived.Test.YthliialieogakaaDskO
import Derived.Test.YthliialieogakaaDskS
import Derived.Test.YthliialieogakaaDskM
import Derived.Test.YthliialieogakaaDskF
namespace Go.Proofs.Ythliialieogakaa
set_option linter.unusedVariables false
set_option linter.unusedSimpArgs false
open Go.RowKit
open Oct (S)
theorem awake_any (w : World) : Calls Try.prog 9 #[] w (Ret (.bool true) w) := by
  obtain ⟨hq1, hq2, hq3⟩ := aw6
  have h3 := aw3
  have h5 := aw5
  have h7 := aw7
  generalize awD.s = s2 at h3 h5 h7
  generalize awQ = q at *
  have hz1 : 255 < q.size := by omega
  have hz2 : 256 < q.size := by omega
  have hv1 : ((q[255].toNat : Nat) : Int) = 97 := by rw [Option.some.inj ((getElem?_pos q 255 hz1).symm.trans hq2)]; rfl
  have hv2 : ((q[256].toNat : Nat) : Int) = 0 := by rw [Option.some.inj ((getElem?_pos q 256 hz2).symm.trans hq3)]; rfl
  clear hq2 hq3
  have HP := Lib.hid (fun w => page_any 97 w)
  have hp : (S (pg 97)).size ≤ maxLen := by decide +kernel
  generalize S (pg 97) = p at *
  have HN := Lib.hid (fun w => new_any 8 w)
  rw [aw1] at HN
  have h1 : (Dk.blank 8).s.length ≤ 100000 := by simp [Dk.blank]
  have h2 := aw2
  generalize (Dk.blank 8).s = s1 at *
  have HA := Lib.hid (fun v w h => arm_any ⟨s1, -1, false⟩ v 2 w h)
  rw [h2] at HA
  have HW := Lib.hid (fun v w h => writePage_any ⟨s1, 2, false⟩ v 4 p w h h1 (by simp) (by simp) hp)
  rw [h3] at HW
  have HT := Lib.hid (fun v w h => start_any ⟨s2, 0, true⟩ v w h)
  have HR := Lib.hid (fun v w h => readPage_any ⟨s2, -1, false⟩ v 4 w h (by omega) h7)
  rw [h5] at HR
  simp only [Dk.val, Dk.start] at HN HA HW HT HR
  clear h1 h2 h3 h5 h7 hp
  go_enter Try.func9, Try.ntmps9
  go_wp2_with fail
  refine (HN.out _).mono ?_
  rintro e w1 ⟨hb1, v1, rfl, hS1⟩
  obtain ⟨ao1, cap1, rfl⟩ := hS1.nil
  simp only [Dk.val] at hS1 ⊢
  go_wp2_with fail
  generalize hW1 : w1.alloc (.cells #[.slice ao1 s1.length cap1, .int .i64 (-1), .bool false] 25) = W1
  have hD1 : Blk W1 w1.heap.size #[.slice ao1 s1.length cap1, .int .i64 (-1), .bool false] 25 := by subst hW1; exact Blk.new _ _ _
  have hS2 : SecAt W1 (.slice ao1 s1.length cap1) s1 := by subst hW1; exact hS1.below ((Below.refl _ _).alloc (Nat.le_refl _) _)
  have hB1 : Below w.heap.size w W1 := by subst hW1; exact hb1.alloc (hb1.size) _
  have hz : w.heap.size ≤ w1.heap.size := hb1.size
  clear hW1
  refine (HA.out _ _ hS2).mono ?_
  rintro e w2 ⟨hb2, v2, rfl, hS3⟩
  obtain ⟨ao2, cap2, rfl⟩ := hS3.nil
  simp only [Dk.val] at hS3 ⊢
  go_wp2_with fail
  refine (HP.out _).mono ?_
  rintro e w3 ⟨rfl, hb3⟩
  go_wp2_with fail
  refine (HW.out _ _ (hS3.below hb3)).mono ?_
  rintro e w4 ⟨hb4, v4, rfl, hS5⟩
  obtain ⟨ao4, cap4, rfl⟩ := hS5.nil
  simp only [Dk.val] at hS5 ⊢
  have hD4 := ((hD1.below hb2).below hb3).below hb4
  have hB4 := ((hB1.next hb2).next hb3).next hb4
  obtain ⟨k0, k1, k2, l0, l1, l2⟩ := hD4.dval
  clear hb2 hb3 hb4
  go_wp2_with fail
  obtain ⟨_, e2, e3⟩ := hD4.store3 0 true ao4 s2.length cap4
  have hB5 := e3 _ _ hz hB4
  refine (HT.out _ _ (e2 _ _ hS5)).mono ?_
  rintro e w5 ⟨hb5, v5, rfl, hS6⟩
  obtain ⟨ao5, cap5, rfl⟩ := hS6.nil
  simp only [Dk.val] at hS6 ⊢
  go_wp2_with fail
  refine (HR.out _ _ hS6).mono ?_
  rintro e w6 ⟨rfl, hb6⟩
  have hB6 := (hB5.next hb5).next hb6
  go_wp2_with fail
  go_ret
  exact ⟨rfl, hB6⟩
end Go.Proofs.Ythliialieogakaa
