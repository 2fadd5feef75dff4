/- Disks: New. -/
import Derived.Test.YthliialieogakaaDskB
namespace Go.Proofs.Ythliialieogakaa
set_option linter.unusedVariables false
set_option linter.unusedSimpArgs false
open Go.RowKit
open Oct (S)
theorem new_no (n : Int) (w : World) (hn : n < 1 ∨ 65536 < n) : Calls Try.prog 7 #[.int .i64 n] w (DkP Dk.zero 1 w) := by
  by_cases h1 : n < 1
  · go_enter Try.func7, Try.ntmps7
    go_wp2_with fail
    exact bodyPost_ret (v := .tuple #[.agg #[.slice none 0 0, .int .i64 0, .bool false], .int .i64 1]) (by simp [results, Try.results7, go_sem]) rfl ⟨(Below.refl _ _).alloc (Nat.le_refl _) _, _, rfl, SecAt.empty _⟩
  · have h2 : 65536 < n := by omega
    go_enter Try.func7, Try.ntmps7
    go_wp2_with fail
    exact bodyPost_ret (v := .tuple #[.agg #[.slice none 0 0, .int .i64 0, .bool false], .int .i64 1]) (by simp [results, Try.results7, go_sem]) rfl ⟨(Below.refl _ _).alloc (Nat.le_refl _) _, _, rfl, SecAt.empty _⟩
theorem new_yes (n : Nat) (w : World) (hn1 : 1 ≤ n) (hn : n ≤ 65536) : Calls Try.prog 7 #[.int .i64 n] w (DkP (Dk.blank n) 0 w) := by
  have HR := Lib.hid (fun w => repeat_zero w)
  have HS := Lib.hid (fun g w hg h0 => srepeat_any (S (zer 128)) n g w hn1 hn hg h0)
  have hb0 : Below w.heap.size w (w.alloc (.cells #[.slice none 0 0, .int .i64 0, .bool false] 25)) := (Below.refl _ _).alloc (Nat.le_refl _) _
  have hR0 := Blk.new w #[.slice none 0 0, .int .i64 0, .bool false] 25
  go_enter Try.func7, Try.ntmps7
  go_wp2_with fail
  refine (HR.out _).mono ?_
  rintro e w2 ⟨rfl, hb2⟩
  have hR2 := hR0.below hb2
  replace hb0 := hb0.next hb2
  go_wp2_with fail
  refine (HS.out w2.heap.size _ (by simp) ((Blk.new w2 #[.string (S (zer 128))] 9).cell 0 rfl)).mono ?_
  rintro e w3 ⟨b, rfl, hb3, hB⟩
  have hR3 := (hR2.alloc (.cells #[.string (S (zer 128))] 9)).below hb3
  have hS := SecAt.blk (cap := n) (by simpa using hB) (l := List.replicate n (S (zer 128))) (by simp; omega)
  replace hb0 := (hb0.alloc hb0.size (.cells #[.string (S (zer 128))] 9)).next hb3
  clear hb2 hb3 hR2 hR0 hB
  obtain ⟨z0, z1, z2, f0, f1, f2⟩ := hR3.dval
  go_wp2_with fail
  clear z0 z1 z2 f0 f1 f2
  obtain ⟨hR, hSS, hBB⟩ := hR3.store3 (-1) false (some ⟨b, 0, none⟩) n n
  have hb := hBB _ _ (Nat.le_refl _) hb0
  replace hS := hSS _ _ hS
  obtain ⟨z0, z1, z2, f0, f1, f2⟩ := hR.dval
  exact bodyPost_ret (v := .tuple #[.agg #[.slice (some ⟨b, 0, none⟩) n n, .int .i64 (-1), .bool false], .int .i64 0]) (by simp [results, Try.results7, go_sem, z0, z1, z2]) rfl ⟨hb, _, rfl, by simpa [Dk.blank] using hS⟩
end Go.Proofs.Ythliialieogakaa
