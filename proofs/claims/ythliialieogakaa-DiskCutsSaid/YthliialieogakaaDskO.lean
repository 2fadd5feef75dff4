/- Disks: the reference's New. -/
import Derived.Test.YthliialieogakaaDskN
import Derived.Test.YthliialieogakaaDskG
import Derived.Test.YthliialieogakaaDskW
import Derived.Deep.RegionHeld3
import Derived.Deep.RegionLaw
import Derived.Deep.AppendLies
namespace Go.Proofs.Ythliialieogakaa
set_option linter.unusedVariables false
set_option linter.unusedSimpArgs false
open Go.RowKit
open Oct (S)
theorem rnew_no (n : Int) (w : World) (hn : n < 1 ∨ 65536 < n) : Calls Try.prog 8 #[.int .i64 n] w (DkP Dk.zero 1 w) := by
  by_cases h1 : n < 1
  · go_enter Try.func8, Try.ntmps8
    go_wp2_with fail
    exact bodyPost_ret (v := .tuple #[.agg #[.slice none 0 0, .int .i64 0, .bool false], .int .i64 1]) (by simp [results, Try.results8, go_sem]) rfl ⟨(Below.refl _ _).alloc (Nat.le_refl _) _, _, rfl, SecAt.empty _⟩
  · have h2 : 65536 < n := by omega
    go_enter Try.func8, Try.ntmps8
    go_wp2_with fail
    exact bodyPost_ret (v := .tuple #[.agg #[.slice none 0 0, .int .i64 0, .bool false], .int .i64 1]) (by simp [results, Try.results8, go_sem]) rfl ⟨(Below.refl _ _).alloc (Nat.le_refl _) _, _, rfl, SecAt.empty _⟩
/-- The world in the loop: k sectors of zeros lie in the disk's slice v. -/
structure RN (w w' : World) (v : Value) (k : Nat) : Prop where
  hb : Below w.heap.size w w'
  hR : Blk w' w.heap.size #[.slice none 0 0, .int .i64 0, .bool false] 25
  hD : Blk w' (w.heap.size + 1) #[v, .int .i64 (-1), .bool false] 25
  hO : w'.ownsRow (w.heap.size + 2) 9 1 v k (List.replicate k (.string (S (zer 128))))
  hs : w.heap.size + 2 ≤ w'.heap.size
theorem RN.below {w w1 w2 : World} {v : Value} {k : Nat} (h : RN w w1 v k) (hb : Below w1.heap.size w1 w2) : RN w w2 v k :=
  ⟨h.hb.next hb, h.hR.below hb, h.hD.below hb, ownsRow_below h.hO hb, Nat.le_trans h.hs hb.size⟩
theorem RN.app {w wa w6 : World} {v : Value} {k g cap : Nat} (h : RN w wa v k) (hown : w6.ownsRow (w.heap.size + 2) 9 1 (.slice (some ⟨g, 0, none⟩) (k + 1) cap) (k + 1) (List.replicate k (.string (S (zer 128))) ++ [.string (S (zer 128))])) (hg : wa.grownBy w6 v.ownBlock) :
    Blk w6 (w.heap.size + 1) #[v, .int .i64 (-1), .bool false] 25 ∧ RN w (w6.setCell ⟨w.heap.size + 1, 0, none⟩ (.slice (some ⟨g, 0, none⟩) (k + 1) cap)) (.slice (some ⟨g, 0, none⟩) (k + 1) cap) (k + 1) := by
  have hlo : ∀ q, v.ownBlock = some q → w.heap.size + 2 ≤ q := fun q hq => (h.hO.lt q hq).1
  have hR : Blk w6 w.heap.size #[.slice none 0 0, .int .i64 0, .bool false] 25 := h.hR.grown hg (fun e => by have := hlo _ e.symm; omega)
  have hD : Blk w6 (w.heap.size + 1) #[v, .int .i64 (-1), .bool false] 25 := h.hD.grown hg (fun e => by have := hlo _ e.symm; omega)
  have hb : Below w.heap.size w w6 := h.hb.grown hg (by have := h.hs; omega) (fun q hq => by have := hlo _ hq; omega)
  have hgt := (hown.lt g rfl).1
  refine ⟨hD, hb.setCell (by show w.heap.size ≤ w.heap.size + 1; omega) _, hR.other (by simp) _, hD.set 0 _, ?_, by have := h.hs; have := hg.size; simp [World.setCell]; omega⟩
  rw [List.replicate_succ']
  exact ownsRow_setCell_other hown (fun e => absurd (show g = w.heap.size + 1 from by injection e) (by omega)) _
theorem rnew_yes (n : Nat) (w : World) (hn1 : 1 ≤ n) (hn : n ≤ 65536) : Calls Try.prog 8 #[.int .i64 n] w (DkP (Dk.blank n) 0 w) := by
  have HZ := Lib.hid (fun w => zeros_any w)
  have hb0 : Below w.heap.size w (w.alloc (.cells #[.slice none 0 0, .int .i64 0, .bool false] 25)) := (Below.refl _ _).alloc (Nat.le_refl _) _
  have hR0 := Blk.new w #[.slice none 0 0, .int .i64 0, .bool false] 25
  go_enter Try.func8, Try.ntmps8
  go_wp2_with fail
  go_loopw [5] (fun i wr => ∃ (k : Nat) (v : Value), k ≤ n ∧ i = .int .i64 k ∧ RN w wr v k) (fun i _ => n - (intOf i).toNat)
  case atStart =>
    refine ⟨0, .slice none 0 0, Nat.zero_le _, rfl, hb0.alloc (by simp) _, hR0.alloc _, ?_, World.ownsRow_nil _ _ _ _, by simp⟩
    have := Blk.new (w.alloc (.cells #[.slice none 0 0, .int .i64 0, .bool false] 25)) #[.slice none 0 0, .int .i64 (-1), .bool false] 25
    simpa using this
  case round =>
    obtain ⟨k, v, hk, rfl, hN⟩ := hrel
    by_cases hlt : k < n
    · have hc0 := hN.hD.cell 0 rfl
      have hf0 := hN.hD.free 0
      obtain ⟨i0, hi0, hz0, hz1, hz2⟩ := info_parts info_str
      go_wp2
      go_region_law (first | (go_simp; go_at_call 27; refine (zeros_any _).mono ?_; rintro e w5 ⟨rfl, hb5⟩; have hN5 : RN w w5 v k := hN.below ((Below.refl _ _).drew.trans hb5); have hc5 : w5.cell? ⟨w.heap.size + 1, 0, none⟩ = some v := hN5.hD.cell 0 rfl; have hf5 := hN5.hD.free 0; have hc5a : (w5.alloc (.cells #[.string (S (zer 128))] 9)).cell? ⟨w.heap.size + 1, 0, none⟩ = some v := (hN5.hD.alloc _).cell 0 rfl) | (refine step_append_lies _ (by rfl) _ _ _ (by rfl) (w.heap.size + 2) 9 i0 _ 1 16 Try.underlying23 hi0 hz0 hz1 hz2 rfl (by omega) v k _ rfl (RN.hO (hN5.below ((Below.refl _ _).alloc (Nat.le_refl _) _))) ⟨_, 0, none⟩ 1 1 [.string (S (zer 128))] rfl (by rfl) (World.news_of_block (cs := #[.string (S (zer 128))]) (t := 9) (fr := (0, 0)) (heap_alloc_new _ _)) (by simp [Value.oneCell']) (by omega) (by unfold maxLen; omega) (by omega) (RN.hs (hN5.below ((Below.refl _ _).alloc (Nat.le_refl _) _))) _ rfl ?_; intro gg cap w6 hown6 hgrow hat hlt6; obtain ⟨hD6, hN6⟩ := (hN5.below ((Below.refl _ _).alloc (Nat.le_refl _) _)).app hown6 hgrow; have hc6 : w6.cell? ⟨w.heap.size + 1, 0, none⟩ = some v := hD6.cell 0 rfl; have hf6 := hD6.free 0))
      all_goals (try simp [go_sem]); all_goals (try go_wp2); all_goals go_roundw
      case rel => exact ⟨k + 1, _, by omega, by simp, hN6⟩
      case measure => simp [intOf]; omega
      all_goals first | exact ⟨k + 1, _, by omega, by simp, hN6⟩ | (simp [intOf]; omega)
    · obtain rfl : k = n := by omega
      obtain ⟨ao, cap, rfl⟩ := (SecAt.owned (l := List.replicate k (S (zer 128))) (by simpa using hN.hO) (by simp; omega)).nil
      obtain ⟨x0, x1, x2, xf0, xf1, xf2⟩ := hN.hD.dval
      obtain ⟨z0, z1, z2, zf0, zf1, zf2⟩ := hN.hR.dval
      have hS := SecAt.owned (l := List.replicate k (S (zer 128))) (by simpa using hN.hO) (by simp; omega)
      go_wp2
      obtain ⟨hbE, hSE, e0, e1, e2⟩ := hN.hR.fin3 hN.hb (Nat.le_refl _) hS (-1) false ao k cap
      exact bodyPost_ret (v := .tuple #[.agg #[.slice ao k cap, .int .i64 (-1), .bool false], .int .i64 0]) (by simp [results, Try.results8, go_sem, e0, e1, e2]) rfl ⟨hbE, .slice ao k cap, rfl, hSE⟩
theorem rnew_any (n : Int) (w : World) : Calls Try.prog 8 #[.int .i64 n] w (DkP (Dk.new n).1 (Dk.new n).2 w) := by
  by_cases h : n < 1 ∨ 65536 < n
  · simpa [Dk.new, h] using rnew_no n w h
  · obtain ⟨m, rfl⟩ : ∃ m : Nat, n = m := ⟨n.toNat, by omega⟩
    have := rnew_yes m w (by omega) (by omega)
    simpa [Dk.new, h] using this
theorem new_any (n : Int) (w : World) : Calls Try.prog 7 #[.int .i64 n] w (DkP (Dk.new n).1 (Dk.new n).2 w) := by
  by_cases h : n < 1 ∨ 65536 < n
  · simpa [Dk.new, h] using new_no n w h
  · obtain ⟨m, rfl⟩ : ∃ m : Nat, n = m := ⟨n.toNat, by omega⟩
    have := new_yes m w (by omega) (by omega)
    simpa [Dk.new, h] using this
end Go.Proofs.Ythliialieogakaa
