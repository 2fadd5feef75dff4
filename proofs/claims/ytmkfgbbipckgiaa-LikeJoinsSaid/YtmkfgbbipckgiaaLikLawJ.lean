/- The walk of LikeJoins. -/
import Derived.Test.YtmkfgbbipckgiaaLikA
import Derived.Test.YtmkfgbbipckgiaaKitO
import Derived.Test.YtmkfgbbipckgiaaKitQ
namespace Go.Proofs.Ytmkfgbbipckgiaa
set_option linter.unusedVariables false
set_option linter.unusedSimpArgs false
open Go.RowKit Go.Sort Go.BigFrame
open Oct (S)
open Lik (signsL special frontL plainL matchL quoteL M)
/-- The law's two arrays, in blocks of their own. -/
structure Boxed (w : World) (B C : Nat) (a b c d : ByteArray) : Prop where
  lt : C < w.heap.size
  le : B < C
  c0 : w.cell? ⟨B, 0, none⟩ = some (.string a)
  c1 : w.cell? ⟨B, 1, none⟩ = some (.string b)
  c2 : w.cell? ⟨C, 0, none⟩ = some (.string c)
  c3 : w.cell? ⟨C, 1, none⟩ = some (.string d)
theorem Boxed.fresh (w : World) (a b c d : ByteArray) (t : TypeId) : Boxed ((w.alloc (.cells #[.string a, .string b] t)).alloc (.cells #[.string c, .string d] t)) w.heap.size (w.heap.size + 1) a b c d := by
  have e : ∀ j, ((w.alloc (.cells #[.string a, .string b] t)).alloc (.cells #[.string c, .string d] t)).cell? ⟨w.heap.size, j, none⟩ = (w.alloc (.cells #[.string a, .string b] t)).cell? ⟨w.heap.size, j, none⟩ := by
    intro j
    exact ((Below.refl _ _).alloc (Nat.le_refl _) _).cell (p := ⟨w.heap.size, j, none⟩) (by simp)
  have e2 : ∀ j, ((w.alloc (.cells #[.string a, .string b] t)).alloc (.cells #[.string c, .string d] t)).cell? ⟨w.heap.size + 1, j, none⟩ = (#[Value.string c, .string d] : Array Value)[j]? := by
    intro j
    have := World.cell?_alloc_mark (w.alloc (.cells #[.string a, .string b] t)) #[.string c, .string d] t (0, 0) j
    simpa [World.cell?] using this
  refine ⟨by simp, by omega, ?_, ?_, ?_, ?_⟩
  · rw [e, World.cell?_alloc_new]; simp
  · rw [e, World.cell?_alloc_new]; simp
  · rw [e2]; simp
  · rw [e2]; simp
theorem Boxed.below {w w1 : World} {B C : Nat} {a b c d : ByteArray} (h : Boxed w B C a b c d) (hb : Below w.heap.size w w1) : Boxed w1 B C a b c d :=
  ⟨Nat.lt_of_lt_of_le h.lt hb.size, h.le, (hb.cell (p := ⟨B, 0, none⟩) (Nat.lt_trans h.le h.lt)).trans h.c0, (hb.cell (p := ⟨B, 1, none⟩) (Nat.lt_trans h.le h.lt)).trans h.c1, (hb.cell (p := ⟨C, 0, none⟩) h.lt).trans h.c2, (hb.cell (p := ⟨C, 1, none⟩) h.lt).trans h.c3⟩
theorem start2 (w : World) (x y : Obj) : Below w.heap.size w ((w.alloc x).alloc y) := ((Below.refl _ _).alloc (Nat.le_refl _) _).alloc (by simp) _
set_option maxHeartbeats 1000000 in
set_option maxRecDepth 100000 in
theorem joins_true_true (a b c d : ByteArray) (w : World) (ha : a.size ≤ 100) (hb : b.size ≤ 100) (hc : c.size ≤ 100) (hd : d.size ≤ 100) (HS : Hid (Lib.hasSuffix c.data.toList [92] = false)) (HM1 : Hid (matchL (signsL c.data.toList) a.data.toList = true)) (HM2 : Hid (matchL (signsL d.data.toList) b.data.toList = true)) (HM3 : Hid (matchL (signsL (c ++ d).data.toList) (a ++ b).data.toList = true)) (q1 q2 : ByteArray) (HQ1 : Hid (S (quoteL a.data.toList) = q1)) (HQ2 : Hid (S (quoteL b.data.toList) = q2)) (hq1 : q1.size ≤ 200) (hq2 : q2.size ≤ 200) (HM4 : Hid (matchL (signsL (q1 ++ ⟨#[37]⟩ ++ q2).data.toList) (a ++ b).data.toList = true)) (HM5 : Hid (matchL (signsL (c ++ ⟨#[37]⟩).data.toList) (a ++ b).data.toList = true)) :
    Calls Try.prog 5 #[.agg #[.string a, .string b], .agg #[.string c, .string d]] w (Ret (.bool true) w) := by
  have hx := Boxed.fresh w a b c d 27
  have hb1 := start2 w (.cells #[.string a, .string b] 27) (.cells #[.string c, .string d] 27)
  have hab : (a ++ b).size ≤ 1000 := by rw [ByteArray.size_append]; omega
  have hcd : (c ++ d).size ≤ 1000 := by rw [ByteArray.size_append]; omega
  have hq3 : (q1 ++ ⟨#[37]⟩).size ≤ 1000 := by rw [ByteArray.size_append, show (ByteArray.mk #[37]).size = 1 from rfl]; omega
  have hq : (q1 ++ ⟨#[37]⟩ ++ q2).size ≤ 2000 := by rw [ByteArray.size_append]; omega
  have hcp : (c ++ ⟨#[37]⟩).size ≤ 1000 := by rw [ByteArray.size_append, show (ByteArray.mk #[37]).size = 1 from rfl]; omega
  have HAB := Lib.hid hab; have HCD := Lib.hid hcd; have HQQ := Lib.hid hq; have HQ3 := Lib.hid hq3; have HCP := Lib.hid hcp
  clear hab hcd hq hq3 hcp
  have x0 := hx.c0; have x1 := hx.c1; have x2 := hx.c2; have x3 := hx.c3
  go_enter Try.func5, Try.ntmps5
  go_wp2_with fail
  refine (Try.strings_HasSuffix c ⟨#[92]⟩ _ (by omega)).mono ?_
  rintro e w2 ⟨rfl, rfl⟩
  rw [show (ByteArray.mk #[92]).data.toList = [92] from rfl, HS.out]
  generalize (w.alloc (.cells #[.string a, .string b] 27)).alloc (.cells #[.string c, .string d] 27) = wb at *
  obtain ⟨B, HB⟩ : ∃ B, Hid (w.heap.size = B) := ⟨_, rfl⟩
  rw [HB.out] at hx x0 x1 x2 x3 ⊢
  go_wp2_with fail
  refine (match_at a c true HM1 _ (by omega) (by omega)).mono ?_
  rintro e w2 ⟨rfl, hbn⟩
  replace hx := hx.below hbn
  replace hb1 := hb1.next hbn; clear hbn x0 x1 x2 x3
  have x0 := hx.c0; have x1 := hx.c1; have x2 := hx.c2; have x3 := hx.c3
  go_wp2_with fail
  refine (match_at b d true HM2 _ (by omega) (by omega)).mono ?_
  rintro e w2 ⟨rfl, hbn⟩
  replace hx := hx.below hbn
  replace hb1 := hb1.next hbn; clear hbn x0 x1 x2 x3
  have x0 := hx.c0; have x1 := hx.c1; have x2 := hx.c2; have x3 := hx.c3
  go_wp2_with fail
  refine (match_at (a ++ b) (c ++ d) true HM3 _ (Nat.le_trans HAB.out (by decide)) (Nat.le_trans HCD.out (by decide))).mono ?_
  rintro e w2 ⟨rfl, hbn⟩
  replace hx := hx.below hbn
  replace hb1 := hb1.next hbn; clear hbn x0 x1 x2 x3
  have x0 := hx.c0; have x1 := hx.c1; have x2 := hx.c2; have x3 := hx.c3
  go_wp2_with fail
  have cM1 := Lib.hid (fun w => match_at a c true HM1 w (by omega) (by omega))
  have cM4 := Lib.hid (fun w => match_at (a ++ b) (q1 ++ ⟨#[37]⟩ ++ q2) true HM4 w (Nat.le_trans HAB.out (by decide)) (Nat.le_trans HQQ.out (by decide)))
  have cQ1 := Lib.hid (fun w => quote_at a q1 HQ1 w (by omega))
  have cQ2 := Lib.hid (fun w => quote_at b q2 HQ2 w (by omega))
  have g0 : ∀ p : Regrown, (grow (redrawn w2 p.d) p.os).cell? ⟨B, 0, none⟩ = some (.string a) := fun p => (hx.below (below_regrown _ _ _)).c0
  have g1 : ∀ p : Regrown, (grow (redrawn w2 p.d) p.os).cell? ⟨B, 1, none⟩ = some (.string b) := fun p => (hx.below (below_regrown _ _ _)).c1
  have g2 : ∀ p : Regrown, (grow (redrawn w2 p.d) p.os).cell? ⟨B + 1, 0, none⟩ = some (.string c) := fun p => (hx.below (below_regrown _ _ _)).c2
  have cM5 := Lib.hid (fun w => match_at (a ++ b) (c ++ ⟨#[37]⟩) true HM5 w (Nat.le_trans HAB.out (by decide)) (Nat.le_trans HCP.out (by decide)))
  refine wp_region_quiet_below (by kernel_rfl) (by kernel_rfl) ?_
  repeat (go_big_quiet_step (first | (go_at_call 10; with_reducible exact Ret.regrown (cM4.out _)) | (go_at_call 10; with_reducible exact Ret.regrown (cM1.out _)) | (go_at_call 10; with_reducible exact Ret.regrown (cM5.out _)) | (go_at_call 14; with_reducible exact Ret.regrown (cQ1.out _)) | (go_at_call 14; with_reducible exact Ret.regrown (cQ2.out _)) | (go_at_call 7; with_reducible exact Ret.regrown (awake_any _))))
  refine wpQuiet_nil ?_
  intro w3 hw2
  replace hb1 := hb1.next (below_of_regrown hw2)
  clear hw2
  go_wp2_with fail
  go_ret
  exact ⟨rfl, hb1⟩
set_option maxHeartbeats 1000000 in
set_option maxRecDepth 100000 in
theorem joins_true_false (a b c d : ByteArray) (w : World) (ha : a.size ≤ 100) (hb : b.size ≤ 100) (hc : c.size ≤ 100) (hd : d.size ≤ 100) (HS : Hid (Lib.hasSuffix c.data.toList [92] = false)) (HM1 : Hid (matchL (signsL c.data.toList) a.data.toList = true)) (HM2 : Hid (matchL (signsL d.data.toList) b.data.toList = false)) (q1 q2 : ByteArray) (HQ1 : Hid (S (quoteL a.data.toList) = q1)) (HQ2 : Hid (S (quoteL b.data.toList) = q2)) (hq1 : q1.size ≤ 200) (hq2 : q2.size ≤ 200) (HM4 : Hid (matchL (signsL (q1 ++ ⟨#[37]⟩ ++ q2).data.toList) (a ++ b).data.toList = true)) (HM5 : Hid (matchL (signsL (c ++ ⟨#[37]⟩).data.toList) (a ++ b).data.toList = true)) :
    Calls Try.prog 5 #[.agg #[.string a, .string b], .agg #[.string c, .string d]] w (Ret (.bool true) w) := by
  have hx := Boxed.fresh w a b c d 27
  have hb1 := start2 w (.cells #[.string a, .string b] 27) (.cells #[.string c, .string d] 27)
  have hab : (a ++ b).size ≤ 1000 := by rw [ByteArray.size_append]; omega
  have hcd : (c ++ d).size ≤ 1000 := by rw [ByteArray.size_append]; omega
  have hq3 : (q1 ++ ⟨#[37]⟩).size ≤ 1000 := by rw [ByteArray.size_append, show (ByteArray.mk #[37]).size = 1 from rfl]; omega
  have hq : (q1 ++ ⟨#[37]⟩ ++ q2).size ≤ 2000 := by rw [ByteArray.size_append]; omega
  have hcp : (c ++ ⟨#[37]⟩).size ≤ 1000 := by rw [ByteArray.size_append, show (ByteArray.mk #[37]).size = 1 from rfl]; omega
  have HAB := Lib.hid hab; have HCD := Lib.hid hcd; have HQQ := Lib.hid hq; have HQ3 := Lib.hid hq3; have HCP := Lib.hid hcp
  clear hab hcd hq hq3 hcp
  have x0 := hx.c0; have x1 := hx.c1; have x2 := hx.c2; have x3 := hx.c3
  go_enter Try.func5, Try.ntmps5
  go_wp2_with fail
  refine (Try.strings_HasSuffix c ⟨#[92]⟩ _ (by omega)).mono ?_
  rintro e w2 ⟨rfl, rfl⟩
  rw [show (ByteArray.mk #[92]).data.toList = [92] from rfl, HS.out]
  generalize (w.alloc (.cells #[.string a, .string b] 27)).alloc (.cells #[.string c, .string d] 27) = wb at *
  obtain ⟨B, HB⟩ : ∃ B, Hid (w.heap.size = B) := ⟨_, rfl⟩
  rw [HB.out] at hx x0 x1 x2 x3 ⊢
  go_wp2_with fail
  refine (match_at a c true HM1 _ (by omega) (by omega)).mono ?_
  rintro e w2 ⟨rfl, hbn⟩
  replace hx := hx.below hbn
  replace hb1 := hb1.next hbn; clear hbn x0 x1 x2 x3
  have x0 := hx.c0; have x1 := hx.c1; have x2 := hx.c2; have x3 := hx.c3
  go_wp2_with fail
  refine (match_at b d false HM2 _ (by omega) (by omega)).mono ?_
  rintro e w2 ⟨rfl, hbn⟩
  replace hx := hx.below hbn
  replace hb1 := hb1.next hbn; clear hbn x0 x1 x2 x3
  have x0 := hx.c0; have x1 := hx.c1; have x2 := hx.c2; have x3 := hx.c3
  go_wp2_with fail
  have cM1 := Lib.hid (fun w => match_at a c true HM1 w (by omega) (by omega))
  have cM4 := Lib.hid (fun w => match_at (a ++ b) (q1 ++ ⟨#[37]⟩ ++ q2) true HM4 w (Nat.le_trans HAB.out (by decide)) (Nat.le_trans HQQ.out (by decide)))
  have cQ1 := Lib.hid (fun w => quote_at a q1 HQ1 w (by omega))
  have cQ2 := Lib.hid (fun w => quote_at b q2 HQ2 w (by omega))
  have g0 : ∀ p : Regrown, (grow (redrawn w2 p.d) p.os).cell? ⟨B, 0, none⟩ = some (.string a) := fun p => (hx.below (below_regrown _ _ _)).c0
  have g1 : ∀ p : Regrown, (grow (redrawn w2 p.d) p.os).cell? ⟨B, 1, none⟩ = some (.string b) := fun p => (hx.below (below_regrown _ _ _)).c1
  have g2 : ∀ p : Regrown, (grow (redrawn w2 p.d) p.os).cell? ⟨B + 1, 0, none⟩ = some (.string c) := fun p => (hx.below (below_regrown _ _ _)).c2
  have cM5 := Lib.hid (fun w => match_at (a ++ b) (c ++ ⟨#[37]⟩) true HM5 w (Nat.le_trans HAB.out (by decide)) (Nat.le_trans HCP.out (by decide)))
  refine wp_region_quiet_below (by kernel_rfl) (by kernel_rfl) ?_
  repeat (go_big_quiet_step (first | (go_at_call 10; with_reducible exact Ret.regrown (cM4.out _)) | (go_at_call 10; with_reducible exact Ret.regrown (cM1.out _)) | (go_at_call 10; with_reducible exact Ret.regrown (cM5.out _)) | (go_at_call 14; with_reducible exact Ret.regrown (cQ1.out _)) | (go_at_call 14; with_reducible exact Ret.regrown (cQ2.out _)) | (go_at_call 7; with_reducible exact Ret.regrown (awake_any _))))
  refine wpQuiet_nil ?_
  intro w3 hw2
  replace hb1 := hb1.next (below_of_regrown hw2)
  clear hw2
  go_wp2_with fail
  go_ret
  exact ⟨rfl, hb1⟩
set_option maxHeartbeats 1000000 in
set_option maxRecDepth 100000 in
theorem joins_false (a b c d : ByteArray) (w : World) (ha : a.size ≤ 100) (hb : b.size ≤ 100) (hc : c.size ≤ 100) (hd : d.size ≤ 100) (HS : Hid (Lib.hasSuffix c.data.toList [92] = false)) (HM1 : Hid (matchL (signsL c.data.toList) a.data.toList = false)) (q1 q2 : ByteArray) (HQ1 : Hid (S (quoteL a.data.toList) = q1)) (HQ2 : Hid (S (quoteL b.data.toList) = q2)) (hq1 : q1.size ≤ 200) (hq2 : q2.size ≤ 200) (HM4 : Hid (matchL (signsL (q1 ++ ⟨#[37]⟩ ++ q2).data.toList) (a ++ b).data.toList = true)) :
    Calls Try.prog 5 #[.agg #[.string a, .string b], .agg #[.string c, .string d]] w (Ret (.bool true) w) := by
  have hx := Boxed.fresh w a b c d 27
  have hb1 := start2 w (.cells #[.string a, .string b] 27) (.cells #[.string c, .string d] 27)
  have hab : (a ++ b).size ≤ 1000 := by rw [ByteArray.size_append]; omega
  have hcd : (c ++ d).size ≤ 1000 := by rw [ByteArray.size_append]; omega
  have hq3 : (q1 ++ ⟨#[37]⟩).size ≤ 1000 := by rw [ByteArray.size_append, show (ByteArray.mk #[37]).size = 1 from rfl]; omega
  have hq : (q1 ++ ⟨#[37]⟩ ++ q2).size ≤ 2000 := by rw [ByteArray.size_append]; omega
  have hcp : (c ++ ⟨#[37]⟩).size ≤ 1000 := by rw [ByteArray.size_append, show (ByteArray.mk #[37]).size = 1 from rfl]; omega
  have HAB := Lib.hid hab; have HCD := Lib.hid hcd; have HQQ := Lib.hid hq; have HQ3 := Lib.hid hq3; have HCP := Lib.hid hcp
  clear hab hcd hq hq3 hcp
  have x0 := hx.c0; have x1 := hx.c1; have x2 := hx.c2; have x3 := hx.c3
  go_enter Try.func5, Try.ntmps5
  go_wp2_with fail
  refine (Try.strings_HasSuffix c ⟨#[92]⟩ _ (by omega)).mono ?_
  rintro e w2 ⟨rfl, rfl⟩
  rw [show (ByteArray.mk #[92]).data.toList = [92] from rfl, HS.out]
  generalize (w.alloc (.cells #[.string a, .string b] 27)).alloc (.cells #[.string c, .string d] 27) = wb at *
  obtain ⟨B, HB⟩ : ∃ B, Hid (w.heap.size = B) := ⟨_, rfl⟩
  rw [HB.out] at hx x0 x1 x2 x3 ⊢
  go_wp2_with fail
  refine (match_at a c false HM1 _ (by omega) (by omega)).mono ?_
  rintro e w2 ⟨rfl, hbn⟩
  replace hx := hx.below hbn
  replace hb1 := hb1.next hbn; clear hbn x0 x1 x2 x3
  have x0 := hx.c0; have x1 := hx.c1; have x2 := hx.c2; have x3 := hx.c3
  go_wp2_with fail
  have cM1 := Lib.hid (fun w => match_at a c false HM1 w (by omega) (by omega))
  have cM4 := Lib.hid (fun w => match_at (a ++ b) (q1 ++ ⟨#[37]⟩ ++ q2) true HM4 w (Nat.le_trans HAB.out (by decide)) (Nat.le_trans HQQ.out (by decide)))
  have cQ1 := Lib.hid (fun w => quote_at a q1 HQ1 w (by omega))
  have cQ2 := Lib.hid (fun w => quote_at b q2 HQ2 w (by omega))
  have g0 : ∀ p : Regrown, (grow (redrawn w2 p.d) p.os).cell? ⟨B, 0, none⟩ = some (.string a) := fun p => (hx.below (below_regrown _ _ _)).c0
  have g1 : ∀ p : Regrown, (grow (redrawn w2 p.d) p.os).cell? ⟨B, 1, none⟩ = some (.string b) := fun p => (hx.below (below_regrown _ _ _)).c1
  have g2 : ∀ p : Regrown, (grow (redrawn w2 p.d) p.os).cell? ⟨B + 1, 0, none⟩ = some (.string c) := fun p => (hx.below (below_regrown _ _ _)).c2
  refine wp_region_quiet_below (by kernel_rfl) (by kernel_rfl) ?_
  repeat (go_big_quiet_step (first | (go_at_call 10; with_reducible exact Ret.regrown (cM4.out _)) | (go_at_call 10; with_reducible exact Ret.regrown (cM1.out _)) | (go_at_call 14; with_reducible exact Ret.regrown (cQ1.out _)) | (go_at_call 14; with_reducible exact Ret.regrown (cQ2.out _)) | (go_at_call 7; with_reducible exact Ret.regrown (awake_any _))))
  refine wpQuiet_nil ?_
  intro w3 hw2
  replace hb1 := hb1.next (below_of_regrown hw2)
  clear hw2
  go_wp2_with fail
  go_ret
  exact ⟨rfl, hb1⟩

set_option maxRecDepth 100000 in
theorem big_LikeJoins (a b c d : ByteArray) (w : World) (h : 100 < a.size ∨ (a.size ≤ 100 ∧ 100 < b.size) ∨ (a.size ≤ 100 ∧ b.size ≤ 100 ∧ 100 < c.size) ∨ (a.size ≤ 100 ∧ b.size ≤ 100 ∧ c.size ≤ 100 ∧ 100 < d.size)) (ha : a.size ≤ maxLen) (hb : b.size ≤ maxLen) (hc : c.size ≤ maxLen) (hd : d.size ≤ maxLen) :
    Calls Try.prog 5 #[.agg #[.string a, .string b], .agg #[.string c, .string d]] w (Ret (.bool true) w) := by
  have hx := Boxed.fresh w a b c d 27
  have hb1 := start2 w (.cells #[.string a, .string b] 27) (.cells #[.string c, .string d] 27)
  have x0 := hx.c0; have x1 := hx.c1; have x2 := hx.c2; have x3 := hx.c3
  clear hx
  unfold maxLen at ha hb hc hd
  rcases h with h | ⟨h1, h⟩ | ⟨h1, h2, h⟩ | ⟨h1, h2, h3, h⟩
  all_goals
    go_enter Try.func5, Try.ntmps5
    go_wp2_with fail
    refine (awake_any _).mono ?_
    rintro e w1 ⟨rfl, hbn⟩
    replace hb1 := hb1.next hbn
    go_wp2_with fail
    go_ret
    exact ⟨rfl, hb1⟩
set_option maxRecDepth 100000 in
theorem suffix_LikeJoins (a b c d : ByteArray) (w : World) (ha : a.size ≤ 100) (hb : b.size ≤ 100) (hc : c.size ≤ 100) (hd : d.size ≤ 100) (HS : Hid (Lib.hasSuffix c.data.toList [92] = true)) :
    Calls Try.prog 5 #[.agg #[.string a, .string b], .agg #[.string c, .string d]] w (Ret (.bool true) w) := by
  have hx := Boxed.fresh w a b c d 27
  have hb1 := start2 w (.cells #[.string a, .string b] 27) (.cells #[.string c, .string d] 27)
  have x0 := hx.c0; have x1 := hx.c1; have x2 := hx.c2; have x3 := hx.c3
  clear hx
  go_enter Try.func5, Try.ntmps5
  go_wp2_with fail
  refine (Try.strings_HasSuffix c ⟨#[92]⟩ _ (by omega)).mono ?_
  rintro e w2 ⟨rfl, rfl⟩
  rw [show (ByteArray.mk #[92]).data.toList = [92] from rfl, HS.out]
  go_wp2_with fail
  refine (awake_any _).mono ?_
  rintro e w1 ⟨rfl, hbn⟩
  replace hb1 := hb1.next hbn
  go_wp2_with fail
  go_ret
  exact ⟨rfl, hb1⟩
theorem data_cat (a b : ByteArray) : (a ++ b).data.toList = a.data.toList ++ b.data.toList := by simp
theorem last_of_suffix (c : List UInt8) (h : Lib.hasSuffix c [92] = false) : c.getLast? ≠ some 92 := by
  intro hl
  have : Lib.hasSuffix c [92] = true := by
    unfold Lib.hasSuffix
    rw [List.isSuffixOf_iff_suffix]
    obtain ⟨t, ht⟩ := List.getLast?_eq_some_iff.1 hl
    exact ⟨t, ht.symm⟩
  rw [this] at h
  cases h
theorem M_cat {p q : List Nat} {a b : List UInt8} (h1 : matchL p a = true) (h2 : matchL q b = true) : matchL (p ++ q) (a ++ b) = true := by
  have := (Lik.M_append p q (a ++ b)).2 ⟨a.length, by simp, by simpa [M] using h1, by simpa [M] using h2⟩
  exact this
theorem M_all (a b : List UInt8) : matchL [257] b = true := by
  have h := (Lik.M_snoc_any [] b).2 ⟨0, by omega, by simp [Lik.M_nil]⟩
  exact h
theorem m3 (a b c d : ByteArray) (hs : Lib.hasSuffix c.data.toList [92] = false) (h1 : matchL (signsL c.data.toList) a.data.toList = true) (h2 : matchL (signsL d.data.toList) b.data.toList = true) :
    matchL (signsL (c ++ d).data.toList) (a ++ b).data.toList = true := by
  rw [data_cat, data_cat, Lik.signs_append _ _ (last_of_suffix _ hs)]
  exact M_cat h1 h2
theorem m5 (a b c : ByteArray) (hs : Lib.hasSuffix c.data.toList [92] = false) (h1 : matchL (signsL c.data.toList) a.data.toList = true) :
    matchL (signsL (c ++ ⟨#[37]⟩).data.toList) (a ++ b).data.toList = true := by
  rw [data_cat, data_cat, Lik.signs_append _ _ (last_of_suffix _ hs)]
  exact M_cat h1 (M_all [] _)
theorem m4 (a b : ByteArray) : matchL (signsL (S (quoteL a.data.toList) ++ ⟨#[37]⟩ ++ S (quoteL b.data.toList)).data.toList) (a ++ b).data.toList = true := by
  rw [data_cat, data_cat, data_cat, Oct.S_data, Oct.S_data, List.append_assoc, Lik.signs_quote]
  refine M_cat ((Lik.M_bytes _ _).2 rfl) ?_
  show matchL (signsL (37 :: quoteL b.data.toList)) _ = true
  rw [Lik.signs_any, Lik.signs_quote_only]
  have := (Lik.M_any (b.data.toList.map UInt8.toNat) b.data.toList).2 ⟨0, by omega, (Lik.M_bytes _ _).2 rfl⟩
  exact this
theorem q_size (s : ByteArray) (h : s.size ≤ 100) : (S (quoteL s.data.toList)).size ≤ 200 := by
  rw [Oct.S_size]
  have := Lik.quote_length s.data.toList
  have h2 : s.data.toList.length = s.size := by simp
  omega
theorem walk_LikeJoins (a b c d : ByteArray) (w : World) (ha : a.size ≤ maxLen) (hb : b.size ≤ maxLen) (hc : c.size ≤ maxLen) (hd : d.size ≤ maxLen) :
    Calls Try.prog 5 #[.agg #[.string a, .string b], .agg #[.string c, .string d]] w (Ret (.bool true) w) := by
  by_cases h : 100 < a.size ∨ (a.size ≤ 100 ∧ 100 < b.size) ∨ (a.size ≤ 100 ∧ b.size ≤ 100 ∧ 100 < c.size) ∨ (a.size ≤ 100 ∧ b.size ≤ 100 ∧ c.size ≤ 100 ∧ 100 < d.size)
  · exact big_LikeJoins a b c d w h ha hb hc hd
  · have h1 : a.size ≤ 100 := by omega
    have h2 : b.size ≤ 100 := by omega
    have h3 : c.size ≤ 100 := by omega
    have h4 : d.size ≤ 100 := by omega
    cases hs : Lib.hasSuffix c.data.toList [92] with
    | true => exact suffix_LikeJoins a b c d w h1 h2 h3 h4 hs
    | false =>
      cases hm : matchL (signsL c.data.toList) a.data.toList with
      | true =>
        cases hn : matchL (signsL d.data.toList) b.data.toList with
        | true => exact joins_true_true a b c d w h1 h2 h3 h4 hs hm hn (m3 a b c d hs hm hn) _ _ rfl rfl (q_size a h1) (q_size b h2) (m4 a b) (m5 a b c hs hm)
        | false => exact joins_true_false a b c d w h1 h2 h3 h4 hs hm hn _ _ rfl rfl (q_size a h1) (q_size b h2) (m4 a b) (m5 a b c hs hm)
      | false => exact joins_false a b c d w h1 h2 h3 h4 hs hm _ _ rfl rfl (q_size a h1) (q_size b h2) (m4 a b)
end Go.Proofs.Ytmkfgbbipckgiaa
