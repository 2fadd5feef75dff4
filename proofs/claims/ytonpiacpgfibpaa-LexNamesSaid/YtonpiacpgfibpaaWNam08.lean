/- LexNames' walk. -/
import Derived.Test.YtonpiacpgfibpaaAwk08
namespace Go.Proofs.Ytonpiacpgfibpaa.Lex
set_option linter.unusedVariables false
set_option linter.unusedSimpArgs false
open Go.RowKit
open Oct (S S_size S_data)
theorem name_not_res {w : List UInt8} (h : isName w = true) : resB w = false := by
  unfold isName at h
  simp only [Bool.and_eq_true, Bool.not_eq_true'] at h
  exact h.2
set_option maxHeartbeats 8000000 in
set_option maxRecDepth 100000 in
theorem names_in (l : List UInt8) (m : Int) (w : World) (hm : w.cell? ⟨0, 0, none⟩ = some (.int .i64 m)) (hl : l.length ≤ 100) : Calls Try.prog 8 #[.string (S l)] w (Ret (.bool true) w) := by
  have hsz := S_size l
  have HW := Lib.hid (fun W h => awake8_any m W h)
  have H1 := Lib.hid (fun W h => next_ins l 0 m W h (Nat.zero_le _) (by omega))
  have H2 := Lib.hid (fun W h => next_ins (34 :: (l ++ [34])) 0 m W h (Nat.zero_le _) (by simp; omega))
  have H3 := Lib.hid (fun W h => name_any l m W h (by omega))
  have H4 := Lib.hid (fun W h => reserved_any l m W h (by omega))
  have HCC : Hid ((⟨#[34]⟩ : ByteArray) ++ S l ++ ⟨#[34]⟩ = S (34 :: (l ++ [34]))) := by
    show _ = _
    apply ByteArray.ext
    simp [S]
  have hb0 := Below.refl w.heap.size w
  have hcase : (isName l = true ∧ resB l = false ∧ nextF l 0 = (⟨2, 0, l.length, 0, l⟩, 0) ∧ nextF (34 :: (l ++ [34])) 0 = (⟨2, 0, l.length + 2, 0, l⟩, 0)) ∨
      (isName l = false ∧ resB l = true ∧ nextF l 0 = (⟨1, 0, l.length, 0, l⟩, 0) ∧ nextF (34 :: (l ++ [34])) 0 = (⟨2, 0, l.length + 2, 0, l⟩, 0)) ∨ (isName l = false ∧ resB l = false) := by
    cases h1 : isName l with
    | true => exact .inl ⟨rfl, name_not_res h1, name_next l h1, quoted_next l (.inl h1)⟩
    | false =>
      cases h2 : resB l with
      | true => exact .inr (.inl ⟨rfl, rfl, word_next l h2, quoted_next l (.inr h2)⟩)
      | false => exact .inr (.inr ⟨rfl, rfl⟩)
  generalize S (34 :: (l ++ [34])) = q at *
  have hl1 : ¬ (100 : Int) < l.length := by omega
  have hl2 : l.length ≤ 1000 := by omega
  rcases hcase with ⟨c1, c2, c3, c4⟩ | ⟨c1, c2, c3, c4⟩ | ⟨c1, c2⟩
  · rw [c3] at H1
    rw [c4] at H2
    rw [c1] at H3
    rw [c2] at H4
    simp only [tokV] at H1 H2
    clear c1 c2 c3 c4
    generalize S l = s at *
    go_enter Try.func8, Try.ntmps8
    go_wp2_with fail
    refine (H1.out _ hm).mono ?_
    rintro e w1 ⟨rfl, hb1⟩
    have hT := Blk.new w1 #[.int .i64 2, .int .i64 0, .int .i64 (l.length : Int), .int .i64 0, .string s] 24
    have hm1 := cell_alloc (cell_below hm hb1) (.cells #[.int .i64 2, .int .i64 0, .int .i64 (l.length : Int), .int .i64 0, .string s] 24)
    have hb2 := (hb0.next hb1).alloc (hb0.next hb1).size (.cells #[.int .i64 2, .int .i64 0, .int .i64 (l.length : Int), .int .i64 0, .string s] 24)
    clear hb1
    go_wp2_with fail
    rw [HCC.out]
    generalize w1.alloc (.cells #[.int .i64 2, .int .i64 0, .int .i64 (l.length : Int), .int .i64 0, .string s] 24) = W1 at hT hm1 hb2 ⊢
    generalize w1.heap.size = g1 at hT ⊢
    refine (H2.out _ hm1).mono ?_
    rintro e w2 ⟨rfl, hb3⟩
    have hQ := Blk.new w2 #[.int .i64 2, .int .i64 0, .int .i64 ((l.length : Int) + 2), .int .i64 0, .string s] 24
    have hm2 := cell_alloc (cell_below hm1 hb3) (.cells #[.int .i64 2, .int .i64 0, .int .i64 ((l.length : Int) + 2), .int .i64 0, .string s] 24)
    have hT2 := (hT.below hb3).alloc (.cells #[.int .i64 2, .int .i64 0, .int .i64 ((l.length : Int) + 2), .int .i64 0, .string s] 24)
    have hb4 := (hb2.next hb3).alloc (hb2.next hb3).size (.cells #[.int .i64 2, .int .i64 0, .int .i64 ((l.length : Int) + 2), .int .i64 0, .string s] 24)
    clear hb3 hT hm1 hb2
    go_wp2_with fail
    generalize w2.alloc (.cells #[.int .i64 2, .int .i64 0, .int .i64 ((l.length : Int) + 2), .int .i64 0, .string s] 24) = W2 at hQ hm2 hT2 hb4 ⊢
    generalize w2.heap.size = g2 at hQ ⊢
    refine (H3.out _ hm2).mono ?_
    rintro e w3 ⟨rfl, hb5⟩
    have hm3 := cell_below hm2 hb5
    have hT3 := hT2.below hb5
    have hQ3 := hQ.below hb5
    have hb6 := hb4.next hb5
    clear hb5 hT2 hQ hm2 hb4
    go_wp2_with fail
    refine (H4.out _ hm3).mono ?_
    rintro e w4 ⟨rfl, rfl⟩
    obtain ⟨x0, x1, x2, x3, x4, _⟩ := tval hT3
    go_wp2_with fail
    refine (HW.out _ hm3).mono ?_
    rintro e w5 ⟨rfl, hb7⟩
    obtain ⟨y0, y1, y2, y3, y4, _⟩ := tval (hQ3.below hb7)
    go_wp2_with fail
    go_ret
    exact ⟨rfl, hb6.next hb7⟩
  · rw [c3] at H1
    rw [c4] at H2
    rw [c1] at H3
    rw [c2] at H4
    simp only [tokV] at H1 H2
    clear c1 c2 c3 c4
    generalize S l = s at *
    go_enter Try.func8, Try.ntmps8
    go_wp2_with fail
    refine (H1.out _ hm).mono ?_
    rintro e w1 ⟨rfl, hb1⟩
    have hT := Blk.new w1 #[.int .i64 1, .int .i64 0, .int .i64 (l.length : Int), .int .i64 0, .string s] 24
    have hm1 := cell_alloc (cell_below hm hb1) (.cells #[.int .i64 1, .int .i64 0, .int .i64 (l.length : Int), .int .i64 0, .string s] 24)
    have hb2 := (hb0.next hb1).alloc (hb0.next hb1).size (.cells #[.int .i64 1, .int .i64 0, .int .i64 (l.length : Int), .int .i64 0, .string s] 24)
    clear hb1
    go_wp2_with fail
    rw [HCC.out]
    generalize w1.alloc (.cells #[.int .i64 1, .int .i64 0, .int .i64 (l.length : Int), .int .i64 0, .string s] 24) = W1 at hT hm1 hb2 ⊢
    generalize w1.heap.size = g1 at hT ⊢
    refine (H2.out _ hm1).mono ?_
    rintro e w2 ⟨rfl, hb3⟩
    have hQ := Blk.new w2 #[.int .i64 2, .int .i64 0, .int .i64 ((l.length : Int) + 2), .int .i64 0, .string s] 24
    have hm2 := cell_alloc (cell_below hm1 hb3) (.cells #[.int .i64 2, .int .i64 0, .int .i64 ((l.length : Int) + 2), .int .i64 0, .string s] 24)
    have hT2 := (hT.below hb3).alloc (.cells #[.int .i64 2, .int .i64 0, .int .i64 ((l.length : Int) + 2), .int .i64 0, .string s] 24)
    have hb4 := (hb2.next hb3).alloc (hb2.next hb3).size (.cells #[.int .i64 2, .int .i64 0, .int .i64 ((l.length : Int) + 2), .int .i64 0, .string s] 24)
    clear hb3 hT hm1 hb2
    go_wp2_with fail
    generalize w2.alloc (.cells #[.int .i64 2, .int .i64 0, .int .i64 ((l.length : Int) + 2), .int .i64 0, .string s] 24) = W2 at hQ hm2 hT2 hb4 ⊢
    generalize w2.heap.size = g2 at hQ ⊢
    refine (H3.out _ hm2).mono ?_
    rintro e w3 ⟨rfl, hb5⟩
    have hm3 := cell_below hm2 hb5
    have hT3 := hT2.below hb5
    have hQ3 := hQ.below hb5
    have hb6 := hb4.next hb5
    clear hb5 hT2 hQ hm2 hb4
    go_wp2_with fail
    refine (H4.out _ hm3).mono ?_
    rintro e w4 ⟨rfl, rfl⟩
    obtain ⟨x0, x1, x2, x3, x4, _⟩ := tval hT3
    go_wp2_with fail
    refine (HW.out _ hm3).mono ?_
    rintro e w5 ⟨rfl, hb7⟩
    obtain ⟨y0, y1, y2, y3, y4, _⟩ := tval (hQ3.below hb7)
    go_wp2_with fail
    go_ret
    exact ⟨rfl, hb6.next hb7⟩
  · rw [c1] at H3
    rw [c2] at H4
    obtain ⟨⟨⟨k1, a1, z1, n1, s1⟩, e1⟩, hq1⟩ : ∃ x, nextF l 0 = x := ⟨_, rfl⟩
    obtain ⟨⟨⟨k2, a2, z2, n2, s2⟩, e2⟩, hq2⟩ : ∃ x, nextF (34 :: (l ++ [34])) 0 = x := ⟨_, rfl⟩
    rw [hq1] at H1
    rw [hq2] at H2
    simp only [tokV] at H1 H2
    clear c1 c2 hq1 hq2
    generalize S l = s at *
    go_enter Try.func8, Try.ntmps8
    go_wp2_with fail
    refine (H1.out _ hm).mono ?_
    rintro e w1 ⟨rfl, hb1⟩
    have hT := Blk.new w1 #[.int .i64 k1, .int .i64 a1, .int .i64 z1, .int .i64 n1, .string (S s1)] 24
    have hm1 := cell_alloc (cell_below hm hb1) (.cells #[.int .i64 k1, .int .i64 a1, .int .i64 z1, .int .i64 n1, .string (S s1)] 24)
    have hb2 := (hb0.next hb1).alloc (hb0.next hb1).size (.cells #[.int .i64 k1, .int .i64 a1, .int .i64 z1, .int .i64 n1, .string (S s1)] 24)
    clear hb1
    go_wp2_with fail
    rw [HCC.out]
    generalize w1.alloc (.cells #[.int .i64 k1, .int .i64 a1, .int .i64 z1, .int .i64 n1, .string (S s1)] 24) = W1 at hT hm1 hb2 ⊢
    generalize w1.heap.size = g1 at hT ⊢
    refine (H2.out _ hm1).mono ?_
    rintro e w2 ⟨rfl, hb3⟩
    have hQ := Blk.new w2 #[.int .i64 k2, .int .i64 a2, .int .i64 z2, .int .i64 n2, .string (S s2)] 24
    have hm2 := cell_alloc (cell_below hm1 hb3) (.cells #[.int .i64 k2, .int .i64 a2, .int .i64 z2, .int .i64 n2, .string (S s2)] 24)
    have hT2 := (hT.below hb3).alloc (.cells #[.int .i64 k2, .int .i64 a2, .int .i64 z2, .int .i64 n2, .string (S s2)] 24)
    have hb4 := (hb2.next hb3).alloc (hb2.next hb3).size (.cells #[.int .i64 k2, .int .i64 a2, .int .i64 z2, .int .i64 n2, .string (S s2)] 24)
    clear hb3 hT hm1 hb2
    go_wp2_with fail
    generalize w2.alloc (.cells #[.int .i64 k2, .int .i64 a2, .int .i64 z2, .int .i64 n2, .string (S s2)] 24) = W2 at hQ hm2 hT2 hb4 ⊢
    generalize w2.heap.size = g2 at hQ ⊢
    refine (H3.out _ hm2).mono ?_
    rintro e w3 ⟨rfl, hb5⟩
    have hm3 := cell_below hm2 hb5
    have hT3 := hT2.below hb5
    have hQ3 := hQ.below hb5
    have hb6 := hb4.next hb5
    clear hb5 hT2 hQ hm2 hb4
    go_wp2_with fail
    refine (H4.out _ hm3).mono ?_
    rintro e w4 ⟨rfl, rfl⟩
    obtain ⟨x0, x1, x2, x3, x4, _⟩ := tval hT3
    go_wp2_with fail
    refine (HW.out _ hm3).mono ?_
    rintro e w5 ⟨rfl, hb7⟩
    obtain ⟨y0, y1, y2, y3, y4, _⟩ := tval (hQ3.below hb7)
    go_wp2_with fail
    go_ret
    exact ⟨rfl, hb6.next hb7⟩
theorem walk_LexNames (s : ByteArray) (w : World) (hs : s.size ≤ 140737488351232) (hsh : ∃ m, w.cell? ⟨0, 0, none⟩ = some (.int .i64 m)) : Calls Try.prog 8 #[.string s] w (Ret (.bool true) w) := by
  obtain ⟨m, hm⟩ := hsh
  obtain ⟨l, rfl⟩ : ∃ l, s = S l := ⟨s.data.toList, (Oct.S_of s).symm⟩
  by_cases hl : l.length ≤ 100
  · exact names_in l m w hm hl
  · have hsz := S_size l
    have HW := Lib.hid (fun W h => awake8_any m W h)
    have hl1 : (100 : Int) < l.length := by omega
    generalize S l = s at *
    clear hl
    go_enter Try.func8, Try.ntmps8
    go_wp2_with fail
    refine (HW.out _ hm).mono ?_
    rintro e w1 ⟨rfl, hb⟩
    go_wp2_with fail
    go_ret
    exact ⟨rfl, hb⟩
end Go.Proofs.Ytonpiacpgfibpaa.Lex
