/- lex: the page's examples. -/
import Derived.Test.YtonpiacpgfibpaaLexK
namespace Go.Proofs.Ytonpiacpgfibpaa.Lex
set_option linter.unusedVariables false
set_option linter.unusedSimpArgs false
open Go.RowKit
open Oct (S S_size S_data)
open Lib (indexByte)
theorem tokens_ok {l : List UInt8} {ts : List Tk} (hr : tokensL l = .ok ts) (m : Int) (w : World) (hm : w.cell? ⟨0, 0, none⟩ = some (.int .i64 m)) (hl : l.length ≤ 100000) : Calls Try.prog 12 #[.string (S l)] w fun x w' => Below w.heap.size w w' ∧ ∃ v, x = .returned (.tuple #[v, .int .i64 0, .int .i64 0]) ∧ ElAt w' 5 v (rowT ts) :=
  (tokens_any l m w hm hl).mono fun x w' ⟨hb, h⟩ => by
    rw [hr] at h
    rcases h with ⟨us, v, h1, h2, h3⟩ | ⟨p, e, h1, _⟩
    · injection h1 with h1; subst h1; exact ⟨hb, v, h2, h3⟩
    · cases h1
theorem tokens_err {l : List UInt8} {p e : Int} (hr : tokensL l = .error (p, e)) (m : Int) (w : World) (hm : w.cell? ⟨0, 0, none⟩ = some (.int .i64 m)) (hl : l.length ≤ 100000) : Calls Try.prog 12 #[.string (S l)] w (Ret (.tuple #[.slice none 0 0, .int .i64 p, .int .i64 e]) w) :=
  (tokens_any l m w hm hl).mono fun x w' ⟨hb, h⟩ => by
    rw [hr] at h
    rcases h with ⟨us, v, h1, h2, h3⟩ | ⟨p2, e2, h1, h2⟩
    · cases h1
    · injection h1 with h1; injection h1 with h1 h3; subst h1 h3; exact ⟨h2, hb⟩
theorem aw1 : tokensL [97, 60, 61, 49, 32, 45, 45, 120] = .ok [⟨2, 0, 1, 0, [97]⟩, ⟨5, 1, 2, 0, [60, 61]⟩, ⟨3, 3, 1, 1, []⟩] := by kernel_rfl
theorem aw2 : nextF [32, 39, 105, 116, 39, 39, 115, 39] 0 = (⟨4, 1, 7, 0, [105, 116, 39, 115]⟩, 0) := by kernel_rfl
theorem aw3 : tokensL [97, 32, 39, 98] = .error (2, 3) := by kernel_rfl
theorem aw4 : resB [115, 101, 108, 101, 99, 116] = true := by kernel_rfl
theorem aw5 : isName [97, 95, 49] = true := by kernel_rfl
theorem aw6 : isName [115, 101, 108, 101, 99, 116] = false := by kernel_rfl
set_option maxHeartbeats 8000000 in
set_option maxRecDepth 100000 in
theorem awake8_any (m : Int) (w : World) (hm : w.cell? ⟨0, 0, none⟩ = some (.int .i64 m)) : Calls Try.prog 9 #[] w (Ret (.bool true) w) := by
  have H1 := Lib.hid (fun W h => tokens_ok aw1 m W h (by decide))
  have H2 := Lib.hid (fun W h => next_ins [32, 39, 105, 116, 39, 39, 115, 39] 0 m W h (by decide) (by decide))
  rw [aw2] at H2
  have H3 := Lib.hid (fun W h => tokens_err aw3 m W h (by decide))
  have H4 := Lib.hid (fun W h => reserved_any [115, 101, 108, 101, 99, 116] m W h (by decide))
  rw [aw4] at H4
  have H5 := Lib.hid (fun W h => name_any [97, 95, 49] m W h (by decide))
  rw [aw5] at H5
  have H6 := Lib.hid (fun W h => name_any [115, 101, 108, 101, 99, 116] m W h (by decide))
  rw [aw6] at H6
  simp only [tokV] at H2
  go_enter Try.func9, Try.ntmps9
  go_wp2_with fail
  refine (H1.out _ hm).mono ?_
  rintro e w1 ⟨hb1, v1, rfl, hr1⟩
  have hm1 := cell_below hm hb1
  go_wp2_with fail
  refine (H2.out _ hm1).mono ?_
  rintro e w2 ⟨rfl, hb2⟩
  have hr2 := hr1.below hb2
  have hm2 := cell_below hm1 hb2
  have hb3 := hb1.next hb2
  clear hr1 hm1 hb1 hb2
  go_wp2_with fail
  have hT := Blk.new w2 #[.int .i64 4, .int .i64 1, .int .i64 7, .int .i64 0, .string (S [105, 116, 39, 115])] 24
  have hr3 := hr2.below ((Below.refl _ _).alloc (Nat.le_refl _) (.cells #[.int .i64 4, .int .i64 1, .int .i64 7, .int .i64 0, .string (S [105, 116, 39, 115])] 24))
  have hm3 := cell_alloc hm2 (.cells #[.int .i64 4, .int .i64 1, .int .i64 7, .int .i64 0, .string (S [105, 116, 39, 115])] 24)
  have hb4 := hb3.alloc hb3.size (.cells #[.int .i64 4, .int .i64 1, .int .i64 7, .int .i64 0, .string (S [105, 116, 39, 115])] 24)
  generalize w2.alloc (.cells #[.int .i64 4, .int .i64 1, .int .i64 7, .int .i64 0, .string (S [105, 116, 39, 115])] 24) = W2 at hT hr3 hm3 hb4 ⊢
  clear hr2 hm2 hb3 hm
  refine (H3.out _ hm3).mono ?_
  rintro e w5 ⟨rfl, hb5⟩
  have hr5 := hr3.below hb5
  have hm5 := cell_below hm3 hb5
  have hT5 := hT.below hb5
  have hb6 := hb4.next hb5
  clear hr3 hm3 hT hb4 hb5
  obtain ⟨y0, y1, y2, y3, y4, _⟩ := tval hT5
  obtain ⟨b, off, cap, rfl, _, c0⟩ := hr5.get 0 (by decide)
  obtain ⟨_, _, _, e1, _, c1⟩ := hr5.get 1 (by decide)
  injection e1 with e1 _ _; injection e1 with e1; injection e1 with e1 e2 _; subst e1 e2
  obtain ⟨_, _, _, e1, _, c2⟩ := hr5.get 2 (by decide)
  injection e1 with e1 _ _; injection e1 with e1; injection e1 with e1 e2 _; subst e1 e2
  have d00 : w5.cell? ⟨b, off, none⟩ = some (.int .i64 2) := by simpa using c0 0 _ rfl
  have d01 : w5.cell? ⟨b, off + 1, none⟩ = some (.int .i64 0) := by simpa using c0 1 _ rfl
  have d02 : w5.cell? ⟨b, off + 2, none⟩ = some (.int .i64 1) := by simpa using c0 2 _ rfl
  have d03 : w5.cell? ⟨b, off + 3, none⟩ = some (.int .i64 0) := by simpa using c0 3 _ rfl
  have d04 : w5.cell? ⟨b, off + 4, none⟩ = some (.string ⟨#[97]⟩) := by simpa using c0 4 _ rfl
  have d10 : w5.cell? ⟨b, off + 5, none⟩ = some (.int .i64 5) := by simpa using c1 0 _ rfl
  have d11 : w5.cell? ⟨b, off + 5 + 1, none⟩ = some (.int .i64 1) := by simpa using c1 1 _ rfl
  have d12 : w5.cell? ⟨b, off + 5 + 2, none⟩ = some (.int .i64 2) := by simpa using c1 2 _ rfl
  have d13 : w5.cell? ⟨b, off + 5 + 3, none⟩ = some (.int .i64 0) := by simpa using c1 3 _ rfl
  have d14 : w5.cell? ⟨b, off + 5 + 4, none⟩ = some (.string ⟨#[60, 61]⟩) := by simpa using c1 4 _ rfl
  have d20 : w5.cell? ⟨b, off + 10, none⟩ = some (.int .i64 3) := by simpa using c2 0 _ rfl
  have d21 : w5.cell? ⟨b, off + 10 + 1, none⟩ = some (.int .i64 3) := by simpa using c2 1 _ rfl
  have d22 : w5.cell? ⟨b, off + 10 + 2, none⟩ = some (.int .i64 1) := by simpa using c2 2 _ rfl
  have d23 : w5.cell? ⟨b, off + 10 + 3, none⟩ = some (.int .i64 1) := by simpa using c2 3 _ rfl
  have d24 : w5.cell? ⟨b, off + 10 + 4, none⟩ = some (.string ⟨#[]⟩) := by simpa using c2 4 _ rfl
  clear c0 c1 c2 hr5 hT5
  simp only [rowT_len, List.length_cons, List.length_nil, Nat.zero_add]
  go_wp2_with fail
  refine (H4.out _ hm5).mono ?_
  rintro e w6 ⟨rfl, rfl⟩
  clear d00 d01 d02 d03 d04 d10 d11 d12 d13 d14 d20 d21 d22 d23 d24 y0 y1 y2 y3 y4
  go_wp2_with fail
  refine (H5.out _ hm5).mono ?_
  rintro e w7 ⟨rfl, hb7⟩
  have hm7 := cell_below hm5 hb7
  have hb8 := hb6.next hb7
  go_wp2_with fail
  refine (H6.out _ hm7).mono ?_
  rintro e w8 ⟨rfl, hb9⟩
  go_wp2_with fail
  go_ret
  exact ⟨rfl, hb8.next hb9⟩
end Go.Proofs.Ytonpiacpgfibpaa.Lex
