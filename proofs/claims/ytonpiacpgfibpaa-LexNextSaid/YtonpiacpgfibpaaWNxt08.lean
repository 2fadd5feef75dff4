/- The walk of LexNext. -/
import Derived.Test.YtonpiacpgfibpaaLexNR
import Derived.Test.YtonpiacpgfibpaaAwk08
namespace Go.Proofs.Ytonpiacpgfibpaa.Lex
set_option linter.unusedVariables false
set_option linter.unusedSimpArgs false
open Go.RowKit
open Oct (S S_size S_data)
set_option maxHeartbeats 8000000 in
set_option maxRecDepth 100000 in
theorem walkNext_any (l : List UInt8) (at' m : Int) (w : World) (hm : w.cell? ⟨0, 0, none⟩ = some (.int .i64 m)) : Calls Try.prog 3 #[.string (S l), .int .i64 at'] w (Ret (.bool true) w) := by
  have hsz := S_size l
  have HA := Lib.hid (fun W h hl => next_any l at' m W h hl)
  have HB := Lib.hid (fun W hl => rnext_any l at' W hl)
  have HAW := Lib.hid (fun W h => awake8_any m W h)
  have HM := Lib.hid hm
  have h0 : 0 < w.heap.size := World.block_lt_of_cell? w _ hm
  clear hm
  by_cases hbig : 600 < l.length
  · go_enter Try.func3, Try.ntmps3
    go_wp2_with fail
    refine (HAW.out _ HM.out).mono ?_
    rintro e w1 ⟨rfl, hb1⟩
    go_wp2_with fail
    go_ret
    exact ⟨rfl, hb1⟩
  · have hl : l.length ≤ 600 := by omega
    obtain ⟨⟨⟨k1, a1, z1, n1, s1⟩, e1⟩, hnq⟩ : ∃ q, nextA l at' = q := ⟨_, rfl⟩
    rw [hnq] at HA HB
    clear hnq
    obtain ⟨sp, hsp⟩ : ∃ x, S s1 = x := ⟨_, rfl⟩
    simp only [tokV, hsp] at HA HB
    clear hsp
    go_enter Try.func3, Try.ntmps3
    go_wp2_with fail
    refine (HA.out _ HM.out (by omega)).mono ?_
    rintro e w1 ⟨rfl, hb1⟩
    go_wp2_with fail
    refine (HB.out _ (by omega)).mono ?_
    rintro e w2 ⟨rfl, hb2⟩
    have hA1 := (Blk.new w1 #[.int .i64 k1, .int .i64 a1, .int .i64 z1, .int .i64 n1, .string sp] 24).below hb2
    have hA2 := hA1.alloc (.cells #[.int .i64 k1, .int .i64 a1, .int .i64 z1, .int .i64 n1, .string sp] 24)
    have hB2 := Blk.new w2 #[.int .i64 k1, .int .i64 a1, .int .i64 z1, .int .i64 n1, .string sp] 24
    have hb3 := (hb1.alloc hb1.size (.cells #[.int .i64 k1, .int .i64 a1, .int .i64 z1, .int .i64 n1, .string sp] 24)).next hb2
    have hb4 := hb3.alloc hb3.size (.cells #[.int .i64 k1, .int .i64 a1, .int .i64 z1, .int .i64 n1, .string sp] 24)
    have hm4 := someInt_below HM.out hb4 h0
    clear hb1 hb2 hA1 hb3
    go_wp2_with fail
    generalize (w2.alloc (.cells #[.int .i64 k1, .int .i64 a1, .int .i64 z1, .int .i64 n1, .string sp] 24)) = w4 at hA2 hB2 hb4 hm4 ⊢
    refine (HAW.out _ hm4).mono ?_
    rintro e w5 ⟨rfl, hb5⟩
    replace hA2 := hA2.below hb5
    replace hB2 := hB2.below hb5
    replace hb4 := hb4.next hb5
    clear hb5 hm4
    obtain ⟨y0, y1, y2, y3, y4, _⟩ := tval hA2
    obtain ⟨z0, z1', z2, z3, z4, _⟩ := tval hB2
    go_wp2_with fail
    go_ret
    exact ⟨rfl, hb4⟩
theorem walk_LexNext (b : ByteArray) (at' : Int) (W : World) (_ : b.size ≤ 140737488351232) {q : Prop} (_ : q) (hmx : ∃ m, W.cell? ⟨0, 0, none⟩ = some (.int .i64 m)) : Calls Try.prog 3 #[.string b, .int .i64 at'] W (Ret (.bool true) W) := by
  obtain ⟨m, hm⟩ := hmx
  have h := walkNext_any b.data.toList at' m W hm
  have e : S b.data.toList = b := by apply ByteArray.ext; simp [S]
  rw [e] at h
  exact h
end Go.Proofs.Ytonpiacpgfibpaa.Lex
