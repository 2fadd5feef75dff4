/- The reference's Tokens. -/
import Derived.Test.YtonpiacpgfibpaaLexK
import Derived.Test.YtonpiacpgfibpaaLexNR
namespace Go.Proofs.Ytonpiacpgfibpaa.Lex
set_option linter.unusedVariables false
set_option linter.unusedSimpArgs false
open Go.RowKit
open Oct (S S_size S_data)
open Lib (indexByte)
set_option maxHeartbeats 8000000 in
set_option maxRecDepth 100000 in
theorem rtokens_any (l : List UInt8) (w : World) (h0 : 0 < w.heap.size) (hl : l.length ≤ 100000) : Calls Try.prog 13 #[.string (S l)] w (TokA (tokensL l) w) := by
  have hsz := S_size l
  by_cases hbig : 2000 < l.length
  · have hr : tokensL l = .error (0, 4) := by unfold tokensL; rw [if_pos hbig]
    have hbi : (2000 : Int) < l.length := by omega
    rw [hr]
    clear hbig hr
    go_enter Try.func13, Try.ntmps13
    go_wp2_with fail
    exact bodyPost_ret (v := .tuple #[.slice none 0 0, .int .i64 0, .int .i64 4]) (by simp [results, Try.results13, go_sem]) rfl ⟨Below.refl _ _, .inr ⟨0, 4, rfl, rfl⟩⟩
  · have hr : tokensL l = toksL l := by unfold tokensL; rw [if_neg hbig]
    have hbi : ¬ (2000 : Int) < l.length := by omega
    have hl2 : l.length ≤ 2000 := by omega
    have HN := Lib.hid (fun a W ha => rnext_ins l a W ha hl)
    have HNC := Lib.hid (fun a ha => next_cases l a ha)
    obtain ⟨res, hres⟩ : ∃ r, tokensL l = r := ⟨_, rfl⟩
    rw [hres]
    have HR : Hid (toksF (l.length + 1 - 0) l 0 [] = res) := by show _ = _; rw [← hres, hr]; rfl
    clear hbig hr hres
    go_enter Try.func13, Try.ntmps13
    go_wp2_with fail
    go_loopw [5, 6] (fun o i wr => ∃ (a : Nat) (acc : List Tk) (v : Value), v = o ∧ i = .int .i64 (a : Int) ∧ a ≤ l.length ∧ acc.length ≤ a ∧ wr.ownsRow w.heap.size 24 5 v acc.length (rowT acc).flatten ∧ Below w.heap.size w wr ∧ Hid (toksF (l.length + 1 - a) l a acc = res)) (fun _ i _ => l.length + 1 - (intOf i).toNat)
    case atStart => exact ⟨0, [], _, rfl, rfl, Nat.zero_le _, Nat.le_refl _, World.ownsRow_nil _ _ _ _, Below.refl _ _, HR⟩
    case round =>
      obtain ⟨a, acc, v, rfl, rfl, ha, hacc, hown, hb, HT⟩ := hrel
      have HC := Lib.hid (HN.out a wr ha)
      have hnc := HNC.out a ha
      have hst : toksF (l.length - a + 1) l a acc = res := by rw [show l.length - a + 1 = l.length + 1 - a by omega]; exact HT.out
      rw [toks_succ] at hst
      have ha0 : (0 : Int) ≤ a := by omega
      rcases hnc with hn | ⟨hn, hn2, hn3⟩ | ⟨t, hn, hk, h5, h6, h7⟩
      · rw [hn] at HC hst
        have hst2 : Except.ok acc = res := by rw [← hst]; simp
        subst hst2
        clear hn hst HT
        simp only [tokV] at HC
        go_wp2_with fail
        refine HC.out.mono ?_
        rintro e w5 ⟨rfl, hb5⟩
        replace hown := ownsRow_below hown hb5
        replace hb := hb.next hb5
        clear hb5
        go_wp2_with fail
        have hown2 := ownsRow_below hown ((Below.refl _ _).alloc (Nat.le_refl _) (.cells #[.int .i64 0, .int .i64 (l.length : Int), .int .i64 0, .int .i64 0, .string (S [])] 24))
        rw [← rowT_len] at hown2
        exact bodyPost_ret (v := .tuple #[v, .int .i64 0, .int .i64 0]) (by simp [results, Try.results13, go_sem]) rfl ⟨hb.alloc hb.size _, .inl ⟨acc, v, rfl, rfl, ElAt.owned (rowT_each acc) hown2 (by rw [rowT_len]; omega)⟩⟩
      · obtain ⟨⟨⟨k1, a1, z1, n1, s1⟩, e1⟩, hnq⟩ : ∃ q, nextF l a = q := ⟨_, rfl⟩
        rw [hnq] at HC hst hn hn2 hn3
        simp only [tokV] at HC hst hn hn2 hn3
        rw [if_pos hn] at hst
        subst hst
        have he1 : (e1 == 0) = false := by simpa using hn
        have he2 : (e1 != 0) = true := by simpa using hn
        clear hn hnq HT hn2 hn3
        go_wp2_with fail
        refine HC.out.mono ?_
        rintro e w5 ⟨rfl, hb5⟩
        replace hb := hb.next hb5
        clear hb5 hown
        go_wp2_with fail
        go_quiet (fail)
        go_wp2_with fail
        exact bodyPost_ret (v := .tuple #[.slice none 0 0, .int .i64 a1, .int .i64 e1]) (by simp [results, Try.results13, go_sem]) rfl ⟨(hb.alloc hb.size _).drewN _, .inr ⟨a1, e1, rfl, rfl⟩⟩
      · rw [hn] at HC hst
        simp only [ne_eq, not_true_eq_false, if_false, hk] at hst
        obtain ⟨k1, a1, z1, n1, s1⟩ := t
        simp only [tokV] at HC hst hk h5 h6 h7
        obtain ⟨q1, rfl⟩ : ∃ q : Nat, a1 = q := ⟨a1.toNat, by omega⟩
        obtain ⟨y1, rfl⟩ : ∃ q : Nat, z1 = q := ⟨z1.toNat, by omega⟩
        have HT2 : Hid (toksF (l.length + 1 - (q1 + y1)) l (q1 + y1) (acc ++ [Tk.mk k1 q1 y1 n1 s1]) = res) := by
          show _ = _
          rw [← hst, show ((q1 : Int) + (y1 : Int)).toNat = q1 + y1 by omega]
          exact toks_more l _ _ _ _ (by omega) (by omega) (by omega)
        have hk1 : (k1 == 0) = false := by simpa using hk
        obtain ⟨sp, hsp⟩ : ∃ x, S s1 = x := ⟨_, rfl⟩
        have HSP := Lib.hid hsp
        rw [hsp] at HC
        clear hn hst HT hk hsp HN HNC
        go_wp2_with fail
        refine HC.out.mono ?_
        rintro e w5 ⟨rfl, hb5⟩
        replace hown := ownsRow_below hown hb5
        replace hb := hb.next hb5
        clear hb5
        have hT := (Blk.new w5 #[.int .i64 k1, .int .i64 (q1 : Int), .int .i64 (y1 : Int), .int .i64 n1, .string sp] 24).alloc (.cells #[.int .i64 k1, .int .i64 (q1 : Int), .int .i64 (y1 : Int), .int .i64 n1, .string sp] 24)
        have hown7 := ownsRow_below (ownsRow_below hown ((Below.refl _ _).alloc (Nat.le_refl _) (.cells #[.int .i64 k1, .int .i64 (q1 : Int), .int .i64 (y1 : Int), .int .i64 n1, .string sp] 24))) ((Below.refl _ _).alloc (Nat.le_refl _) (.cells #[.int .i64 k1, .int .i64 (q1 : Int), .int .i64 (y1 : Int), .int .i64 n1, .string sp] 24))
        have hlt : ∀ k, v.ownBlock = some k → k < w5.heap.size := fun k hk => (hown.lt k hk).2
        have HLT := Lib.hid hlt
        have hb7 : Below w.heap.size w ((w5.alloc (.cells #[.int .i64 k1, .int .i64 (q1 : Int), .int .i64 (y1 : Int), .int .i64 n1, .string sp] 24)).alloc (.cells #[.int .i64 k1, .int .i64 (q1 : Int), .int .i64 (y1 : Int), .int .i64 n1, .string sp] 24)) := (hb.alloc hb.size _).alloc (by have := hb.size; simp; omega) _
        have hz5 := hb.size
        clear hlt hown hb
        go_wp2_with ((with_reducible refine wpList_append1 29 24 (.agg #[.int .i64 0, .int .i64 0, .int .i64 0, .int .i64 0, .string ⟨#[]⟩]) 5 48 Try.underlying29 info_token rfl (by decide) (by decide) ?_); refine ⟨w.heap.size, v, acc.length, (rowT acc).flatten, _, _, [.int .i64 k1, .int .i64 (q1 : Int), .int .i64 (y1 : Int), .int .i64 n1, .string sp], rfl, rfl, hown7, rfl, new_cells_at _ _ [.int .i64 k1, .int .i64 (q1 : Int), .int .i64 (y1 : Int), .int .i64 n1, .string sp] _ (by simp), ?_, ?_, ?_, ?_⟩; (intro u hu; simp only [List.mem_cons, List.not_mem_nil, or_false] at hu; rcases hu with rfl | rfl | rfl | rfl | rfl <;> rfl); omega; (simp; omega); intro v8 w8 hown8 hb8 hg8; have hT8 := hT.grown hg8 (by intro e; have := HLT.out _ e.symm; omega); obtain ⟨y0, y1', y2, y3, y4, _⟩ := tval hT8)
        have hown9 : w8.ownsRow w.heap.size 24 5 v8 (acc ++ [Tk.mk k1 q1 y1 n1 s1]).length (rowT (acc ++ [Tk.mk k1 q1 y1 n1 s1])).flatten := by
          rw [rowT_snoc, flatten_snoc, List.length_append]
          show w8.ownsRow _ _ _ _ _ ((rowT acc).flatten ++ [.int .i64 k1, .int .i64 (q1 : Int), .int .i64 (y1 : Int), .int .i64 n1, .string (S s1)])
          rw [HSP.out]
          exact hown8
        exact ⟨⟨q1 + y1, acc ++ [⟨k1, q1, y1, n1, s1⟩], v8, rfl, by go_num, by omega, by simp; omega, hown9, hb7.trans hb8, HT2⟩, by simp [intOf]; omega⟩
end Go.Proofs.Ytonpiacpgfibpaa.Lex
