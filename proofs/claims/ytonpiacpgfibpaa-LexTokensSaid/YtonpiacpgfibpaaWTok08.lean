/- The walk of LexTokens. -/
import Derived.Test.YtonpiacpgfibpaaLexKR
import Derived.Test.YtonpiacpgfibpaaLexV
import Derived.Test.YtonpiacpgfibpaaSam08
import Derived.Test.YtonpiacpgfibpaaWLie08
namespace Go.Proofs.Ytonpiacpgfibpaa.Lex
set_option linter.unusedVariables false
set_option linter.unusedSimpArgs false
open Go.RowKit
open Oct (S S_size S_data)
theorem ret_boolB {b : Bool} {w w1 : World} (h : Below w.heap.size w w1) (hb : b = true) : Ret (.bool true) w (.returned (.bool b)) w1 := by
  subst hb
  exact ⟨rfl, h⟩
set_option maxHeartbeats 8000000 in
set_option maxRecDepth 100000 in
theorem walkTokens_any (l : List UInt8) (m : Int) (w : World) (hm : w.cell? ⟨0, 0, none⟩ = some (.int .i64 m)) : Calls Try.prog 4 #[.string (S l)] w (Ret (.bool true) w) := by
  have hsz := S_size l
  have HAW := Lib.hid (fun W h => awake8_any m W h)
  have HM := Lib.hid hm
  have h0 : 0 < w.heap.size := World.block_lt_of_cell? w _ hm
  clear hm
  by_cases hbig : 2100 < l.length
  · go_enter Try.func4, Try.ntmps4
    go_wp2_with fail
    refine (HAW.out _ HM.out).mono ?_
    rintro e w1 ⟨rfl, hb1⟩
    go_wp2_with fail
    go_ret
    exact ⟨rfl, hb1⟩
  · have hl : l.length ≤ 2100 := by omega
    have hbi : ¬ (2100 : Int) < l.length := by omega
    have HA := Lib.hid (fun W h => tokens_any l m W h (by omega))
    have HB := Lib.hid (fun W h => rtokens_any l W h (by omega))
    obtain ⟨rb, hrb⟩ : ∃ b, resB l = b := ⟨_, rfl⟩
    obtain ⟨nb, hnb⟩ : ∃ b, isName l = b := ⟨_, rfl⟩
    have HRA := Lib.hid (fun W h => reserved_any l m W h (by omega))
    have HRB := Lib.hid (fun W => rreserved_any l W (by omega))
    have HNA := Lib.hid (fun W h => name_any l m W h (by omega))
    have HNB := Lib.hid (fun W => rname_any l W (by omega))
    rw [hrb] at HRA HRB
    rw [hnb] at HNA HNB
    obtain ⟨res, hres⟩ : ∃ r, tokensL l = r := ⟨_, rfl⟩
    have HLT : Hid (∀ ts, res = .ok ts → ts.length ≤ 2100) := by
      show ∀ ts, _
      intro ts h
      rw [← hres] at h
      by_cases hx : 2000 < l.length
      · unfold tokensL at h
        rw [if_pos hx] at h
        cases h
      rcases tokens_cases l (by omega) with ⟨ts2, hts, hch⟩ | ⟨p, e, hts, he, hp0, hp1⟩
      · rw [hts] at h
        injection h with h
        subst h
        have := chain_len l ts2 0 hch (Nat.zero_le _)
        omega
      · rw [hts] at h; cases h
    rw [hres] at HA HB
    clear hres hrb hnb hbig hl
    go_enter Try.func4, Try.ntmps4
    go_wp2_with fail
    refine (HA.out _ HM.out).mono ?_
    rintro e w1 ⟨hb1, hA⟩
    have HA1 := Lib.hid hA
    have h1 : 0 < w1.heap.size := by have := hb1.size; omega
    clear hA
    obtain ⟨v1, i1, e1, rfl, HS⟩ : ∃ v1 i1 e1, e = .returned (.tuple #[v1, .int .i64 i1, .int .i64 e1]) ∧ Hid (∀ W y W', Below w1.heap.size w1 W → TokA res W y W' → ∃ v2, y = .returned (.tuple #[v2, .int .i64 i1, .int .i64 e1]) ∧ Below W.heap.size W W' ∧ ∀ W2, Below W'.heap.size W' W2 → Calls Try.prog 14 #[v1, v2] W2 (Ret (.bool true) W2)) := by
      rcases HA1.out with ⟨ts, v, hr, rfl, hE⟩ | ⟨p, q, hr, rfl⟩
      · refine ⟨_, _, _, rfl, ?_⟩
        show ∀ W y W', _
        rintro W y W' hbw ⟨hb2, h2⟩
        rcases h2 with ⟨ts2, v2, hr2, rfl, hE2⟩ | ⟨p, q, hr2, rfl⟩
        · rw [hr] at hr2
          injection hr2 with hr2
          subst hr2
          exact ⟨_, rfl, hb2, fun W2 hb3 => same_any ts v v2 W2 (((hE.below hbw).below hb2).below hb3) (hE2.below hb3) (by have := HLT.out ts hr; omega)⟩
        · rw [hr] at hr2; cases hr2
      · refine ⟨_, _, _, rfl, ?_⟩
        show ∀ W y W', _
        rintro W y W' hbw ⟨hb2, h2⟩
        rcases h2 with ⟨ts2, v2, hr2, rfl, hE2⟩ | ⟨p2, q2, hr2, rfl⟩
        · rw [hr] at hr2; cases hr2
        · rw [hr] at hr2
          injection hr2 with hr2
          injection hr2 with hr2 hr3
          subst hr2 hr3
          exact ⟨_, rfl, hb2, fun W2 hb3 => same_any [] _ _ W2 (ElAt.empty _ _) (ElAt.empty _ _) (by simp)⟩
    clear HA1 HA HLT
    go_wp2_with fail
    refine (HB.out _ h1).mono ?_
    intro e w2 hB
    obtain ⟨v2, rfl, hb2, hS⟩ := HS.out _ _ _ (Below.refl _ _) hB
    have HS2 := Lib.hid hS
    have hb3 := hb1.next hb2
    have hm3 := someInt_below HM.out hb3 h0
    clear hS HS hB hb1 hb2 h1 HB
    go_wp2_with fail
    refine (HAW.out _ hm3).mono ?_
    rintro e w3 ⟨rfl, hb4⟩
    have HX := Lib.hid (HS2.out _ hb4)
    have hb5 := hb3.next hb4
    clear HS2 hb3 hb4 hm3
    go_wp2_with fail
    refine HX.out.mono ?_
    rintro e w4 ⟨rfl, hb6⟩
    have hb7 := hb5.next hb6
    have hm7 := someInt_below HM.out hb7 h0
    clear HX hb5 hb6
    go_wp2_with fail
    refine (HRA.out _ hm7).mono ?_
    rintro e w5 ⟨rfl, rfl⟩
    go_wp2_with fail
    refine (HRB.out _).mono ?_
    rintro e w6 ⟨rfl, rfl⟩
    go_wp2_with fail
    refine (HNA.out _ hm7).mono ?_
    rintro e w7 ⟨rfl, hb8⟩
    have hb9 := hb7.next hb8
    clear hb7 hb8
    go_wp2_with fail
    refine (HNB.out _).mono ?_
    rintro e w8 ⟨rfl, rfl⟩
    go_wp2_with fail
    go_ret
    exact ret_boolB hb9 (by simp)
theorem walk_LexTokens (b : ByteArray) (W : World) (_ : b.size ≤ 140737488351232) (hmx : ∃ m, W.cell? ⟨0, 0, none⟩ = some (.int .i64 m)) : Calls Try.prog 4 #[.string b] W (Ret (.bool true) W) := by
  obtain ⟨m, hm⟩ := hmx
  have h := walkTokens_any b.data.toList m W hm
  have e : S b.data.toList = b := by apply ByteArray.ext; simp [S]
  rw [e] at h
  exact h
end Go.Proofs.Ytonpiacpgfibpaa.Lex
