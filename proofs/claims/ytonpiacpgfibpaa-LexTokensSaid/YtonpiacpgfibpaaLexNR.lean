/- The reference's Next. -/
import Derived.Test.YtonpiacpgfibpaaLexN
import Derived.Test.YtonpiacpgfibpaaLexS
import Derived.Test.YtonpiacpgfibpaaLexWR
import Derived.Test.YtonpiacpgfibpaaLexQR
import Derived.Test.YtonpiacpgfibpaaLexZR
namespace Go.Proofs.Ytonpiacpgfibpaa.Lex
set_option linter.unusedVariables false
set_option linter.unusedSimpArgs false
open Go.RowKit
open Oct (S S_size S_data)
open Lib (indexByte)
theorem let_two (c : UInt8) (h : letB c = true) : nameB c = true ∨ (nameB c = false ∧ upB c = true) := by
  have := all8 (fun c => !(letB c) || (nameB c || upB c)) (by decide +kernel) c
  rw [h] at this
  cases h1 : nameB c with
  | true => exact .inl rfl
  | false => rw [h1] at this; exact .inr ⟨rfl, by simpa using this⟩
theorem let_none (c : UInt8) (h : letB c = false) : nameB c = false ∧ upB c = false := by
  have := all8 (fun c => letB c || (!(nameB c) && !(upB c))) (by decide +kernel) c
  rw [h] at this
  simpa using this
theorem rnext_out (l : List UInt8) (a : Int) (w : World) (ha : a < 0 ∨ (l.length : Int) < a) : Calls Try.prog 11 #[.string (S l), .int .i64 a] w (Ret (tokV ⟨0, 0, 0, 0, []⟩ 1) w) := by
  have hsz := S_size l
  obtain ⟨hv, hb⟩ := tnew w
  by_cases h0 : a < 0
  · clear ha
    go_enter Try.func11, Try.ntmps11
    go_wp2_with fail
    exact bodyPost_ret (v := .tuple #[.agg #[.int .i64 0, .int .i64 0, .int .i64 0, .int .i64 0, .string ⟨#[]⟩], .int .i64 1]) (by simp [results, Try.results11, go_sem]) rfl ⟨rfl, hb⟩
  · have h1 : (l.length : Int) < a := by omega
    clear ha
    go_enter Try.func11, Try.ntmps11
    go_wp2_with fail
    exact bodyPost_ret (v := .tuple #[.agg #[.int .i64 0, .int .i64 0, .int .i64 0, .int .i64 0, .string ⟨#[]⟩], .int .i64 1]) (by simp [results, Try.results11, go_sem]) rfl ⟨rfl, hb⟩
set_option maxHeartbeats 8000000 in
set_option maxRecDepth 100000 in
theorem rnext_ins (l : List UInt8) (a : Nat) (w : World) (ha : a ≤ l.length) (hl : l.length ≤ 100000) : Calls Try.prog 11 #[.string (S l), .int .i64 (a : Int)] w (Ret (tokV (nextF l a).1 (nextF l a).2) w) := by
  have hsz := S_size l
  have HSK := Lib.hid (fun W => rskip_any l a W ha hl)
  obtain ⟨hv, hb⟩ := tnew w
  have ha0 : (0 : Int) ≤ a := by omega
  have ha1 : (a : Int) ≤ l.length := by omega
  rcases next_in l a ha with ⟨hd, hn⟩ | ⟨c, r, hd, hs0, hlen, hn⟩
  · have hi : a + skipF false (l.drop a) = l.length := by
      have h1 := congrArg List.length hd
      rw [List.length_drop, List.length_nil] at h1
      have h2 := skip_le (l.drop a) false
      rw [List.length_drop] at h2
      omega
    rw [hi] at HSK
    rw [hn]
    clear hd hn hi
    go_enter Try.func11, Try.ntmps11
    go_wp2_with fail
    refine (HSK.out _).mono ?_
    rintro e w1 ⟨rfl, rfl⟩
    go_wp2_with fail
    have hb2 : Below w.heap.size w (w.alloc (.cells #[.int .i64 0, .int .i64 (l.length : Int), .int .i64 0, .int .i64 0, .string ⟨#[]⟩] 24)) := (Below.refl _ _).alloc (Nat.le_refl _) _
    exact bodyPost_ret (v := .tuple #[.agg #[.int .i64 0, .int .i64 (l.length : Int), .int .i64 0, .int .i64 0, .string ⟨#[]⟩], .int .i64 0]) (by simp [results, Try.results11, go_sem]) rfl ⟨rfl, hb2⟩
  · obtain ⟨i, hi⟩ : ∃ i, a + skipF false (l.drop a) = i := ⟨_, rfl⟩
    rw [hi] at HSK hd hlen hn
    rw [hn]
    have hil : i < l.length := by omega
    have hdi := List.drop_eq_getElem_cons hil
    rw [hd] at hdi
    have hcr : c = l[i] ∧ r = l.drop (i + 1) := by injection hdi with h1 h2; exact ⟨h1, h2⟩
    have hc0 : i < (S l).size := by omega
    have hce : (((S l)[i]'hc0).toNat : Int) = c.toNat := by rw [S_at l i hil, ← hcr.1]
    have hi0 : (0 : Int) ≤ i := by omega
    have hi1 : (i : Int) < l.length := by omega
    have hi2 : ((i : Int) == (l.length : Int)) = false := by simp; omega
    have HLT := Lib.hid (fun W => rletter_any c W)
    have HGT := Lib.hid (fun W => rgreat_any c W)
    have HDG := Lib.hid (fun W => rdigit_any c W)
    have HWD := Lib.hid (fun W => rword_any l i W (by omega) hl)
    have HNM := Lib.hid (fun W => rnumber_any l i W (by omega) hl)
    have HQT := Lib.hid (fun W => rquoted_any l i W hil hl)
    have HTX := Lib.hid (fun W => rtext_any l i W hil hl)
    have HSG := Lib.hid (fun W => rsign_any l i W hil hl)
    rw [hd] at HWD HNM
    rw [← hcr.2] at HQT HTX HSG
    rw [← hcr.1] at HSG
    clear hd hs0 hlen hn hi hdi hcr
    have HCS : (letB c = true ∧ nameB c = true) ∨ (letB c = true ∧ nameB c = false ∧ upB c = true) ∨ (letB c = false ∧ digB c = true) ∨ c = 34 ∨ c = 39 ∨ (letB c = false ∧ digB c = false ∧ c ≠ 34 ∧ c ≠ 39) := by
      rcases tok_cases c with h1 | h
      · rcases let_two c h1 with h2 | h2
        · exact .inl ⟨h1, h2⟩
        · exact .inr (.inl ⟨h1, h2⟩)
      · exact .inr (.inr h)
    rcases HCS with ⟨h1, g1⟩ | ⟨h1, g1, g2⟩ | ⟨h1, h2⟩ | rfl | rfl | ⟨h1, h2, h3, h4⟩
    · rw [tok_letter r h1]
      rw [g1] at HLT
      clear h1 g1
      have HLAST := HWD
      obtain ⟨p, hp⟩ : ∃ p, wordF (c :: r) = p := ⟨_, rfl⟩
      rw [hp] at HLAST ⊢
      obtain ⟨pk, pz, pn, ps, pe⟩ := p
      simp only [PcR] at HLAST
      clear hp HWD HNM HQT HTX HSG
      obtain ⟨sp, hsp⟩ : ∃ x, S ps = x := ⟨_, rfl⟩
      simp only [hsp] at HLAST
      have HSP := Lib.hid hsp
      clear hsp
      go_enter Try.func11, Try.ntmps11
      go_wp2_with fail
      refine (HSK.out _).mono ?_
      rintro e w1 ⟨rfl, rfl⟩
      generalize hW : (w.alloc (.cells #[.int .i64 0, .int .i64 0, .int .i64 0, .int .i64 0, .string ⟨#[]⟩] 24)) = W0 at hv hb ⊢
      clear hW
      go_wp2_with fail
      refine (HLT.out _).mono ?_
      rintro e w1 ⟨rfl, rfl⟩
      go_wp2_with fail
      refine (HLAST.out _).mono ?_
      rintro e w2 ⟨rfl, hb2⟩
      replace hv := hv.below hb2
      replace hb := hb.next hb2
      obtain ⟨z0, z1, z2, z3, z4, f0, f1, f2, f3, f4⟩ := tval hv
      go_wp2_with fail
      obtain ⟨hbE, e0, e1, e2, e3, e4⟩ := tfin hv hb (Nat.le_refl _) (.int .i64 pk) (.int .i64 (i : Int)) (.int .i64 (pz : Int)) (.int .i64 pn) (.string sp)
      exact bodyPost_ret (v := .tuple #[.agg #[.int .i64 pk, .int .i64 (i : Int), .int .i64 (pz : Int), .int .i64 pn, .string sp], .int .i64 pe]) (by simp [results, Try.results11, go_sem, e0, e1, e2, e3, e4]) rfl ⟨by rw [← HSP.out]; rfl, hbE⟩
    · rw [tok_letter r h1]
      rw [g1] at HLT
      rw [g2] at HGT
      clear h1 g1 g2
      have HLAST := HWD
      obtain ⟨p, hp⟩ : ∃ p, wordF (c :: r) = p := ⟨_, rfl⟩
      rw [hp] at HLAST ⊢
      obtain ⟨pk, pz, pn, ps, pe⟩ := p
      simp only [PcR] at HLAST
      clear hp HWD HNM HQT HTX HSG
      obtain ⟨sp, hsp⟩ : ∃ x, S ps = x := ⟨_, rfl⟩
      simp only [hsp] at HLAST
      have HSP := Lib.hid hsp
      clear hsp
      go_enter Try.func11, Try.ntmps11
      go_wp2_with fail
      refine (HSK.out _).mono ?_
      rintro e w1 ⟨rfl, rfl⟩
      generalize hW : (w.alloc (.cells #[.int .i64 0, .int .i64 0, .int .i64 0, .int .i64 0, .string ⟨#[]⟩] 24)) = W0 at hv hb ⊢
      clear hW
      go_wp2_with fail
      refine (HLT.out _).mono ?_
      rintro e w1 ⟨rfl, rfl⟩
      go_wp2_with fail
      refine (HGT.out _).mono ?_
      rintro e w1 ⟨rfl, rfl⟩
      go_wp2_with fail
      refine (HLAST.out _).mono ?_
      rintro e w2 ⟨rfl, hb2⟩
      replace hv := hv.below hb2
      replace hb := hb.next hb2
      obtain ⟨z0, z1, z2, z3, z4, f0, f1, f2, f3, f4⟩ := tval hv
      go_wp2_with fail
      obtain ⟨hbE, e0, e1, e2, e3, e4⟩ := tfin hv hb (Nat.le_refl _) (.int .i64 pk) (.int .i64 (i : Int)) (.int .i64 (pz : Int)) (.int .i64 pn) (.string sp)
      exact bodyPost_ret (v := .tuple #[.agg #[.int .i64 pk, .int .i64 (i : Int), .int .i64 (pz : Int), .int .i64 pn, .string sp], .int .i64 pe]) (by simp [results, Try.results11, go_sem, e0, e1, e2, e3, e4]) rfl ⟨by rw [← HSP.out]; rfl, hbE⟩
    · rw [tok_digit r h1 h2]
      rw [(let_none c h1).1] at HLT
      rw [(let_none c h1).2] at HGT
      rw [h2] at HDG
      clear h1 h2
      have HLAST := HNM
      obtain ⟨p, hp⟩ : ∃ p, numF (c :: r) = p := ⟨_, rfl⟩
      rw [hp] at HLAST ⊢
      obtain ⟨pk, pz, pn, ps, pe⟩ := p
      simp only [PcR] at HLAST
      clear hp HWD HNM HQT HTX HSG
      obtain ⟨sp, hsp⟩ : ∃ x, S ps = x := ⟨_, rfl⟩
      simp only [hsp] at HLAST
      have HSP := Lib.hid hsp
      clear hsp
      go_enter Try.func11, Try.ntmps11
      go_wp2_with fail
      refine (HSK.out _).mono ?_
      rintro e w1 ⟨rfl, rfl⟩
      generalize hW : (w.alloc (.cells #[.int .i64 0, .int .i64 0, .int .i64 0, .int .i64 0, .string ⟨#[]⟩] 24)) = W0 at hv hb ⊢
      clear hW
      go_wp2_with fail
      refine (HLT.out _).mono ?_
      rintro e w1 ⟨rfl, rfl⟩
      go_wp2_with fail
      refine (HGT.out _).mono ?_
      rintro e w1 ⟨rfl, rfl⟩
      go_wp2_with fail
      refine (HDG.out _).mono ?_
      rintro e w1 ⟨rfl, rfl⟩
      go_wp2_with fail
      refine (HLAST.out _).mono ?_
      rintro e w2 ⟨rfl, hb2⟩
      replace hv := hv.below hb2
      replace hb := hb.next hb2
      obtain ⟨z0, z1, z2, z3, z4, f0, f1, f2, f3, f4⟩ := tval hv
      go_wp2_with fail
      obtain ⟨hbE, e0, e1, e2, e3, e4⟩ := tfin hv hb (Nat.le_refl _) (.int .i64 pk) (.int .i64 (i : Int)) (.int .i64 (pz : Int)) (.int .i64 pn) (.string sp)
      exact bodyPost_ret (v := .tuple #[.agg #[.int .i64 pk, .int .i64 (i : Int), .int .i64 (pz : Int), .int .i64 pn, .string sp], .int .i64 pe]) (by simp [results, Try.results11, go_sem, e0, e1, e2, e3, e4]) rfl ⟨by rw [← HSP.out]; rfl, hbE⟩
    · rw [tok_quot r]
      rw [show nameB 34 = false by decide] at HLT
      rw [show upB 34 = false by decide] at HGT
      rw [show digB 34 = false by decide] at HDG
      replace hce : (((S l)[i]'hc0).toNat : Int) = 34 := hce
      simp only [show ((34 : UInt8).toNat : Int) = 34 from rfl] at HLT HGT HDG
      have HLAST := HQT
      obtain ⟨p, hp⟩ : ∃ p, quotF r = p := ⟨_, rfl⟩
      rw [hp] at HLAST ⊢
      obtain ⟨pk, pz, pn, ps, pe⟩ := p
      simp only [PcR] at HLAST
      clear hp HWD HNM HQT HTX HSG
      obtain ⟨sp, hsp⟩ : ∃ x, S ps = x := ⟨_, rfl⟩
      simp only [hsp] at HLAST
      have HSP := Lib.hid hsp
      clear hsp
      go_enter Try.func11, Try.ntmps11
      go_wp2_with fail
      refine (HSK.out _).mono ?_
      rintro e w1 ⟨rfl, rfl⟩
      generalize hW : (w.alloc (.cells #[.int .i64 0, .int .i64 0, .int .i64 0, .int .i64 0, .string ⟨#[]⟩] 24)) = W0 at hv hb ⊢
      clear hW
      go_wp2_with fail
      refine (HLT.out _).mono ?_
      rintro e w1 ⟨rfl, rfl⟩
      go_wp2_with fail
      refine (HGT.out _).mono ?_
      rintro e w1 ⟨rfl, rfl⟩
      go_wp2_with fail
      refine (HDG.out _).mono ?_
      rintro e w1 ⟨rfl, rfl⟩
      go_wp2_with fail
      refine (HLAST.out _).mono ?_
      rintro e w2 ⟨rfl, hb2⟩
      replace hv := hv.below hb2
      replace hb := hb.next hb2
      obtain ⟨z0, z1, z2, z3, z4, f0, f1, f2, f3, f4⟩ := tval hv
      go_wp2_with fail
      obtain ⟨hbE, e0, e1, e2, e3, e4⟩ := tfin hv hb (Nat.le_refl _) (.int .i64 pk) (.int .i64 (i : Int)) (.int .i64 (pz : Int)) (.int .i64 pn) (.string sp)
      exact bodyPost_ret (v := .tuple #[.agg #[.int .i64 pk, .int .i64 (i : Int), .int .i64 (pz : Int), .int .i64 pn, .string sp], .int .i64 pe]) (by simp [results, Try.results11, go_sem, e0, e1, e2, e3, e4]) rfl ⟨by rw [← HSP.out]; rfl, hbE⟩
    · rw [tok_text r]
      rw [show nameB 39 = false by decide] at HLT
      rw [show upB 39 = false by decide] at HGT
      rw [show digB 39 = false by decide] at HDG
      replace hce : (((S l)[i]'hc0).toNat : Int) = 39 := hce
      simp only [show ((39 : UInt8).toNat : Int) = 39 from rfl] at HLT HGT HDG
      have HLAST := HTX
      obtain ⟨p, hp⟩ : ∃ p, txtF r = p := ⟨_, rfl⟩
      rw [hp] at HLAST ⊢
      obtain ⟨pk, pz, pn, ps, pe⟩ := p
      simp only [PcR] at HLAST
      clear hp HWD HNM HQT HTX HSG
      obtain ⟨sp, hsp⟩ : ∃ x, S ps = x := ⟨_, rfl⟩
      simp only [hsp] at HLAST
      have HSP := Lib.hid hsp
      clear hsp
      go_enter Try.func11, Try.ntmps11
      go_wp2_with fail
      refine (HSK.out _).mono ?_
      rintro e w1 ⟨rfl, rfl⟩
      generalize hW : (w.alloc (.cells #[.int .i64 0, .int .i64 0, .int .i64 0, .int .i64 0, .string ⟨#[]⟩] 24)) = W0 at hv hb ⊢
      clear hW
      go_wp2_with fail
      refine (HLT.out _).mono ?_
      rintro e w1 ⟨rfl, rfl⟩
      go_wp2_with fail
      refine (HGT.out _).mono ?_
      rintro e w1 ⟨rfl, rfl⟩
      go_wp2_with fail
      refine (HDG.out _).mono ?_
      rintro e w1 ⟨rfl, rfl⟩
      go_wp2_with fail
      refine (HLAST.out _).mono ?_
      rintro e w2 ⟨rfl, hb2⟩
      replace hv := hv.below hb2
      replace hb := hb.next hb2
      obtain ⟨z0, z1, z2, z3, z4, f0, f1, f2, f3, f4⟩ := tval hv
      go_wp2_with fail
      obtain ⟨hbE, e0, e1, e2, e3, e4⟩ := tfin hv hb (Nat.le_refl _) (.int .i64 pk) (.int .i64 (i : Int)) (.int .i64 (pz : Int)) (.int .i64 pn) (.string sp)
      exact bodyPost_ret (v := .tuple #[.agg #[.int .i64 pk, .int .i64 (i : Int), .int .i64 (pz : Int), .int .i64 pn, .string sp], .int .i64 pe]) (by simp [results, Try.results11, go_sem, e0, e1, e2, e3, e4]) rfl ⟨by rw [← HSP.out]; rfl, hbE⟩
    · rw [tok_sign r h1 h2 h3 h4]
      rw [(let_none c h1).1] at HLT
      rw [(let_none c h1).2] at HGT
      rw [h2] at HDG
      have n3 := neq8 h3
      have n4 := neq8 h4
      simp only [show ((34 : UInt8).toNat : Int) = 34 from rfl] at n3
      simp only [show ((39 : UInt8).toNat : Int) = 39 from rfl] at n4
      clear h1 h2 h3 h4
      have HLAST := HSG
      obtain ⟨p, hp⟩ : ∃ p, signF c r = p := ⟨_, rfl⟩
      rw [hp] at HLAST ⊢
      obtain ⟨pk, pz, pn, ps, pe⟩ := p
      simp only [PcR] at HLAST
      clear hp HWD HNM HQT HTX HSG
      obtain ⟨sp, hsp⟩ : ∃ x, S ps = x := ⟨_, rfl⟩
      simp only [hsp] at HLAST
      have HSP := Lib.hid hsp
      clear hsp
      go_enter Try.func11, Try.ntmps11
      go_wp2_with fail
      refine (HSK.out _).mono ?_
      rintro e w1 ⟨rfl, rfl⟩
      generalize hW : (w.alloc (.cells #[.int .i64 0, .int .i64 0, .int .i64 0, .int .i64 0, .string ⟨#[]⟩] 24)) = W0 at hv hb ⊢
      clear hW
      go_wp2_with fail
      refine (HLT.out _).mono ?_
      rintro e w1 ⟨rfl, rfl⟩
      go_wp2_with fail
      refine (HGT.out _).mono ?_
      rintro e w1 ⟨rfl, rfl⟩
      go_wp2_with fail
      refine (HDG.out _).mono ?_
      rintro e w1 ⟨rfl, rfl⟩
      go_wp2_with fail
      refine (HLAST.out _).mono ?_
      rintro e w2 ⟨rfl, hb2⟩
      replace hv := hv.below hb2
      replace hb := hb.next hb2
      obtain ⟨z0, z1, z2, z3, z4, f0, f1, f2, f3, f4⟩ := tval hv
      go_wp2_with fail
      obtain ⟨hbE, e0, e1, e2, e3, e4⟩ := tfin hv hb (Nat.le_refl _) (.int .i64 pk) (.int .i64 (i : Int)) (.int .i64 (pz : Int)) (.int .i64 pn) (.string sp)
      exact bodyPost_ret (v := .tuple #[.agg #[.int .i64 pk, .int .i64 (i : Int), .int .i64 (pz : Int), .int .i64 pn, .string sp], .int .i64 pe]) (by simp [results, Try.results11, go_sem, e0, e1, e2, e3, e4]) rfl ⟨by rw [← HSP.out]; rfl, hbE⟩
theorem rnext_any (l : List UInt8) (a : Int) (w : World) (hl : l.length ≤ 100000) : Calls Try.prog 11 #[.string (S l), .int .i64 a] w (Ret (tokV (nextA l a).1 (nextA l a).2) w) := by
  by_cases h : a < 0 ∨ (l.length : Int) < a
  · have e : nextA l a = (⟨0, 0, 0, 0, []⟩, 1) := by unfold nextA; rw [if_pos h]
    rw [e]
    exact rnext_out l a w h
  · obtain ⟨k, rfl⟩ : ∃ k : Nat, a = k := ⟨a.toNat, by omega⟩
    rw [nextA_in l k (by omega)]
    exact rnext_ins l k w (by omega) hl
end Go.Proofs.Ytonpiacpgfibpaa.Lex
