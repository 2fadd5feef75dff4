/- lex: Next: what it answers. -/
import Derived.Test.YtonpiacpgfibpaaLexT
import Derived.Test.YtonpiacpgfibpaaLexQ
import Derived.Test.YtonpiacpgfibpaaLexZ
namespace Go.Proofs.Ytonpiacpgfibpaa.Lex
set_option linter.unusedVariables false
set_option linter.unusedSimpArgs false
open Go.RowKit
open Oct (S S_size S_data)
open Lib (indexByte)
/-- A token and an error, as they are answered. -/
def tokV (t : Tk) (e : Int) : Value := .tuple #[.agg #[.int .i64 t.k, .int .i64 t.a, .int .i64 t.z, .int .i64 t.n, .string (S t.s)], .int .i64 e]
/-- What Next answers. -/
def nextA (l : List UInt8) (a : Int) : Tk × Int := if a < 0 ∨ (l.length : Int) < a then (⟨0, 0, 0, 0, []⟩, 1) else nextF l a.toNat
theorem nextA_in (l : List UInt8) (a : Nat) (h : a ≤ l.length) : nextA l (a : Int) = nextF l a := by
  unfold nextA; rw [if_neg (by omega)]; rfl
theorem next_out (l : List UInt8) (a : Int) (w : World) (ha : a < 0 ∨ (l.length : Int) < a) : Calls Try.prog 10 #[.string (S l), .int .i64 a] w (Ret (tokV ⟨0, 0, 0, 0, []⟩ 1) w) := by
  have hsz := S_size l
  obtain ⟨hv, hb⟩ := tnew w
  by_cases h0 : a < 0
  · clear ha
    go_enter Try.func10, Try.ntmps10
    go_wp2_with fail
    exact bodyPost_ret (v := .tuple #[.agg #[.int .i64 0, .int .i64 0, .int .i64 0, .int .i64 0, .string ⟨#[]⟩], .int .i64 1]) (by simp [results, Try.results10, go_sem]) rfl ⟨rfl, hb⟩
  · have h1 : (l.length : Int) < a := by omega
    clear ha
    go_enter Try.func10, Try.ntmps10
    go_wp2_with fail
    exact bodyPost_ret (v := .tuple #[.agg #[.int .i64 0, .int .i64 0, .int .i64 0, .int .i64 0, .string ⟨#[]⟩], .int .i64 1]) (by simp [results, Try.results10, go_sem]) rfl ⟨rfl, hb⟩
set_option maxHeartbeats 8000000 in
set_option maxRecDepth 100000 in
theorem next_ins (l : List UInt8) (a : Nat) (m : Int) (w : World) (hm : w.cell? ⟨0, 0, none⟩ = some (.int .i64 m)) (ha : a ≤ l.length) (hl : l.length ≤ 100000) : Calls Try.prog 10 #[.string (S l), .int .i64 (a : Int)] w (Ret (tokV (nextF l a).1 (nextF l a).2) w) := by
  have hsz := S_size l
  have HSK := Lib.hid (fun W => skip_any l a W ha hl)
  obtain ⟨hv, hb⟩ := tnew w
  have hm0 := cell_alloc hm (.cells #[.int .i64 0, .int .i64 0, .int .i64 0, .int .i64 0, .string ⟨#[]⟩] 24)
  have ha0 : (0 : Int) ≤ a := by omega
  have ha1 : (a : Int) ≤ l.length := by omega
  clear hm
  rcases next_in l a ha with ⟨hd, hn⟩ | ⟨c, r, hd, hs0, hlen, hn⟩
  · have hi : a + skipF false (l.drop a) = l.length := by
      have h1 := congrArg List.length hd
      rw [List.length_drop, List.length_nil] at h1
      have h2 := skip_le (l.drop a) false
      rw [List.length_drop] at h2
      omega
    rw [hi] at HSK
    rw [hn]
    clear hd hn hi
    go_enter Try.func10, Try.ntmps10
    go_wp2_with fail
    refine (HSK.out _).mono ?_
    rintro e w1 ⟨rfl, rfl⟩
    go_wp2_with fail
    have hb2 : Below w.heap.size w (w.alloc (.cells #[.int .i64 0, .int .i64 (l.length : Int), .int .i64 0, .int .i64 0, .string ⟨#[]⟩] 24)) := (Below.refl _ _).alloc (Nat.le_refl _) _
    exact bodyPost_ret (v := .tuple #[.agg #[.int .i64 0, .int .i64 (l.length : Int), .int .i64 0, .int .i64 0, .string ⟨#[]⟩], .int .i64 0]) (by simp [results, Try.results10, go_sem]) rfl ⟨rfl, hb2⟩
  · obtain ⟨i, hi⟩ : ∃ i, a + skipF false (l.drop a) = i := ⟨_, rfl⟩
    rw [hi] at HSK hd hlen hn
    rw [hn]
    have hil : i < l.length := by omega
    have hdi := List.drop_eq_getElem_cons hil
    rw [hd] at hdi
    have hcr : c = l[i] ∧ r = l.drop (i + 1) := by injection hdi with h1 h2; exact ⟨h1, h2⟩
    have hc0 : i < (S l).size := by omega
    have hce : (((S l)[i]'hc0).toNat : Int) = c.toNat := by rw [S_at l i hil, ← hcr.1]
    have hi0 : (0 : Int) ≤ i := by omega
    have hi1 : (i : Int) < l.length := by omega
    have hi2 : ((i : Int) == (l.length : Int)) = false := by simp; omega
    have HLT := Lib.hid (fun W => letter_any c W)
    have HDG := Lib.hid (fun W => digit_any c W)
    have HWD := Lib.hid (fun W h => word_any l i m W h (by omega) hl)
    have HNM := Lib.hid (fun W => number_any l i W (by omega) hl)
    have HQT := Lib.hid (fun W => quoted_any l i W hil hl)
    have HTX := Lib.hid (fun W => text_any l i W hil hl)
    have HSG := Lib.hid (fun W => sign_any l i W hil hl)
    rw [hd] at HWD HNM
    rw [← hcr.2] at HQT HTX HSG
    rw [← hcr.1] at HSG
    clear hd hs0 hlen hn hi hdi hcr
    have HCS := tok_cases c
    rcases HCS with h1 | ⟨h1, h2⟩ | rfl | rfl | ⟨h1, h2, h3, h4⟩
    · rw [tok_letter r h1]
      rw [h1] at HLT
      clear h1
      have HLAST := HWD
      obtain ⟨p, hp⟩ : ∃ p, wordF (c :: r) = p := ⟨_, rfl⟩
      rw [hp] at HLAST ⊢
      obtain ⟨pk, pz, pn, ps, pe⟩ := p
      simp only [PcR] at HLAST
      clear hp HWD HNM HQT HTX HSG
      obtain ⟨sp, hsp⟩ : ∃ x, S ps = x := ⟨_, rfl⟩
      simp only [hsp] at HLAST
      have HSP := Lib.hid hsp
      clear hsp
      go_enter Try.func10, Try.ntmps10
      go_wp2_with fail
      refine (HSK.out _).mono ?_
      rintro e w1 ⟨rfl, rfl⟩
      generalize hW : (w.alloc (.cells #[.int .i64 0, .int .i64 0, .int .i64 0, .int .i64 0, .string ⟨#[]⟩] 24)) = W0 at hv hb hm0 ⊢
      clear hW
      go_wp2_with fail
      refine (HLT.out _).mono ?_
      rintro e w1 ⟨rfl, rfl⟩
      go_wp2_with fail
      refine (HLAST.out _ hm0).mono ?_
      rintro e w2 ⟨rfl, hb2⟩
      replace hv := hv.below hb2
      replace hb := hb.next hb2
      obtain ⟨z0, z1, z2, z3, z4, f0, f1, f2, f3, f4⟩ := tval hv
      go_wp2_with fail
      obtain ⟨hbE, e0, e1, e2, e3, e4⟩ := tfin hv hb (Nat.le_refl _) (.int .i64 pk) (.int .i64 (i : Int)) (.int .i64 (pz : Int)) (.int .i64 pn) (.string sp)
      exact bodyPost_ret (v := .tuple #[.agg #[.int .i64 pk, .int .i64 (i : Int), .int .i64 (pz : Int), .int .i64 pn, .string sp], .int .i64 pe]) (by simp [results, Try.results10, go_sem, e0, e1, e2, e3, e4]) rfl ⟨by rw [← HSP.out]; rfl, hbE⟩
    · rw [tok_digit r h1 h2]
      rw [h1] at HLT
      rw [h2] at HDG
      clear h1 h2
      have HLAST := HNM
      obtain ⟨p, hp⟩ : ∃ p, numF (c :: r) = p := ⟨_, rfl⟩
      rw [hp] at HLAST ⊢
      obtain ⟨pk, pz, pn, ps, pe⟩ := p
      simp only [PcR] at HLAST
      clear hp HWD HNM HQT HTX HSG
      obtain ⟨sp, hsp⟩ : ∃ x, S ps = x := ⟨_, rfl⟩
      simp only [hsp] at HLAST
      have HSP := Lib.hid hsp
      clear hsp
      go_enter Try.func10, Try.ntmps10
      go_wp2_with fail
      refine (HSK.out _).mono ?_
      rintro e w1 ⟨rfl, rfl⟩
      generalize hW : (w.alloc (.cells #[.int .i64 0, .int .i64 0, .int .i64 0, .int .i64 0, .string ⟨#[]⟩] 24)) = W0 at hv hb hm0 ⊢
      clear hW
      go_wp2_with fail
      refine (HLT.out _).mono ?_
      rintro e w1 ⟨rfl, rfl⟩
      go_wp2_with fail
      refine (HDG.out _).mono ?_
      rintro e w1 ⟨rfl, rfl⟩
      go_wp2_with fail
      refine (HLAST.out _).mono ?_
      rintro e w2 ⟨rfl, hb2⟩
      replace hv := hv.below hb2
      replace hb := hb.next hb2
      obtain ⟨z0, z1, z2, z3, z4, f0, f1, f2, f3, f4⟩ := tval hv
      go_wp2_with fail
      obtain ⟨hbE, e0, e1, e2, e3, e4⟩ := tfin hv hb (Nat.le_refl _) (.int .i64 pk) (.int .i64 (i : Int)) (.int .i64 (pz : Int)) (.int .i64 pn) (.string sp)
      exact bodyPost_ret (v := .tuple #[.agg #[.int .i64 pk, .int .i64 (i : Int), .int .i64 (pz : Int), .int .i64 pn, .string sp], .int .i64 pe]) (by simp [results, Try.results10, go_sem, e0, e1, e2, e3, e4]) rfl ⟨by rw [← HSP.out]; rfl, hbE⟩
    · rw [tok_quot r]
      rw [show letB 34 = false by decide] at HLT
      rw [show digB 34 = false by decide] at HDG
      replace hce : (((S l)[i]'hc0).toNat : Int) = 34 := hce
      simp only [show ((34 : UInt8).toNat : Int) = 34 from rfl] at HLT HDG
      have HLAST := HQT
      obtain ⟨p, hp⟩ : ∃ p, quotF r = p := ⟨_, rfl⟩
      rw [hp] at HLAST ⊢
      obtain ⟨pk, pz, pn, ps, pe⟩ := p
      simp only [PcR] at HLAST
      clear hp HWD HNM HQT HTX HSG
      obtain ⟨sp, hsp⟩ : ∃ x, S ps = x := ⟨_, rfl⟩
      simp only [hsp] at HLAST
      have HSP := Lib.hid hsp
      clear hsp
      go_enter Try.func10, Try.ntmps10
      go_wp2_with fail
      refine (HSK.out _).mono ?_
      rintro e w1 ⟨rfl, rfl⟩
      generalize hW : (w.alloc (.cells #[.int .i64 0, .int .i64 0, .int .i64 0, .int .i64 0, .string ⟨#[]⟩] 24)) = W0 at hv hb hm0 ⊢
      clear hW
      go_wp2_with fail
      refine (HLT.out _).mono ?_
      rintro e w1 ⟨rfl, rfl⟩
      go_wp2_with fail
      refine (HDG.out _).mono ?_
      rintro e w1 ⟨rfl, rfl⟩
      go_wp2_with fail
      refine (HLAST.out _).mono ?_
      rintro e w2 ⟨rfl, hb2⟩
      replace hv := hv.below hb2
      replace hb := hb.next hb2
      obtain ⟨z0, z1, z2, z3, z4, f0, f1, f2, f3, f4⟩ := tval hv
      go_wp2_with fail
      obtain ⟨hbE, e0, e1, e2, e3, e4⟩ := tfin hv hb (Nat.le_refl _) (.int .i64 pk) (.int .i64 (i : Int)) (.int .i64 (pz : Int)) (.int .i64 pn) (.string sp)
      exact bodyPost_ret (v := .tuple #[.agg #[.int .i64 pk, .int .i64 (i : Int), .int .i64 (pz : Int), .int .i64 pn, .string sp], .int .i64 pe]) (by simp [results, Try.results10, go_sem, e0, e1, e2, e3, e4]) rfl ⟨by rw [← HSP.out]; rfl, hbE⟩
    · rw [tok_text r]
      rw [show letB 39 = false by decide] at HLT
      rw [show digB 39 = false by decide] at HDG
      replace hce : (((S l)[i]'hc0).toNat : Int) = 39 := hce
      simp only [show ((39 : UInt8).toNat : Int) = 39 from rfl] at HLT HDG
      have HLAST := HTX
      obtain ⟨p, hp⟩ : ∃ p, txtF r = p := ⟨_, rfl⟩
      rw [hp] at HLAST ⊢
      obtain ⟨pk, pz, pn, ps, pe⟩ := p
      simp only [PcR] at HLAST
      clear hp HWD HNM HQT HTX HSG
      obtain ⟨sp, hsp⟩ : ∃ x, S ps = x := ⟨_, rfl⟩
      simp only [hsp] at HLAST
      have HSP := Lib.hid hsp
      clear hsp
      go_enter Try.func10, Try.ntmps10
      go_wp2_with fail
      refine (HSK.out _).mono ?_
      rintro e w1 ⟨rfl, rfl⟩
      generalize hW : (w.alloc (.cells #[.int .i64 0, .int .i64 0, .int .i64 0, .int .i64 0, .string ⟨#[]⟩] 24)) = W0 at hv hb hm0 ⊢
      clear hW
      go_wp2_with fail
      refine (HLT.out _).mono ?_
      rintro e w1 ⟨rfl, rfl⟩
      go_wp2_with fail
      refine (HDG.out _).mono ?_
      rintro e w1 ⟨rfl, rfl⟩
      go_wp2_with fail
      refine (HLAST.out _).mono ?_
      rintro e w2 ⟨rfl, hb2⟩
      replace hv := hv.below hb2
      replace hb := hb.next hb2
      obtain ⟨z0, z1, z2, z3, z4, f0, f1, f2, f3, f4⟩ := tval hv
      go_wp2_with fail
      obtain ⟨hbE, e0, e1, e2, e3, e4⟩ := tfin hv hb (Nat.le_refl _) (.int .i64 pk) (.int .i64 (i : Int)) (.int .i64 (pz : Int)) (.int .i64 pn) (.string sp)
      exact bodyPost_ret (v := .tuple #[.agg #[.int .i64 pk, .int .i64 (i : Int), .int .i64 (pz : Int), .int .i64 pn, .string sp], .int .i64 pe]) (by simp [results, Try.results10, go_sem, e0, e1, e2, e3, e4]) rfl ⟨by rw [← HSP.out]; rfl, hbE⟩
    · rw [tok_sign r h1 h2 h3 h4]
      rw [h1] at HLT
      rw [h2] at HDG
      have n3 := neq8 h3
      have n4 := neq8 h4
      simp only [show ((34 : UInt8).toNat : Int) = 34 from rfl] at n3
      simp only [show ((39 : UInt8).toNat : Int) = 39 from rfl] at n4
      clear h1 h2 h3 h4
      have HLAST := HSG
      obtain ⟨p, hp⟩ : ∃ p, signF c r = p := ⟨_, rfl⟩
      rw [hp] at HLAST ⊢
      obtain ⟨pk, pz, pn, ps, pe⟩ := p
      simp only [PcR] at HLAST
      clear hp HWD HNM HQT HTX HSG
      obtain ⟨sp, hsp⟩ : ∃ x, S ps = x := ⟨_, rfl⟩
      simp only [hsp] at HLAST
      have HSP := Lib.hid hsp
      clear hsp
      go_enter Try.func10, Try.ntmps10
      go_wp2_with fail
      refine (HSK.out _).mono ?_
      rintro e w1 ⟨rfl, rfl⟩
      generalize hW : (w.alloc (.cells #[.int .i64 0, .int .i64 0, .int .i64 0, .int .i64 0, .string ⟨#[]⟩] 24)) = W0 at hv hb hm0 ⊢
      clear hW
      go_wp2_with fail
      refine (HLT.out _).mono ?_
      rintro e w1 ⟨rfl, rfl⟩
      go_wp2_with fail
      refine (HDG.out _).mono ?_
      rintro e w1 ⟨rfl, rfl⟩
      go_wp2_with fail
      refine (HLAST.out _).mono ?_
      rintro e w2 ⟨rfl, hb2⟩
      replace hv := hv.below hb2
      replace hb := hb.next hb2
      obtain ⟨z0, z1, z2, z3, z4, f0, f1, f2, f3, f4⟩ := tval hv
      go_wp2_with fail
      obtain ⟨hbE, e0, e1, e2, e3, e4⟩ := tfin hv hb (Nat.le_refl _) (.int .i64 pk) (.int .i64 (i : Int)) (.int .i64 (pz : Int)) (.int .i64 pn) (.string sp)
      exact bodyPost_ret (v := .tuple #[.agg #[.int .i64 pk, .int .i64 (i : Int), .int .i64 (pz : Int), .int .i64 pn, .string sp], .int .i64 pe]) (by simp [results, Try.results10, go_sem, e0, e1, e2, e3, e4]) rfl ⟨by rw [← HSP.out]; rfl, hbE⟩
theorem next_any (l : List UInt8) (a : Int) (m : Int) (w : World) (hm : w.cell? ⟨0, 0, none⟩ = some (.int .i64 m)) (hl : l.length ≤ 100000) : Calls Try.prog 10 #[.string (S l), .int .i64 a] w (Ret (tokV (nextA l a).1 (nextA l a).2) w) := by
  by_cases h : a < 0 ∨ (l.length : Int) < a
  · have e : nextA l a = (⟨0, 0, 0, 0, []⟩, 1) := by unfold nextA; rw [if_pos h]
    rw [e]
    exact next_out l a w h
  · obtain ⟨k, rfl⟩ : ∃ k : Nat, a = k := ⟨a.toNat, by omega⟩
    rw [nextA_in l k (by omega)]
    exact next_ins l k m w hm (by omega) hl
end Go.Proofs.Ytonpiacpgfibpaa.Lex
