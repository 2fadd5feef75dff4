/- The reference's text. -/
import Derived.Test.YtonpiacpgfibpaaLexS
import Derived.Test.YtonpiacpgfibpaaLexQ
namespace Go.Proofs.Ytonpiacpgfibpaa.Lex
set_option linter.unusedVariables false
set_option linter.unusedSimpArgs false
open Go.RowKit
open Oct (S S_size S_data)
theorem S_cut1 (l : List UInt8) (i : Nat) (h : i < l.length) : (S l).extract i (i + 1) = S [l[i]] := by
  rw [S_cut l i (i + 1) h, List.drop_eq_getElem_cons h, Nat.add_sub_cancel_left]
  rfl
set_option maxHeartbeats 16000000 in
set_option maxRecDepth 100000 in
theorem rtext_any (l : List UInt8) (a : Nat) (w : World) (ha : a < l.length) (hl : l.length ≤ 100000) : Calls Try.prog 35 #[.string (S l), .int .i64 (a : Int)] w (PcR (txtF (l.drop (a + 1))) a w) := by
  have hsz := S_size l
  obtain ⟨T, hT⟩ : ∃ T, textF (l.drop (a + 1)) = T := ⟨_, rfl⟩
  have hF := txtF_eq (l.drop (a + 1))
  rw [hT] at hF
  have HT0 : Hid ((textF (l.drop (a + 1))).map (fun p => ([] ++ p.1, 0 + p.2)) = T) := by
    show _ = _
    rw [hT]
    cases T with
    | none => rfl
    | some p => simp
  obtain ⟨p, hp⟩ : ∃ p, txtF (l.drop (a + 1)) = p := ⟨_, rfl⟩
  rw [hp] at hF ⊢
  have HF := Lib.hid hF
  have HBD := Lib.hid (fun e W => rbad_any (a : Int) e W)
  clear hp hF hT
  obtain ⟨hv, hb⟩ := tnew w
  have ha0 : (a : Int) + 1 ≤ l.length := by omega
  go_enter Try.func35, Try.ntmps35
  go_wp2_with fail
  generalize hW0 : (w.alloc (.cells #[.int .i64 0, .int .i64 0, .int .i64 0, .int .i64 0, .string ⟨#[]⟩] 24)) = W0 at hv hb ⊢
  clear hW0
  go_loopw [6, 7, 8] (fun iv ov bv wr => ∃ (acc : List UInt8) (b : Bool) (i : Nat), ov = .string (S acc) ∧ bv = .bool b ∧ iv = .int .i64 (i : Int) ∧ i ≤ l.length ∧ a + 1 ≤ i ∧ acc.length + (a + 1) ≤ i ∧ wr = W0 ∧ Hid (b = acc.all goodB) ∧ Hid ((textF (l.drop i)).map (fun p => (acc ++ p.1, (i - (a + 1)) + p.2)) = T)) (fun iv _ _ _ => l.length - (intOf iv).toNat)
  case atStart => exact ⟨[], true, a + 1, rfl, rfl, by go_num, by omega, by omega, by simp, rfl, rfl, by have := HT0.out; rw [Nat.sub_self]; exact this⟩
  case round =>
    obtain ⟨acc, b, i, rfl, rfl, rfl, hi, hai, hacc, rfl, HG, HT⟩ := hrel
    have hi0 : (0 : Int) ≤ i := by omega
    obtain ⟨sx, hsx⟩ : ∃ x, x = S acc := ⟨_, rfl⟩
    have HX := Lib.hid hsx
    have hxz : sx.size = acc.length := by rw [hsx]; exact S_size acc
    rw [← hsx]
    clear hsx
    by_cases hlt : i < l.length
    · have hd := List.drop_eq_getElem_cons hlt
      have hc0 : i < (S l).size := by omega
      have hce : (((S l)[i]'hc0).toNat : Int) = (l[i]).toNat := by rw [S_at l i hlt]
      have hcut := S_cut1 l i hlt
      obtain ⟨c, hc⟩ : ∃ c, l[i] = c := ⟨_, rfl⟩
      rw [hc] at hd hce hcut
      have hk1 : (i : Int) < l.length := by omega
      by_cases h39 : c = 39
      · subst h39
        replace hce : (((S l)[i]'hc0).toNat : Int) = 39 := hce
        by_cases hnx : i + 1 = l.length
        · have hq1 : ¬ ((i : Int) + 1 < (l.length : Int)) := by omega
          have hhd : (l.drop (i + 1)).head? ≠ some 39 := by rw [List.drop_of_length_le (by omega)]; simp
          clear hnx
          have HTT : Hid (T = some (acc, i - (a + 1) + 1)) := by
            show _ = _
            have h1 := HT.out
            rw [hd, text_39 _ hhd] at h1
            rw [← h1]; simp
          have HP : Hid ((if acc.all goodB = false then bad 2 else if 100 < acc.length then bad 4 else ⟨4, i - (a + 1) + 1 + 1, 0, acc, 0⟩) = p) := by
            show _ = _
            have h1 := HF.out
            rw [HTT.out] at h1
            exact h1.symm
          clear hd hc hhd HT HF HTT hcut
          have hge : ¬ (l.length : Int) ≤ i := by omega
          cases b with
          | false =>
            obtain rfl : bad 2 = p := by rw [← HP.out, if_pos HG.out.symm]
            clear HG HP
            go_wp2_with fail
            refine (HBD.out _ _).mono ?_
            rintro e w2 ⟨rfl, hb5⟩
            replace hv := hv.below hb5
            replace hb := hb.next hb5
            obtain ⟨z0, z1, z2, z3, z4, f0, f1, f2, f3, f4⟩ := tval hv
            go_wp2_with fail
            obtain ⟨hbE, e0, e1, e2, e3, e4⟩ := tfin hv hb (Nat.le_refl _) (.int .i64 0) (.int .i64 (a : Int)) (.int .i64 0) (.int .i64 0) (.string ⟨#[]⟩)
            exact bodyPost_ret (v := .tuple #[.agg #[.int .i64 0, .int .i64 (a : Int), .int .i64 0, .int .i64 0, .string ⟨#[]⟩], .int .i64 2]) (by simp [results, Try.results35, go_sem, e0, e1, e2, e3, e4]) rfl ⟨rfl, hbE⟩
          | true =>
            have hag : acc.all goodB = true := HG.out.symm
            obtain ⟨n5, hn5⟩ : ∃ n, acc.length = n := ⟨_, rfl⟩
            have HN5 := Lib.hid hn5
            rw [hn5] at hxz
            by_cases h100 : 100 < n5
            · obtain rfl : bad 4 = p := by rw [← HP.out, if_neg (by rw [hag]; decide), if_pos (by rw [hn5]; exact h100)]
              clear HG HP hag hn5
              go_wp2_with fail
              refine (HBD.out _ _).mono ?_
              rintro e w2 ⟨rfl, hb5⟩
              replace hv := hv.below hb5
              replace hb := hb.next hb5
              obtain ⟨z0, z1, z2, z3, z4, f0, f1, f2, f3, f4⟩ := tval hv
              go_wp2_with fail
              obtain ⟨hbE, e0, e1, e2, e3, e4⟩ := tfin hv hb (Nat.le_refl _) (.int .i64 0) (.int .i64 (a : Int)) (.int .i64 0) (.int .i64 0) (.string ⟨#[]⟩)
              exact bodyPost_ret (v := .tuple #[.agg #[.int .i64 0, .int .i64 (a : Int), .int .i64 0, .int .i64 0, .string ⟨#[]⟩], .int .i64 4]) (by simp [results, Try.results35, go_sem, e0, e1, e2, e3, e4]) rfl ⟨rfl, hbE⟩
            · obtain rfl : (⟨4, i - (a + 1) + 1 + 1, 0, acc, 0⟩ : Pc) = p := by rw [← HP.out, if_neg (by rw [hag]; decide), if_neg (by rw [hn5]; exact h100)]
              have hsub : ((i : Int) + 1 - (a : Int)) = ((i - (a + 1) + 1 + 1 : Nat) : Int) := by omega
              obtain ⟨n6, hn6⟩ : ∃ n, i - (a + 1) + 1 + 1 = n := ⟨_, rfl⟩
              have HN6 := Lib.hid hn6
              rw [hn6] at hsub
              clear HG HP hag hn5 hn6
              obtain ⟨z0, z1, z2, z3, z4, f0, f1, f2, f3, f4⟩ := tval hv
              go_wp2_with fail
              try rw [hsub]
              obtain ⟨hbE, e0, e1, e2, e3, e4⟩ := tfin hv hb (Nat.le_refl _) (.int .i64 4) (.int .i64 (a : Int)) (.int .i64 (n6 : Int)) (.int .i64 0) (.string sx)
              exact bodyPost_ret (v := .tuple #[.agg #[.int .i64 4, .int .i64 (a : Int), .int .i64 (n6 : Int), .int .i64 0, .string sx], .int .i64 0]) (by simp [results, Try.results35, go_sem, e0, e1, e2, e3, e4]) rfl ⟨by rw [← HN6.out, HX.out], hbE⟩
        · have hlt2 : i + 1 < l.length := by omega
          have hc1 : i + 1 < (S l).size := by omega
          have hd1 := List.drop_eq_getElem_cons hlt2
          have hce1 : (((S l)[i + 1]'hc1).toNat : Int) = (l[i + 1]).toNat := by rw [S_at l (i + 1) hlt2]
          have hcut1 := S_cut1 l (i + 1) hlt2
          obtain ⟨d, hdd⟩ : ∃ d, l[i + 1] = d := ⟨_, rfl⟩
          rw [hdd] at hd1 hce1 hcut1
          have hk2 : (i : Int) + 1 < l.length := by omega
          by_cases hd39 : d = 39
          · subst hd39
            replace hce1 : (((S l)[i + 1]'hc1).toNat : Int) = 39 := hce1
            have HCUT := Lib.hid hcut1
            have HT2 : Hid ((textF (l.drop (i + 2))).map (fun p => ((acc ++ [39]) ++ p.1, (i + 2 - (a + 1)) + p.2)) = T) := by
              show _ = _
              have h1 := HT.out
              rw [hd, hd1, text_39_39, Option.map_map] at h1
              rw [← h1]
              congr 1
              funext q
              simp
              omega
            have HG2 : Hid (b = (acc ++ [39]).all goodB) := by show _ = _; rw [goods_snoc, show goodB 39 = true from rfl, Bool.and_true]; exact HG.out
            clear hd hc hd1 hdd HT HF HG hcut hcut1
            cases b with
            | true =>
              go_wp2_with ((with_reducible refine wpList_concat _ ?_); refine ⟨_, _, rfl, rfl, ?_, ?_⟩; (simp; omega))
              exact ⟨⟨acc ++ [39], true, i + 2, by have := HCUT.out; rw [HX.out]; first | (rw [this]; exact congrArg Value.string (Oct.S_append acc [39])) | skip, rfl, by go_num, by omega, by omega, by simp; omega, trivial, HG2, HT2⟩, by simp [intOf]; omega⟩
            | false =>
              go_wp2_with ((with_reducible refine wpList_concat _ ?_); refine ⟨_, _, rfl, rfl, ?_, ?_⟩; (simp; omega))
              exact ⟨⟨acc ++ [39], false, i + 2, by have := HCUT.out; rw [HX.out]; first | (rw [this]; exact congrArg Value.string (Oct.S_append acc [39])) | skip, rfl, by go_num, by omega, by omega, by simp; omega, trivial, HG2, HT2⟩, by simp [intOf]; omega⟩
          · have hdn : ((d.toNat : Int) == 39) = false := neq8 hd39
            have hhd : (l.drop (i + 1)).head? ≠ some 39 := by rw [hd1]; simp; exact hd39
            clear hnx hd1 hdd hd39 hcut1
            have HTT : Hid (T = some (acc, i - (a + 1) + 1)) := by
              show _ = _
              have h1 := HT.out
              rw [hd, text_39 _ hhd] at h1
              rw [← h1]; simp
            have HP : Hid ((if acc.all goodB = false then bad 2 else if 100 < acc.length then bad 4 else ⟨4, i - (a + 1) + 1 + 1, 0, acc, 0⟩) = p) := by
              show _ = _
              have h1 := HF.out
              rw [HTT.out] at h1
              exact h1.symm
            clear hd hc hhd HT HF HTT hcut
            have hge : ¬ (l.length : Int) ≤ i := by omega
            cases b with
            | false =>
              obtain rfl : bad 2 = p := by rw [← HP.out, if_pos HG.out.symm]
              clear HG HP
              go_wp2_with fail
              refine (HBD.out _ _).mono ?_
              rintro e w2 ⟨rfl, hb5⟩
              replace hv := hv.below hb5
              replace hb := hb.next hb5
              obtain ⟨z0, z1, z2, z3, z4, f0, f1, f2, f3, f4⟩ := tval hv
              go_wp2_with fail
              obtain ⟨hbE, e0, e1, e2, e3, e4⟩ := tfin hv hb (Nat.le_refl _) (.int .i64 0) (.int .i64 (a : Int)) (.int .i64 0) (.int .i64 0) (.string ⟨#[]⟩)
              exact bodyPost_ret (v := .tuple #[.agg #[.int .i64 0, .int .i64 (a : Int), .int .i64 0, .int .i64 0, .string ⟨#[]⟩], .int .i64 2]) (by simp [results, Try.results35, go_sem, e0, e1, e2, e3, e4]) rfl ⟨rfl, hbE⟩
            | true =>
              have hag : acc.all goodB = true := HG.out.symm
              obtain ⟨n5, hn5⟩ : ∃ n, acc.length = n := ⟨_, rfl⟩
              have HN5 := Lib.hid hn5
              rw [hn5] at hxz
              by_cases h100 : 100 < n5
              · obtain rfl : bad 4 = p := by rw [← HP.out, if_neg (by rw [hag]; decide), if_pos (by rw [hn5]; exact h100)]
                clear HG HP hag hn5
                go_wp2_with fail
                refine (HBD.out _ _).mono ?_
                rintro e w2 ⟨rfl, hb5⟩
                replace hv := hv.below hb5
                replace hb := hb.next hb5
                obtain ⟨z0, z1, z2, z3, z4, f0, f1, f2, f3, f4⟩ := tval hv
                go_wp2_with fail
                obtain ⟨hbE, e0, e1, e2, e3, e4⟩ := tfin hv hb (Nat.le_refl _) (.int .i64 0) (.int .i64 (a : Int)) (.int .i64 0) (.int .i64 0) (.string ⟨#[]⟩)
                exact bodyPost_ret (v := .tuple #[.agg #[.int .i64 0, .int .i64 (a : Int), .int .i64 0, .int .i64 0, .string ⟨#[]⟩], .int .i64 4]) (by simp [results, Try.results35, go_sem, e0, e1, e2, e3, e4]) rfl ⟨rfl, hbE⟩
              · obtain rfl : (⟨4, i - (a + 1) + 1 + 1, 0, acc, 0⟩ : Pc) = p := by rw [← HP.out, if_neg (by rw [hag]; decide), if_neg (by rw [hn5]; exact h100)]
                have hsub : ((i : Int) + 1 - (a : Int)) = ((i - (a + 1) + 1 + 1 : Nat) : Int) := by omega
                obtain ⟨n6, hn6⟩ : ∃ n, i - (a + 1) + 1 + 1 = n := ⟨_, rfl⟩
                have HN6 := Lib.hid hn6
                rw [hn6] at hsub
                clear HG HP hag hn5 hn6
                obtain ⟨z0, z1, z2, z3, z4, f0, f1, f2, f3, f4⟩ := tval hv
                go_wp2_with fail
                try rw [hsub]
                obtain ⟨hbE, e0, e1, e2, e3, e4⟩ := tfin hv hb (Nat.le_refl _) (.int .i64 4) (.int .i64 (a : Int)) (.int .i64 (n6 : Int)) (.int .i64 0) (.string sx)
                exact bodyPost_ret (v := .tuple #[.agg #[.int .i64 4, .int .i64 (a : Int), .int .i64 (n6 : Int), .int .i64 0, .string sx], .int .i64 0]) (by simp [results, Try.results35, go_sem, e0, e1, e2, e3, e4]) rfl ⟨by rw [← HN6.out, HX.out], hbE⟩
      · have hcn : ((c.toNat : Int) == 39) = false := neq8 h39
        have hcm : ((c.toNat : Int) != 39) = true := by rw [bne, hcn]; rfl
        have HCUT := Lib.hid hcut
        have HT2 : Hid ((textF (l.drop (i + 1))).map (fun p => ((acc ++ [c]) ++ p.1, (i + 1 - (a + 1)) + p.2)) = T) := by
          show _ = _
          have h1 := HT.out
          rw [hd, text_c c _ h39, Option.map_map] at h1
          rw [← h1]
          congr 1
          funext q
          simp
          omega
        have HGS := Lib.hid (goods_snoc acc c)
        have HGN := Lib.hid (good_nat c)
        clear hd hc HT HF h39 hcut
        have hclt := c.toNat_lt
        cases b with
        | false =>
          have HG2 : Hid (false = (acc ++ [c]).all goodB) := by show _ = _; rw [HGS.out, ← HG.out]; rfl
          clear HG HGS HGN
          go_wp2_with ((with_reducible refine wpList_concat _ ?_); refine ⟨_, _, rfl, rfl, ?_, ?_⟩; (simp; omega))
          exact ⟨⟨acc ++ [c], false, i + 1, by have := HCUT.out; rw [HX.out]; first | (rw [this]; exact congrArg Value.string (Oct.S_append acc [c])) | skip, rfl, by go_num, by omega, by omega, by simp; omega, trivial, HG2, HT2⟩, by simp [intOf]; omega⟩
        | true =>
          have hag : acc.all goodB = true := HG.out.symm
          by_cases h32 : (32 : Int) ≤ c.toNat
          · by_cases h126 : (c.toNat : Int) ≤ 126
            · have HG2 : Hid (true = (acc ++ [c]).all goodB) := by show _ = _; rw [HGS.out, hag, HGN.out, decide_eq_true (by omega), decide_eq_true (by omega)]; rfl
              clear HG HGS HGN hag
              go_wp2_with ((with_reducible refine wpList_concat _ ?_); refine ⟨_, _, rfl, rfl, ?_, ?_⟩; (simp; omega))
              exact ⟨⟨acc ++ [c], true, i + 1, by have := HCUT.out; rw [HX.out]; first | (rw [this]; exact congrArg Value.string (Oct.S_append acc [c])) | skip, rfl, by go_num, by omega, by omega, by simp; omega, trivial, HG2, HT2⟩, by simp [intOf]; omega⟩
            · have HG2 : Hid (false = (acc ++ [c]).all goodB) := by show _ = _; rw [HGS.out, hag, HGN.out, decide_eq_true (by omega), decide_eq_false (by omega)]; rfl
              clear HG HGS HGN hag
              go_wp2_with ((with_reducible refine wpList_concat _ ?_); refine ⟨_, _, rfl, rfl, ?_, ?_⟩; (simp; omega))
              exact ⟨⟨acc ++ [c], false, i + 1, by have := HCUT.out; rw [HX.out]; first | (rw [this]; exact congrArg Value.string (Oct.S_append acc [c])) | skip, rfl, by go_num, by omega, by omega, by simp; omega, trivial, HG2, HT2⟩, by simp [intOf]; omega⟩
          · have HG2 : Hid (false = (acc ++ [c]).all goodB) := by show _ = _; rw [HGS.out, hag, HGN.out, decide_eq_false (by omega)]; rfl
            clear HG HGS HGN hag
            go_wp2_with ((with_reducible refine wpList_concat _ ?_); refine ⟨_, _, rfl, rfl, ?_, ?_⟩; (simp; omega))
            exact ⟨⟨acc ++ [c], false, i + 1, by have := HCUT.out; rw [HX.out]; first | (rw [this]; exact congrArg Value.string (Oct.S_append acc [c])) | skip, rfl, by go_num, by omega, by omega, by simp; omega, trivial, HG2, HT2⟩, by simp [intOf]; omega⟩
    · have HTT : Hid (T = none) := by
        show _ = _
        have h1 := HT.out
        rw [List.drop_of_length_le (by omega)] at h1
        exact h1.symm
      obtain rfl : bad 3 = p := by
        have h1 := HF.out
        rw [HTT.out] at h1
        exact h1.symm
      clear HT HF HTT HG
      go_wp2_with fail
      refine (HBD.out _ _).mono ?_
      rintro e w2 ⟨rfl, hb5⟩
      replace hv := hv.below hb5
      replace hb := hb.next hb5
      obtain ⟨z0, z1, z2, z3, z4, f0, f1, f2, f3, f4⟩ := tval hv
      go_wp2_with fail
      obtain ⟨hbE, e0, e1, e2, e3, e4⟩ := tfin hv hb (Nat.le_refl _) (.int .i64 0) (.int .i64 (a : Int)) (.int .i64 0) (.int .i64 0) (.string ⟨#[]⟩)
      exact bodyPost_ret (v := .tuple #[.agg #[.int .i64 0, .int .i64 (a : Int), .int .i64 0, .int .i64 0, .string ⟨#[]⟩], .int .i64 3]) (by simp [results, Try.results35, go_sem, e0, e1, e2, e3, e4]) rfl ⟨rfl, hbE⟩
end Go.Proofs.Ytonpiacpgfibpaa.Lex
