/- lex: text: what it answers. -/
import Derived.Test.YtonpiacpgfibpaaLexY
import Derived.Test.YtonpiacpgfibpaaByt
import Derived.Laws.BytesArg
namespace Go.Proofs.Ytonpiacpgfibpaa.Lex
set_option linter.unusedVariables false
set_option linter.unusedSimpArgs false
open Go.RowKit
open Oct (S S_size S_data)
open Lib (indexByte strCells)
theorem text_39 (g : List UInt8) (h : g.head? ≠ some 39) : textF (39 :: g) = some ([], 1) := by
  cases g with
  | nil => rfl
  | cons d t => rw [textF, if_pos rfl, if_neg (fun e => h (by rw [e]; rfl))]
theorem text_39_39 (r : List UInt8) : textF (39 :: 39 :: r) = (textF r).map (fun p => (39 :: p.1, p.2 + 2)) := by rw [textF, if_pos rfl, if_pos rfl]
theorem text_c (c : UInt8) (r : List UInt8) (h : c ≠ 39) : textF (c :: r) = (textF r).map (fun p => (c :: p.1, p.2 + 1)) := by
  cases r with
  | nil => simp [textF, h]
  | cons d t => rw [textF, if_neg h]
/-- 'string(out)', out bytes of the call's own, or none. -/
theorem wpList_strO {w : World} {ops : Array Oper} {rest : List Oper} {a : Act} {Q : Exit → Act → World → Prop} {d : Option Tmp} {x : Operand} {ty : TypeId} {p : String} {af : Array Edge}
    (hh : ∃ (B : Nat) (v : Value) (l : List UInt8), a.eval x = v ∧ w.ownsRow B 5 1 v l.length (strCells (S l)) ∧ wpList Try.prog ops Q rest (a.put d (.string (S l))) w) :
    wpList Try.prog ops Q (⟨d, .convert 36 9 x, ty, p, af, none⟩ :: rest) a w := by
  obtain ⟨B, v, l, hx, hown, h⟩ := hh
  by_cases hn : v = .slice none 0 0
  · have h0 : l = [] := by
      rcases hown.2 with ⟨_, h0⟩ | ⟨g, cap, cur, hv, _⟩
      · exact List.eq_nil_of_length_eq_zero h0
      · rw [hn] at hv; cases hv
    subst h0
    refine wpList_plain rfl fun K hK' => ?_
    have hrun := run_convert_bytes_nil (P := Try.prog) (w := w) 36 5 Try.underlying36 Try.underlying5 0 0 9 Try.underlying9
    unfold Oper.wp
    simp only [execOp, hx, hn]
    simp [hrun, Result.andThen, Oper.upon]
    exact hK' _ _ h
  · obtain ⟨g, cap, hv, hB, hg⟩ := own_sh hown hn
    exact wpList_strB ⟨B, v, l, hx, ⟨⟨g, cap, hv, hB, hg⟩, hown⟩, h⟩
theorem goods_snoc (acc : List UInt8) (c : UInt8) : (acc ++ [c]).all goodB = (acc.all goodB && goodB c) := by simp
theorem good_nat (c : UInt8) : goodB c = (decide (32 ≤ c.toNat) && decide (c.toNat ≤ 126)) := rfl
theorem txtF_eq (r : List UInt8) : txtF r = (match textF r with
    | none => bad 3
    | some (w, k) => if w.all goodB = false then bad 2 else if 100 < w.length then bad 4 else ⟨4, k + 1, 0, w, 0⟩) := rfl
set_option maxHeartbeats 16000000 in
set_option maxRecDepth 100000 in
theorem text_any (l : List UInt8) (a : Nat) (w : World) (ha : a < l.length) (hl : l.length ≤ 100000) : Calls Try.prog 26 #[.string (S l), .int .i64 (a : Int)] w (PcR (txtF (l.drop (a + 1))) a w) := by
  have hsz := S_size l
  obtain ⟨T, hT⟩ : ∃ T, textF (l.drop (a + 1)) = T := ⟨_, rfl⟩
  have hF := txtF_eq (l.drop (a + 1))
  rw [hT] at hF
  have HT0 : Hid ((textF (l.drop (a + 1))).map (fun p => ([] ++ p.1, 0 + p.2)) = T) := by
    show _ = _
    rw [hT]
    cases T with
    | none => rfl
    | some p => simp
  obtain ⟨p, hp⟩ : ∃ p, txtF (l.drop (a + 1)) = p := ⟨_, rfl⟩
  rw [hp] at hF ⊢
  have HF := Lib.hid hF
  clear hp hF hT
  obtain ⟨hv0, hb0⟩ := tnew w
  have hs0 : (w.alloc (.cells #[.int .i64 0, .int .i64 0, .int .i64 0, .int .i64 0, .string ⟨#[]⟩] 24)).heap.size = w.heap.size + 1 := by simp
  have ha0 : (a : Int) + 1 ≤ l.length := by omega
  go_enter Try.func26, Try.ntmps26
  go_wp2_with fail
  generalize hW0 : (w.alloc (.cells #[.int .i64 0, .int .i64 0, .int .i64 0, .int .i64 0, .string ⟨#[]⟩] 24)) = W0 at hv0 hb0 hs0 ⊢
  clear hW0
  obtain ⟨B, HB⟩ : ∃ B, Hid (W0.heap.size = B) := ⟨_, rfl⟩
  have hg0 : w.heap.size < B := by have := HB.out; omega
  have HBW : Hid (B ≤ W0.heap.size) := by show _ ≤ _; rw [HB.out]; exact Nat.le_refl _
  clear hs0
  go_loopw [6, 7, 8] (fun ov bv iv wr => ∃ (acc : List UInt8) (v : Value) (b : Bool) (i : Nat), v = ov ∧ bv = .bool b ∧ iv = .int .i64 (i : Int) ∧ i ≤ l.length ∧ a + 1 ≤ i ∧ acc.length + (a + 1) ≤ i ∧ wr.ownsRow B 5 1 v acc.length (strCells (S acc)) ∧ Below B W0 wr ∧ Hid (b = !(acc.all goodB)) ∧ Hid ((textF (l.drop i)).map (fun p => (acc ++ p.1, (i - (a + 1)) + p.2)) = T)) (fun _ _ iv _ => l.length - (intOf iv).toNat)
  case atStart => exact ⟨[], _, false, a + 1, rfl, rfl, by go_num, by omega, by omega, by simp, World.ownsRow_nil _ _ _ _, Below.refl _ _, rfl, by have := HT0.out; rw [Nat.sub_self]; exact this⟩
  case round =>
    obtain ⟨acc, v, b, i, rfl, rfl, rfl, hi, hai, hacc, hown, hbw, HG, HT⟩ := hrel
    have hi0 : (0 : Int) ≤ i := by omega
    have hBr : B ≤ wr.heap.size := Nat.le_trans HBW.out hbw.size
    by_cases hlt : i < l.length
    · have hd := List.drop_eq_getElem_cons hlt
      have hc0 : i < (S l).size := by omega
      have hce : (((S l)[i]'hc0).toNat : Int) = (l[i]).toNat := by rw [S_at l i hlt]
      obtain ⟨c, hc⟩ : ∃ c, l[i] = c := ⟨_, rfl⟩
      rw [hc] at hd hce
      have hk1 : (i : Int) < l.length := by omega
      have HLA : Hid (acc.length ≤ 100000) := by show _ ≤ _; omega
      by_cases h39 : c = 39
      · subst h39
        replace hce : (((S l)[i]'hc0).toNat : Int) = 39 := hce
        by_cases hnx : i + 1 = l.length
        · have hq1 : ((i : Int) + 1 == (l.length : Int)) = true := by simp; omega
          have hhd : (l.drop (i + 1)).head? ≠ some 39 := by rw [List.drop_of_length_le (by omega)]; simp
          clear hnx
          have HTT : Hid (T = some (acc, i - (a + 1) + 1)) := by
            show _ = _
            have h1 := HT.out
            rw [hd, text_39 _ hhd] at h1
            rw [← h1]; simp
          have HP : Hid ((if acc.all goodB = false then bad 2 else if 100 < acc.length then bad 4 else ⟨4, i - (a + 1) + 1 + 1, 0, acc, 0⟩) = p) := by
            show _ = _
            have h1 := HF.out
            rw [HTT.out] at h1
            exact h1.symm
          clear hd hc hhd HT HF HTT
          have hv := hv0.belowB hbw hg0
          have hb := hb0.trans (hbw.mono (Nat.le_of_lt hg0))
          obtain ⟨z0, z1, z2, z3, z4, f0, f1, f2, f3, f4⟩ := tval hv
          have hge : ¬ (l.length : Int) ≤ i := by omega
          cases b with
          | true =>
            have hag : acc.all goodB = false := by have := HG.out; cases h : acc.all goodB; rfl; rw [h] at this; cases this
            obtain rfl : bad 2 = p := by rw [← HP.out, if_pos hag]
            clear HG HP hag
            go_wp2_with fail
            obtain ⟨hbE, e0, e1, e2, e3, e4⟩ := tfin hv hb (Nat.le_refl _) (.int .i64 0) (.int .i64 (a : Int)) (.int .i64 0) (.int .i64 0) (.string ⟨#[]⟩)
            exact bodyPost_ret (v := .tuple #[.agg #[.int .i64 0, .int .i64 (a : Int), .int .i64 0, .int .i64 0, .string ⟨#[]⟩], .int .i64 2]) (by simp [results, Try.results26, go_sem, e0, e1, e2, e3, e4]) rfl ⟨rfl, hbE⟩
          | false =>
            have hag : acc.all goodB = true := by have := HG.out; cases h : acc.all goodB; (rw [h] at this; cases this); rfl
            obtain ⟨n5, hn5⟩ : ∃ n, acc.length = n := ⟨_, rfl⟩
            have HN5 := Lib.hid hn5
            obtain ⟨ao, cp, hvv, _⟩ := ownsRow_shape hown
            have HOW := Lib.hid hown
            rw [hn5] at hvv
            subst hvv
            by_cases h100 : 100 < n5
            · obtain rfl : bad 4 = p := by rw [← HP.out, if_neg (by rw [hag]; decide), if_pos (by rw [hn5]; exact h100)]
              clear HG HP hag hown hn5
              go_wp2_with fail
              obtain ⟨hbE, e0, e1, e2, e3, e4⟩ := tfin hv hb (Nat.le_refl _) (.int .i64 0) (.int .i64 (a : Int)) (.int .i64 0) (.int .i64 0) (.string ⟨#[]⟩)
              exact bodyPost_ret (v := .tuple #[.agg #[.int .i64 0, .int .i64 (a : Int), .int .i64 0, .int .i64 0, .string ⟨#[]⟩], .int .i64 4]) (by simp [results, Try.results26, go_sem, e0, e1, e2, e3, e4]) rfl ⟨rfl, hbE⟩
            · obtain rfl : (⟨4, i - (a + 1) + 1 + 1, 0, acc, 0⟩ : Pc) = p := by rw [← HP.out, if_neg (by rw [hag]; decide), if_neg (by rw [hn5]; exact h100)]
              have hsub : ((i : Int) + 1 - (a : Int)) = ((i - (a + 1) + 1 + 1 : Nat) : Int) := by omega
              obtain ⟨n6, hn6⟩ : ∃ n, i - (a + 1) + 1 + 1 = n := ⟨_, rfl⟩
              have HN6 := Lib.hid hn6
              rw [hn6] at hsub
              clear HG HP hag hown hn5 hn6
              go_wp2_with ((with_reducible refine wpList_strO ?_); refine ⟨B, _, acc, rfl, HOW.out, ?_⟩)
              try rw [hsub]
              obtain ⟨hbE, e0, e1, e2, e3, e4⟩ := tfin hv hb (Nat.le_refl _) (.int .i64 4) (.int .i64 (a : Int)) (.int .i64 (n6 : Int)) (.int .i64 0) (.string (S acc))
              exact bodyPost_ret (v := .tuple #[.agg #[.int .i64 4, .int .i64 (a : Int), .int .i64 (n6 : Int), .int .i64 0, .string (S acc)], .int .i64 0]) (by simp [results, Try.results26, go_sem, e0, e1, e2, e3, e4]) rfl ⟨by rw [← HN6.out], hbE⟩
        · have hq1 : ((i : Int) + 1 == (l.length : Int)) = false := by simp; omega
          have hlt2 : i + 1 < l.length := by omega
          have hc1 : i + 1 < (S l).size := by omega
          have hd1 := List.drop_eq_getElem_cons hlt2
          have hce1 : (((S l)[i + 1]'hc1).toNat : Int) = (l[i + 1]).toNat := by rw [S_at l (i + 1) hlt2]
          obtain ⟨d, hdd⟩ : ∃ d, l[i + 1] = d := ⟨_, rfl⟩
          rw [hdd] at hd1 hce1
          have hk2 : (i : Int) + 1 < l.length := by omega
          by_cases hd39 : d = 39
          · subst hd39
            replace hce1 : (((S l)[i + 1]'hc1).toNat : Int) = 39 := hce1
            have HT2 : Hid ((textF (l.drop (i + 2))).map (fun p => ((acc ++ [39]) ++ p.1, (i + 2 - (a + 1)) + p.2)) = T) := by
              show _ = _
              have h1 := HT.out
              rw [hd, hd1, text_39_39, Option.map_map] at h1
              rw [← h1]
              congr 1
              funext q
              simp
              omega
            have HG2 : Hid (b = !((acc ++ [39]).all goodB)) := by show _ = _; rw [goods_snoc, show goodB 39 = true from rfl, Bool.and_true]; exact HG.out
            clear hd hc hd1 hdd HT HF HG
            cases b with
            | true =>
              go_wp2_with ((with_reducible refine wpList_append1 36 5 (.int .u8 0) 1 1 Try.underlying36 info_u8 rfl (by decide) (by decide) ?_); refine ⟨B, v, acc.length, strCells (S acc), _, _, [.int .u8 (39 : Int)], rfl, rfl, ownsRow_below hown ((Below.refl _ _).alloc (Nat.le_refl _) _), rfl, new_cells _ _ [.int .u8 (39 : Int)], ?_, ?_, ?_, ?_⟩; (intro u hu; simp only [List.mem_cons, List.not_mem_nil, or_false] at hu; subst hu; rfl); (have := HLA.out; omega); (simp; omega); intro v2 w2 hown2 hb2 _)
              exact ⟨⟨acc ++ [39], v2, true, i + 2, rfl, rfl, by go_num, by omega, by omega, by simp; omega, by rw [cells_app, List.length_append]; exact hown2, hbw.trans ((((Below.refl _ _).alloc (Nat.le_refl _) _).mono hBr).trans hb2), HG2, HT2⟩, by simp [intOf]; omega⟩
            | false =>
              go_wp2_with ((with_reducible refine wpList_append1 36 5 (.int .u8 0) 1 1 Try.underlying36 info_u8 rfl (by decide) (by decide) ?_); refine ⟨B, v, acc.length, strCells (S acc), _, _, [.int .u8 (39 : Int)], rfl, rfl, ownsRow_below hown ((Below.refl _ _).alloc (Nat.le_refl _) _), rfl, new_cells _ _ [.int .u8 (39 : Int)], ?_, ?_, ?_, ?_⟩; (intro u hu; simp only [List.mem_cons, List.not_mem_nil, or_false] at hu; subst hu; rfl); (have := HLA.out; omega); (simp; omega); intro v2 w2 hown2 hb2 _)
              exact ⟨⟨acc ++ [39], v2, false, i + 2, rfl, rfl, by go_num, by omega, by omega, by simp; omega, by rw [cells_app, List.length_append]; exact hown2, hbw.trans ((((Below.refl _ _).alloc (Nat.le_refl _) _).mono hBr).trans hb2), HG2, HT2⟩, by simp [intOf]; omega⟩
          · have hdn : ((d.toNat : Int) == 39) = false := neq8 hd39
            have hhd : (l.drop (i + 1)).head? ≠ some 39 := by rw [hd1]; simp; exact hd39
            clear hnx hd1 hdd hd39
            have HTT : Hid (T = some (acc, i - (a + 1) + 1)) := by
              show _ = _
              have h1 := HT.out
              rw [hd, text_39 _ hhd] at h1
              rw [← h1]; simp
            have HP : Hid ((if acc.all goodB = false then bad 2 else if 100 < acc.length then bad 4 else ⟨4, i - (a + 1) + 1 + 1, 0, acc, 0⟩) = p) := by
              show _ = _
              have h1 := HF.out
              rw [HTT.out] at h1
              exact h1.symm
            clear hd hc hhd HT HF HTT
            have hv := hv0.belowB hbw hg0
            have hb := hb0.trans (hbw.mono (Nat.le_of_lt hg0))
            obtain ⟨z0, z1, z2, z3, z4, f0, f1, f2, f3, f4⟩ := tval hv
            have hge : ¬ (l.length : Int) ≤ i := by omega
            cases b with
            | true =>
              have hag : acc.all goodB = false := by have := HG.out; cases h : acc.all goodB; rfl; rw [h] at this; cases this
              obtain rfl : bad 2 = p := by rw [← HP.out, if_pos hag]
              clear HG HP hag
              go_wp2_with fail
              obtain ⟨hbE, e0, e1, e2, e3, e4⟩ := tfin hv hb (Nat.le_refl _) (.int .i64 0) (.int .i64 (a : Int)) (.int .i64 0) (.int .i64 0) (.string ⟨#[]⟩)
              exact bodyPost_ret (v := .tuple #[.agg #[.int .i64 0, .int .i64 (a : Int), .int .i64 0, .int .i64 0, .string ⟨#[]⟩], .int .i64 2]) (by simp [results, Try.results26, go_sem, e0, e1, e2, e3, e4]) rfl ⟨rfl, hbE⟩
            | false =>
              have hag : acc.all goodB = true := by have := HG.out; cases h : acc.all goodB; (rw [h] at this; cases this); rfl
              obtain ⟨n5, hn5⟩ : ∃ n, acc.length = n := ⟨_, rfl⟩
              have HN5 := Lib.hid hn5
              obtain ⟨ao, cp, hvv, _⟩ := ownsRow_shape hown
              have HOW := Lib.hid hown
              rw [hn5] at hvv
              subst hvv
              by_cases h100 : 100 < n5
              · obtain rfl : bad 4 = p := by rw [← HP.out, if_neg (by rw [hag]; decide), if_pos (by rw [hn5]; exact h100)]
                clear HG HP hag hown hn5
                go_wp2_with fail
                obtain ⟨hbE, e0, e1, e2, e3, e4⟩ := tfin hv hb (Nat.le_refl _) (.int .i64 0) (.int .i64 (a : Int)) (.int .i64 0) (.int .i64 0) (.string ⟨#[]⟩)
                exact bodyPost_ret (v := .tuple #[.agg #[.int .i64 0, .int .i64 (a : Int), .int .i64 0, .int .i64 0, .string ⟨#[]⟩], .int .i64 4]) (by simp [results, Try.results26, go_sem, e0, e1, e2, e3, e4]) rfl ⟨rfl, hbE⟩
              · obtain rfl : (⟨4, i - (a + 1) + 1 + 1, 0, acc, 0⟩ : Pc) = p := by rw [← HP.out, if_neg (by rw [hag]; decide), if_neg (by rw [hn5]; exact h100)]
                have hsub : ((i : Int) + 1 - (a : Int)) = ((i - (a + 1) + 1 + 1 : Nat) : Int) := by omega
                obtain ⟨n6, hn6⟩ : ∃ n, i - (a + 1) + 1 + 1 = n := ⟨_, rfl⟩
                have HN6 := Lib.hid hn6
                rw [hn6] at hsub
                clear HG HP hag hown hn5 hn6
                go_wp2_with ((with_reducible refine wpList_strO ?_); refine ⟨B, _, acc, rfl, HOW.out, ?_⟩)
                try rw [hsub]
                obtain ⟨hbE, e0, e1, e2, e3, e4⟩ := tfin hv hb (Nat.le_refl _) (.int .i64 4) (.int .i64 (a : Int)) (.int .i64 (n6 : Int)) (.int .i64 0) (.string (S acc))
                exact bodyPost_ret (v := .tuple #[.agg #[.int .i64 4, .int .i64 (a : Int), .int .i64 (n6 : Int), .int .i64 0, .string (S acc)], .int .i64 0]) (by simp [results, Try.results26, go_sem, e0, e1, e2, e3, e4]) rfl ⟨by rw [← HN6.out], hbE⟩
      · have hcn : ((c.toNat : Int) == 39) = false := neq8 h39
        have HT2 : Hid ((textF (l.drop (i + 1))).map (fun p => ((acc ++ [c]) ++ p.1, (i + 1 - (a + 1)) + p.2)) = T) := by
          show _ = _
          have h1 := HT.out
          rw [hd, text_c c _ h39, Option.map_map] at h1
          rw [← h1]
          congr 1
          funext q
          simp
          omega
        have HGS := Lib.hid (goods_snoc acc c)
        have HGN := Lib.hid (good_nat c)
        clear hd hc HT HF h39
        have hclt := c.toNat_lt
        cases b with
        | true =>
          have HG2 : Hid (true = !((acc ++ [c]).all goodB)) := by show _ = _; rw [HGS.out]; have := HG.out; cases h : acc.all goodB; rfl; (rw [h] at this; cases this)
          clear HG HGS HGN
          go_wp2_with ((with_reducible refine wpList_append1 36 5 (.int .u8 0) 1 1 Try.underlying36 info_u8 rfl (by decide) (by decide) ?_); refine ⟨B, v, acc.length, strCells (S acc), _, _, [.int .u8 (c.toNat : Int)], rfl, rfl, ownsRow_below hown ((Below.refl _ _).alloc (Nat.le_refl _) _), rfl, new_cells _ _ [.int .u8 (c.toNat : Int)], ?_, ?_, ?_, ?_⟩; (intro u hu; simp only [List.mem_cons, List.not_mem_nil, or_false] at hu; subst hu; rfl); (have := HLA.out; omega); (simp; omega); intro v2 w2 hown2 hb2 _)
          exact ⟨⟨acc ++ [c], v2, true, i + 1, rfl, rfl, by go_num, by omega, by omega, by simp; omega, by rw [cells_app, List.length_append]; exact hown2, hbw.trans ((((Below.refl _ _).alloc (Nat.le_refl _) _).mono hBr).trans hb2), HG2, HT2⟩, by simp [intOf]; omega⟩
        | false =>
          have hag : acc.all goodB = true := by have := HG.out; cases h : acc.all goodB; (rw [h] at this; cases this); rfl
          by_cases h32 : (c.toNat : Int) < 32
          · have HG2 : Hid (true = !((acc ++ [c]).all goodB)) := by show _ = _; rw [HGS.out, hag, HGN.out, decide_eq_false (by omega)]; rfl
            clear HG HGS HGN hag
            go_wp2_with ((with_reducible refine wpList_append1 36 5 (.int .u8 0) 1 1 Try.underlying36 info_u8 rfl (by decide) (by decide) ?_); refine ⟨B, v, acc.length, strCells (S acc), _, _, [.int .u8 (c.toNat : Int)], rfl, rfl, ownsRow_below hown ((Below.refl _ _).alloc (Nat.le_refl _) _), rfl, new_cells _ _ [.int .u8 (c.toNat : Int)], ?_, ?_, ?_, ?_⟩; (intro u hu; simp only [List.mem_cons, List.not_mem_nil, or_false] at hu; subst hu; rfl); (have := HLA.out; omega); (simp; omega); intro v2 w2 hown2 hb2 _)
            exact ⟨⟨acc ++ [c], v2, true, i + 1, rfl, rfl, by go_num, by omega, by omega, by simp; omega, by rw [cells_app, List.length_append]; exact hown2, hbw.trans ((((Below.refl _ _).alloc (Nat.le_refl _) _).mono hBr).trans hb2), HG2, HT2⟩, by simp [intOf]; omega⟩
          · by_cases h126 : (126 : Int) < c.toNat
            · have HG2 : Hid (true = !((acc ++ [c]).all goodB)) := by show _ = _; rw [HGS.out, hag, HGN.out, decide_eq_true (by omega), decide_eq_false (by omega)]; rfl
              clear HG HGS HGN hag
              go_wp2_with ((with_reducible refine wpList_append1 36 5 (.int .u8 0) 1 1 Try.underlying36 info_u8 rfl (by decide) (by decide) ?_); refine ⟨B, v, acc.length, strCells (S acc), _, _, [.int .u8 (c.toNat : Int)], rfl, rfl, ownsRow_below hown ((Below.refl _ _).alloc (Nat.le_refl _) _), rfl, new_cells _ _ [.int .u8 (c.toNat : Int)], ?_, ?_, ?_, ?_⟩; (intro u hu; simp only [List.mem_cons, List.not_mem_nil, or_false] at hu; subst hu; rfl); (have := HLA.out; omega); (simp; omega); intro v2 w2 hown2 hb2 _)
              exact ⟨⟨acc ++ [c], v2, true, i + 1, rfl, rfl, by go_num, by omega, by omega, by simp; omega, by rw [cells_app, List.length_append]; exact hown2, hbw.trans ((((Below.refl _ _).alloc (Nat.le_refl _) _).mono hBr).trans hb2), HG2, HT2⟩, by simp [intOf]; omega⟩
            · have HG2 : Hid (false = !((acc ++ [c]).all goodB)) := by show _ = _; rw [HGS.out, hag, HGN.out, decide_eq_true (by omega), decide_eq_true (by omega)]; rfl
              clear HG HGS HGN hag
              go_wp2_with ((with_reducible refine wpList_append1 36 5 (.int .u8 0) 1 1 Try.underlying36 info_u8 rfl (by decide) (by decide) ?_); refine ⟨B, v, acc.length, strCells (S acc), _, _, [.int .u8 (c.toNat : Int)], rfl, rfl, ownsRow_below hown ((Below.refl _ _).alloc (Nat.le_refl _) _), rfl, new_cells _ _ [.int .u8 (c.toNat : Int)], ?_, ?_, ?_, ?_⟩; (intro u hu; simp only [List.mem_cons, List.not_mem_nil, or_false] at hu; subst hu; rfl); (have := HLA.out; omega); (simp; omega); intro v2 w2 hown2 hb2 _)
              exact ⟨⟨acc ++ [c], v2, false, i + 1, rfl, rfl, by go_num, by omega, by omega, by simp; omega, by rw [cells_app, List.length_append]; exact hown2, hbw.trans ((((Below.refl _ _).alloc (Nat.le_refl _) _).mono hBr).trans hb2), HG2, HT2⟩, by simp [intOf]; omega⟩
    · have HTT : Hid (T = none) := by
        show _ = _
        have h1 := HT.out
        rw [List.drop_of_length_le (by omega)] at h1
        exact h1.symm
      obtain rfl : bad 3 = p := by
        have h1 := HF.out
        rw [HTT.out] at h1
        exact h1.symm
      have hv := hv0.belowB hbw hg0
      have hb := hb0.trans (hbw.mono (Nat.le_of_lt hg0))
      obtain ⟨z0, z1, z2, z3, z4, f0, f1, f2, f3, f4⟩ := tval hv
      clear HT HF HTT HG
      go_wp2_with fail
      obtain ⟨hbE, e0, e1, e2, e3, e4⟩ := tfin hv hb (Nat.le_refl _) (.int .i64 0) (.int .i64 (a : Int)) (.int .i64 0) (.int .i64 0) (.string ⟨#[]⟩)
      exact bodyPost_ret (v := .tuple #[.agg #[.int .i64 0, .int .i64 (a : Int), .int .i64 0, .int .i64 0, .string ⟨#[]⟩], .int .i64 3]) (by simp [results, Try.results26, go_sem, e0, e1, e2, e3, e4]) rfl ⟨rfl, hbE⟩
end Go.Proofs.Ytonpiacpgfibpaa.Lex
