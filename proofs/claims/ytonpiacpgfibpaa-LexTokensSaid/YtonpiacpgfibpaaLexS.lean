/- The reference's number and quoted. -/
import Derived.Test.YtonpiacpgfibpaaLexR
namespace Go.Proofs.Ytonpiacpgfibpaa.Lex
set_option linter.unusedVariables false
set_option linter.unusedSimpArgs false
open Go.RowKit
open Oct (S S_size S_data)
open Lib (indexByte)
set_option maxHeartbeats 4000000 in
theorem rnumber_any (l : List UInt8) (a : Nat) (w : World) (ha : a ≤ l.length) (hl : l.length ≤ 100000) : Calls Try.prog 33 #[.string (S l), .int .i64 (a : Int)] w (PcR (numF (l.drop a)) a w) := by
  have hsz := S_size l
  obtain ⟨p, hp⟩ : ∃ p, numF (l.drop a) = p := ⟨_, rfl⟩
  have HF : Hid ((if 1000000000000000 < numN ((l.drop a).takeWhile digB) then bad 4 else ⟨3, ((l.drop a).takeWhile digB).length, numN ((l.drop a).takeWhile digB), [], 0⟩) = p) := hp
  have HD := Lib.hid (fun c W => rdigit_any c W)
  have HBD := Lib.hid (fun W => rbad_any (a : Int) 4 W)
  rw [hp]
  clear hp
  obtain ⟨hv, hb⟩ := tnew w
  go_enter Try.func33, Try.ntmps33
  go_wp2_with fail
  generalize hW : (w.alloc (.cells #[.int .i64 0, .int .i64 0, .int .i64 0, .int .i64 0, .string ⟨#[]⟩] 24)) = W0 at hv hb ⊢
  clear hW
  go_loopw [6, 7] (fun i n wr => ∃ (k : Nat) (d : List UInt8) (rn : Nat), a + k ≤ l.length ∧ i = .int .i64 ((a + k : Nat) : Int) ∧ n = .int .i64 (rn : Int) ∧ rn ≤ 10000000000000009 ∧ d.length = k ∧ wr = W0 ∧ Hid (numN d = min rn 1000000000000001) ∧ Hid ((l.drop a).takeWhile digB = d ++ (l.drop (a + k)).takeWhile digB)) (fun i _ _ => l.length - (intOf i).toNat)
  case atStart => exact ⟨0, [], 0, by omega, rfl, rfl, by omega, rfl, rfl, rfl, rfl⟩
  case round =>
    obtain ⟨k, d, rn, hk, rfl, rfl, hrn, rfl, rfl, HNN, HT⟩ := hrel
    obtain ⟨i, hi⟩ : ∃ i, a + d.length = i := ⟨_, rfl⟩
    have HI := Lib.hid hi
    rw [hi] at hk HT ⊢
    have hfin : (l.drop i).takeWhile digB = [] → p = (if 1000000000000000 < numN d then bad 4 else ⟨3, d.length, numN d, [], 0⟩) := fun h => by
      have h1 := HF.out
      have h2 := HT.out
      rw [h, List.append_nil] at h2
      rw [← h1, h2]
    by_cases hlt : i < l.length
    · have hd := List.drop_eq_getElem_cons hlt
      have hc0 : i < (S l).size := by omega
      have hce : (((S l)[i]'hc0).toNat : Int) = (l[i]).toNat := by rw [S_at l i hlt]
      obtain ⟨c, hc⟩ : ∃ c, l[i] = c := ⟨_, rfl⟩
      rw [hc] at hd hce
      have hk0 : (0 : Int) ≤ i := by omega
      have hk1 : (i : Int) < l.length := by omega
      have HC := Lib.hid (fun W => HD.out c W)
      have hsn := numN_snoc d c
      cases hb2 : digB c with
      | true =>
        rw [hb2] at HC
        have HT2 : Hid ((l.drop a).takeWhile digB = (d ++ [c]) ++ (l.drop (i + 1)).takeWhile digB) := by
          show _ = _
          rw [HT.out, hd, List.takeWhile_cons, hb2]
          simp
        have hcn : 48 ≤ c.toNat ∧ c.toNat ≤ 57 := by rw [dig_nat] at hb2; simpa using hb2
        have hx1 : (48 : Int) ≤ c.toNat := by omega
        have hx2 : (c.toNat : Int) ≤ 57 := by omega
        rw [HNN.out] at hsn
        have HSN := Lib.hid hsn
        clear hd hc hsn hfin hb2 hi HT
        by_cases hbig : (rn : Int) ≤ 1000000000000000
        · have HN2 : Hid (numN (d ++ [c]) = min (10 * rn + c.toNat - 48) 1000000000000001) := by show _ = _; rw [HSN.out]; omega
          go_wp2_with fail
          refine (HC.out _).mono ?_
          rintro e w1 ⟨rfl, rfl⟩
          go_wp2_with fail
          exact ⟨⟨d.length + 1, d ++ [c], 10 * rn + c.toNat - 48, by have := HI.out; omega, by have := HI.out; go_num, by go_num, by omega, by simp, trivial, HN2, by have := HI.out; rw [show a + (d.length + 1) = i + 1 by omega]; exact HT2⟩, by simp [intOf]; omega⟩
        · have HN2 : Hid (numN (d ++ [c]) = min rn 1000000000000001) := by show _ = _; rw [HSN.out]; omega
          go_wp2_with fail
          refine (HC.out _).mono ?_
          rintro e w1 ⟨rfl, rfl⟩
          go_wp2_with fail
          exact ⟨⟨d.length + 1, d ++ [c], rn, by have := HI.out; omega, by have := HI.out; go_num, rfl, by omega, by simp, trivial, HN2, by have := HI.out; rw [show a + (d.length + 1) = i + 1 by omega]; exact HT2⟩, by simp [intOf]; omega⟩
      | false =>
        rw [hb2] at HC
        have hpe := hfin (by rw [hd, List.takeWhile_cons, hb2]; rfl)
        rw [HNN.out] at hpe
        have HDL : Hid (a + d.length = i) := HI.out
        clear hd hc hsn hb2
        have HPE := Lib.hid hpe
        clear hfin hi HT HF HI hpe
        by_cases hbig : (rn : Int) ≤ 1000000000000000
        · obtain rfl : (⟨3, d.length, (rn : Nat), [], 0⟩ : Pc) = p := by rw [HPE.out, if_neg (by omega)]; congr 1; omega
          obtain ⟨z0, z1, z2, z3, z4, f0, f1, f2, f3, f4⟩ := tval hv
          have hsub : ((i : Int) - (a : Int)) = d.length := by have := HDL.out; omega
          go_wp2_with fail
          refine (HC.out _).mono ?_
          rintro e w1 ⟨rfl, rfl⟩
          go_wp2_with fail
          obtain ⟨hbE, e0, e1, e2, e3, e4⟩ := tfin hv hb (Nat.le_refl _) (.int .i64 3) (.int .i64 (a : Int)) (.int .i64 (d.length : Int)) (.int .i64 (rn : Int)) (.string ⟨#[]⟩)
          exact bodyPost_ret (v := .tuple #[.agg #[.int .i64 3, .int .i64 (a : Int), .int .i64 (d.length : Int), .int .i64 (rn : Int), .string ⟨#[]⟩], .int .i64 0]) (by simp [results, Try.results33, go_sem, e0, e1, e2, e3, e4]) rfl ⟨rfl, hbE⟩
        · obtain rfl : bad 4 = p := by rw [HPE.out, if_pos (by omega)]
          go_wp2_with fail
          refine (HC.out _).mono ?_
          rintro e w1 ⟨rfl, rfl⟩
          go_wp2_with fail
          refine (HBD.out _).mono ?_
          rintro e w2 ⟨rfl, hb5⟩
          replace hv := hv.below hb5
          replace hb := hb.next hb5
          obtain ⟨z0, z1, z2, z3, z4, f0, f1, f2, f3, f4⟩ := tval hv
          go_wp2_with fail
          obtain ⟨hbE, e0, e1, e2, e3, e4⟩ := tfin hv hb (Nat.le_refl _) (.int .i64 0) (.int .i64 (a : Int)) (.int .i64 0) (.int .i64 0) (.string ⟨#[]⟩)
          exact bodyPost_ret (v := .tuple #[.agg #[.int .i64 0, .int .i64 (a : Int), .int .i64 0, .int .i64 0, .string ⟨#[]⟩], .int .i64 4]) (by simp [results, Try.results33, go_sem, e0, e1, e2, e3, e4]) rfl ⟨rfl, hbE⟩
    · have hpe := hfin (by rw [List.drop_of_length_le (by omega)]; rfl)
      rw [HNN.out] at hpe
      have HDL : Hid (a + d.length = i) := HI.out
      have HPE := Lib.hid hpe
      clear hfin hi HT HF HI hpe
      by_cases hbig : (rn : Int) ≤ 1000000000000000
      · obtain rfl : (⟨3, d.length, (rn : Nat), [], 0⟩ : Pc) = p := by rw [HPE.out, if_neg (by omega)]; congr 1; omega
        obtain ⟨z0, z1, z2, z3, z4, f0, f1, f2, f3, f4⟩ := tval hv
        have hsub : ((i : Int) - (a : Int)) = d.length := by have := HDL.out; omega
        go_wp2_with fail
        obtain ⟨hbE, e0, e1, e2, e3, e4⟩ := tfin hv hb (Nat.le_refl _) (.int .i64 3) (.int .i64 (a : Int)) (.int .i64 (d.length : Int)) (.int .i64 (rn : Int)) (.string ⟨#[]⟩)
        exact bodyPost_ret (v := .tuple #[.agg #[.int .i64 3, .int .i64 (a : Int), .int .i64 (d.length : Int), .int .i64 (rn : Int), .string ⟨#[]⟩], .int .i64 0]) (by simp [results, Try.results33, go_sem, e0, e1, e2, e3, e4]) rfl ⟨rfl, hbE⟩
      · obtain rfl : bad 4 = p := by rw [HPE.out, if_pos (by omega)]
        go_wp2_with fail
        refine (HBD.out _).mono ?_
        rintro e w2 ⟨rfl, hb5⟩
        replace hv := hv.below hb5
        replace hb := hb.next hb5
        obtain ⟨z0, z1, z2, z3, z4, f0, f1, f2, f3, f4⟩ := tval hv
        go_wp2_with fail
        obtain ⟨hbE, e0, e1, e2, e3, e4⟩ := tfin hv hb (Nat.le_refl _) (.int .i64 0) (.int .i64 (a : Int)) (.int .i64 0) (.int .i64 0) (.string ⟨#[]⟩)
        exact bodyPost_ret (v := .tuple #[.agg #[.int .i64 0, .int .i64 (a : Int), .int .i64 0, .int .i64 0, .string ⟨#[]⟩], .int .i64 4]) (by simp [results, Try.results33, go_sem, e0, e1, e2, e3, e4]) rfl ⟨rfl, hbE⟩
set_option maxHeartbeats 4000000 in
theorem rquoted_any (l : List UInt8) (a : Nat) (w : World) (ha : a < l.length) (hl : l.length ≤ 100000) : Calls Try.prog 34 #[.string (S l), .int .i64 (a : Int)] w (PcR (quotF (l.drop (a + 1))) a w) := by
  have hsz := S_size l
  have hr : (l.drop (a + 1)).length = l.length - (a + 1) := List.length_drop
  have hcut : ∀ i, a + 1 ≤ i → i ≤ l.length → (S l).extract (a + 1) i = S ((l.drop (a + 1)).take (i - (a + 1))) := fun i h1 h2 => by
    rw [S_cut l (a + 1) i h2]
  obtain ⟨p, hp⟩ : ∃ p, quotF (l.drop (a + 1)) = p := ⟨_, rfl⟩
  have hF : (if indexByte (l.drop (a + 1)) 34 < 0 then bad 3 else if plainL ((l.drop (a + 1)).take (indexByte (l.drop (a + 1)) 34).toNat) = false then bad 2 else if 20 < ((l.drop (a + 1)).take (indexByte (l.drop (a + 1)) 34).toNat).length then bad 4 else ⟨2, ((l.drop (a + 1)).take (indexByte (l.drop (a + 1)) 34).toNat).length + 2, 0, (l.drop (a + 1)).take (indexByte (l.drop (a + 1)) 34).toNat, 0⟩) = p := hp
  rw [hp]
  clear hp
  obtain ⟨z, hz⟩ : ∃ z, indexByte (l.drop (a + 1)) 34 = z := ⟨_, rfl⟩
  rw [hz] at hF
  have HF := Lib.hid hF
  have HZ0 : Hid (z = if indexByte (l.drop (a + 1)) 34 < 0 then -1 else indexByte (l.drop (a + 1)) 34 + (((a + 1 : Nat) : Int) - (((a + 1 : Nat)) : Int))) := by
    show _ = _
    have := Lib.indexByte_ge (l.drop (a + 1)) 34
    rw [hz] at this ⊢
    split <;> omega
  have HBD := Lib.hid (fun e W => rbad_any (a : Int) e W)
  clear hF hz
  have ha1 : (a : Int) + 1 ≤ l.length := by omega
  have HCUT := Lib.hid hcut
  clear hcut
  obtain ⟨hv, hb⟩ := tnew w
  go_enter Try.func34, Try.ntmps34
  go_wp2_with fail
  generalize hW : (w.alloc (.cells #[.int .i64 0, .int .i64 0, .int .i64 0, .int .i64 0, .string ⟨#[]⟩] 24)) = W0 at hv hb ⊢
  clear hW
  go_loopw [6] (fun iv wr => ∃ i : Nat, a + 1 ≤ i ∧ i ≤ l.length ∧ iv = .int .i64 (i : Int) ∧ wr = W0 ∧ Hid (z = if indexByte (l.drop i) 34 < 0 then -1 else indexByte (l.drop i) 34 + ((i : Int) - ((a + 1 : Nat) : Int)))) (fun iv _ => l.length - (intOf iv).toNat)
  case atStart => exact ⟨a + 1, Nat.le_refl _, by omega, by go_num, rfl, HZ0⟩
  case round =>
    clear HZ0
    obtain ⟨i, hai, hi, rfl, rfl, HZ⟩ := hrel
    have hi0 : (0 : Int) ≤ i := by omega
    by_cases hlt : i < l.length
    · have hd := List.drop_eq_getElem_cons hlt
      have hc0 : i < (S l).size := by omega
      have hce : (((S l)[i]'hc0).toNat : Int) = (l[i]).toNat := by rw [S_at l i hlt]
      obtain ⟨c, hc⟩ : ∃ c, l[i] = c := ⟨_, rfl⟩
      rw [hc] at hd hce
      have hk1 : (i : Int) < l.length := by omega
      by_cases h34 : c = 34
      · subst h34
        replace hce : (((S l)[i]'hc0).toNat : Int) = 34 := hce
        obtain ⟨j, hj⟩ : ∃ j, i = a + 1 + j := ⟨i - (a + 1), by omega⟩
        have hzj : z = (j : Int) := by
          have h1 := HZ.out
          rw [hd, idx_cons] at h1
          simp at h1
          omega
        have hF := HF.out
        have htn : ((j : Nat) : Int).toNat = j := rfl
        rw [hzj, if_neg (by omega), htn] at hF
        have HC : Hid ((S l).extract (a + 1) i = S ((l.drop (a + 1)).take j)) := by
          have h1 := HCUT.out i hai hi
          rw [show i - (a + 1) = j by omega] at h1
          exact h1
        have hwl : ((l.drop (a + 1)).take j).length = j := by rw [List.length_take, hr]; omega
        obtain ⟨q, hq⟩ : ∃ q, (l.drop (a + 1)).take j = q := ⟨_, rfl⟩
        rw [hq] at hF HC hwl
        have HP := Lib.hid (fun W => rplain_any q W (by omega))
        have hqs := S_size q
        rw [hwl] at hqs hF
        have hge : ¬ (l.length : Int) ≤ i := by omega
        have hi1 : (a : Int) + 1 ≤ i := by omega
        have hi2 : (i : Int) ≤ l.length := by omega
        have HJ := Lib.hid hj
        clear htn hq hr hwl hd hc HZ hzj hj HF
        obtain ⟨b, hbp⟩ : ∃ b, plainL q = b := ⟨_, rfl⟩
        rw [hbp] at HP hF
        clear hbp
        have HFF := Lib.hid hF
        clear hF
        obtain ⟨sq, hsq⟩ : ∃ x, S q = x := ⟨_, rfl⟩
        have HSQ := Lib.hid hsq
        rw [hsq] at HC HP hqs
        clear hsq
        cases b with
        | false =>
          obtain rfl : bad 2 = p := by rw [← HFF.out, if_pos rfl]
          go_wp2_with fail
          rw [HC.out]
          refine (HP.out _).mono ?_
          rintro e w2 ⟨rfl, rfl⟩
          go_wp2_with fail
          refine (HBD.out 2 _).mono ?_
          rintro e w2 ⟨rfl, hb5⟩
          replace hv := hv.below hb5
          replace hb := hb.next hb5
          obtain ⟨z0, z1, z2, z3, z4, f0, f1, f2, f3, f4⟩ := tval hv
          go_wp2_with fail
          obtain ⟨hbE, e0, e1, e2, e3, e4⟩ := tfin hv hb (Nat.le_refl _) (.int .i64 0) (.int .i64 (a : Int)) (.int .i64 0) (.int .i64 0) (.string ⟨#[]⟩)
          exact bodyPost_ret (v := .tuple #[.agg #[.int .i64 0, .int .i64 (a : Int), .int .i64 0, .int .i64 0, .string ⟨#[]⟩], .int .i64 2]) (by simp [results, Try.results34, go_sem, e0, e1, e2, e3, e4]) rfl ⟨rfl, hbE⟩
        | true =>
          by_cases h20 : 20 < j
          · obtain rfl : bad 4 = p := by rw [← HFF.out, if_neg (by simp), if_pos h20]
            go_wp2_with fail
            rw [HC.out]
            refine (HP.out _).mono ?_
            rintro e w2 ⟨rfl, rfl⟩
            go_wp2_with fail
            refine (HBD.out 4 _).mono ?_
            rintro e w2 ⟨rfl, hb5⟩
            replace hv := hv.below hb5
            replace hb := hb.next hb5
            obtain ⟨z0, z1, z2, z3, z4, f0, f1, f2, f3, f4⟩ := tval hv
            go_wp2_with fail
            obtain ⟨hbE, e0, e1, e2, e3, e4⟩ := tfin hv hb (Nat.le_refl _) (.int .i64 0) (.int .i64 (a : Int)) (.int .i64 0) (.int .i64 0) (.string ⟨#[]⟩)
            exact bodyPost_ret (v := .tuple #[.agg #[.int .i64 0, .int .i64 (a : Int), .int .i64 0, .int .i64 0, .string ⟨#[]⟩], .int .i64 4]) (by simp [results, Try.results34, go_sem, e0, e1, e2, e3, e4]) rfl ⟨rfl, hbE⟩
          · obtain rfl : (⟨2, j + 2, 0, q, 0⟩ : Pc) = p := by rw [← HFF.out, if_neg (by simp), if_neg h20]
            obtain ⟨z0, z1, z2, z3, z4, f0, f1, f2, f3, f4⟩ := tval hv
            have hsub : ((i : Int) + 1 - (a : Int)) = (j : Int) + 2 := by have := HJ.out; omega
            clear HFF
            go_wp2_with fail
            rw [HC.out]
            refine (HP.out _).mono ?_
            rintro e w2 ⟨rfl, rfl⟩
            go_wp2_with fail
            obtain ⟨hbE, e0, e1, e2, e3, e4⟩ := tfin hv hb (Nat.le_refl _) (.int .i64 2) (.int .i64 (a : Int)) (.int .i64 ((j : Int) + 2)) (.int .i64 0) (.string sq)
            exact bodyPost_ret (v := .tuple #[.agg #[.int .i64 2, .int .i64 (a : Int), .int .i64 ((j : Int) + 2), .int .i64 0, .string sq], .int .i64 0]) (by simp [results, Try.results34, go_sem, e0, e1, e2, e3, e4]) rfl ⟨by rw [← HSQ.out]; rfl, hbE⟩
      · have hn := neq8 h34
        simp only [show ((34 : UInt8).toNat : Int) = 34 from rfl] at hn
        have hn2 : ((c.toNat : Int) != 34) = true := by rw [bne, hn]; rfl
        have HZ2 : Hid (z = if indexByte (l.drop (i + 1)) 34 < 0 then -1 else indexByte (l.drop (i + 1)) 34 + (((i + 1 : Nat) : Int) - ((a + 1 : Nat) : Int))) := by
          show _ = _
          have h1 := HZ.out
          have h2 := Lib.indexByte_ge (l.drop (i + 1)) 34
          rw [hd, idx_ne h34] at h1
          rw [h1]
          by_cases h3 : indexByte (l.drop (i + 1)) 34 < 0
          · simp only [h3, if_true]
            rfl
          · simp only [h3, if_false]
            rw [if_neg (by omega)]
            omega
        clear hd hc HZ h34
        go_wp2_with fail
        go_roundw
        case rel => exact ⟨i + 1, by omega, by omega, by go_num, trivial, HZ2⟩
        case measure => simp [intOf]; omega
    · have hzj : z < 0 := by
        have h1 := HZ.out
        rw [List.drop_of_length_le (by omega)] at h1
        rw [h1, if_pos (by decide)]; decide
      have hF := HF.out
      rw [if_pos hzj] at hF
      subst hF
      have hge : (l.length : Int) ≤ i := by omega
      clear HZ hzj HF
      go_wp2_with fail
      refine (HBD.out 3 _).mono ?_
      rintro e w2 ⟨rfl, hb5⟩
      replace hv := hv.below hb5
      replace hb := hb.next hb5
      obtain ⟨z0, z1, z2, z3, z4, f0, f1, f2, f3, f4⟩ := tval hv
      go_wp2_with fail
      obtain ⟨hbE, e0, e1, e2, e3, e4⟩ := tfin hv hb (Nat.le_refl _) (.int .i64 0) (.int .i64 (a : Int)) (.int .i64 0) (.int .i64 0) (.string ⟨#[]⟩)
      exact bodyPost_ret (v := .tuple #[.agg #[.int .i64 0, .int .i64 (a : Int), .int .i64 0, .int .i64 0, .string ⟨#[]⟩], .int .i64 3]) (by simp [results, Try.results34, go_sem, e0, e1, e2, e3, e4]) rfl ⟨rfl, hbE⟩
end Go.Proofs.Ytonpiacpgfibpaa.Lex
