/- The reference's letter, digit, great, bad, Plain, Skip. -/
import Derived.Test.YtonpiacpgfibpaaLexY
namespace Go.Proofs.Ytonpiacpgfibpaa.Lex
set_option linter.unusedVariables false
set_option linter.unusedSimpArgs false
open Go.RowKit
open Oct (S S_size S_data)
open Lib (indexByte)
theorem rdigit_any (c : UInt8) (w : World) : Calls Try.prog 32 #[.int .u8 (c.toNat : Int)] w (Eq1 (.bool (digB c)) w) := by
  have HB : Hid (digB c = (decide (48 ≤ c.toNat) && decide (c.toNat ≤ 57))) := rfl
  by_cases h1 : (48 : Int) ≤ c.toNat
  · by_cases h2 : (c.toNat : Int) ≤ 57
    · go_enter Try.func32, Try.ntmps32
      go_wp2
      go_ret
      exact ⟨ret_bool (by rw [HB.out]; simp; omega), rfl⟩
    · go_enter Try.func32, Try.ntmps32
      go_wp2
      go_ret
      exact ⟨ret_bool (by rw [HB.out]; simp; omega), rfl⟩
  · go_enter Try.func32, Try.ntmps32
    go_wp2
    go_ret
    exact ⟨ret_bool (by rw [HB.out]; simp; omega), rfl⟩
theorem rgreat_any (c : UInt8) (w : World) : Calls Try.prog 30 #[.int .u8 (c.toNat : Int)] w (Eq1 (.bool (upB c)) w) := by
  have HB : Hid (upB c = (decide (65 ≤ c.toNat) && decide (c.toNat ≤ 90))) := rfl
  by_cases h1 : (65 : Int) ≤ c.toNat
  · by_cases h2 : (c.toNat : Int) ≤ 90
    · go_enter Try.func30, Try.ntmps30
      go_wp2
      go_ret
      exact ⟨ret_bool (by rw [HB.out]; simp; omega), rfl⟩
    · go_enter Try.func30, Try.ntmps30
      go_wp2
      go_ret
      exact ⟨ret_bool (by rw [HB.out]; simp; omega), rfl⟩
  · go_enter Try.func30, Try.ntmps30
    go_wp2
    go_ret
    exact ⟨ret_bool (by rw [HB.out]; simp; omega), rfl⟩
theorem rletter_any (c : UInt8) (w : World) : Calls Try.prog 29 #[.int .u8 (c.toNat : Int)] w (Eq1 (.bool (nameB c)) w) := by
  have HB := Lib.hid (name_nat c)
  by_cases h3 : (c.toNat : Int) = 95
  · have HT : Hid (nameB c = true) := by show _ = _; rw [HB.out]; simp; omega
    have h3b : ((c.toNat : Int) == 95) = true := by simp [h3]
    have h1 : ¬ (97 : Int) ≤ c.toNat := by omega
    rw [HT.out]
    clear h3
    go_enter Try.func29, Try.ntmps29
    go_wp2
    go_ret
    exact ⟨rfl, rfl⟩
  · have h3b : ((c.toNat : Int) == 95) = false := by simp [h3]
    by_cases h1 : (97 : Int) ≤ c.toNat
    · by_cases h2 : (c.toNat : Int) ≤ 122
      · have HT : Hid (nameB c = true) := by show _ = _; rw [HB.out]; simp; omega
        rw [HT.out]
        clear h3
        go_enter Try.func29, Try.ntmps29
        go_wp2
        go_ret
        exact ⟨rfl, rfl⟩
      · have HT : Hid (nameB c = false) := by show _ = _; rw [HB.out]; simp; omega
        rw [HT.out]
        clear h3
        go_enter Try.func29, Try.ntmps29
        go_wp2
        go_ret
        exact ⟨rfl, rfl⟩
    · have HT : Hid (nameB c = false) := by show _ = _; rw [HB.out]; simp; omega
      rw [HT.out]
      clear h3
      go_enter Try.func29, Try.ntmps29
      go_wp2
      go_ret
      exact ⟨rfl, rfl⟩
theorem rbad_any (a e : Int) (w : World) : Calls Try.prog 45 #[.int .i64 a, .int .i64 e] w (Ret (.tuple #[.agg #[.int .i64 0, .int .i64 a, .int .i64 0, .int .i64 0, .string ⟨#[]⟩], .int .i64 e]) w) := by
  have hb : Below w.heap.size w (w.alloc (.cells #[.int .i64 0, .int .i64 a, .int .i64 0, .int .i64 0, .string ⟨#[]⟩] 24)) := (Below.refl _ _).alloc (Nat.le_refl _) _
  go_enter Try.func45, Try.ntmps45
  go_wp2_with fail
  exact bodyPost_ret (v := .tuple #[.agg #[.int .i64 0, .int .i64 a, .int .i64 0, .int .i64 0, .string ⟨#[]⟩], .int .i64 e]) (by simp [results, Try.results45, go_sem]) rfl ⟨rfl, hb⟩
set_option maxHeartbeats 4000000 in
theorem rplain_any (l : List UInt8) (w : World) (hl : l.length ≤ 100000) : Calls Try.prog 39 #[.string (S l)] w (Eq1 (.bool (plainL l)) w) := by
  have hsz := S_size l
  have HLT := Lib.hid (fun c W => rletter_any c W)
  have HDG := Lib.hid (fun c W => rdigit_any c W)
  go_enter Try.func39, Try.ntmps39
  go_wp2_with fail
  go_loop [3] (fun iv => ∃ i : Nat, i ≤ l.length ∧ iv = .int .i64 (i : Int) ∧ Hid (∀ j, j < i → okAt l j)) (fun iv => l.length - (intOf iv).toNat)
  case atStart => exact ⟨0, Nat.zero_le _, rfl, fun j h => by omega⟩
  case round =>
    obtain ⟨i, hi, rfl, HP⟩ := hrel
    by_cases hlt : i < l.length
    · have hc0 : i < (S l).size := by omega
      have hce : (((S l)[i]'hc0).toNat : Int) = (l[i]).toNat := by rw [S_at l i hlt]
      have hok : okAt l i ↔ (nameB l[i] || (decide (0 < i) && digB l[i])) = true := ⟨fun h => h hlt, fun h _ => h⟩
      have hnp : ¬ okAt l i → plainL l = false := fun h => not_plain hlt h
      obtain ⟨c, hc⟩ : ∃ c, l[i] = c := ⟨_, rfl⟩
      rw [hc] at hok hce
      have hi0 : (0 : Int) ≤ i := by omega
      have hi1 : (i : Int) < l.length := by omega
      have HNX : Hid (okAt l i → ∀ j, j < i + 1 → okAt l j) := fun h j hj => by
        by_cases e : j = i
        · subst e; exact h
        · exact HP.out j (by omega)
      have HC := Lib.hid (fun W => HLT.out c W)
      have HD := Lib.hid (fun W => HDG.out c W)
      have HOK := Lib.hid hok
      have HNP := Lib.hid hnp
      clear hok hnp hc
      cases h1 : nameB c with
      | true =>
        rw [h1] at HC
        have HN := Lib.hid (HNX.out (HOK.out.2 (by rw [h1]; rfl)))
        clear h1 HOK HNP HNX
        go_wp2_with fail
        refine (HC.out _).mono ?_
        rintro e w1 ⟨rfl, rfl⟩
        go_wp2_with fail
        go_round
        case rel => exact ⟨i + 1, by omega, by go_num, HN⟩
        case measure => simp [intOf]; omega
      | false =>
        rw [h1] at HC
        by_cases h0 : i = 0
        · have HN : Hid (plainL l = false) := HNP.out fun h => by have := HOK.out.1 h; rw [h1, h0] at this; cases this
          have h0b : ((i : Int) == 0) = true := by simp [h0]
          clear h1 HOK HNP HNX h0
          go_wp2_with fail
          refine (HC.out _).mono ?_
          rintro e w1 ⟨rfl, rfl⟩
          go_wp2_with fail
          go_ret
          exact ⟨ret_bool (by rw [HN.out]), rfl⟩
        · have h0b : ((i : Int) == 0) = false := by simp [h0]
          cases h2 : digB c with
          | true =>
            rw [h2] at HD
            have HN := Lib.hid (HNX.out (HOK.out.2 (by rw [h1, h2, decide_eq_true (by omega : 0 < i)]; rfl)))
            clear h1 h2 HOK HNP HNX h0
            go_wp2_with fail
            refine (HC.out _).mono ?_
            rintro e w1 ⟨rfl, rfl⟩
            go_wp2_with fail
            refine (HD.out _).mono ?_
            rintro e w1 ⟨rfl, rfl⟩
            go_wp2_with fail
            go_round
            case rel => exact ⟨i + 1, by omega, by go_num, HN⟩
            case measure => simp [intOf]; omega
          | false =>
            rw [h2] at HD
            have HN : Hid (plainL l = false) := HNP.out fun h => by have := HOK.out.1 h; rw [h1, h2, decide_eq_true (by omega : 0 < i)] at this; cases this
            clear h1 h2 HOK HNP HNX h0
            go_wp2_with fail
            refine (HC.out _).mono ?_
            rintro e w1 ⟨rfl, rfl⟩
            go_wp2_with fail
            refine (HD.out _).mono ?_
            rintro e w1 ⟨rfl, rfl⟩
            go_wp2_with fail
            go_ret
            exact ⟨ret_bool (by rw [HN.out]), rfl⟩
    · have HN : Hid (plainL l = decide (0 < l.length)) := by
        show _ = _
        rw [Bool.eq_iff_iff, plain_iff, decide_eq_true_iff, List.length_pos_iff]
        exact ⟨fun h => h.1, fun h => ⟨h, fun j hj => HP.out j (by omega)⟩⟩
      go_wp2_with fail
      go_ret
      exact ⟨ret_bool HN.out, rfl⟩
set_option maxHeartbeats 4000000 in
theorem rskip_any (l : List UInt8) (a : Nat) (w : World) (ha : a ≤ l.length) (hl : l.length ≤ 100000) : Calls Try.prog 28 #[.string (S l), .int .i64 (a : Int)] w (Eq1 (.int .i64 ((a + skipF false (l.drop a) : Nat) : Int)) w) := by
  have hsz := S_size l
  obtain ⟨res, hres⟩ : ∃ x, a + skipF false (l.drop a) = x := ⟨_, rfl⟩
  have HR := Lib.hid hres
  rw [hres]
  clear hres
  go_enter Try.func28, Try.ntmps28
  go_wp2_with fail
  go_loop [1] (fun i => ∃ k : Nat, k ≤ l.length ∧ i = .int .i64 (k : Int) ∧ Hid (k + skipF false (l.drop k) = res)) (fun i => l.length - (intOf i).toNat)
  case atStart => exact ⟨a, ha, rfl, HR⟩
  case round =>
    obtain ⟨k, hk, rfl, HK⟩ := hrel
    by_cases hlt : k < l.length
    · have hd := List.drop_eq_getElem_cons hlt
      have hc0 : k < (S l).size := by omega
      have hce : (((S l)[k]'hc0).toNat : Int) = (l[k]).toNat := by rw [S_at l k hlt]
      obtain ⟨c, hc⟩ : ∃ c, l[k] = c := ⟨_, rfl⟩
      rw [hc] at hd hce
      have HSF := skip_f c (l.drop (k + 1))
      rw [← hd] at HSF
      have HSF := Lib.hid HSF
      have hk0 : (0 : Int) ≤ k := by omega
      have hk1 : (k : Int) < l.length := by omega
      by_cases hbl : blankB c = true
      · have HN : Hid ((k + 1) + skipF false (l.drop (k + 1)) = res) := by
          have h1 := HK.out; have h2 := HSF.out; rw [if_pos hbl] at h2; show _ = _; omega
        have hb4 := blank_cases hbl
        clear hc hd HSF hbl HK
        rcases hb4 with rfl | rfl | rfl | rfl
        all_goals
          simp only [show ((32 : UInt8).toNat : Int) = 32 from rfl, show ((9 : UInt8).toNat : Int) = 9 from rfl, show ((10 : UInt8).toNat : Int) = 10 from rfl, show ((13 : UInt8).toNat : Int) = 13 from rfl] at hce
          go_wp2_with fail
          go_round
          case rel => exact ⟨k + 1, by omega, by go_num, HN⟩
          case measure => simp [intOf]; omega
      · have hnb : ∀ d : UInt8, c ≠ d → ((c.toNat : Int) == d.toNat) = false := fun d h => neq8 h
        have n1 : ((c.toNat : Int) == 32) = false := hnb 32 (fun e => hbl (by rw [e]; rfl))
        have n2 : ((c.toNat : Int) == 9) = false := hnb 9 (fun e => hbl (by rw [e]; rfl))
        have n3 : ((c.toNat : Int) == 10) = false := hnb 10 (fun e => hbl (by rw [e]; rfl))
        have n4 : ((c.toNat : Int) == 13) = false := hnb 13 (fun e => hbl (by rw [e]; rfl))
        by_cases h45 : c = 45
        · subst h45
          have hce2 : (((S l)[k]'hc0).toNat : Int) = 45 := hce
          by_cases hp : (l.drop (k + 1)).head? = some 45
          · obtain ⟨q, hq⟩ : ∃ q, l.drop (k + 1) = 45 :: q := by
              cases h : l.drop (k + 1) with
              | nil => rw [h] at hp; cases hp
              | cons d q => rw [h] at hp; simp at hp; exact ⟨q, by rw [hp]⟩
            have hlt2 : k + 1 < l.length := by
              have h1 := congrArg List.length hq
              rw [List.length_drop, List.length_cons] at h1
              omega
            have hc1 : k + 1 < (S l).size := by omega
            have hce3 : (((S l)[k + 1]'hc1).toNat : Int) = 45 := by
              rw [S_at l (k + 1) hlt2]
              have h1 := List.drop_eq_getElem_cons hlt2
              rw [hq] at h1
              injection h1 with h1 _
              rw [← h1]; rfl
            have HT : Hid (k + skipF true (l.drop k) = res) := by
              show _ = _
              rw [← HK.out, hd, hq, skip_t, if_neg (by decide), skip_f, if_neg (by decide), if_pos ⟨rfl, rfl⟩]
            have hk3 : (k : Int) + 1 < l.length := by omega
            have h10 : Hid (l[k] = 45) := hc
            clear hc hd HSF hnb hbl hp hq HK
            go_wp2_with fail
            go_loop [1] (fun i => ∃ j : Nat, k ≤ j ∧ j ≤ l.length ∧ i = .int .i64 (j : Int) ∧ Hid (j + skipF true (l.drop j) = res)) (fun i => l.length - (intOf i).toNat)
            case atStart => exact ⟨k, Nat.le_refl _, hk, rfl, HT⟩
            case round =>
              obtain ⟨j, hkj, hj, rfl, HJ⟩ := hrel
              by_cases hjl : j < l.length
              · have hd2 := List.drop_eq_getElem_cons hjl
                have hj0 : j < (S l).size := by omega
                have hje : (((S l)[j]'hj0).toNat : Int) = (l[j]).toNat := by rw [S_at l j hjl]
                have hi0 : (0 : Int) ≤ j := by omega
                have hi1 : (j : Int) < l.length := by omega
                have hjk : l[j] = 10 → k < j := fun e => by
                  rcases Nat.lt_or_ge k j with h | h
                  · exact h
                  · exfalso
                    have ejk : j = k := by omega
                    subst ejk
                    rw [h10.out] at e
                    cases e
                obtain ⟨d, hdd⟩ : ∃ d, l[j] = d := ⟨_, rfl⟩
                rw [hdd] at hd2 hje hjk
                have HS2 := skip_t d (l.drop (j + 1))
                rw [← hd2] at HS2
                have HS3 := skip_f d (l.drop (j + 1))
                rw [← hd2] at HS3
                by_cases h10d : d = 10
                · subst h10d
                  have hlt3 := hjk rfl
                  have HN : Hid (j + skipF false (l.drop j) = res) := by
                    have h1 := HJ.out
                    rw [HS2, if_pos rfl] at h1
                    rw [if_pos (by decide)] at HS3
                    show _ = _; omega
                  replace hje : (((S l)[j]'hj0).toNat : Int) = 10 := hje
                  clear hd2 hdd HS2 HS3 hjk HJ
                  go_wp2_with fail
                  go_round
                  case rel => exact ⟨j, by omega, rfl, HN⟩
                  case measure => simp [intOf]; omega
                · have hne := neq8 h10d
                  simp only [show ((10 : UInt8).toNat : Int) = 10 from rfl] at hne
                  have HN : Hid ((j + 1) + skipF true (l.drop (j + 1)) = res) := by
                    have h1 := HJ.out
                    rw [HS2, if_neg h10d] at h1
                    show _ = _; omega
                  clear hd2 hdd HS2 HS3 hjk HJ h10d
                  go_wp2_with fail
                  go_round
                  case rel => exact ⟨j + 1, by omega, by omega, by go_num, HN⟩
                  case measure => simp [intOf]; omega
              · have HN : Hid (j + skipF false (l.drop j) = res) := by
                  have h1 := HJ.out
                  rw [List.drop_of_length_le (by omega), skip_nil] at h1 ⊢
                  exact h1
                go_wp2_with fail
                go_round
                case rel => exact ⟨j, by omega, rfl, HN⟩
                case measure => simp [intOf]; omega
          · have HN : Hid (k = res) := by
              have h1 := HK.out; have h2 := HSF.out; rw [if_neg hbl, if_neg (fun x => hp x.2)] at h2; show _ = _; omega
            by_cases hlt2 : k + 1 < l.length
            · have hd2 := List.drop_eq_getElem_cons hlt2
              have hne : l[k + 1] ≠ 45 := fun e => hp (by rw [hd2, e]; rfl)
              have hc1 : k + 1 < (S l).size := by omega
              have hce3 : (((S l)[k + 1]'hc1).toNat : Int) = (l[k + 1]).toNat := by rw [S_at l (k + 1) hlt2]
              have hne2 := neq8 hne
              obtain ⟨d, hdd⟩ : ∃ d, l[k + 1] = d := ⟨_, rfl⟩
              rw [hdd] at hce3 hne2
              simp only [show ((45 : UInt8).toNat : Int) = 45 from rfl] at hne2
              have hne3 : ((d.toNat : Int) != 45) = true := by rw [bne, hne2]; rfl
              have hk3 : (k : Int) + 1 < l.length := by omega
              clear hc hd HSF hnb hbl hp HK hd2 hne hdd
              go_wp2_with fail
              go_ret
              exact ⟨ret_int (by rw [← HN.out]), rfl⟩
            · have hk3 : ¬ (k : Int) + 1 < l.length := by omega
              clear hc hd HSF hnb hbl hp HK hlt2
              go_wp2_with fail
              go_ret
              exact ⟨ret_int (by rw [← HN.out]), rfl⟩
        · have n5 : ((c.toNat : Int) == 45) = false := hnb 45 h45
          have n6 : ((c.toNat : Int) != 45) = true := by rw [bne, n5]; rfl
          have HN : Hid (k = res) := by
            have h1 := HK.out; have h2 := HSF.out; rw [if_neg hbl, if_neg (fun x => h45 x.1)] at h2; show _ = _; omega
          clear hc hd HSF hnb hbl h45 HK
          go_wp2_with fail
          go_ret
          exact ⟨ret_int (by rw [← HN.out]), rfl⟩
    · have HN : Hid (k = res) := by
        have h1 := HK.out; rw [List.drop_of_length_le (by omega), skip_nil] at h1; exact h1
      go_wp2_with fail
      go_ret
      exact ⟨ret_int (by rw [← HN.out]), rfl⟩
end Go.Proofs.Ytonpiacpgfibpaa.Lex
