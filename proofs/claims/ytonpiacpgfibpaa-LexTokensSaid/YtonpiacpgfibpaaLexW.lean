/- lex: small, letter, digit, skip, plain, Reserved, Name: what they answer. -/
import Derived.Test.YtonpiacpgfibpaaShelf
import Derived.Test.YtonpiacpgfibpaaLexB
import Derived.Test.YtonpiacpgfibpaaKit
import Derived.Test.YtonpiacpgfibpaaRows
import Derived.Lib.OthersKept
import Derived.Lib.TrimU
import Derived.IntWalk
import Derived.BigQuiet
import Derived.WalkMore
import Derived.Deep.LoopGhost
namespace Go.Proofs.Ytonpiacpgfibpaa.Lex
set_option linter.unusedVariables false
set_option linter.unusedSimpArgs false
open Go.RowKit
open Oct (S S_size S_data)
open Lib (indexByte)
theorem S_take (l : List UInt8) (k : Nat) (hk : k ≤ l.length) : (S l).extract 0 k = S (l.take k) := by
  apply ByteArray.ext
  apply Array.ext'
  simp [S, ByteArray.data_extract]
theorem S_drop (l : List UInt8) (k : Nat) (hk : k ≤ l.length) : (S l).extract k l.length = S (l.drop k) := by
  apply ByteArray.ext
  apply Array.ext'
  simp [S, ByteArray.data_extract]
  exact List.take_of_length_le (by simp)
theorem S_cut (l : List UInt8) (i j : Nat) (hj : j ≤ l.length) : (S l).extract i j = S ((l.drop i).take (j - i)) := by
  apply ByteArray.ext
  apply Array.ext'
  simp [S, ByteArray.data_extract]
theorem S_at (l : List UInt8) (k : Nat) (hk : k < l.length) (h : k < (S l).size) : (S l)[k]'h = l[k] := by
  show l.toArray[k]'(by simpa using hk) = l[k]
  simp
theorem small_any (c : UInt8) (w : World) : Calls Try.prog 42 #[.int .u8 (c.toNat : Int)] w (Eq1 (.int .u8 ((smallF c).toNat : Int)) w) := by
  have hlt := c.toNat_lt
  by_cases h1 : 65 ≤ c.toNat
  · by_cases h2 : c.toNat ≤ 90
    · have hs : ((smallF c).toNat : Int) = c.toNat + 32 := by
        rw [smallF, if_pos (by simp [upB, h1, h2]), UInt8.toNat_add]
        show (((c.toNat + 32) % 256 : Nat) : Int) = _
        omega
      have HS := Lib.hid hs
      have h3 : (65 : Int) ≤ c.toNat := by omega
      have h4 : (c.toNat : Int) ≤ 90 := by omega
      clear hs h1 h2 hlt
      generalize (c.toNat : Int) = x at *
      go_enter Try.func42, Try.ntmps42
      go_wp2
      go_ret
      exact ⟨ret_int (by rw [HS.out]; omega), rfl⟩
    · have HS : Hid (smallF c = c) := by show _ = _; rw [smallF, if_neg (by simp [upB]; omega)]
      have h3 : (65 : Int) ≤ c.toNat := by omega
      have h4 : ¬ (c.toNat : Int) ≤ 90 := by omega
      rw [HS.out]
      go_enter Try.func42, Try.ntmps42
      go_wp2
      go_ret
      exact ⟨rfl, rfl⟩
  · have HS : Hid (smallF c = c) := by show _ = _; rw [smallF, if_neg (by simp [upB]; omega)]
    have h3 : ¬ (65 : Int) ≤ c.toNat := by omega
    rw [HS.out]
    go_enter Try.func42, Try.ntmps42
    go_wp2
    go_ret
    exact ⟨rfl, rfl⟩
theorem letter_any (c : UInt8) (w : World) : Calls Try.prog 21 #[.int .u8 (c.toNat : Int)] w (Eq1 (.bool (letB c)) w) := by
  have HS := Lib.hid (fun W => small_any c W)
  have HB : Hid (letB c = ((decide (97 ≤ (smallF c).toNat) && decide ((smallF c).toNat ≤ 122)) || c == 95)) := rfl
  have hc95 : (c == 95) = decide (c.toNat = 95) := by
    rw [Bool.eq_iff_iff, beq_iff_eq, decide_eq_true_iff, ← UInt8.toNat_inj]; rfl
  have HC := Lib.hid hc95
  clear hc95
  generalize (smallF c).toNat = y at *
  by_cases h1 : 97 ≤ y
  · by_cases h2 : y ≤ 122
    · go_enter Try.func21, Try.ntmps21
      go_wp2_with (go_at_call 42; refine (HS.out _).mono ?_; rintro e w' ⟨rfl, rfl⟩)
      go_ret
      exact ⟨ret_bool (by rw [HB.out]; simp [h1, h2]), rfl⟩
    · by_cases h3 : (c.toNat : Int) = 95
      · have h3b : ((c.toNat : Int) == 95) = true := by simp [h3]
        clear h3
        go_enter Try.func21, Try.ntmps21
        go_wp2_with (go_at_call 42; refine (HS.out _).mono ?_; rintro e w' ⟨rfl, rfl⟩)
        go_ret
        exact ⟨ret_bool (by rw [HB.out, HC.out]; simp at h3b; have : c.toNat = 95 := by omega
                            simp [this]), rfl⟩
      · have h3b : ((c.toNat : Int) == 95) = false := by simp [h3]
        have H3 := Lib.hid h3
        clear h3
        go_enter Try.func21, Try.ntmps21
        go_wp2_with (go_at_call 42; refine (HS.out _).mono ?_; rintro e w' ⟨rfl, rfl⟩)
        go_ret
        exact ⟨ret_bool (by rw [HB.out, HC.out]; have := H3.out; simp [h2]; omega), rfl⟩
  · by_cases h3 : (c.toNat : Int) = 95
    · have h3b : ((c.toNat : Int) == 95) = true := by simp [h3]
      clear h3
      go_enter Try.func21, Try.ntmps21
      go_wp2_with (go_at_call 42; refine (HS.out _).mono ?_; rintro e w' ⟨rfl, rfl⟩)
      go_ret
      exact ⟨ret_bool (by rw [HB.out, HC.out]; simp at h3b; have : c.toNat = 95 := by omega
                          simp [this]), rfl⟩
    · have h3b : ((c.toNat : Int) == 95) = false := by simp [h3]
      have H3 := Lib.hid h3
      clear h3
      go_enter Try.func21, Try.ntmps21
      go_wp2_with (go_at_call 42; refine (HS.out _).mono ?_; rintro e w' ⟨rfl, rfl⟩)
      go_ret
      exact ⟨ret_bool (by rw [HB.out, HC.out]; have := H3.out; simp [h1]; omega), rfl⟩
theorem digit_any (c : UInt8) (w : World) : Calls Try.prog 23 #[.int .u8 (c.toNat : Int)] w (Eq1 (.bool (digB c)) w) := by
  have HB : Hid (digB c = (decide (48 ≤ c.toNat) && decide (c.toNat ≤ 57))) := rfl
  by_cases h1 : (48 : Int) ≤ c.toNat
  · by_cases h2 : (c.toNat : Int) ≤ 57
    · go_enter Try.func23, Try.ntmps23
      go_wp2
      go_ret
      exact ⟨ret_bool (by rw [HB.out]; simp; omega), rfl⟩
    · go_enter Try.func23, Try.ntmps23
      go_wp2
      go_ret
      exact ⟨ret_bool (by rw [HB.out]; simp; omega), rfl⟩
  · go_enter Try.func23, Try.ntmps23
    go_wp2
    go_ret
    exact ⟨ret_bool (by rw [HB.out]; simp; omega), rfl⟩
theorem has_rem (c : UInt8) (r : List UInt8) : Lib.hasPrefix (45 :: r) [45, 45] = decide (r.head? = some 45) := by
  cases r with
  | nil => rfl
  | cons d q =>
    by_cases h : d = 45
    · subst h; rfl
    · have e : (45 == d) = false := by simpa using fun x => h x.symm
      show ((45 : UInt8) == 45 && ((45 == d) && List.isPrefixOf [] q)) = _
      simp [e, h]
set_option maxHeartbeats 2000000 in
theorem skip_any (l : List UInt8) (a : Nat) (w : World) (ha : a ≤ l.length) (hl : l.length ≤ 100000) : Calls Try.prog 20 #[.string (S l), .int .i64 (a : Int)] w (Eq1 (.int .i64 ((a + skipF false (l.drop a) : Nat) : Int)) w) := by
  have hsz := S_size l
  obtain ⟨res, hres⟩ : ∃ x, a + skipF false (l.drop a) = x := ⟨_, rfl⟩
  have HR := Lib.hid hres
  rw [hres]
  clear hres
  go_enter Try.func20, Try.ntmps20
  go_wp2_with fail
  go_step3
  go_wp2_with fail
  go_step3
  go_wp2_with fail
  go_loop [1] (fun i => ∃ k : Nat, k ≤ l.length ∧ i = .int .i64 (k : Int) ∧ Hid (k + skipF false (l.drop k) = res)) (fun i => l.length - (intOf i).toNat)
  case atStart => exact ⟨a, ha, rfl, HR⟩
  case round =>
    obtain ⟨k, hk, rfl, HK⟩ := hrel
    by_cases hlt : k < l.length
    · have hd := List.drop_eq_getElem_cons hlt
      have hc0 : k < (S l).size := by omega
      have hce : (((S l)[k]'hc0).toNat : Int) = (l[k]).toNat := by rw [S_at l k hlt]
      have hdd : ∀ j, l.drop (k + 1 + j) = (l.drop (k + 1)).drop j := fun j => by rw [List.drop_drop]
      obtain ⟨c, hc⟩ : ∃ c, l[k] = c := ⟨_, rfl⟩
      rw [hc] at hd hce
      have HSF := skip_f c (l.drop (k + 1))
      rw [← hd] at HSF
      have HSF := Lib.hid HSF
      have hk0 : (0 : Int) ≤ k := by omega
      have hk1 : (k : Int) < l.length := by omega
      have hk2 : (k : Int) ≤ l.length := by omega
      by_cases hbl : blankB c = true
      · have HN : Hid ((k + 1) + skipF false (l.drop (k + 1)) = res) := by
          have h1 := HK.out; have h2 := HSF.out; rw [if_pos hbl] at h2; show _ = _; omega
        have hb4 := blank_cases hbl
        clear hc hd hdd HSF hbl HK
        rcases hb4 with rfl | rfl | rfl | rfl
        all_goals
          simp only [show ((32 : UInt8).toNat : Int) = 32 from rfl, show ((9 : UInt8).toNat : Int) = 9 from rfl, show ((10 : UInt8).toNat : Int) = 10 from rfl, show ((13 : UInt8).toNat : Int) = 13 from rfl] at hce
          go_wp2_with fail
          go_round
          case rel => exact ⟨k + 1, by omega, by go_num, HN⟩
          case measure => simp [intOf]; omega
      · have hnb : ∀ d : UInt8, c ≠ d → ((c.toNat : Int) == d.toNat) = false := fun d h => by
          have : c.toNat ≠ d.toNat := fun e => h (UInt8.toNat_inj.1 e)
          simp
          omega
        have n1 : ((c.toNat : Int) == 32) = false := hnb 32 (fun e => hbl (by rw [e]; rfl))
        have n2 : ((c.toNat : Int) == 9) = false := hnb 9 (fun e => hbl (by rw [e]; rfl))
        have n3 : ((c.toNat : Int) == 10) = false := hnb 10 (fun e => hbl (by rw [e]; rfl))
        have n4 : ((c.toNat : Int) == 13) = false := hnb 13 (fun e => hbl (by rw [e]; rfl))
        by_cases h45 : c = 45
        · subst h45
          have hce2 : (((S l)[k]'hc0).toNat : Int) = 45 := hce
          have HE : Hid ((S l).extract k l.length = S (45 :: l.drop (k + 1))) := by show _ = _; rw [← hd]; exact S_drop l k hk
          have HP := Lib.hid (fun W => Try.strings_HasPrefix (S (45 :: l.drop (k + 1))) ⟨#[45, 45]⟩ W)
          rw [S_data, show (ByteArray.mk #[45, 45]).data.toList = [45, 45] from rfl, has_rem 45] at HP
          have HQ := Lib.hid (fun W => Try.strings_IndexByte (S (45 :: l.drop (k + 1))) 10 W)
          rw [S_data, show (10 : Int).toNat.toUInt8 = 10 from rfl] at HQ
          by_cases hp : (l.drop (k + 1)).head? = some 45
          · obtain ⟨q, hq⟩ : ∃ q, l.drop (k + 1) = 45 :: q := by
              cases h : l.drop (k + 1) with
              | nil => rw [h] at hp; cases hp
              | cons d q => rw [h] at hp; simp at hp; exact ⟨q, by rw [hp]⟩
            have HRM := skip_rem q
            rw [← hq, ← hd] at HRM
            rw [decide_eq_true hp] at HP
            have hql : q.length + 2 + k = l.length := by
              have h1 := congrArg List.length hd
              rw [List.length_drop, List.length_cons, hq, List.length_cons] at h1
              omega
            have hnd : ∀ j, (l.drop k).drop j = l.drop (k + j) := fun j => by rw [List.drop_drop]
            have hlen : (l.drop k).length = l.length - k := List.length_drop
            obtain ⟨z, hzq⟩ : ∃ z, indexByte (45 :: l.drop (k + 1)) 10 = z := ⟨_, rfl⟩
            have hz : indexByte (l.drop k) 10 = z := by rw [hd]; exact hzq
            have hzl : 0 ≤ z → z < l.length - k ∧ 1 ≤ z := fun h0 => by
              obtain ⟨j, hj⟩ : ∃ j : Nat, indexByte (l.drop k) 10 = j := ⟨z.toNat, by omega⟩
              obtain ⟨h1, h2⟩ := List.getElem?_eq_some_iff.1 (Lib.indexByte_some hj).1
              rw [hlen] at h1
              refine ⟨by omega, ?_⟩
              by_cases e : j = 0
              · subst e
                exfalso
                have h3 : (l.drop k)[0]? = some 45 := by rw [hd]; rfl
                rw [(Lib.indexByte_some hj).1] at h3
                cases h3
              · omega
            rw [hz] at HRM
            rw [hzq] at HQ
            clear hc hd hdd HSF hnb hbl hp hz hzq hq
            by_cases hz0 : z < 0
            · have HN : Hid (l.length = res) := by
                have h1 := HK.out; rw [HRM, if_pos hz0] at h1; show _ = _; omega
              clear hzl HRM hnd hlen HK
              go_wp2_with fail
              rw [HE.out]
              refine (HP.out _).mono ?_
              rintro e w' ⟨rfl, rfl⟩
              go_wp2_with fail
              rw [HE.out]
              refine (HQ.out _).mono ?_
              rintro e w' ⟨rfl, rfl⟩
              go_wp2_with fail
              go_ret
              exact ⟨ret_int (by rw [← HN.out]), rfl⟩
            · obtain ⟨hz1, hz2⟩ := hzl (by omega)
              obtain ⟨j, rfl⟩ : ∃ j : Nat, z = j := ⟨z.toNat, by omega⟩
              have HN : Hid ((k + j) + skipF false (l.drop (k + j)) = res) := by
                have h1 := HK.out; rw [HRM, if_neg hz0, show (j : Int).toNat = j from rfl, hnd] at h1; show _ = _; omega
              have hj1 : (1 : Int) ≤ j := by omega
              have hj2 : (k : Int) + j ≤ l.length := by omega
              clear hzl HRM hnd hlen HK hz0
              go_wp2_with fail
              rw [HE.out]
              refine (HP.out _).mono ?_
              rintro e w' ⟨rfl, rfl⟩
              go_wp2_with fail
              rw [HE.out]
              refine (HQ.out _).mono ?_
              rintro e w' ⟨rfl, rfl⟩
              go_wp2_with fail
              go_round
              case rel => exact ⟨k + j, by omega, by go_num, HN⟩
              case measure => simp [intOf]; omega
          · rw [decide_eq_false hp] at HP
            have HN : Hid (k = res) := by
              have h1 := HK.out; have h2 := HSF.out; rw [if_neg hbl, if_neg (fun x => hp x.2)] at h2; show _ = _; omega
            clear hc hd hdd HSF hnb hbl hp HK
            go_wp2_with fail
            rw [HE.out]
            refine (HP.out _).mono ?_
            rintro e w' ⟨rfl, rfl⟩
            go_wp2_with fail
            go_ret
            exact ⟨ret_int (by rw [← HN.out]), rfl⟩
        · have n5 : ((c.toNat : Int) == 45) = false := hnb 45 h45
          have HN : Hid (k = res) := by
            have h1 := HK.out; have h2 := HSF.out; rw [if_neg hbl, if_neg (fun x => h45 x.1)] at h2; show _ = _; omega
          clear hc hd hdd HSF hnb hbl h45 HK
          go_wp2_with fail
          go_ret
          exact ⟨ret_int (by rw [← HN.out]), rfl⟩
    · have HN : Hid (k = res) := by
        have h1 := HK.out; rw [List.drop_of_length_le (by omega), skip_nil] at h1; exact h1
      go_wp2_with fail
      go_ret
      exact ⟨ret_int (by rw [← HN.out]), rfl⟩
end Go.Proofs.Ytonpiacpgfibpaa.Lex
