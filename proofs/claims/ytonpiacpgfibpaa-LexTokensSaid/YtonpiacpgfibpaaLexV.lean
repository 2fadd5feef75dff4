/- The reference's Reserved, Name. -/
import Derived.Test.YtonpiacpgfibpaaLexR
namespace Go.Proofs.Ytonpiacpgfibpaa.Lex
set_option linter.unusedVariables false
set_option linter.unusedSimpArgs false
open Go.RowKit
open Oct (S S_size S_data)
theorem allW_len : allW.length = 379 := by decide +kernel
theorem inf_short (a l : List UInt8) (h : l.length < a.length) : infB a l = false := by
  induction l with
  | nil =>
    rw [infB]
    cases a with
    | nil => simp at h
    | cons x y => rfl
  | cons x r ih =>
    rw [infB, ih (by simp at h; omega), Bool.or_false]
    cases hp : a.isPrefixOf (x :: r) with
    | false => rfl
    | true =>
      have := (List.isPrefixOf_iff_prefix.1 hp).length_le
      simp at h this
      omega
theorem inf_step (a l : List UInt8) (i : Nat) (h : i < l.length) : infB a (l.drop i) = (a.isPrefixOf (l.drop i) || infB a (l.drop (i + 1))) := by
  rw [List.drop_eq_getElem_cons h, infB]
theorem pre_eq (a l : List UInt8) (i : Nat) (h : i + a.length ≤ l.length) : ((S l).extract i (i + a.length)).toList == (S a).toList ↔ a.isPrefixOf (l.drop i) = true := by
  rw [S_cut l i (i + a.length) h, ByteArray.toList_eq, ByteArray.toList_eq, S_data, S_data, beq_iff_eq, List.isPrefixOf_iff_prefix, List.prefix_iff_eq_take]
  have e : i + a.length - i = a.length := by omega
  rw [e]
  exact eq_comm
theorem low_all_snoc (l : List UInt8) (i : Nat) (h : ∀ j (hj : j < l.length), j < i → lowB l[j] = true) (hi : l.length ≤ i) : l.all lowB = true := by
  rw [List.all_eq_true]
  intro c hc
  obtain ⟨j, hj, rfl⟩ := List.getElem_of_mem hc
  exact h j hj (by omega)
theorem low_not (l : List UInt8) (i : Nat) (h : i < l.length) (hn : lowB l[i] = false) : l.all lowB = false := by
  cases hl : l.all lowB with
  | false => rfl
  | true =>
    have := List.all_eq_true.1 hl l[i] (List.getElem_mem h)
    rw [hn] at this
    cases this
/-- A text is assigned. -/
theorem wpList_assignS {P : Program} {w : World} {ops : Array Oper} {rest : List Oper} {a : Act} {Q : Exit → Act → World → Prop} {d : Option Tmp} {x : Operand} {ty : TypeId} {p : String} {af : Array Edge}
    (hh : ∃ s : ByteArray, a.eval x = .string s ∧ wpList P ops Q rest (a.put d (.string s)) w) :
    wpList P ops Q (⟨d, .assign x, ty, p, af, none⟩ :: rest) a w := by
  obtain ⟨s, hx, h⟩ := hh
  refine wpList_plain rfl fun K hK' => ?_
  unfold Oper.wp
  simp only [execOp, hx]
  simp [Result.andThen, Oper.upon]
  exact hK' _ _ h
set_option maxHeartbeats 8000000 in
set_option maxRecDepth 100000 in
theorem rreserved_any (l : List UInt8) (w : World) (hl : l.length ≤ 100000) : Calls Try.prog 16 #[.string (S l)] w (Eq1 (.bool (resB l)) w) := by
  have hsz := S_size l
  obtain ⟨rb, hrb⟩ : ∃ b, resB l = b := ⟨_, rfl⟩
  have HRB := Lib.hid hrb
  have HR : Hid (resB l = (!l.isEmpty && l.all lowB && infB (32 :: (l ++ [32])) allW)) := rfl
  rw [hrb]
  clear hrb
  obtain ⟨aw, haw⟩ : ∃ aw, aw = S allW := ⟨_, rfl⟩
  have HAW := Lib.hid haw
  clear haw
  go_enter Try.func16, Try.ntmps16
  go_wp2_with ((with_reducible refine wpList_assignS ?_); refine ⟨aw, (by rw [HAW.out]; kernel_rfl), ?_⟩)
  go_loop [4] (fun iv => ∃ (i : Nat), iv = .int .i64 (i : Int) ∧ i ≤ l.length ∧ Hid (∀ j (hj : j < l.length), j < i → lowB l[j] = true)) (fun iv => l.length - (intOf iv).toNat)
  case atStart => exact ⟨0, rfl, Nat.zero_le _, fun j hj h => by omega⟩
  case round =>
    obtain ⟨i, rfl, hi, HP⟩ := hrel
    by_cases hlt : i < l.length
    · have hc0 : i < (S l).size := by omega
      have hce : (((S l)[i]'hc0).toNat : Int) = (l[i]).toNat := by rw [S_at l i hlt]
      have hln := low_not l i hlt
      have hnx : lowB l[i] = true → ∀ j (hj : j < l.length), j < i + 1 → lowB l[j] = true := fun h j hj hji => by
        by_cases e : j = i
        · subst e; exact h
        · exact HP.out j hj (by omega)
      obtain ⟨c, hc⟩ : ∃ c, l[i] = c := ⟨_, rfl⟩
      rw [hc] at hce hln hnx
      have hlow : lowB c = (decide (97 ≤ c.toNat) && decide (c.toNat ≤ 122)) := rfl
      have hi0 : (0 : Int) ≤ i := by omega
      have hi1 : (i : Int) < l.length := by omega
      have HLN := Lib.hid hln
      have HNX := Lib.hid hnx
      have HLOW := Lib.hid hlow
      clear hln hnx hlow hc
      by_cases h1 : (97 : Int) ≤ c.toNat
      · by_cases h2 : (c.toNat : Int) ≤ 122
        · have HN := Lib.hid (HNX.out (by rw [HLOW.out]; simp; omega))
          clear HLN HNX HLOW
          go_wp2_with fail
          go_round
          case rel => exact ⟨i + 1, by go_num, by omega, HN⟩
          case measure => simp [intOf]; omega
        · have HF : Hid (rb = false) := by show _ = _; rw [← HRB.out, HR.out, HLN.out (by rw [HLOW.out]; simp; omega)]; simp
          clear HLN HNX HLOW HRB HR
          go_wp2_with fail
          go_ret
          exact ⟨ret_bool HF.out, rfl⟩
      · have HF : Hid (rb = false) := by show _ = _; rw [← HRB.out, HR.out, HLN.out (by rw [HLOW.out]; simp; omega)]; simp
        clear HLN HNX HLOW HRB HR
        go_wp2_with fail
        go_ret
        exact ⟨ret_bool HF.out, rfl⟩
    · have HALL := Lib.hid (low_all_snoc l i HP.out (by omega))
      have hlt2 : ¬ i < l.length := hlt
      have hawz : aw.size = allW.length := by rw [HAW.out]; exact S_size _
      rw [allW_len] at hawz
      clear HP
      go_wp2_with fail
      rw [show (⟨#[32, 97, 108, 108, 32, 97, 110, 97, 108, 121, 122, 101, 32, 97, 110, 100, 32, 97, 115, 32, 97, 115, 99, 32, 98, 101, 103, 105, 110, 32, 98, 101, 116, 119, 101, 101, 110, 32, 98, 111, 111, 108, 32, 98, 121, 32, 99, 97, 115, 101, 32, 99, 104, 101, 99, 107, 32, 99, 104, 101, 99, 107, 112, 111, 105, 110, 116, 32, 99, 111, 109, 109, 105, 116, 32, 99, 114, 101, 97, 116, 101, 32, 99, 114, 111, 115, 115, 32, 100, 101, 108, 101, 116, 101, 32, 100, 101, 115, 99, 32, 100, 105, 115, 116, 105, 110, 99, 116, 32, 100, 114, 111, 112, 32, 101, 108, 115, 101, 32, 101, 110, 100, 32, 101, 120, 99, 101, 112, 116, 32, 101, 120, 105, 115, 116, 115, 32, 101, 120, 112, 108, 97, 105, 110, 32, 102, 97, 108, 115, 101, 32, 102, 111, 114, 101, 105, 103, 110, 32, 102, 114, 111, 109, 32, 103, 114, 111, 117, 112, 32, 104, 97, 118, 105, 110, 103, 32, 105, 110, 32, 105, 110, 100, 101, 120, 32, 105, 110, 110, 101, 114, 32, 105, 110, 115, 101, 114, 116, 32, 105, 110, 116, 32, 105, 110, 116, 101, 114, 115, 101, 99, 116, 32, 105, 110, 116, 111, 32, 105, 115, 32, 106, 111, 105, 110, 32, 107, 101, 121, 32, 108, 101, 102, 116, 32, 108, 105, 107, 101, 32, 108, 105, 109, 105, 116, 32, 110, 111, 116, 32, 110, 117, 108, 108, 32, 111, 102, 102, 115, 101, 116, 32, 111, 110, 32, 111, 114, 32, 111, 114, 100, 101, 114, 32, 112, 114, 105, 109, 97, 114, 121, 32, 114, 101, 102, 101, 114, 101, 110, 99, 101, 115, 32, 114, 111, 108, 108, 98, 97, 99, 107, 32, 115, 101, 108, 101, 99, 116, 32, 115, 101, 116, 32, 116, 97, 98, 108, 101, 32, 116, 101, 120, 116, 32, 116, 104, 101, 110, 32, 116, 114, 117, 101, 32, 117, 110, 105, 111, 110, 32, 117, 110, 105, 113, 117, 101, 32, 117, 112, 100, 97, 116, 101, 32, 118, 97, 99, 117, 117, 109, 32, 118, 97, 108, 117, 101, 115, 32, 119, 104, 101, 110, 32, 119, 104, 101, 114, 101, 32]⟩ : ByteArray) = aw from by rw [HAW.out]; kernel_rfl]
      have HIS := Lib.hid (fun i h => inf_step (32 :: (l ++ [32])) allW i h)
      have HIT := Lib.hid (fun i h => inf_short (32 :: (l ++ [32])) (allW.drop i) h)
      have HPE := Lib.hid (fun i h => pre_eq (32 :: (l ++ [32])) allW i h)
      have HCC : Hid ((⟨#[32]⟩ : ByteArray) ++ S l ++ ⟨#[32]⟩ = S (32 :: (l ++ [32]))) := by
        show _ = _
        apply ByteArray.ext
        simp [S]
      have HLA : Hid ((32 :: (l ++ [32])).length = l.length + 2) := by show _ = _; simp
      by_cases h0 : l.length = 0
      · have HF : Hid (rb = false) := by
          show _ = _
          rw [← HRB.out, HR.out, List.length_eq_zero_iff.1 h0]
          rfl
        clear HRB HR HALL HIS HIT HPE HCC HLA
        go_loop [5] (fun iv => ∃ (j : Nat), iv = .int .i64 (j : Int) ∧ j ≤ 379) (fun iv => 379 - (intOf iv).toNat)
        case atStart => exact ⟨0, rfl, Nat.zero_le _⟩
        case round =>
          obtain ⟨j, rfl, hj⟩ := hrel
          by_cases hx : j + l.length + 2 ≤ 379
          · go_wp2_with fail
            go_round
            case rel => exact ⟨j + 1, by go_num, by omega⟩
            case measure => simp [intOf]; omega
          · go_wp2_with fail
            go_ret
            exact ⟨ret_bool HF.out, rfl⟩
      · have HEQ : Hid (rb = infB (32 :: (l ++ [32])) allW) := by
          show _ = _
          rw [← HRB.out, HR.out, HALL.out]
          cases l with
          | nil => simp at h0
          | cons x y => rfl
        have hpos : 0 < l.length := by omega
        clear HRB HR HALL
        go_loop [5] (fun iv => ∃ (j : Nat), iv = .int .i64 (j : Int) ∧ j ≤ 379 ∧ Hid (rb = infB (32 :: (l ++ [32])) (allW.drop j))) (fun iv => 379 - (intOf iv).toNat)
        case atStart => exact ⟨0, rfl, Nat.zero_le _, HEQ.out⟩
        case round =>
          obtain ⟨j, rfl, hj, HJ⟩ := hrel
          by_cases hx : j + l.length + 2 ≤ 379
          · have hjz : j < allW.length := by rw [allW_len]; omega
            have HST := Lib.hid (HIS.out j hjz)
            have ht : ((aw.extract j (j + l.length + 2)).toList == (({ data := #[32] } : ByteArray) ++ S l ++ { data := #[32] }).toList) = (32 :: (l ++ [32])).isPrefixOf (allW.drop j) := by
              have h1 := HPE.out j (by rw [HLA.out, allW_len]; omega)
              rw [HLA.out, ← HAW.out, ← HCC.out, ← Nat.add_assoc] at h1
              exact Bool.eq_iff_iff.2 h1
            obtain ⟨pb, hpb⟩ : ∃ b, (32 :: (l ++ [32])).isPrefixOf (allW.drop j) = b := ⟨_, rfl⟩
            rw [hpb] at ht
            have HPB := Lib.hid hpb
            clear hpb HPE HIT HIS HCC HLA HEQ
            cases pb with
            | true =>
              have HF : Hid (rb = true) := by show _ = _; rw [HJ.out, HST.out, HPB.out, Bool.true_or]
              clear HJ HST HPB
              go_wp2_with fail
              go_ret
              exact ⟨ret_bool HF.out, rfl⟩
            | false =>
              have HF : Hid (rb = infB (32 :: (l ++ [32])) (allW.drop (j + 1))) := by show _ = _; rw [HJ.out, HST.out, HPB.out, Bool.false_or]
              clear HJ HST HPB
              go_wp2_with fail
              go_round
              case rel => exact ⟨j + 1, by go_num, by omega, HF⟩
              case measure => simp [intOf]; omega
          · have HF : Hid (rb = false) := by
              show _ = _
              rw [HJ.out]
              apply HIT.out
              rw [List.length_drop, HLA.out, allW_len]
              omega
            go_wp2_with fail
            go_ret
            exact ⟨ret_bool HF.out, rfl⟩
theorem rname_any (l : List UInt8) (w : World) (hl : l.length ≤ 100000) : Calls Try.prog 18 #[.string (S l)] w (Eq1 (.bool (isName l)) w) := by
  have HP := Lib.hid (fun W => rplain_any l W hl)
  have HR := Lib.hid (fun W => rreserved_any l W hl)
  have HI : Hid (isName l = (plainL l && decide (l.length ≤ 20) && !resB l)) := rfl
  have hsz := S_size l
  generalize S l = s at *
  generalize plainL l = b1 at *
  generalize resB l = b2 at *
  cases b1 with
  | false =>
    go_enter Try.func18, Try.ntmps18
    go_wp2_with fail
    refine (HP.out _).mono ?_
    rintro e w1 ⟨rfl, rfl⟩
    go_wp2_with fail
    go_ret
    exact ⟨ret_bool (by rw [HI.out]; simp), rfl⟩
  | true =>
    by_cases h20 : l.length ≤ 20
    · go_enter Try.func18, Try.ntmps18
      go_wp2_with fail
      refine (HP.out _).mono ?_
      rintro e w1 ⟨rfl, rfl⟩
      go_wp2_with fail
      refine (HR.out _).mono ?_
      rintro e w2 ⟨rfl, rfl⟩
      go_wp2_with fail
      go_ret
      exact ⟨ret_bool (by rw [HI.out]; simp [h20]), rfl⟩
    · go_enter Try.func18, Try.ntmps18
      go_wp2_with fail
      refine (HP.out _).mono ?_
      rintro e w1 ⟨rfl, rfl⟩
      go_wp2_with fail
      go_ret
      exact ⟨ret_bool (by rw [HI.out]; simp [h20]), rfl⟩
end Go.Proofs.Ytonpiacpgfibpaa.Lex
