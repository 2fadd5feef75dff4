/- lex: plain, Reserved, Name: what they answer. -/
import Derived.Test.YtonpiacpgfibpaaLexW
import Derived.Test.YtonpiacpgfibpaaKitW
namespace Go.Proofs.Ytonpiacpgfibpaa.Lex
set_option linter.unusedVariables false
set_option linter.unusedSimpArgs false
open Go.RowKit
open Oct (S S_size S_data)
open Lib (indexByte)
theorem decode_high (s : ByteArray) (pos : Nat) (h : pos < s.size) (ha : ¬ (s[pos]'h).toNat < 128) : 128 ≤ (Utf8.decode s pos).1 := by
  have e : s.get! pos = s[pos]'h := by
    simp [ByteArray.get!, getElem!_pos, h]
    rfl
  rw [Lib.decode_at, e]
  unfold Lib.decodeN
  rw [if_neg ha]
  split
  · split
    · assumption
    · decide
  · split
    · split
      · rename_i hh; exact Nat.le_trans (by decide) hh.1
      · decide
    · split
      · split
        · rename_i hh; exact Nat.le_trans (by decide) hh.1
        · decide
      · decide
def itPos (w : World) (k : Nat) : Nat := match w.heap[k]? with | some (.stringIter _ p) => p | _ => 0
theorem itPos_of {w : World} {k : Nat} {s : ByteArray} {p : Nat} (h : w.heap[k]? = some (.stringIter s p)) : itPos w k = p := by simp [itPos, h]
/-- May this byte stand here in a name? -/
def okAt (l : List UInt8) (j : Nat) : Prop := ∀ h : j < l.length, (nameB l[j] || (decide (0 < j) && digB l[j])) = true
theorem plain_iff (l : List UInt8) : plainL l = true ↔ l ≠ [] ∧ ∀ j, j < l.length → okAt l j := by
  cases l with
  | nil => simp [plainL]
  | cons c r =>
    rw [plainL, Bool.and_eq_true, List.all_eq_true]
    constructor
    · rintro ⟨h1, h2⟩
      refine ⟨by simp, fun j hj h => ?_⟩
      cases j with
      | zero => simp [h1]
      | succ j =>
        have hj2 : j < r.length := by simpa using hj
        have := h2 r[j] (List.getElem_mem hj2)
        simpa using this
    · rintro ⟨_, h⟩
      have h0 := h 0 (by simp) (by simp)
      refine ⟨by simpa using h0, fun x hx => ?_⟩
      obtain ⟨j, hj, rfl⟩ := List.getElem_of_mem hx
      have := h (j + 1) (by simpa using hj) (by simpa using hj)
      simpa using this
theorem not_plain {l : List UInt8} {j : Nat} (h : j < l.length) (hn : ¬ okAt l j) : plainL l = false := by
  cases hp : plainL l with
  | false => rfl
  | true => exact (hn (((plain_iff l).1 hp).2 j h)).elim
theorem name_nat (c : UInt8) : nameB c = (decide (97 ≤ c.toNat) && decide (c.toNat ≤ 122) || decide (c.toNat = 95)) := by
  have e : (c == 95) = decide (c.toNat = 95) := by
    rw [Bool.eq_iff_iff, beq_iff_eq, decide_eq_true_iff, ← UInt8.toNat_inj]; rfl
  rw [nameB, lowB, e]
theorem dig_nat (c : UInt8) : digB c = (decide (48 ≤ c.toNat) && decide (c.toNat ≤ 57)) := rfl
set_option maxHeartbeats 4000000 in
theorem plain_any (l : List UInt8) (w : World) : Calls Try.prog 38 #[.string (S l)] w (Ret (.bool (plainL l)) w) := by
  have hszl := S_size l
  obtain ⟨s, hs⟩ : ∃ s, S l = s := ⟨_, rfl⟩
  have hat : ∀ j (h : j < s.size) (h2 : j < l.length), s[j]'h = l[j] := fun j h h2 => by subst hs; exact S_at l j h2 h
  have HL : Hid (s.toList = l) := by show _ = _; subst hs; rw [ByteArray.toList_eq]
  rw [hs] at hszl ⊢
  have HSZ := Lib.hid hszl
  have HAT := Lib.hid hat
  clear hs hszl hat
  go_enter Try.func38, Try.ntmps38
  go_wp2_with fail
  go_loopw [3, 4] (fun x y wx => ∃ pos : Nat, wx.heap[w.heap.size]? = some (.stringIter s pos) ∧ Below w.heap.size w wx ∧ Hid (∀ j, j < pos → okAt l j)) (fun _ _ wx => s.size - itPos wx w.heap.size)
  case atStart => exact ⟨0, World.iter_heap w s 0, (Below.refl _ w).alloc (Nat.le_refl _) _, fun j h => by omega⟩
  case round =>
    obtain ⟨pos, hit, hbw, HP⟩ := hrel
    rw [itPos_of hit]
    by_cases hps : pos < s.size
    · have hnx : ∀ ty, (Instr.next (.pointer (some ⟨w.heap.size, 0, none⟩)) true ty).run Try.prog wr = _ := fun ty => Lib.run_next_any_at wr w.heap.size s pos ty hit hps
      have hpl : pos < l.length := by rw [← HSZ.out]; exact hps
      obtain ⟨c, hc⟩ : ∃ c, l[pos] = c := ⟨_, rfl⟩
      have hsc : s[pos]'hps = c := by rw [HAT.out pos hps hpl, hc]
      have hRc : ((Utf8.decode s pos).1 = c.toNat ∧ (Utf8.decode s pos).2 = 1) ∨ (128 ≤ (Utf8.decode s pos).1 ∧ 128 ≤ c.toNat) := by
        by_cases h1 : c.toNat < 128
        · left
          have := decode_ascii s pos hps (by rw [hsc]; exact h1)
          rw [this, hsc]
          exact ⟨rfl, rfl⟩
        · right
          exact ⟨decode_high s pos hps (by rw [hsc]; exact h1), by omega⟩
      obtain ⟨R, hR⟩ : ∃ R, (Utf8.decode s pos).1 = R := ⟨_, rfl⟩
      obtain ⟨K, hK⟩ : ∃ K, (Utf8.decode s pos).2 = K := ⟨_, rfl⟩
      rw [hR, hK] at hnx hRc
      have hit2 := Lib.iterAt_heap wr w.heap.size s pos (pos + K) hit
      have hbw2 := Lib.below_iterAt hbw (k := w.heap.size) (Nat.le_refl _) s (pos + K)
      obtain ⟨W, hWd⟩ : ∃ W, wr.iterAt w.heap.size s (pos + K) = W := ⟨_, rfl⟩
      rw [hWd] at hnx hit2 hbw2
      have HO : Hid (okAt l pos ↔ (97 ≤ c.toNat ∧ c.toNat ≤ 122 ∨ c.toNat = 95) ∨ (0 < pos ∧ 48 ≤ c.toNat ∧ c.toNat ≤ 57)) := by
        show _ ↔ _
        unfold okAt
        rw [← hc]
        constructor
        · intro h
          have := h hpl
          rw [name_nat, dig_nat] at this
          simpa using this
        · intro h _
          rw [name_nat, dig_nat]
          simpa using h
      have HNX : Hid (okAt l pos → ∀ j, j < pos + 1 → okAt l j) := fun h j hj => by
        by_cases e : j = pos
        · subst e; exact h
        · exact HP.out j (by omega)
      have HNO : Hid (¬ okAt l pos → plainL l = false) := fun h => not_plain hpl h
      have HH := Lib.hid hRc
      clear hR hK hRc hc hsc hWd
      have HPL := Lib.hid hpl
      clear hpl
      by_cases hg : (97 : Int) ≤ (R : Int)
      · by_cases hg2 : (R : Int) ≤ 122
        · have HK1 : Hid (1 = K ∧ R = c.toNat) := by show _ ∧ _; have := HH.out; omega
          have HN : Hid (∀ j, j < pos + K → okAt l j) := by rw [← HK1.out.1]; exact HNX.out (HO.out.2 (by have := HK1.out; omega))
          clear HO HNX HNO HH
          go_wp2_with fail
          go_roundw
          case measure => rw [itPos_of hit2]; have := HK1.out; omega
          case rel => exact ⟨pos + K, hit2, hbw2, HN⟩
        · have HN : Hid (plainL l = false) := HNO.out fun h => by have := HO.out.1 h; have := HH.out; omega
          have h95 : ((R : Int) == 95) = false := by simp; omega
          have hg3 : (48 : Int) ≤ R := by omega
          have hg4 : ¬ (R : Int) ≤ 57 := by omega
          clear HO HNX HNO HH
          rw [HN.out]
          by_cases hp0 : pos = 0
          · subst hp0
            go_wp2_with fail
            go_ret
            exact ⟨rfl, hbw2⟩
          · have hp1 : (0 : Int) < pos := by omega
            clear hp0
            go_wp2_with fail
            go_ret
            exact ⟨rfl, hbw2⟩
      · by_cases h5 : (R : Int) = 95
        · have HK1 : Hid (1 = K ∧ R = c.toNat) := by show _ ∧ _; have := HH.out; omega
          have HN : Hid (∀ j, j < pos + K → okAt l j) := by rw [← HK1.out.1]; exact HNX.out (HO.out.2 (by have := HK1.out; omega))
          have h95 : ((R : Int) == 95) = true := by simp [h5]
          clear HO HNX HNO HH h5
          go_wp2_with fail
          go_roundw
          case measure => rw [itPos_of hit2]; have := HK1.out; omega
          case rel => exact ⟨pos + K, hit2, hbw2, HN⟩
        · have h95 : ((R : Int) == 95) = false := by simp [h5]
          by_cases hp0 : pos = 0
          · have HN : Hid (plainL l = false) := HNO.out fun h => by have := HO.out.1 h; have := HH.out; omega
            clear HO HNX HNO HH h5
            rw [HN.out]
            subst hp0
            go_wp2_with fail
            go_ret
            exact ⟨rfl, hbw2⟩
          · have hp1 : (0 : Int) < pos := by omega
            by_cases hg3 : (48 : Int) ≤ R
            · by_cases hg4 : (R : Int) ≤ 57
              · have HK1 : Hid (1 = K ∧ R = c.toNat) := by show _ ∧ _; have := HH.out; omega
                have HN : Hid (∀ j, j < pos + K → okAt l j) := by rw [← HK1.out.1]; exact HNX.out (HO.out.2 (by have := HK1.out; omega))
                clear HO HNX HNO HH h5 hp0
                go_wp2_with fail
                go_roundw
                case measure => rw [itPos_of hit2]; have := HK1.out; omega
                case rel => exact ⟨pos + K, hit2, hbw2, HN⟩
              · have HN : Hid (plainL l = false) := HNO.out fun h => by have := HO.out.1 h; have := HH.out; omega
                clear HO HNX HNO HH h5 hp0
                rw [HN.out]
                go_wp2_with fail
                go_ret
                exact ⟨rfl, hbw2⟩
            · have HN : Hid (plainL l = false) := HNO.out fun h => by have := HO.out.1 h; have := HH.out; omega
              clear HO HNX HNO HH h5 hp0
              rw [HN.out]
              go_wp2_with fail
              go_ret
              exact ⟨rfl, hbw2⟩
    · have hnx : ∀ ty, (Instr.next (.pointer (some ⟨w.heap.size, 0, none⟩)) true ty).run Try.prog wr = _ := fun ty => Lib.run_next_end_at wr w.heap.size s pos ty hit hps
      have HN : Hid (plainL l = !l.isEmpty) := by
        show _ = _
        cases hl : l with
        | nil => rfl
        | cons x y => rw [← hl]; have h1 : plainL l = true := (plain_iff l).2 ⟨by rw [hl]; simp, fun j hj => HP.out j (by have := HSZ.out; omega)⟩
                      rw [h1, hl]; rfl
      have HLL := HL.out
      clear hps
      cases hl : l.isEmpty with
      | true =>
        have he : s.toList = [] := by rw [HLL]; exact List.isEmpty_iff.1 hl
        have HN2 : Hid (plainL l = false) := by show _ = _; rw [HN.out, hl]; rfl
        clear HLL hl
        go_wp2_with fail
        go_ret
        exact ⟨ret_bool (by rw [HN2.out]), hbw⟩
      | false =>
        have he : s.toList.isEmpty = false := by rw [HLL]; exact hl
        have HN2 : Hid (plainL l = true) := by show _ = _; rw [HN.out, hl]; rfl
        clear HLL hl
        go_wp2_with fail
        go_ret
        exact ⟨ret_bool (by rw [HN2.out]), hbw⟩
theorem contains_inf (l a : List UInt8) : Lib.contains l a = infB a l := by
  unfold Lib.contains
  induction l with
  | nil =>
    rw [Lib.index, infB]
    cases a with
    | nil => rfl
    | cons x y => rfl
  | cons b l ih =>
    rw [Lib.index, infB]
    cases h : a.isPrefixOf (b :: l) with
    | true => simp
    | false =>
      rw [← ih]
      have hge := Lib.index_ge l a
      by_cases h1 : Lib.index l a = -1
      · simp [h1]
      · have e : (Lib.index l a == -1) = false := by simpa using h1
        simp only [e, Bool.false_eq_true, if_false, Bool.false_or]
        rw [Bool.eq_iff_iff, decide_eq_true_iff, decide_eq_true_iff]
        omega
/-- What is within the words is of letters and blanks. -/
theorem res_low (w : List UInt8) (h : infB (32 :: (w ++ [32])) allW = true) (h32 : ∀ c ∈ w, c ≠ 32) : w.all lowB = true := by
  obtain ⟨b, c, e⟩ := inf_suffix _ _ h
  have ha : allW.all (fun c => lowB c || c == 32) = true := by decide +kernel
  rw [List.all_eq_true] at ha ⊢
  intro x hx
  have h1 := ha x (by rw [e]; simp [hx])
  have h2 : (x == 32) = false := by simpa using h32 x hx
  rw [h2] at h1
  simpa using h1
theorem idx_neg (w : List UInt8) (c : UInt8) : decide (0 ≤ indexByte w c) = !(w.all fun x => x != c) := by
  induction w with
  | nil => rfl
  | cons x w ih =>
    by_cases h : x = c
    · subst h; rw [idx_cons]; simp
    · have h2 : (x != c) = true := by simpa using h
      rw [List.all_cons, h2, Bool.true_and, ← ih, idx_ne h]
      by_cases h1 : indexByte w c < 0
      · rw [if_pos h1]; simp; omega
      · rw [if_neg h1]; simp; omega
/-- What Reserved answers. -/
theorem res_eq (w : List UInt8) : resB w = (!w.isEmpty && (!decide (0 ≤ indexByte w 32) && infB (32 :: (w ++ [32])) allW)) := by
  rw [idx_neg, Bool.not_not, resB]
  cases h0 : w.isEmpty with
  | true => rfl
  | false =>
    cases h1 : infB (32 :: (w ++ [32])) allW with
    | false => simp
    | true =>
      cases h2 : w.all (fun x => x != 32) with
      | true =>
        have := res_low w h1 (fun c hc => by have := List.all_eq_true.1 h2 c hc; simpa using this)
        rw [this]; rfl
      | false =>
        cases h3 : w.all lowB with
        | false => rfl
        | true =>
          exfalso
          have h4 : w.all (fun x => x != 32) = true := by
            rw [List.all_eq_true] at h3 ⊢
            intro x hx
            have h5 := h3 x hx
            by_cases e : x = 32
            · subst e; revert h5; decide
            · simpa using e
          rw [h2] at h4
          cases h4
theorem S_words : (S allW).data.toList = allW := rfl
set_option maxRecDepth 100000 in
theorem reserved_any (l : List UInt8) (m : Int) (w : World) (hm : w.cell? ⟨0, 0, none⟩ = some (.int .i64 m)) (hl : l.length ≤ 100000) : Calls Try.prog 15 #[.string (S l)] w (Eq1 (.bool (resB l)) w) := by
  have HB := Lib.hid (res_eq l)
  have HC := Lib.hid (fun W => Try.strings_Contains_one (S l) 32 W)
  rw [S_data] at HC
  have HD := Lib.hid (fun W h => Try.strings_Contains (S allW) (S (32 :: (l ++ [32]))) m W (by rw [S_size]; decide +kernel) h)
  rw [S_data, S_data, contains_inf] at HD
  have HM := Lib.hid hm
  have hle : (S l).toList = l := by rw [ByteArray.toList_eq]
  have HCC : Hid ((⟨#[32]⟩ : ByteArray) ++ S l ++ ⟨#[32]⟩ = S (32 :: (l ++ [32]))) := by
    show _ = _
    apply ByteArray.ext
    simp [S]
  have hsz := S_size l
  obtain ⟨b1, hb1⟩ : ∃ b, l.isEmpty = b := ⟨_, rfl⟩
  obtain ⟨b2, hb2⟩ : ∃ b, decide (0 ≤ indexByte l 32) = b := ⟨_, rfl⟩
  obtain ⟨b3, hb3⟩ : ∃ b, infB (32 :: (l ++ [32])) allW = b := ⟨_, rfl⟩
  rw [hb1, hb2, hb3] at HB
  rw [hb2] at HC
  rw [hb3] at HD
  clear hm hb2 hb3
  generalize S (32 :: (l ++ [32])) = q at HD HCC
  generalize S l = s at HC HCC hle hsz ⊢
  have hs1 : s.size ≤ 100000 := by omega
  cases b1 with
  | true =>
    have he : s.toList = [] := by rw [hle]; exact List.isEmpty_iff.1 hb1
    clear hle hb1
    go_enter Try.func15, Try.ntmps15
    go_wp2_with fail
    go_ret
    exact ⟨ret_bool (by rw [HB.out]; rfl), rfl⟩
  | false =>
    have he : s.toList.isEmpty = false := by rw [hle]; exact hb1
    clear hle hb1 hsz
    cases b2 with
    | true =>
      go_enter Try.func15, Try.ntmps15
      go_wp2_with fail
      refine (HC.out _).mono ?_
      rintro e w1 ⟨rfl, rfl⟩
      go_wp2_with fail
      go_ret
      exact ⟨ret_bool (by rw [HB.out]; rfl), rfl⟩
    | false =>
      go_enter Try.func15, Try.ntmps15
      go_wp2_with fail
      refine (HC.out _).mono ?_
      rintro e w1 ⟨rfl, rfl⟩
      go_wp2_with fail
      rw [HCC.out]
      refine (HD.out _ HM.out).mono ?_
      rintro e w2 ⟨rfl, rfl⟩
      go_wp2_with fail
      go_ret
      exact ⟨ret_bool (by rw [HB.out]; rfl), rfl⟩
theorem name_any (l : List UInt8) (m : Int) (w : World) (hm : w.cell? ⟨0, 0, none⟩ = some (.int .i64 m)) (hl : l.length ≤ 100000) : Calls Try.prog 17 #[.string (S l)] w (Ret (.bool (isName l)) w) := by
  have HP := Lib.hid (fun W => plain_any l W)
  have HR := Lib.hid (fun W h => reserved_any l m W h hl)
  have HI : Hid (isName l = (plainL l && decide (l.length ≤ 20) && !resB l)) := rfl
  have hsz := S_size l
  have HM := Lib.hid hm
  generalize S l = s at *
  generalize plainL l = b1 at *
  generalize resB l = b2 at *
  clear hm
  cases b1 with
  | false =>
    go_enter Try.func17, Try.ntmps17
    go_wp2_with fail
    refine (HP.out _).mono ?_
    rintro e w1 ⟨rfl, hb1⟩
    go_wp2_with fail
    go_ret
    exact ⟨ret_bool (by rw [HI.out]; simp), hb1⟩
  | true =>
    by_cases h20 : l.length ≤ 20
    · go_enter Try.func17, Try.ntmps17
      go_wp2_with fail
      refine (HP.out _).mono ?_
      rintro e w1 ⟨rfl, hb1⟩
      go_wp2_with fail
      refine (HR.out _ (cell_below HM.out hb1)).mono ?_
      rintro e w2 ⟨rfl, rfl⟩
      go_wp2_with fail
      go_ret
      exact ⟨ret_bool (by rw [HI.out]; simp [h20]), hb1⟩
    · go_enter Try.func17, Try.ntmps17
      go_wp2_with fail
      refine (HP.out _).mono ?_
      rintro e w1 ⟨rfl, hb1⟩
      go_wp2_with fail
      go_ret
      exact ⟨ret_bool (by rw [HI.out]; simp [h20]), hb1⟩
end Go.Proofs.Ytonpiacpgfibpaa.Lex
