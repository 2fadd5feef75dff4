/- The reference's number, text and take: what they answer. -/
import Derived.Test.YtcboeggfincakaaGetP
import Derived.Test.YtcboeggfincakaaKitW
namespace Go.Proofs.Ytcboeggfincakaa
set_option linter.unusedVariables false
set_option linter.unusedSimpArgs false
open Go.RowKit
open Oct (S beN putL U I getI)
theorem rnumber_any (s : ByteArray) (w : World) (hs : s.size ≤ 8) : Calls Try.prog 56 #[.string s] w (Eq1 (.int .i64 (getI s.data.toList)) w) := by
  obtain ⟨l, HL⟩ : ∃ l, Hid (l = s.data.toList) := ⟨_, rfl⟩
  rw [← HL.out]
  have HN : Hid (l.length = s.size) := by show _ = _; rw [HL.out]; simp
  go_enter Try.func56, Try.ntmps56
  go_wp2_with fail
  go_loop [3, 4] (fun n i => ∃ k : Nat, k ≤ s.size ∧ i = .int .i64 k ∧ n = .int .u64 (beN (l.take k))) (fun _ i => s.size - (intOf i).toNat)
  case atStart => exact ⟨0, Nat.zero_le _, rfl, rfl⟩
  case round =>
    obtain ⟨k, hk, rfl, rfl⟩ := hrel
    by_cases hlt : k < s.size
    · have hkl : k < l.length := by rw [HN.out]; exact hlt
      have hbd : beN (l.take k) < 72057594037927936 := by
        have h1 := Oct.beN_lt (l.take k)
        have h2 : (l.take k).length ≤ 7 := by rw [List.length_take]; omega
        have h3 : 256 ^ (l.take k).length ≤ 256 ^ 7 := Nat.pow_le_pow_right (by omega) h2
        have h4 : 256 ^ 7 = 72057594037927936 := by decide
        omega
      have HS : Hid (beN (l.take (k + 1)) = beN (l.take k) * 256 + (s[k]'hlt).toNat) := by
        show _ = _
        rw [List.take_succ_eq_append_getElem hkl, Oct.beN_snoc]
        have : l[k] = s[k] := by have := HL.out; subst this; simp; rfl
        rw [this]
      have hb2 : (s[k]'hlt).toNat < 256 := UInt8.toNat_lt _
      obtain ⟨m, hm⟩ : ∃ m, beN (l.take k) = m := ⟨_, rfl⟩
      rw [hm] at hbd HS ⊢
      clear hm
      go_wp2
      go_round
      case rel => exact ⟨k + 1, by omega, by go_num, by rw [HS.out]; go_num⟩
      case measure => simp [intOf]; omega
    · have HK : Hid (l.take k = l) := by
        show _ = _
        rw [List.take_of_length_le]; rw [HN.out]; omega
      go_wp2
      go_ret
      exact ⟨ret_int (by rw [HK.out]; rfl), rfl⟩
theorem rstr_any (s : ByteArray) (w : World) : Calls Try.prog 67 #[.string s] w (Ret (.agg #[.int .i64 3, .int .i64 0, .string s]) w) := by
  go_enter Try.func67, Try.ntmps67
  go_wp2_with fail
  exact bodyPost_ret (v := .agg #[.int .i64 3, .int .i64 0, .string s]) (by simp [results, Try.results67, go_sem]) rfl ⟨rfl, (Below.refl _ _).alloc (Nat.le_refl _) _⟩
theorem rnum_any (n : Int) (w : World) : Calls Try.prog 58 #[.int .i64 n] w (Ret (.agg #[.int .i64 2, .int .i64 n, .string ⟨#[]⟩]) w) := by
  go_enter Try.func58, Try.ntmps58
  go_wp2_with fail
  exact bodyPost_ret (v := .agg #[.int .i64 2, .int .i64 n, .string ⟨#[]⟩]) (by simp [results, Try.results58, go_sem]) rfl ⟨rfl, (Below.refl _ _).alloc (Nat.le_refl _) _⟩
theorem rbool_t  (w : World) : Calls Try.prog 55 #[.bool true] w (Ret (.agg #[.int .i64 1, .int .i64 1, .string ⟨#[]⟩]) w) := by
  go_enter Try.func55, Try.ntmps55
  go_wp2_with fail
  exact bodyPost_ret (v := .agg #[.int .i64 1, .int .i64 1, .string ⟨#[]⟩]) (by simp [results, Try.results55, go_sem]) rfl ⟨rfl, (Below.refl _ _).alloc (Nat.le_refl _) _⟩
theorem rbool_f  (w : World) : Calls Try.prog 55 #[.bool false] w (Ret (.agg #[.int .i64 1, .int .i64 0, .string ⟨#[]⟩]) w) := by
  go_enter Try.func55, Try.ntmps55
  go_wp2_with fail
  exact bodyPost_ret (v := .agg #[.int .i64 1, .int .i64 0, .string ⟨#[]⟩]) (by simp [results, Try.results55, go_sem]) rfl ⟨rfl, (Below.refl _ _).alloc (Nat.le_refl _) _⟩
/-- The three results of the reference's text and take. -/
def TkP (r : Except Int (Vl × Nat)) (w : World) : Ending → World → Prop := Ret (.tuple #[(tk r).1.val, .int .i64 (tk r).2.1, .int .i64 (tk r).2.2]) w
theorem rtext_none (s : ByteArray) (a : Nat) (w : World) (hs : s.size ≤ 1000) (ha : a ≤ 2000) (h : ¬ a < s.size) :
    Calls Try.prog 59 #[.string s, .int .i64 a] w (TkP (textR s a) w) := by
  rw [textR, if_neg h]
  have hb0 : Below w.heap.size w (w.alloc (.cells #[.int .i64 0, .int .i64 0, .string ⟨#[]⟩] 49)) := (Below.refl _ _).alloc (Nat.le_refl _) _
  have hge : decide ((s.size : Int) ≤ (a : Int)) = true := decide_eq_true (by omega)
  go_enter Try.func59, Try.ntmps59
  go_wp2_with fail
  exact bodyPost_ret (v := .tuple #[.agg #[.int .i64 0, .int .i64 0, .string ⟨#[]⟩], .int .i64 0, .int .i64 3]) (by simp [results, Try.results59, go_sem]) rfl ⟨rfl, hb0⟩
theorem rtext_big (s : ByteArray) (a : Nat) (w : World) (hs : s.size ≤ 1000) (ha : a ≤ 2000) (h : a < s.size) (h2 : 100 < byteAt s a) :
    Calls Try.prog 59 #[.string s, .int .i64 a] w (TkP (textR s a) w) := by
  rw [textR, if_pos h, if_pos h2]
  have hb0 : Below w.heap.size w (w.alloc (.cells #[.int .i64 0, .int .i64 0, .string ⟨#[]⟩] 49)) := (Below.refl _ _).alloc (Nat.le_refl _) _
  have hge : decide ((s.size : Int) ≤ (a : Int)) = false := decide_eq_false (by omega)
  have HB := Lib.hid (byteAt_eq s a h)
  have hlt : (s[a]'h).toNat < 256 := UInt8.toNat_lt _
  rw [HB.out] at h2
  have hgt : decide ((100 : Int) < ((s[a]'h).toNat : Int)) = true := decide_eq_true (by omega)
  go_enter Try.func59, Try.ntmps59
  go_wp2_with fail
  exact bodyPost_ret (v := .tuple #[.agg #[.int .i64 0, .int .i64 0, .string ⟨#[]⟩], .int .i64 0, .int .i64 2]) (by simp [results, Try.results59, go_sem]) rfl ⟨rfl, hb0⟩
theorem scan_at {s : ByteArray} {n k b : Nat} (hk : k < n) (hb : b < s.size) (h : 32 ≤ (s[b]'hb).toNat ∧ (s[b]'hb).toNat ≤ 126) : scan s (n - k) b = scan s (n - (k + 1)) (b + 1) := by
  rw [show n - k = (n - (k + 1)) + 1 from by omega, scan, if_pos hb, if_pos (by rw [byteAt_eq s b hb]; exact h)]
theorem scan_odd {s : ByteArray} {n k b : Nat} (hk : k < n) (hb : b < s.size) (h : ¬ (32 ≤ (s[b]'hb).toNat ∧ (s[b]'hb).toNat ≤ 126)) : scan s (n - k) b = 2 := by
  rw [show n - k = (n - (k + 1)) + 1 from by omega, scan, if_pos hb, if_neg (by rw [byteAt_eq s b hb]; exact h)]
theorem scan_end {s : ByteArray} {n k b : Nat} (hk : k < n) (hb : ¬ b < s.size) : scan s (n - k) b = 3 := by
  rw [show n - k = (n - (k + 1)) + 1 from by omega, scan, if_neg hb]
theorem rtext_loop (s : ByteArray) (a : Nat) (w : World) (hs : s.size ≤ 1000) (ha : a ≤ 2000) (h : a < s.size) (h2 : byteAt s a ≤ 100) :
    Calls Try.prog 59 #[.string s, .int .i64 a] w (TkP (textR s a) w) := by
  have HT : Hid (∀ e, e ≠ 0 → scan s (byteAt s a) (a + 1) = e → textR s a = .error e) := fun e he h3 => by rw [textR, if_pos h, if_neg (by omega), if_neg (by rw [h3]; exact he), h3]
  have HT0 : Hid (scan s (byteAt s a) (a + 1) = 0 → textR s a = .ok (⟨3, 0, s.extract (a + 1) (a + 1 + byteAt s a)⟩, a + 1 + byteAt s a)) := fun h3 => by rw [textR, if_pos h, if_neg (by omega), if_pos h3]
  have HL : Hid (scan s (byteAt s a) (a + 1) = 0 → a + 1 + byteAt s a ≤ s.size) := fun h3 => by rcases scan_len h3 with h4 | h4 <;> omega
  have hb0 : Below w.heap.size w (w.alloc (.cells #[.int .i64 0, .int .i64 0, .string ⟨#[]⟩] 49)) := (Below.refl _ _).alloc (Nat.le_refl _) _
  have hge : decide ((s.size : Int) ≤ (a : Int)) = false := decide_eq_false (by omega)
  have hge2 : decide (s.size ≤ a) = false := decide_eq_false (by omega)
  have HB := Lib.hid (byteAt_eq s a h)
  rw [HB.out] at h2 HT HT0 HL
  obtain ⟨n, HN⟩ : ∃ n, Hid ((s[a]'h).toNat = n) := ⟨_, rfl⟩
  rw [HN.out] at h2 HT HT0 HL
  clear HB
  have hwr : (s[a]'h).toNat ≤ 100 := by rw [HN.out]; exact h2
  go_enter Try.func59, Try.ntmps59
  go_wp2_with fail
  rw [HN.out]
  go_loopw [8] (fun v wr => ∃ i : Nat, 1 ≤ i ∧ i ≤ n + 1 ∧ v = .int .i64 i ∧ wr = w.alloc (.cells #[.int .i64 0, .int .i64 0, .string ⟨#[]⟩] 49) ∧ Hid (scan s n (a + 1) = scan s (n + 1 - i) (a + i))) (fun i _ => n + 1 - (intOf i).toNat)
  case atStart => exact ⟨1, Nat.le_refl _, by omega, rfl, rfl, rfl⟩
  case round =>
    obtain ⟨i, hi1, hin, rfl, rfl, HS⟩ := hrel
    by_cases hkn : i ≤ n
    · obtain ⟨m, HM⟩ : ∃ m, Hid (n + 1 - i = m + 1) := ⟨n - i, by show _ = _; omega⟩
      rw [HM.out] at HS
      by_cases hb : a + i < s.size
      · have hbl : decide ((s.size : Int) ≤ (a : Int) + (i : Int)) = false := decide_eq_false (by omega)
        have hbyte := byteAt_eq s (a + i) hb
        have HB := Lib.hid hbyte
        clear hbyte
        by_cases hp : 32 ≤ (s[a + i]'hb).toNat ∧ (s[a + i]'hb).toNat ≤ 126
        · have HS2 : Hid (scan s n (a + 1) = scan s (n + 1 - (i + 1)) (a + (i + 1))) := by
            show _ = _
            rw [HS.out, scan, if_pos hb, if_pos (by rw [HB.out]; exact hp)]
            have := HM.out
            congr 1
            omega
          obtain ⟨hp1, hp2⟩ := hp
          go_wp2_with fail
          go_roundw
          case rel => exact ⟨i + 1, by omega, by omega, by go_num, trivial, HS2⟩
          case measure => simp [intOf]; omega
        · have HE : Hid (textR s a = .error 2) := by
            refine HT.out 2 (by decide) ?_
            rw [HS.out, scan, if_pos hb, if_neg (by rw [HB.out]; exact hp)]
          by_cases hp1 : 32 ≤ (s[a + i]'hb).toNat
          · have hp2 : 126 < (s[a + i]'hb).toNat := by omega
            clear hp
            go_wp2_with fail
            exact bodyPost_ret (v := .tuple #[.agg #[.int .i64 0, .int .i64 0, .string ⟨#[]⟩], .int .i64 0, .int .i64 2]) (by simp [results, Try.results59, go_sem]) rfl ⟨by rw [HE.out]; rfl, hb0⟩
          · have hp2 : (s[a + i]'hb).toNat < 32 := by omega
            clear hp
            go_wp2_with fail
            exact bodyPost_ret (v := .tuple #[.agg #[.int .i64 0, .int .i64 0, .string ⟨#[]⟩], .int .i64 0, .int .i64 2]) (by simp [results, Try.results59, go_sem]) rfl ⟨by rw [HE.out]; rfl, hb0⟩
      · have hbl : decide ((s.size : Int) ≤ (a : Int) + (i : Int)) = true := decide_eq_true (by omega)
        have HE : Hid (textR s a = .error 3) := by
          refine HT.out 3 (by decide) ?_
          rw [HS.out, scan, if_neg hb]
        go_wp2_with fail
        exact bodyPost_ret (v := .tuple #[.agg #[.int .i64 0, .int .i64 0, .string ⟨#[]⟩], .int .i64 0, .int .i64 3]) (by simp [results, Try.results59, go_sem]) rfl ⟨by rw [HE.out]; rfl, hb0⟩
    · have hi2 : i = n + 1 := by omega
      subst hi2
      rw [Nat.sub_self, scan] at HS
      have HE := Lib.hid (HT0.out HS.out)
      have hle := HL.out HS.out
      obtain ⟨q, HQ⟩ : ∃ q, Hid (s.extract (a + 1) (a + 1 + n) = q) := ⟨_, rfl⟩
      have hR := Blk.new w #[.int .i64 0, .int .i64 0, .string ⟨#[]⟩] 49
      go_wp2_with fail
      rw [HQ.out]
      refine (rstr_any q _).mono ?_
      rintro x w1 ⟨rfl, hb1⟩
      replace hR := hR.below hb1
      replace hb1 := hb0.next hb1
      obtain ⟨c0, c1, c2, f0, f1, f2⟩ := hR.val
      go_wp2_with fail
      have hF : Blk _ _ #[.int .i64 3, .int .i64 0, .string q] 49 := ((hR.set 0 (.int .i64 3)).set 1 (.int .i64 0)).set 2 (.string q)
      obtain ⟨z0, z1, z2, _, _, _⟩ := hF.val
      refine bodyPost_ret (v := .tuple #[.agg #[.int .i64 3, .int .i64 0, .string q], .int .i64 ((a : Int) + 1 + n), .int .i64 0]) (by simp [results, Try.results59, go_sem, z0, z1, z2]) rfl ⟨?_, ((hb1.setCell (Nat.le_refl _) _).setCell (Nat.le_refl _) _).setCell (Nat.le_refl _) _⟩
      rw [HE.out]
      show _ = Ending.returned (.tuple #[.agg #[.int .i64 3, .int .i64 0, .string (s.extract (a + 1) (a + 1 + n))], .int .i64 ((a + 1 + n : Nat) : Int), .int .i64 0])
      rw [HQ.out]
      simp
theorem rtext_any (s : ByteArray) (a : Nat) (w : World) (hs : s.size ≤ 1000) (ha : a ≤ 2000) :
    Calls Try.prog 59 #[.string s, .int .i64 a] w (TkP (textR s a) w) := by
  by_cases h : a < s.size
  · by_cases h2 : 100 < byteAt s a
    · exact rtext_big s a w hs ha h h2
    · exact rtext_loop s a w hs ha h (by omega)
  · exact rtext_none s a w hs ha h
theorem byte_is {s : ByteArray} {a : Nat} {k : Nat} (h : a < s.size) (hk : byteAt s a = k) : (s[a]'h).toNat = k := by rw [← byteAt_eq s a h, hk]
theorem no_val : noVl.val = .agg #[.int .i64 0, .int .i64 0, .string ⟨#[]⟩] := rfl
theorem rtake_none (s : ByteArray) (a : Nat) (w : World) (hs : s.size ≤ 1000) (ha : a ≤ 2000) (h : ¬ a < s.size) :
    Calls Try.prog 43 #[.string s, .int .i64 a] w (TkP (takeR s a) w) := by
  rw [takeR, if_neg h]
  have hb0 : Below w.heap.size w (w.alloc (.cells #[.int .i64 0, .int .i64 0, .string ⟨#[]⟩] 49)) := (Below.refl _ _).alloc (Nat.le_refl _) _
  have hge : decide ((s.size : Int) ≤ (a : Int)) = true := decide_eq_true (by omega)
  go_enter Try.func43, Try.ntmps43
  go_wp2_with fail
  exact bodyPost_ret (v := .tuple #[.agg #[.int .i64 0, .int .i64 0, .string ⟨#[]⟩], .int .i64 0, .int .i64 3]) (by simp [results, Try.results43, go_sem]) rfl ⟨rfl, hb0⟩
theorem rtake_0 (s : ByteArray) (a : Nat) (w : World) (hs : s.size ≤ 1000) (ha : a ≤ 2000) (h : a < s.size) (hk : byteAt s a = 0) :
    Calls Try.prog 43 #[.string s, .int .i64 a] w (TkP (takeR s a) w) := by
  rw [takeR, if_pos h, if_pos hk]
  have hb0 : Below w.heap.size w (w.alloc (.cells #[.int .i64 0, .int .i64 0, .string ⟨#[]⟩] 49)) := (Below.refl _ _).alloc (Nat.le_refl _) _
  have hge : decide ((s.size : Int) ≤ (a : Int)) = false := decide_eq_false (by omega)
  have hbyte := byte_is h hk
  go_enter Try.func43, Try.ntmps43
  go_wp2_with fail
  exact bodyPost_ret (v := .tuple #[.agg #[.int .i64 0, .int .i64 0, .string ⟨#[]⟩], .int .i64 ((a : Int) + 1), .int .i64 0]) (by simp [results, Try.results43, go_sem]) rfl ⟨rfl, hb0⟩
theorem rtake_1no (s : ByteArray) (a : Nat) (w : World) (hs : s.size ≤ 1000) (ha : a ≤ 2000) (h : a < s.size) (hk : byteAt s a = 1) (h1 : ¬ a + 1 < s.size) :
    Calls Try.prog 43 #[.string s, .int .i64 a] w (TkP (takeR s a) w) := by
  rw [takeR, if_pos h, if_neg (by omega), if_pos hk, if_neg h1]
  have hb0 : Below w.heap.size w (w.alloc (.cells #[.int .i64 0, .int .i64 0, .string ⟨#[]⟩] 49)) := (Below.refl _ _).alloc (Nat.le_refl _) _
  have hge : decide ((s.size : Int) ≤ (a : Int)) = false := decide_eq_false (by omega)
  have hbyte := byte_is h hk
  have hge1 : decide ((s.size : Int) ≤ (a : Int) + 1) = true := decide_eq_true (by omega)
  go_enter Try.func43, Try.ntmps43
  go_wp2_with fail
  exact bodyPost_ret (v := .tuple #[.agg #[.int .i64 0, .int .i64 0, .string ⟨#[]⟩], .int .i64 0, .int .i64 3]) (by simp [results, Try.results43, go_sem]) rfl ⟨rfl, hb0⟩
theorem rtake_1bad (s : ByteArray) (a : Nat) (w : World) (hs : s.size ≤ 1000) (ha : a ≤ 2000) (h : a < s.size) (hk : byteAt s a = 1) (h1 : a + 1 < s.size) (h2 : 1 < byteAt s (a + 1)) :
    Calls Try.prog 43 #[.string s, .int .i64 a] w (TkP (takeR s a) w) := by
  rw [takeR, if_pos h, if_neg (by omega), if_pos hk, if_pos h1, if_neg (by omega)]
  have hb0 : Below w.heap.size w (w.alloc (.cells #[.int .i64 0, .int .i64 0, .string ⟨#[]⟩] 49)) := (Below.refl _ _).alloc (Nat.le_refl _) _
  have hge : decide ((s.size : Int) ≤ (a : Int)) = false := decide_eq_false (by omega)
  have hbyte := byte_is h hk
  have hge1 : decide ((s.size : Int) ≤ (a : Int) + 1) = false := decide_eq_false (by omega)
  rw [byteAt_eq s (a + 1) h1] at h2
  go_enter Try.func43, Try.ntmps43
  go_wp2_with fail
  exact bodyPost_ret (v := .tuple #[.agg #[.int .i64 0, .int .i64 0, .string ⟨#[]⟩], .int .i64 0, .int .i64 2]) (by simp [results, Try.results43, go_sem]) rfl ⟨rfl, hb0⟩
theorem rtake_1_0 (s : ByteArray) (a : Nat) (w : World) (hs : s.size ≤ 1000) (ha : a ≤ 2000) (h : a < s.size) (hk : byteAt s a = 1) (h1 : a + 1 < s.size) (h2 : byteAt s (a + 1) = 0) :
    Calls Try.prog 43 #[.string s, .int .i64 a] w (TkP (takeR s a) w) := by
  rw [takeR, if_pos h, if_neg (by omega), if_pos hk, if_pos h1, if_pos (by omega), h2]
  have hb0 : Below w.heap.size w (w.alloc (.cells #[.int .i64 0, .int .i64 0, .string ⟨#[]⟩] 49)) := (Below.refl _ _).alloc (Nat.le_refl _) _
  have hge : decide ((s.size : Int) ≤ (a : Int)) = false := decide_eq_false (by omega)
  have hbyte := byte_is h hk
  have hge1 : decide ((s.size : Int) ≤ (a : Int) + 1) = false := decide_eq_false (by omega)
  have hby1 := byte_is h1 h2
  have hR := Blk.new w #[.int .i64 0, .int .i64 0, .string ⟨#[]⟩] 49
  go_enter Try.func43, Try.ntmps43
  go_wp2_with fail
  refine (rbool_f _).mono ?_
  rintro x w1 ⟨rfl, hb1⟩
  replace hR := hR.below hb1
  replace hb1 := hb0.next hb1
  obtain ⟨c0, c1, c2, f0, f1, f2⟩ := hR.val
  go_wp2_with fail
  have hF : Blk _ _ #[.int .i64 1, .int .i64 0, .string ⟨#[]⟩] 49 := ((hR.set 0 (.int .i64 1)).set 1 (.int .i64 0)).set 2 (.string ⟨#[]⟩)
  obtain ⟨z0, z1, z2, _, _, _⟩ := hF.val
  refine bodyPost_ret (v := .tuple #[.agg #[.int .i64 1, .int .i64 0, .string ⟨#[]⟩], .int .i64 ((a : Int) + 2), .int .i64 0]) (by simp [results, Try.results43, go_sem, z0, z1, z2]) rfl ⟨rfl, ((hb1.setCell (Nat.le_refl _) _).setCell (Nat.le_refl _) _).setCell (Nat.le_refl _) _⟩
theorem rtake_1_1 (s : ByteArray) (a : Nat) (w : World) (hs : s.size ≤ 1000) (ha : a ≤ 2000) (h : a < s.size) (hk : byteAt s a = 1) (h1 : a + 1 < s.size) (h2 : byteAt s (a + 1) = 1) :
    Calls Try.prog 43 #[.string s, .int .i64 a] w (TkP (takeR s a) w) := by
  rw [takeR, if_pos h, if_neg (by omega), if_pos hk, if_pos h1, if_pos (by omega), h2]
  have hb0 : Below w.heap.size w (w.alloc (.cells #[.int .i64 0, .int .i64 0, .string ⟨#[]⟩] 49)) := (Below.refl _ _).alloc (Nat.le_refl _) _
  have hge : decide ((s.size : Int) ≤ (a : Int)) = false := decide_eq_false (by omega)
  have hbyte := byte_is h hk
  have hge1 : decide ((s.size : Int) ≤ (a : Int) + 1) = false := decide_eq_false (by omega)
  have hby1 := byte_is h1 h2
  have hR := Blk.new w #[.int .i64 0, .int .i64 0, .string ⟨#[]⟩] 49
  go_enter Try.func43, Try.ntmps43
  go_wp2_with fail
  refine (rbool_t _).mono ?_
  rintro x w1 ⟨rfl, hb1⟩
  replace hR := hR.below hb1
  replace hb1 := hb0.next hb1
  obtain ⟨c0, c1, c2, f0, f1, f2⟩ := hR.val
  go_wp2_with fail
  have hF : Blk _ _ #[.int .i64 1, .int .i64 1, .string ⟨#[]⟩] 49 := ((hR.set 0 (.int .i64 1)).set 1 (.int .i64 1)).set 2 (.string ⟨#[]⟩)
  obtain ⟨z0, z1, z2, _, _, _⟩ := hF.val
  refine bodyPost_ret (v := .tuple #[.agg #[.int .i64 1, .int .i64 1, .string ⟨#[]⟩], .int .i64 ((a : Int) + 2), .int .i64 0]) (by simp [results, Try.results43, go_sem, z0, z1, z2]) rfl ⟨rfl, ((hb1.setCell (Nat.le_refl _) _).setCell (Nat.le_refl _) _).setCell (Nat.le_refl _) _⟩
theorem rtake_2no (s : ByteArray) (a : Nat) (w : World) (hs : s.size ≤ 1000) (ha : a ≤ 2000) (h : a < s.size) (hk : byteAt s a = 2) (h1 : ¬ a + 9 ≤ s.size) :
    Calls Try.prog 43 #[.string s, .int .i64 a] w (TkP (takeR s a) w) := by
  rw [takeR, if_pos h, if_neg (by omega), if_neg (by omega), if_pos hk, if_neg h1]
  have hb0 : Below w.heap.size w (w.alloc (.cells #[.int .i64 0, .int .i64 0, .string ⟨#[]⟩] 49)) := (Below.refl _ _).alloc (Nat.le_refl _) _
  have hge : decide ((s.size : Int) ≤ (a : Int)) = false := decide_eq_false (by omega)
  have hbyte := byte_is h hk
  have hge1 : decide ((s.size : Int) < (a : Int) + 9) = true := decide_eq_true (by omega)
  go_enter Try.func43, Try.ntmps43
  go_wp2_with fail
  exact bodyPost_ret (v := .tuple #[.agg #[.int .i64 0, .int .i64 0, .string ⟨#[]⟩], .int .i64 0, .int .i64 3]) (by simp [results, Try.results43, go_sem]) rfl ⟨rfl, hb0⟩
theorem rtake_2_false (s : ByteArray) (a : Nat) (w : World) (hs : s.size ≤ 1000) (ha : a ≤ 2000) (h : a < s.size) (hk : byteAt s a = 2) (h1 : a + 9 ≤ s.size) (hi : inB (num8 s (a + 1)) = false) :
    Calls Try.prog 43 #[.string s, .int .i64 a] w (TkP (takeR s a) w) := by
  rw [takeR, if_pos h, if_neg (by omega), if_neg (by omega), if_pos hk, if_pos h1, if_neg (by rw [hi]; decide)]
  have hb0 : Below w.heap.size w (w.alloc (.cells #[.int .i64 0, .int .i64 0, .string ⟨#[]⟩] 49)) := (Below.refl _ _).alloc (Nat.le_refl _) _
  have hge : decide ((s.size : Int) ≤ (a : Int)) = false := decide_eq_false (by omega)
  have hbyte := byte_is h hk
  have hge1 : decide ((s.size : Int) < (a : Int) + 9) = false := decide_eq_false (by omega)
  have hq : (s.extract (a + 1) (a + 9)).data.toList = (s.data.toList.drop (a + 1)).take 8 := by
    simp [List.extract_eq_take_drop, show a + 9 - (a + 1) = 8 from by omega]
  have HQ2 : Hid (getI (s.extract (a + 1) (a + 9)).data.toList = num8 s (a + 1)) := by show _ = _; rw [hq]; rfl
  have HN := Lib.hid (fun W => rnumber_any (s.extract (a + 1) (a + 9)) W (by simp; omega))
  rw [HQ2.out] at HN
  clear hq HQ2
  obtain ⟨m, HM⟩ : ∃ m, Hid (num8 s (a + 1) = m) := ⟨_, rfl⟩
  rw [HM.out] at HN hi
  have HI := Lib.hid (fun W => rin_any m _ hi W)
  have hR := Blk.new w #[.int .i64 0, .int .i64 0, .string ⟨#[]⟩] 49
  go_enter Try.func43, Try.ntmps43
  go_wp2_with fail
  refine (HN.out _).mono ?_
  rintro x w1 ⟨rfl, rfl⟩
  go_wp2_with fail
  refine (HI.out _).mono ?_
  rintro x w1 ⟨rfl, rfl⟩
  go_wp2_with fail
  exact bodyPost_ret (v := .tuple #[.agg #[.int .i64 0, .int .i64 0, .string ⟨#[]⟩], .int .i64 0, .int .i64 2]) (by simp [results, Try.results43, go_sem]) rfl ⟨rfl, hb0⟩
theorem rtake_2_true (s : ByteArray) (a : Nat) (w : World) (hs : s.size ≤ 1000) (ha : a ≤ 2000) (h : a < s.size) (hk : byteAt s a = 2) (h1 : a + 9 ≤ s.size) (hi : inB (num8 s (a + 1)) = true) :
    Calls Try.prog 43 #[.string s, .int .i64 a] w (TkP (takeR s a) w) := by
  rw [takeR, if_pos h, if_neg (by omega), if_neg (by omega), if_pos hk, if_pos h1, if_pos hi]
  have hb0 : Below w.heap.size w (w.alloc (.cells #[.int .i64 0, .int .i64 0, .string ⟨#[]⟩] 49)) := (Below.refl _ _).alloc (Nat.le_refl _) _
  have hge : decide ((s.size : Int) ≤ (a : Int)) = false := decide_eq_false (by omega)
  have hbyte := byte_is h hk
  have hge1 : decide ((s.size : Int) < (a : Int) + 9) = false := decide_eq_false (by omega)
  have hq : (s.extract (a + 1) (a + 9)).data.toList = (s.data.toList.drop (a + 1)).take 8 := by
    simp [List.extract_eq_take_drop, show a + 9 - (a + 1) = 8 from by omega]
  have HQ2 : Hid (getI (s.extract (a + 1) (a + 9)).data.toList = num8 s (a + 1)) := by show _ = _; rw [hq]; rfl
  have HN := Lib.hid (fun W => rnumber_any (s.extract (a + 1) (a + 9)) W (by simp; omega))
  rw [HQ2.out] at HN
  clear hq HQ2
  obtain ⟨m, HM⟩ : ∃ m, Hid (num8 s (a + 1) = m) := ⟨_, rfl⟩
  rw [HM.out] at HN hi
  have HI := Lib.hid (fun W => rin_any m _ hi W)
  have hR := Blk.new w #[.int .i64 0, .int .i64 0, .string ⟨#[]⟩] 49
  go_enter Try.func43, Try.ntmps43
  go_wp2_with fail
  refine (HN.out _).mono ?_
  rintro x w1 ⟨rfl, rfl⟩
  go_wp2_with fail
  refine (HI.out _).mono ?_
  rintro x w1 ⟨rfl, rfl⟩
  go_wp2_with fail
  refine (rnum_any m _).mono ?_
  rintro x w1 ⟨rfl, hb1⟩
  replace hR := hR.below hb1
  replace hb1 := hb0.next hb1
  obtain ⟨c0, c1, c2, f0, f1, f2⟩ := hR.val
  go_wp2_with fail
  have hF : Blk _ _ #[.int .i64 2, .int .i64 m, .string ⟨#[]⟩] 49 := ((hR.set 0 (.int .i64 2)).set 1 (.int .i64 m)).set 2 (.string ⟨#[]⟩)
  obtain ⟨z0, z1, z2, _, _, _⟩ := hF.val
  refine bodyPost_ret (v := .tuple #[.agg #[.int .i64 2, .int .i64 m, .string ⟨#[]⟩], .int .i64 ((a : Int) + 9), .int .i64 0]) (by simp [results, Try.results43, go_sem, z0, z1, z2]) rfl ⟨by rw [← HM.out]; rfl, ((hb1.setCell (Nat.le_refl _) _).setCell (Nat.le_refl _) _).setCell (Nat.le_refl _) _⟩
theorem rtake_3 (s : ByteArray) (a : Nat) (w : World) (hs : s.size ≤ 1000) (ha : a ≤ 2000) (h : a < s.size) (hk : byteAt s a = 3) :
    Calls Try.prog 43 #[.string s, .int .i64 a] w (TkP (takeR s a) w) := by
  rw [takeR, if_pos h, if_neg (by omega), if_neg (by omega), if_neg (by omega), if_pos hk]
  have hb0 : Below w.heap.size w (w.alloc (.cells #[.int .i64 0, .int .i64 0, .string ⟨#[]⟩] 49)) := (Below.refl _ _).alloc (Nat.le_refl _) _
  have hge : decide ((s.size : Int) ≤ (a : Int)) = false := decide_eq_false (by omega)
  have hbyte := byte_is h hk
  have HT := fun W => rtext_any s (a + 1) W hs (by omega)
  obtain ⟨r, hr⟩ : ∃ r, textR s (a + 1) = r := ⟨_, rfl⟩
  rw [hr] at HT ⊢
  clear hr
  have ev : (tk r).1.val = .agg #[.int .i64 (tk r).1.k, .int .i64 (tk r).1.n, .string (tk r).1.s] := rfl
  unfold TkP at HT ⊢
  rw [ev] at HT ⊢
  obtain ⟨k', hk'⟩ : ∃ k', (tk r).1.k = k' := ⟨_, rfl⟩
  obtain ⟨n', hn'⟩ : ∃ n', (tk r).1.n = n' := ⟨_, rfl⟩
  obtain ⟨s', hs'⟩ : ∃ s', (tk r).1.s = s' := ⟨_, rfl⟩
  obtain ⟨b', hb'⟩ : ∃ b', (tk r).2.1 = b' := ⟨_, rfl⟩
  obtain ⟨e', he'⟩ : ∃ e', (tk r).2.2 = e' := ⟨_, rfl⟩
  rw [hk', hn', hs', hb', he'] at HT ⊢
  clear hk' hn' hs' hb' he' ev
  have HTT := Lib.hid HT
  clear HT
  have hR := Blk.new w #[.int .i64 0, .int .i64 0, .string ⟨#[]⟩] 49
  go_enter Try.func43, Try.ntmps43
  go_wp2_with fail
  refine (HTT.out _).mono ?_
  rintro x w1 ⟨rfl, hb1⟩
  replace hR := hR.below hb1
  replace hb1 := hb0.next hb1
  obtain ⟨c0, c1, c2, f0, f1, f2⟩ := hR.val
  go_wp2_with fail
  have hF : Blk _ _ #[.int .i64 k', .int .i64 n', .string s'] 49 := ((hR.set 0 (.int .i64 k')).set 1 (.int .i64 n')).set 2 (.string s')
  obtain ⟨z0, z1, z2, _, _, _⟩ := hF.val
  refine bodyPost_ret (v := .tuple #[.agg #[.int .i64 k', .int .i64 n', .string s'], .int .i64 b', .int .i64 e']) (by simp [results, Try.results43, go_sem, z0, z1, z2]) rfl ⟨rfl, ((hb1.setCell (Nat.le_refl _) _).setCell (Nat.le_refl _) _).setCell (Nat.le_refl _) _⟩
theorem rtake_4 (s : ByteArray) (a : Nat) (w : World) (hs : s.size ≤ 1000) (ha : a ≤ 2000) (h : a < s.size) (hk : 3 < byteAt s a) :
    Calls Try.prog 43 #[.string s, .int .i64 a] w (TkP (takeR s a) w) := by
  rw [takeR, if_pos h, if_neg (by omega), if_neg (by omega), if_neg (by omega), if_neg (by omega)]
  have hb0 : Below w.heap.size w (w.alloc (.cells #[.int .i64 0, .int .i64 0, .string ⟨#[]⟩] 49)) := (Below.refl _ _).alloc (Nat.le_refl _) _
  have hge : decide ((s.size : Int) ≤ (a : Int)) = false := decide_eq_false (by omega)
  have hbyte := byteAt_eq s a h
  rw [hbyte] at hk
  have hlt : (s[a]'h).toNat < 256 := UInt8.toNat_lt _
  have t0 : (((s[a]'h).toNat : Int) == 0) = false := by simp; omega
  have t1 : (((s[a]'h).toNat : Int) == 1) = false := by simp; omega
  have t2 : (((s[a]'h).toNat : Int) == 2) = false := by simp; omega
  have t3 : (((s[a]'h).toNat : Int) == 3) = false := by simp; omega
  clear hbyte
  go_enter Try.func43, Try.ntmps43
  go_wp2_with fail
  exact bodyPost_ret (v := .tuple #[.agg #[.int .i64 0, .int .i64 0, .string ⟨#[]⟩], .int .i64 0, .int .i64 2]) (by simp [results, Try.results43, go_sem]) rfl ⟨rfl, hb0⟩
theorem rtake_any (s : ByteArray) (a : Nat) (w : World) (hs : s.size ≤ 1000) (ha : a ≤ 1900) :
    Calls Try.prog 43 #[.string s, .int .i64 a] w (TkP (takeR s a) w) := by
  have ha : a ≤ 2000 := by omega
  by_cases h : a < s.size
  · by_cases k0 : byteAt s a = 0
    · exact rtake_0 s a w hs ha h k0
    · by_cases k1 : byteAt s a = 1
      · by_cases h1 : a + 1 < s.size
        · by_cases h2 : byteAt s (a + 1) = 0
          · exact rtake_1_0 s a w hs ha h k1 h1 h2
          · by_cases h3 : byteAt s (a + 1) = 1
            · exact rtake_1_1 s a w hs ha h k1 h1 h3
            · exact rtake_1bad s a w hs ha h k1 h1 (by omega)
        · exact rtake_1no s a w hs ha h k1 h1
      · by_cases k2 : byteAt s a = 2
        · by_cases h1 : a + 9 ≤ s.size
          · cases hi : inB (num8 s (a + 1)) with
            | true => exact rtake_2_true s a w hs ha h k2 h1 hi
            | false => exact rtake_2_false s a w hs ha h k2 h1 hi
          · exact rtake_2no s a w hs ha h k2 h1
        · by_cases k3 : byteAt s a = 3
          · exact rtake_3 s a w hs ha h k3
          · exact rtake_4 s a w hs ha h (by omega)
  · exact rtake_none s a w hs ha h
end Go.Proofs.Ytcboeggfincakaa
