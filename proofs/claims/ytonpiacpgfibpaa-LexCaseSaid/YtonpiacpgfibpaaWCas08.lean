/- LexCase's walk. -/
import Derived.Test.YtonpiacpgfibpaaSam08
import Derived.Test.YtonpiacpgfibpaaWLie08
namespace Go.Proofs.Ytonpiacpgfibpaa.Lex
set_option linter.unusedVariables false
set_option linter.unusedSimpArgs false
open Go.RowKit
open Oct (S S_size S_data)
/-- Is there a quote of either kind? -/
def quotB (l : List UInt8) : Bool := l.any fun c => c == 39 || c == 34
theorem quot_snoc (l : List UInt8) (i : Nat) (h : i < l.length) : quotB (l.drop i) = ((l[i] == 39 || l[i] == 34) || quotB (l.drop (i + 1))) := by
  rw [List.drop_eq_getElem_cons h, quotB, List.any_cons]; rfl
set_option maxHeartbeats 4000000 in
theorem quoted8_any (l : List UInt8) (w : World) (hl : l.length ≤ 100000) : Calls Try.prog 19 #[.string (S l)] w (Eq1 (.bool (quotB l)) w) := by
  have hsz := S_size l
  obtain ⟨q, hq⟩ : ∃ q, quotB l = q := ⟨_, rfl⟩
  rw [hq]
  have HQ : Hid (quotB (l.drop 0) = q) := hq
  clear hq
  go_enter Try.func19, Try.ntmps19
  go_wp2_with fail
  go_loop [3] (fun iv => ∃ i : Nat, i ≤ l.length ∧ iv = .int .i64 (i : Int) ∧ Hid (quotB (l.drop i) = q)) (fun iv => l.length - (intOf iv).toNat)
  case atStart => exact ⟨0, Nat.zero_le _, rfl, HQ⟩
  case round =>
    clear HQ
    obtain ⟨i, hi, rfl, HQ⟩ := hrel
    by_cases hlt : i < l.length
    · have hs := quot_snoc l i hlt
      have hc0 : i < (S l).size := by omega
      have hce : (((S l)[i]'hc0).toNat : Int) = (l[i]).toNat := by rw [S_at l i hlt]
      obtain ⟨c, hc⟩ : ∃ c, l[i] = c := ⟨_, rfl⟩
      rw [hc] at hs hce
      have hi0 : (0 : Int) ≤ i := by omega
      have hi1 : (i : Int) < l.length := by omega
      have HS := Lib.hid hs
      clear hs hc
      by_cases h39 : c = 39
      · subst h39
        have hce2 : (((S l)[i]'hc0).toNat : Int) = 39 := hce
        have HT : Hid (q = true) := by show _ = _; rw [← HQ.out, HS.out]; rfl
        clear hce HS HQ
        go_wp2_with fail
        go_ret
        exact ⟨ret_bool (by rw [HT.out]), rfl⟩
      · have n39 := neq8 h39
        simp only [show ((39 : UInt8).toNat : Int) = 39 from rfl] at n39
        by_cases h34 : c = 34
        · subst h34
          have hce2 : (((S l)[i]'hc0).toNat : Int) = 34 := hce
          have HT : Hid (q = true) := by show _ = _; rw [← HQ.out, HS.out]; rfl
          clear hce HS HQ n39 h39
          go_wp2_with fail
          go_ret
          exact ⟨ret_bool (by rw [HT.out]), rfl⟩
        · have n34 := neq8 h34
          simp only [show ((34 : UInt8).toNat : Int) = 34 from rfl] at n34
          have HQ2 : Hid (quotB (l.drop (i + 1)) = q) := by
            show _ = _
            rw [← HQ.out, HS.out]
            simp [h39, h34]
          clear HS HQ h39 h34
          go_wp2_with fail
          go_round
          case rel => exact ⟨i + 1, by omega, by go_num, HQ2⟩
          case measure => simp [intOf]; omega
    · have HT : Hid (q = false) := by show _ = _; rw [← HQ.out, List.drop_of_length_le (by omega)]; rfl
      go_wp2_with fail
      go_ret
      exact ⟨ret_bool (by rw [HT.out]), rfl⟩
/-- The text, its letters made great up to a place. -/
def curF (l : List UInt8) (i : Nat) : List UInt8 := (l.take i).map upF ++ l.drop i
theorem cur_len (l : List UInt8) (i : Nat) (h : i ≤ l.length) : (curF l i).length = l.length := by simp [curF]; omega
theorem cur_at (l : List UInt8) (i : Nat) (h : i < l.length) : (curF l i)[i]'(by rw [cur_len l i (by omega)]; exact h) = l[i] := by
  unfold curF
  rw [List.getElem_append_right (by simp; omega)]
  have e : min i l.length = i := by omega
  simp [e]
theorem cur_set (l : List UInt8) (i : Nat) (h : i < l.length) : (curF l i).set i (upF l[i]) = curF l (i + 1) := by
  unfold curF
  rw [List.set_append_right _ _ (by simp; omega), List.take_succ_eq_append_getElem h, List.map_append]
  have e : min i l.length = i := by omega
  rw [List.length_map, List.length_take, e, Nat.sub_self, List.drop_eq_getElem_cons h, List.set_cons_zero]
  simp
theorem cur_same (l : List UInt8) (i : Nat) (h : i < l.length) (hu : upF l[i] = l[i]) : curF l i = curF l (i + 1) := by
  rw [← cur_set l i h, hu]
  apply List.ext_getElem?
  intro j
  by_cases e : i = j
  · subst e
    rw [List.getElem?_set_self (by rw [cur_len l i (by omega)]; exact h), List.getElem?_eq_getElem (by rw [cur_len l i (by omega)]; exact h), cur_at l i h]
  · rw [List.getElem?_set_ne e]
theorem cur_end (l : List UInt8) : curF l l.length = l.map upF := by simp [curF]
set_option maxHeartbeats 8000000 in
set_option maxRecDepth 100000 in
theorem case_in (l : List UInt8) (m : Int) (w : World) (hm : w.cell? ⟨0, 0, none⟩ = some (.int .i64 m)) (hl : l.length ≤ 300) (hq : quotB l = false) : Calls Try.prog 7 #[.string (S l)] w (Ret (.bool true) w) := by
  have hsz := S_size l
  have HW := Lib.hid (fun W h => awake8_any m W h)
  have HQ := Lib.hid (fun W => quoted8_any l W (by omega))
  rw [hq] at HQ
  have hqs : ∀ c ∈ l, c ≠ 34 ∧ c ≠ 39 := fun c hc => by
    have h1 := List.any_eq_false.1 hq c hc
    simp at h1
    exact ⟨h1.2, h1.1⟩
  have hup : tokensL (l.map upF) = tokensL l := by
    unfold tokensL
    rw [List.length_map, up_toksL l hqs]
  have hl1 : ¬ (300 : Int) < l.length := by omega
  have h0 : 0 < w.heap.size := World.block_lt_of_cell? w _ hm
  have HL := Lib.hid hl
  clear hq hqs
  go_enter Try.func7, Try.ntmps7
  go_wp2_with fail
  refine (HQ.out _).mono ?_
  rintro e w0 ⟨rfl, rfl⟩
  go_wp2_with ((with_reducible refine wpList_bytes 9 36 5 Try.underlying9 Try.underlying36 Try.underlying5 ?_); refine ⟨_, rfl, ?_⟩; intro g cap w1 hg hz hb1 hcl; rw [S_data] at hcl)
  have hc0 : BytesAt w1 g (curF l 0) := by show BytesAt w1 g l; exact hcl
  clear hcl
  go_loopw [4] (fun iv wr => ∃ i : Nat, i ≤ l.length ∧ iv = .int .i64 (i : Int) ∧ Below w.heap.size w wr ∧ g < wr.heap.size ∧ BytesAt wr g (curF l i)) (fun iv _ => l.length - (intOf iv).toNat)
  case atStart => exact ⟨0, Nat.zero_le _, rfl, hb1, hz, hc0⟩
  case round =>
    clear hc0 hb1 hz
    obtain ⟨i, hi, rfl, hbw, hgz, hbt⟩ := hrel
    by_cases hlt : i < l.length
    · have hcl := cur_len l i hi
      obtain ⟨hcc, hcf⟩ := hbt i (by omega)
      rw [cur_at l i hlt] at hcc
      have hset := cur_set l i hlt
      have hsame := cur_same l i hlt
      obtain ⟨c, hc⟩ : ∃ c, l[i] = c := ⟨_, rfl⟩
      rw [hc] at hcc hset hsame
      have hi0 : (0 : Int) ≤ i := by omega
      have hi1 : (i : Int) < l.length := by omega
      have hclt := c.toNat_lt
      cases hlo : lowB c with
      | true =>
        have hu : upF c = c - 32 := by rw [upF, if_pos hlo]
        have hln : 97 ≤ c.toNat ∧ c.toNat ≤ 122 := by simpa [lowB] using hlo
        have hx1 : (97 : Int) ≤ c.toNat := by omega
        have hx2 : (c.toNat : Int) ≤ 122 := by omega
        have hv : ((c - 32).toNat : Int) = (c.toNat : Int) - 32 := by
          rw [UInt8.toNat_sub_of_le _ _ (by rw [UInt8.le_iff_toNat_le]; show 32 ≤ c.toNat; omega)]
          show ((c.toNat - 32 : Nat) : Int) = _
          omega
        have hbt2 := hbt.set i (by omega) (c - 32)
        rw [← hu, hset, hu, hv] at hbt2
        have hb2 := hbw.setCell (p := ⟨g, i, none⟩) hg (.int .u8 ((c.toNat : Int) - 32))
        have hg2 : g < (wr.setCell ⟨g, i, none⟩ (.int .u8 ((c.toNat : Int) - 32))).heap.size := by simpa [World.setCell] using hgz
        clear hbt hset hsame hu hv hc hln hlo
        go_wp2_with fail
        go_roundw
        case rel => exact ⟨i + 1, by omega, by go_num, hb2, hg2, hbt2⟩
        case measure => simp [intOf]; omega
      | false =>
        have hu : upF c = c := by rw [upF, if_neg (by simp [hlo])]
        rw [hsame hu] at hbt
        have hln : ¬ (97 ≤ c.toNat ∧ c.toNat ≤ 122) := by simpa [lowB] using hlo
        clear hset hsame hu hc hlo
        by_cases hx1 : (97 : Int) ≤ c.toNat
        · have hx2 : ¬ (c.toNat : Int) ≤ 122 := by omega
          clear hln
          go_wp2_with fail
          go_roundw
          case rel => exact ⟨i + 1, by omega, by go_num, hbw, hgz, hbt⟩
          case measure => simp [intOf]; omega
        · clear hln
          go_wp2_with fail
          go_roundw
          case rel => exact ⟨i + 1, by omega, by go_num, hbw, hgz, hbt⟩
          case measure => simp [intOf]; omega
    · obtain rfl : i = l.length := by omega
      rw [cur_end] at hbt
      have hmr := someInt_below hm hbw h0
      have HU : Hid (l.length = (l.map upF).length) := by show _ = _; rw [List.length_map]
      have HBT := Lib.hid hbt
      clear hbt hlt
      rcases tokens_cases l (by have := HL.out; omega) with ⟨ts, hts, hch⟩ | ⟨p, e, hts, he, hp0, hp1⟩
      · have HT := Lib.hid (fun W h => tokens_ok hts m W h (by have := HL.out; omega))
        have HV := Lib.hid (fun W h => tokens_ok (hup.trans hts) m W h (by rw [List.length_map]; have := HL.out; omega))
        have hlen := chain_len l ts 0 hch (Nat.zero_le _)
        have HS := Lib.hid (fun va vb W h1 h2 => same_any ts va vb W h1 h2 (by have := HL.out; omega))
        clear hts hch hup
        go_wp2_with fail
        refine (HT.out _ hmr).mono ?_
        rintro e1 w2 ⟨hb2, v2, rfl, hr2⟩
        have hm2 := cell_below hmr hb2
        have hbt2 := Lib.hid (HBT.out.below hb2 hgz)
        have hb3 := hbw.next hb2
        clear hb2 hmr hbw
        go_wp2_with ((with_reducible refine wpList_stringOf 36 9 5 Try.underlying36 Try.underlying5 Try.underlying9 (l.map upF) ?_); refine ⟨g, _, _, rfl, HU.out, hbt2.out, ?_⟩)
        refine (HV.out _ hm2).mono ?_
        rintro e2 w3 ⟨hb4, v3, rfl, hr3⟩
        have hm3 := cell_below hm2 hb4
        have hr4 := hr2.below hb4
        have hb5 := hb3.next hb4
        clear hb4 hm2 hb3 hr2
        go_wp2_with fail
        refine (HW.out _ hm3).mono ?_
        rintro e3 w4 ⟨rfl, hb6⟩
        have HX := Lib.hid (HS.out _ _ _ (hr4.below hb6) (hr3.below hb6))
        have hb7 := hb5.next hb6
        clear hr4 hr3 hm3 hb5 hb6
        go_wp2_with fail
        refine HX.out.mono ?_
        rintro e4 w5 ⟨rfl, hb8⟩
        go_wp2_with fail
        go_ret
        exact ⟨rfl, hb7.next hb8⟩
      · have HT := Lib.hid (fun W h => tokens_err hts m W h (by have := HL.out; omega))
        have HV := Lib.hid (fun W h => tokens_err (hup.trans hts) m W h (by rw [List.length_map]; have := HL.out; omega))
        have HS := Lib.hid (fun W => same_any [] (.slice none 0 0) (.slice none 0 0) W (ElAt.empty _ _) (ElAt.empty _ _) (by simp))
        clear hts he hup
        go_wp2_with fail
        refine (HT.out _ hmr).mono ?_
        rintro e1 w2 ⟨rfl, hb2⟩
        have hm2 := cell_below hmr hb2
        have hbt2 := Lib.hid (HBT.out.below hb2 hgz)
        have hb3 := hbw.next hb2
        clear hb2 hmr hbw
        go_wp2_with ((with_reducible refine wpList_stringOf 36 9 5 Try.underlying36 Try.underlying5 Try.underlying9 (l.map upF) ?_); refine ⟨g, _, _, rfl, HU.out, hbt2.out, ?_⟩)
        refine (HV.out _ hm2).mono ?_
        rintro e2 w3 ⟨rfl, hb4⟩
        have hm3 := cell_below hm2 hb4
        have hb5 := hb3.next hb4
        clear hb4 hm2 hb3
        go_wp2_with fail
        refine (HW.out _ hm3).mono ?_
        rintro e3 w4 ⟨rfl, hb6⟩
        have hb7 := hb5.next hb6
        clear hm3 hb5 hb6
        go_wp2_with fail
        refine (HS.out _).mono ?_
        rintro e4 w5 ⟨rfl, hb8⟩
        go_wp2_with fail
        go_ret
        exact ⟨rfl, hb7.next hb8⟩
theorem walk_LexCase (s : ByteArray) (w : World) (hs : s.size ≤ 140737488351232) (hsh : ∃ m, w.cell? ⟨0, 0, none⟩ = some (.int .i64 m)) : Calls Try.prog 7 #[.string s] w (Ret (.bool true) w) := by
  obtain ⟨m, hm⟩ := hsh
  obtain ⟨l, rfl⟩ : ∃ l, s = S l := ⟨s.data.toList, (Oct.S_of s).symm⟩
  have HW := Lib.hid (fun W h => awake8_any m W h)
  have hsz := S_size l
  by_cases hl : l.length ≤ 300
  · cases hq : quotB l with
    | false => exact case_in l m w hm hl hq
    | true =>
      have HQ := Lib.hid (fun W => quoted8_any l W (by omega))
      rw [hq] at HQ
      have hl1 : ¬ (300 : Int) < l.length := by omega
      clear hl hq
      generalize S l = s at *
      go_enter Try.func7, Try.ntmps7
      go_wp2_with fail
      refine (HQ.out _).mono ?_
      rintro e w0 ⟨rfl, rfl⟩
      go_wp2_with fail
      refine (HW.out _ hm).mono ?_
      rintro e w1 ⟨rfl, hb⟩
      go_wp2_with fail
      go_ret
      exact ⟨rfl, hb⟩
  · have hl1 : (300 : Int) < l.length := by omega
    generalize S l = s at *
    clear hl
    go_enter Try.func7, Try.ntmps7
    go_wp2_with fail
    refine (HW.out _ hm).mono ?_
    rintro e w1 ⟨rfl, hb⟩
    go_wp2_with fail
    go_ret
    exact ⟨rfl, hb⟩
end Go.Proofs.Ytonpiacpgfibpaa.Lex
