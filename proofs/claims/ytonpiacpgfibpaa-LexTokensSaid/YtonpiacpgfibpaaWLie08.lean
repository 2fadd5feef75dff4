/- LexLies' walk. -/
import Derived.Test.YtonpiacpgfibpaaAwk08
namespace Go.Proofs.Ytonpiacpgfibpaa.Lex
set_option linter.unusedVariables false
set_option linter.unusedSimpArgs false
open Go.RowKit
open Oct (S S_size S_data)
theorem tokens_cases (l : List UInt8) (hl : l.length ≤ 2000) : (∃ ts, tokensL l = .ok ts ∧ chainF l 0 ts) ∨ (∃ p e, tokensL l = .error (p, e) ∧ e ≠ 0 ∧ 0 ≤ p ∧ p < l.length) := by
  unfold tokensL
  rw [if_neg (by omega)]
  rcases toks_any (l.length + 1) l 0 [] (Nat.zero_le _) (by omega) with ⟨ts, h1, h2⟩ | ⟨p, e, h1, h2⟩
  · exact .inl ⟨ts, by rw [toksL, h1]; rfl, h2⟩
  · exact .inr ⟨p, e, by rw [toksL, h1], h2⟩
theorem chain_len (l : List UInt8) (ts : List Tk) : ∀ a, chainF l a ts → a ≤ l.length → ts.length ≤ l.length := by
  have : ∀ (ts : List Tk) (a : Nat), chainF l a ts → a ≤ l.length → a + ts.length ≤ l.length := by
    intro ts
    induction ts with
    | nil => intro a h ha; simpa using ha
    | cons t ts ih =>
      intro a h ha
      obtain ⟨_, _, h4, h5, h6, h7⟩ := h
      have := ih _ h7 (by omega)
      simp only [List.length_cons]
      omega
  intro a h ha
  have := this ts a h ha
  omega
set_option maxHeartbeats 8000000 in
set_option maxRecDepth 100000 in
theorem lies_in (l : List UInt8) (m : Int) (w : World) (hm : w.cell? ⟨0, 0, none⟩ = some (.int .i64 m)) (hl : l.length ≤ 600) : Calls Try.prog 5 #[.string (S l)] w (Ret (.bool true) w) := by
  have hsz := S_size l
  have HW := Lib.hid (fun W h => awake8_any m W h)
  have hl1 : ¬ (600 : Int) < l.length := by omega
  have HL := Lib.hid hl
  rcases tokens_cases l (by omega) with ⟨ts, hts, hch⟩ | ⟨p, e, hts, he, hp0, hp1⟩
  · have HT := Lib.hid (fun W h => tokens_ok hts m W h (by omega))
    have HN := Lib.hid (fun a W h ha => next_ins l a m W h ha (by omega))
    have HP := Lib.hid (fun q W h (hq : q.length ≤ 100000) => next_ins q 0 m W h (Nat.zero_le _) hq)
    have hlen := chain_len l ts 0 hch (Nat.zero_le _)
    have HCH : Hid (chainF l 0 (ts.drop 0)) := hch
    clear hts hch hl
    go_enter Try.func5, Try.ntmps5
    go_wp2_with fail
    refine (HT.out _ hm).mono ?_
    rintro e w1 ⟨hb1, v1, rfl, hr1⟩
    have hm1 := cell_below hm hb1
    have HR1 := Lib.hid hr1
    obtain ⟨ao, cap, rfl⟩ := hr1.nil
    rw [rowT_len] at *
    clear hr1
    go_wp2_with fail
    go_loopw [6, 7] (fun ev iv wr => ∃ i e : Nat, i ≤ ts.length ∧ iv = .int .i64 (i : Int) ∧ ev = .int .i64 (e : Int) ∧ e ≤ l.length ∧ Below w1.heap.size w1 wr ∧ Hid (chainF l e (ts.drop i))) (fun _ iv _ => ts.length - (intOf iv).toNat)
    case atStart => exact ⟨0, 0, Nat.zero_le _, rfl, rfl, Nat.zero_le _, Below.refl _ _, HCH⟩
    case round =>
      clear HCH
      obtain ⟨i, e, hi, rfl, rfl, hel, hbw, HCH⟩ := hrel
      have hmr := cell_below hm1 hbw
      have hbt := hb1.next hbw
      by_cases hlt : i < ts.length
      · have hd := List.drop_eq_getElem_cons hlt
        have hg := (HR1.out.below hbw).get i (by rw [rowT_len]; exact hlt)
        have hce := HCH.out
        rw [hd] at hce
        obtain ⟨hn, hk, h4, h5, h6, h7⟩ := hce
        have hself := chain_self l ts[i] e hel hn hk
        obtain ⟨b, off, cap2, hv2, _, hc⟩ := hg
        rw [rowT_len] at hv2
        injection hv2 with e1 _ e3
        subst e1 e3
        rw [rowT_get ts i hlt] at hc
        obtain ⟨t, ht⟩ : ∃ t, ts[i] = t := ⟨_, rfl⟩
        rw [ht] at hn hk h4 h5 h6 h7 hself hc
        obtain ⟨k1, a1, z1, n1, s1⟩ := t
        simp only at hn hk h4 h5 h6 h7 hself
        obtain ⟨q1, rfl⟩ : ∃ q : Nat, a1 = q := ⟨a1.toNat, by omega⟩
        obtain ⟨y1, rfl⟩ : ∃ q : Nat, z1 = q := ⟨z1.toNat, by omega⟩
        have HC1 := Lib.hid (fun W h => HN.out e W h hel)
        rw [hn] at HC1
        simp only [tokV] at HC1
        have hpl : ((l.drop q1).take y1).length ≤ 100000 := by rw [List.length_take, List.length_drop]; have := HL.out; omega
        have HC2 := Lib.hid (fun W h => HP.out ((l.drop q1).take y1) W h hpl)
        have hs2 : nextF ((l.drop q1).take y1) 0 = (⟨k1, 0, y1, n1, s1⟩, 0) := hself
        rw [hs2] at HC2
        simp only [tokV] at HC2
        have HCUT : Hid ((S l).extract q1 (q1 + y1) = S ((l.drop q1).take y1)) := by
          show _ = _
          rw [S_cut l q1 (q1 + y1) (by omega)]; congr 2; omega
        have HCH2 : Hid (chainF l (q1 + y1) (ts.drop (i + 1))) := by
          show chainF _ _ _
          rw [show q1 + y1 = ((q1 : Int) + (y1 : Int)).toNat by omega]
          exact h7
        obtain ⟨pc, hpc⟩ : ∃ x, (l.drop q1).take y1 = x := ⟨_, rfl⟩
        rw [hpc] at HC2 HCUT
        obtain ⟨sp, hsp⟩ : ∃ x, S s1 = x := ⟨_, rfl⟩
        simp only [tkCells] at hc
        rw [hsp] at HC1 HC2 hc
        have d0 : wr.cell? ⟨b, off + i * 5, none⟩ = some (.int .i64 k1) := hc 0 _ rfl
        have d1 : wr.cell? ⟨b, off + i * 5 + 1, none⟩ = some (.int .i64 (q1 : Int)) := hc 1 _ rfl
        have d2 : wr.cell? ⟨b, off + i * 5 + 2, none⟩ = some (.int .i64 (y1 : Int)) := hc 2 _ rfl
        have d3 : wr.cell? ⟨b, off + i * 5 + 3, none⟩ = some (.int .i64 n1) := hc 3 _ rfl
        have d4 : wr.cell? ⟨b, off + i * 5 + 4, none⟩ = some (.string sp) := hc 4 _ rfl
        have hq1 : (e : Int) ≤ q1 := h4
        have hq2 : (1 : Int) ≤ y1 := h5
        have hq3 : (y1 : Int) ≤ (l.length : Int) - (q1 : Int) := by omega
        have hq4 : (0 : Int) ≤ q1 := by omega
        have hq5 : (q1 : Int) + y1 ≤ l.length := h6
        have hq6 : (q1 : Int) ≤ (q1 : Int) + y1 := by omega
        have hi0 : (0 : Int) ≤ i := by omega
        have hi1 : (i : Int) < ts.length := by omega
        clear hd hn hk h4 h5 h6 h7 hself hc ht hs2 hpl hpc hsp HCH
        go_wp2_with fail
        have hT := Blk.new wr #[.int .i64 k1, .int .i64 (q1 : Int), .int .i64 (y1 : Int), .int .i64 n1, .string sp] 24
        have hm2 := cell_alloc hmr (.cells #[.int .i64 k1, .int .i64 (q1 : Int), .int .i64 (y1 : Int), .int .i64 n1, .string sp] 24)
        have hb2 := hbw.alloc hbw.size (.cells #[.int .i64 k1, .int .i64 (q1 : Int), .int .i64 (y1 : Int), .int .i64 n1, .string sp] 24)
        generalize wr.alloc (.cells #[.int .i64 k1, .int .i64 (q1 : Int), .int .i64 (y1 : Int), .int .i64 n1, .string sp] 24) = W1 at hT hm2 hb2 ⊢
        generalize wr.heap.size = g1 at hT ⊢
        clear d0 d1 d2 d3 d4 hbw hbt hmr
        refine (HC1.out _ hm2).mono ?_
        rintro e2 w2 ⟨rfl, hb3⟩
        have hT2 := (hT.below hb3).alloc (.cells #[.int .i64 k1, .int .i64 (q1 : Int), .int .i64 (y1 : Int), .int .i64 n1, .string sp] 24)
        have hU := Blk.new w2 #[.int .i64 k1, .int .i64 (q1 : Int), .int .i64 (y1 : Int), .int .i64 n1, .string sp] 24
        have hm3 := cell_alloc (cell_below hm2 hb3) (.cells #[.int .i64 k1, .int .i64 (q1 : Int), .int .i64 (y1 : Int), .int .i64 n1, .string sp] 24)
        have hb4 := (hb2.next hb3).alloc (hb2.next hb3).size (.cells #[.int .i64 k1, .int .i64 (q1 : Int), .int .i64 (y1 : Int), .int .i64 n1, .string sp] 24)
        clear hT hm2 hb2 hb3
        generalize hW2 : w2.alloc (.cells #[.int .i64 k1, .int .i64 (q1 : Int), .int .i64 (y1 : Int), .int .i64 n1, .string sp] 24) = W2 at hT2 hU hm3 hb4
        obtain ⟨x0, x1, x2, x3, x4, _⟩ := tval hT2
        go_wp2_with fail
        rw [HCUT.out]
        subst hW2
        generalize w2.alloc (.cells #[.int .i64 k1, .int .i64 (q1 : Int), .int .i64 (y1 : Int), .int .i64 n1, .string sp] 24) = W2 at hT2 hU hm3 hb4 x0 x1 x2 x3 x4 ⊢
        generalize w2.heap.size = g2 at hU ⊢
        refine (HC2.out _ hm3).mono ?_
        rintro e3 w3 ⟨rfl, hb5⟩
        clear x0 x1 x2 x3 x4
        obtain ⟨x0, x1, x2, x3, x4, _⟩ := tval ((hT2.below hb5).alloc (.cells #[.int .i64 k1, .int .i64 (q1 : Int), .int .i64 (y1 : Int), .int .i64 n1, .string sp] 24))
        obtain ⟨y0, yy1, y2, y3, y4, _⟩ := tval ((hU.below hb5).alloc (.cells #[.int .i64 k1, .int .i64 (q1 : Int), .int .i64 (y1 : Int), .int .i64 n1, .string sp] 24))
        obtain ⟨u0, uu1, u2', u3, u4, _⟩ := tval ((hT2.below hb5).alloc (.cells #[.int .i64 k1, .int .i64 0, .int .i64 (y1 : Int), .int .i64 n1, .string sp] 24))
        have hb6 := (hb4.next hb5).alloc (hb4.next hb5).size (.cells #[.int .i64 k1, .int .i64 (q1 : Int), .int .i64 (y1 : Int), .int .i64 n1, .string sp] 24)
        clear hT2 hU hm3 hb4 hb5
        go_wp2_with fail
        exact ⟨⟨i + 1, q1 + y1, by omega, by go_num, by go_num, by omega, hb6, HCH2⟩, by simp [intOf]; omega⟩
      · have hce := HCH.out
        rw [List.drop_of_length_le (by omega)] at hce
        have hn : nextF l e = (⟨0, l.length, 0, 0, []⟩, 0) := hce
        have HC1 := Lib.hid (fun W h => HN.out e W h hel)
        rw [hn] at HC1
        simp only [tokV] at HC1
        have hi1 : ¬ i < ts.length := hlt
        clear hce hn HCH
        go_wp2_with fail
        refine (HC1.out _ hmr).mono ?_
        rintro e2 w2 ⟨rfl, hb3⟩
        have hU := Blk.new w2 #[.int .i64 0, .int .i64 (l.length : Int), .int .i64 0, .int .i64 0, .string (S [])] 24
        have hm3 := cell_alloc (cell_below hmr hb3) (.cells #[.int .i64 0, .int .i64 (l.length : Int), .int .i64 0, .int .i64 0, .string (S [])] 24)
        have hb4 := (hbt.next hb3).alloc (hbt.next hb3).size (.cells #[.int .i64 0, .int .i64 (l.length : Int), .int .i64 0, .int .i64 0, .string (S [])] 24)
        clear hb3 hbt hbw hmr
        go_wp2_with fail
        generalize w2.alloc (.cells #[.int .i64 0, .int .i64 (l.length : Int), .int .i64 0, .int .i64 0, .string (S [])] 24) = W2 at hU hm3 hb4 ⊢
        generalize w2.heap.size = g2 at hU ⊢
        refine (HW.out _ hm3).mono ?_
        rintro e3 w3 ⟨rfl, hb5⟩
        obtain ⟨x0, x1, x2, x3, x4, _⟩ := tval (hU.below hb5)
        go_wp2_with fail
        go_ret
        exact ⟨rfl, hb4.next hb5⟩
  · have HT := Lib.hid (fun W h => tokens_err hts m W h (by omega))
    have he1 : (e == 0) = false := by simpa using he
    have he2 : (e != 0) = true := by simpa using he
    clear hts he
    go_enter Try.func5, Try.ntmps5
    go_wp2_with fail
    refine (HT.out _ hm).mono ?_
    rintro e1 w1 ⟨rfl, hb1⟩
    have hm1 := cell_below hm hb1
    go_wp2_with fail
    refine (HW.out _ hm1).mono ?_
    rintro e3 w3 ⟨rfl, hb5⟩
    go_wp2_with fail
    go_ret
    exact ⟨rfl, hb1.next hb5⟩
theorem walk_LexLies (s : ByteArray) (w : World) (hs : s.size ≤ 140737488351232) (hsh : ∃ m, w.cell? ⟨0, 0, none⟩ = some (.int .i64 m)) : Calls Try.prog 5 #[.string s] w (Ret (.bool true) w) := by
  obtain ⟨m, hm⟩ := hsh
  obtain ⟨l, rfl⟩ : ∃ l, s = S l := ⟨s.data.toList, (Oct.S_of s).symm⟩
  by_cases hl : l.length ≤ 600
  · exact lies_in l m w hm hl
  · have hsz := S_size l
    have HW := Lib.hid (fun W h => awake8_any m W h)
    have hl1 : (600 : Int) < l.length := by omega
    generalize S l = s at *
    clear hl
    go_enter Try.func5, Try.ntmps5
    go_wp2_with fail
    refine (HW.out _ hm).mono ?_
    rintro e w1 ⟨rfl, hb⟩
    go_wp2_with fail
    go_ret
    exact ⟨rfl, hb⟩
end Go.Proofs.Ytonpiacpgfibpaa.Lex
