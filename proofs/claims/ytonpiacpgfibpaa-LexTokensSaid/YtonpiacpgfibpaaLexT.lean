/- lex: word and text: what they answer. -/
import Derived.Test.YtonpiacpgfibpaaLexY
import Derived.Test.YtonpiacpgfibpaaBldB
import Derived.Test.YtonpiacpgfibpaaByt
import Derived.Deep.CutRange
namespace Go.Proofs.Ytonpiacpgfibpaa.Lex
set_option linter.unusedVariables false
set_option linter.unusedSimpArgs false
open Go.RowKit
open Oct (S S_size S_data)
open Lib (indexByte strCells)
theorem someInt_below {w w1 : World} {a : Addr} {v : Value} {B : Nat} (h : w.cell? a = some v) (hb : Below B w w1) (ha : a.block < B) : w1.cell? a = some v := (hb.cell ha).trans h
theorem wordF_eq {l : List UInt8} {v : List UInt8} (h : (l.takeWhile wordB).map smallF = v) : wordF l = (if resB v then ⟨1, v.length, 0, v, 0⟩ else if 20 < v.length then bad 4 else ⟨2, v.length, 0, v, 0⟩) := by
  unfold wordF
  simp only [h]
set_option maxHeartbeats 4000000 in
set_option maxRecDepth 100000 in
theorem word_any (l : List UInt8) (a : Nat) (m : Int) (w : World) (hm : w.cell? ⟨0, 0, none⟩ = some (.int .i64 m)) (ha : a ≤ l.length) (hl : l.length ≤ 100000) : Calls Try.prog 22 #[.string (S l), .int .i64 (a : Int)] w (PcR (wordF (l.drop a)) a w) := by
  have hsz := S_size l
  have h0 : 0 < w.heap.size := World.block_lt_of_cell? w _ hm
  have HF := Lib.hid (fun v h => wordF_eq (l := l.drop a) (v := v) h)
  obtain ⟨p, hp⟩ : ∃ p, wordF (l.drop a) = p := ⟨_, rfl⟩
  rw [hp] at HF ⊢
  have HD := Lib.hid (fun c W => digit_any c W)
  have HLT := Lib.hid (fun c W => letter_any c W)
  have HSM := Lib.hid (fun c W => small_any c W)
  have HRS := Lib.hid (fun v W h hv => reserved_any v m W h hv)
  clear hp
  obtain ⟨hv0, hb0⟩ := tnew w
  obtain ⟨W0, hW0⟩ : ∃ W0, (w.alloc (.cells #[.int .i64 0, .int .i64 0, .int .i64 0, .int .i64 0, .string ⟨#[]⟩] 24)) = W0 := ⟨_, rfl⟩
  have hs0 : W0.heap.size = w.heap.size + 1 := by rw [← hW0]; simp
  have hfr := BldAt.fresh W0
  rw [← hW0] at hfr
  simp only [World.size_alloc] at hfr
  have hb1 : Below w.heap.size w ((w.alloc (.cells #[.int .i64 0, .int .i64 0, .int .i64 0, .int .i64 0, .string ⟨#[]⟩] 24)).alloc (.cells #[.pointer none, .slice none 0 0] 44)) := hb0.alloc (by simp) _
  have hv1 := hv0.alloc (.cells #[.pointer none, .slice none 0 0] 44)
  have hBz : w.heap.size + 1 ≤ ((w.alloc (.cells #[.int .i64 0, .int .i64 0, .int .i64 0, .int .i64 0, .string ⟨#[]⟩] 24)).alloc (.cells #[.pointer none, .slice none 0 0] 44)).heap.size := by simp
  have hm1 := someInt_below hm hb1 h0
  clear hW0 hs0 hv0 hb0
  go_enter Try.func22, Try.ntmps22
  go_wp2_with fail
  generalize hW1 : ((w.alloc (.cells #[.int .i64 0, .int .i64 0, .int .i64 0, .int .i64 0, .string ⟨#[]⟩] 24)).alloc (.cells #[.pointer none, .slice none 0 0] 44)) = W1 at hfr hb1 hv1 hm1 hBz ⊢
  clear hW1
  obtain ⟨B, HB⟩ : ∃ B, Hid (w.heap.size + 1 = B) := ⟨_, rfl⟩
  rw [HB.out] at hfr hBz ⊢
  have hg0 : w.heap.size < B := by have := HB.out; omega
  go_loopw [6] (fun i wr => ∃ (k : Nat) (acc : List UInt8), a + k ≤ l.length ∧ i = .int .i64 ((a + k : Nat) : Int) ∧ acc.length = k ∧ BldAt wr B B acc ∧ Below B W1 wr ∧ Hid (((l.drop a).takeWhile wordB).map smallF = acc ++ ((l.drop (a + k)).takeWhile wordB).map smallF)) (fun i _ => l.length - (intOf i).toNat)
  case atStart => exact ⟨0, [], by omega, rfl, rfl, hfr, Below.refl _ _, rfl⟩
  case round =>
    clear hfr
    obtain ⟨k, acc, hk, rfl, rfl, hbl, hbw, HT⟩ := hrel
    obtain ⟨i, hi⟩ : ∃ i, a + acc.length = i := ⟨_, rfl⟩
    have HI := Lib.hid hi
    rw [hi] at hk HT ⊢
    have hfin : ((l.drop i).takeWhile wordB).map smallF = [] → p = (if resB acc then ⟨1, acc.length, 0, acc, 0⟩ else if 20 < acc.length then bad 4 else ⟨2, acc.length, 0, acc, 0⟩) := fun h => by
      have h2 := HT.out
      rw [h, List.append_nil] at h2
      exact HF.out acc h2
    have hBr : B ≤ wr.heap.size := Nat.le_trans hBz hbw.size
    have HACC : Hid (acc.length ≤ 100000) := by show _ ≤ _; omega
    by_cases hlt : i < l.length
    · have hd := List.drop_eq_getElem_cons hlt
      have hc0 : i < (S l).size := by omega
      have hce : (((S l)[i]'hc0).toNat : Int) = (l[i]).toNat := by rw [S_at l i hlt]
      obtain ⟨c, hc⟩ : ∃ c, l[i] = c := ⟨_, rfl⟩
      rw [hc] at hd hce
      have hk0 : (0 : Int) ≤ i := by omega
      have hk1 : (i : Int) < l.length := by omega
      have HCL := Lib.hid (fun W => HLT.out c W)
      have HCD := Lib.hid (fun W => HD.out c W)
      have HCS := Lib.hid (fun W => HSM.out c W)
      cases hb2 : wordB c with
      | true =>
        have HT2 : Hid (((l.drop a).takeWhile wordB).map smallF = (acc ++ [smallF c]) ++ ((l.drop (i + 1)).takeWhile wordB).map smallF) := by
          show _ = _
          rw [HT.out, hd, List.takeWhile_cons, hb2]
          simp
        have HWB := Lib.hid (fun W h h2 h3 => writeByte_any B B acc (smallF c) _ rfl W h h2 h3)
        have hlr : (letB c = true) ∨ (letB c = false ∧ digB c = true) := by
          rw [wordB] at hb2
          cases h1 : letB c with
          | true => exact .inl rfl
          | false => rw [h1] at hb2; exact .inr ⟨rfl, hb2⟩
        clear hd hc hfin hi HT hb2
        rcases hlr with h1 | ⟨h1, h2⟩
        · rw [h1] at HCL
          clear h1
          go_wp2_with fail
          refine (HCL.out _).mono ?_
          rintro e w1 ⟨rfl, rfl⟩
          go_wp2_with fail
          refine (HCS.out _).mono ?_
          rintro e w1 ⟨rfl, rfl⟩
          go_wp2_with fail
          refine (HWB.out _ hbl (by have := HACC.out; omega) hBr).mono ?_
          rintro e w2 ⟨rfl, hbl2, hbw2, _⟩
          go_wp2_with fail
          exact ⟨⟨acc.length + 1, acc ++ [smallF c], by have := HI.out; omega, by have := HI.out; go_num, by simp, hbl2, hbw.trans hbw2, by have := HI.out; rw [show a + (acc.length + 1) = i + 1 by omega]; exact HT2⟩, by simp [intOf]; omega⟩
        · rw [h1] at HCL
          rw [h2] at HCD
          clear h1 h2
          go_wp2_with fail
          refine (HCL.out _).mono ?_
          rintro e w1 ⟨rfl, rfl⟩
          go_wp2_with fail
          refine (HCD.out _).mono ?_
          rintro e w1 ⟨rfl, rfl⟩
          go_wp2_with fail
          refine (HCS.out _).mono ?_
          rintro e w1 ⟨rfl, rfl⟩
          go_wp2_with fail
          refine (HWB.out _ hbl (by have := HACC.out; omega) hBr).mono ?_
          rintro e w2 ⟨rfl, hbl2, hbw2, _⟩
          go_wp2_with fail
          exact ⟨⟨acc.length + 1, acc ++ [smallF c], by have := HI.out; omega, by have := HI.out; go_num, by simp, hbl2, hbw.trans hbw2, by have := HI.out; rw [show a + (acc.length + 1) = i + 1 by omega]; exact HT2⟩, by simp [intOf]; omega⟩
      | false =>
        have hpe := hfin (by rw [hd, List.takeWhile_cons, hb2]; rfl)
        have hld : letB c = false ∧ digB c = false := by rw [wordB] at hb2; simpa using hb2
        rw [hld.1] at HCL
        rw [hld.2] at HCD
        clear hd hc hb2 hld
        clear hfin hi HT HF
        have HS := Lib.hid (fun W h h2 => bldString_any B B acc W h h2)
        have HR := Lib.hid (fun W h => HRS.out acc W h (by have := HACC.out; omega))
        obtain ⟨s5, hs5⟩ : ∃ x, S acc = x := ⟨_, rfl⟩
        have HS5 := Lib.hid hs5
        have hz5 : s5.size = acc.length := by rw [← hs5]; exact S_size acc
        have HSR : Hid (∀ W, BldAt W B B acc → B ≤ W.heap.size → Calls Try.prog 44 #[.pointer (some ⟨B, 0, none⟩)] W fun e w' => e = .returned (.string s5) ∧ Below B W w') := fun W h h2 => (HS.out W h h2).mono fun e w' hh => ⟨by rw [← hs5]; exact hh.1, hh.2.2.1⟩
        rw [hs5] at HR
        clear hs5 HS
        obtain ⟨br, hbr⟩ : ∃ b, resB acc = b := ⟨_, rfl⟩
        rw [hbr] at HR hpe
        clear hbr
        have HPE := Lib.hid hpe
        clear hpe
        have hsub : ((i : Int) - (a : Int)) = acc.length := by have := HI.out; omega
        obtain ⟨n5, hn5⟩ : ∃ n, acc.length = n := ⟨_, rfl⟩
        have HN5 := Lib.hid hn5
        rw [hn5] at hsub hz5
        clear hn5
        go_wp2_with fail
        refine (HCL.out _).mono ?_
        rintro e w1 ⟨rfl, rfl⟩
        go_wp2_with fail
        refine (HCD.out _).mono ?_
        rintro e w1 ⟨rfl, rfl⟩
        go_wp2_with fail
        refine (HSR.out _ hbl hBr).mono ?_
        rintro e w2 ⟨rfl, hb2⟩
        have hbW : Below B W1 w2 := hbw.trans hb2
        have hv2 := hv1.belowB hbW hg0
        have hm2 := someInt_below hm1 hbW (by show 0 < B; omega)
        have hbw2 : Below w.heap.size w w2 := hb1.trans (hbW.mono (by omega))
        clear hbl hb2 HSR
        go_wp2_with fail
        try rw [hsub]
        generalize hW5 : w2.alloc (.cells #[.int .i64 2, .int .i64 (a : Int), .int .i64 (n5 : Int), .int .i64 0, .string s5] 24) = W5
        have hT5 : Blk W5 w2.heap.size #[.int .i64 2, .int .i64 (a : Int), .int .i64 (n5 : Int), .int .i64 0, .string s5] 24 := by subst hW5; exact Blk.new _ _ _
        have hv5 : Blk W5 w.heap.size #[.int .i64 0, .int .i64 0, .int .i64 0, .int .i64 0, .string ⟨#[]⟩] 24 := by subst hW5; exact hv2.alloc _
        have hb5 : Below w.heap.size w W5 := by subst hW5; exact hbw2.alloc hbw2.size _
        have hm5 : W5.cell? ⟨0, 0, none⟩ = some (.int .i64 m) := by subst hW5; exact cell_alloc hm2 _
        have hgt : ¬ w.heap.size = w2.heap.size := by have := hv2.lt; omega
        have hgs : w.heap.size ≤ w2.heap.size := hbw2.size
        clear hW5 hv2 hm2 hbw2 hbW
        obtain ⟨y0, y1, y2, y3, y4, x0, x1, x2, x3, x4⟩ := tval hT5
        refine (HR.out _ hm5).mono ?_
        rintro e w3 ⟨rfl, rfl⟩
        obtain ⟨z0, z1, z2, z3, z4, f0, f1, f2, f3, f4⟩ := tval hv5
        cases br with
        | true =>
          obtain rfl : (⟨1, acc.length, 0, acc, 0⟩ : Pc) = p := by rw [HPE.out, if_pos rfl]
          have hv6 := hv5.other (a := ⟨w2.heap.size, 0, none⟩) (fun e => hgt e) (.int .i64 1)
          have hb6 := hb5.setCell (p := ⟨w2.heap.size, 0, none⟩) hgs (.int .i64 1)
          go_wp2_with fail
          obtain ⟨hbE, e0, e1, e2, e3, e4⟩ := tfin hv6 hb6 (Nat.le_refl _) (.int .i64 1) (.int .i64 (a : Int)) (.int .i64 (n5 : Int)) (.int .i64 0) (.string s5)
          exact bodyPost_ret (v := .tuple #[.agg #[.int .i64 1, .int .i64 (a : Int), .int .i64 (n5 : Int), .int .i64 0, .string s5], .int .i64 0]) (by simp [results, Try.results22, go_sem, e0, e1, e2, e3, e4]) rfl ⟨by rw [← HS5.out, ← HN5.out], hbE⟩
        | false =>
          by_cases h20 : 20 < n5
          · obtain rfl : bad 4 = p := by rw [HPE.out, if_neg (by simp), if_pos (by rw [HN5.out]; exact h20)]
            go_wp2_with fail
            obtain ⟨hbE, e0, e1, e2, e3, e4⟩ := tfin hv5 hb5 (Nat.le_refl _) (.int .i64 0) (.int .i64 (a : Int)) (.int .i64 0) (.int .i64 0) (.string ⟨#[]⟩)
            exact bodyPost_ret (v := .tuple #[.agg #[.int .i64 0, .int .i64 (a : Int), .int .i64 0, .int .i64 0, .string ⟨#[]⟩], .int .i64 4]) (by simp [results, Try.results22, go_sem, e0, e1, e2, e3, e4]) rfl ⟨rfl, hbE⟩
          · obtain rfl : (⟨2, acc.length, 0, acc, 0⟩ : Pc) = p := by rw [HPE.out, if_neg (by simp), if_neg (by rw [HN5.out]; exact h20)]
            go_wp2_with fail
            obtain ⟨hbE, e0, e1, e2, e3, e4⟩ := tfin hv5 hb5 (Nat.le_refl _) (.int .i64 2) (.int .i64 (a : Int)) (.int .i64 (n5 : Int)) (.int .i64 0) (.string s5)
            exact bodyPost_ret (v := .tuple #[.agg #[.int .i64 2, .int .i64 (a : Int), .int .i64 (n5 : Int), .int .i64 0, .string s5], .int .i64 0]) (by simp [results, Try.results22, go_sem, e0, e1, e2, e3, e4]) rfl ⟨by rw [← HS5.out, ← HN5.out], hbE⟩
    · have hpe := hfin (by rw [List.drop_of_length_le (by omega)]; rfl)
      clear hfin hi HT HF
      have HS := Lib.hid (fun W h h2 => bldString_any B B acc W h h2)
      have HR := Lib.hid (fun W h => HRS.out acc W h (by have := HACC.out; omega))
      obtain ⟨s5, hs5⟩ : ∃ x, S acc = x := ⟨_, rfl⟩
      have HS5 := Lib.hid hs5
      have hz5 : s5.size = acc.length := by rw [← hs5]; exact S_size acc
      have HSR : Hid (∀ W, BldAt W B B acc → B ≤ W.heap.size → Calls Try.prog 44 #[.pointer (some ⟨B, 0, none⟩)] W fun e w' => e = .returned (.string s5) ∧ Below B W w') := fun W h h2 => (HS.out W h h2).mono fun e w' hh => ⟨by rw [← hs5]; exact hh.1, hh.2.2.1⟩
      rw [hs5] at HR
      clear hs5 HS
      obtain ⟨br, hbr⟩ : ∃ b, resB acc = b := ⟨_, rfl⟩
      rw [hbr] at HR hpe
      clear hbr
      have HPE := Lib.hid hpe
      clear hpe
      have hsub : ((i : Int) - (a : Int)) = acc.length := by have := HI.out; omega
      obtain ⟨n5, hn5⟩ : ∃ n, acc.length = n := ⟨_, rfl⟩
      have HN5 := Lib.hid hn5
      rw [hn5] at hsub hz5
      clear hn5
      go_wp2_with fail
      refine (HSR.out _ hbl hBr).mono ?_
      rintro e w2 ⟨rfl, hb2⟩
      have hbW : Below B W1 w2 := hbw.trans hb2
      have hv2 := hv1.belowB hbW hg0
      have hm2 := someInt_below hm1 hbW (by show 0 < B; omega)
      have hbw2 : Below w.heap.size w w2 := hb1.trans (hbW.mono (by omega))
      clear hbl hb2 HSR
      go_wp2_with fail
      try rw [hsub]
      generalize hW5 : w2.alloc (.cells #[.int .i64 2, .int .i64 (a : Int), .int .i64 (n5 : Int), .int .i64 0, .string s5] 24) = W5
      have hT5 : Blk W5 w2.heap.size #[.int .i64 2, .int .i64 (a : Int), .int .i64 (n5 : Int), .int .i64 0, .string s5] 24 := by subst hW5; exact Blk.new _ _ _
      have hv5 : Blk W5 w.heap.size #[.int .i64 0, .int .i64 0, .int .i64 0, .int .i64 0, .string ⟨#[]⟩] 24 := by subst hW5; exact hv2.alloc _
      have hb5 : Below w.heap.size w W5 := by subst hW5; exact hbw2.alloc hbw2.size _
      have hm5 : W5.cell? ⟨0, 0, none⟩ = some (.int .i64 m) := by subst hW5; exact cell_alloc hm2 _
      have hgt : ¬ w.heap.size = w2.heap.size := by have := hv2.lt; omega
      have hgs : w.heap.size ≤ w2.heap.size := hbw2.size
      clear hW5 hv2 hm2 hbw2 hbW
      obtain ⟨y0, y1, y2, y3, y4, x0, x1, x2, x3, x4⟩ := tval hT5
      refine (HR.out _ hm5).mono ?_
      rintro e w3 ⟨rfl, rfl⟩
      obtain ⟨z0, z1, z2, z3, z4, f0, f1, f2, f3, f4⟩ := tval hv5
      cases br with
      | true =>
        obtain rfl : (⟨1, acc.length, 0, acc, 0⟩ : Pc) = p := by rw [HPE.out, if_pos rfl]
        have hv6 := hv5.other (a := ⟨w2.heap.size, 0, none⟩) (fun e => hgt e) (.int .i64 1)
        have hb6 := hb5.setCell (p := ⟨w2.heap.size, 0, none⟩) hgs (.int .i64 1)
        go_wp2_with fail
        obtain ⟨hbE, e0, e1, e2, e3, e4⟩ := tfin hv6 hb6 (Nat.le_refl _) (.int .i64 1) (.int .i64 (a : Int)) (.int .i64 (n5 : Int)) (.int .i64 0) (.string s5)
        exact bodyPost_ret (v := .tuple #[.agg #[.int .i64 1, .int .i64 (a : Int), .int .i64 (n5 : Int), .int .i64 0, .string s5], .int .i64 0]) (by simp [results, Try.results22, go_sem, e0, e1, e2, e3, e4]) rfl ⟨by rw [← HS5.out, ← HN5.out], hbE⟩
      | false =>
        by_cases h20 : 20 < n5
        · obtain rfl : bad 4 = p := by rw [HPE.out, if_neg (by simp), if_pos (by rw [HN5.out]; exact h20)]
          go_wp2_with fail
          obtain ⟨hbE, e0, e1, e2, e3, e4⟩ := tfin hv5 hb5 (Nat.le_refl _) (.int .i64 0) (.int .i64 (a : Int)) (.int .i64 0) (.int .i64 0) (.string ⟨#[]⟩)
          exact bodyPost_ret (v := .tuple #[.agg #[.int .i64 0, .int .i64 (a : Int), .int .i64 0, .int .i64 0, .string ⟨#[]⟩], .int .i64 4]) (by simp [results, Try.results22, go_sem, e0, e1, e2, e3, e4]) rfl ⟨rfl, hbE⟩
        · obtain rfl : (⟨2, acc.length, 0, acc, 0⟩ : Pc) = p := by rw [HPE.out, if_neg (by simp), if_neg (by rw [HN5.out]; exact h20)]
          go_wp2_with fail
          obtain ⟨hbE, e0, e1, e2, e3, e4⟩ := tfin hv5 hb5 (Nat.le_refl _) (.int .i64 2) (.int .i64 (a : Int)) (.int .i64 (n5 : Int)) (.int .i64 0) (.string s5)
          exact bodyPost_ret (v := .tuple #[.agg #[.int .i64 2, .int .i64 (a : Int), .int .i64 (n5 : Int), .int .i64 0, .string s5], .int .i64 0]) (by simp [results, Try.results22, go_sem, e0, e1, e2, e3, e4]) rfl ⟨by rw [← HS5.out, ← HN5.out], hbE⟩
end Go.Proofs.Ytonpiacpgfibpaa.Lex
