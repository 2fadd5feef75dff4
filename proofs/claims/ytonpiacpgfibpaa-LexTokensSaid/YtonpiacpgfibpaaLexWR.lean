/- The reference's word. -/
import Derived.Test.YtonpiacpgfibpaaLexS
import Derived.Test.YtonpiacpgfibpaaLexV
import Derived.Test.YtonpiacpgfibpaaLexB
import Derived.Test.YtonpiacpgfibpaaLexT
namespace Go.Proofs.Ytonpiacpgfibpaa.Lex
set_option linter.unusedVariables false
set_option linter.unusedSimpArgs false
open Go.RowKit
open Oct (S S_size S_data)
theorem word_three (c : UInt8) (h : wordB c = true) : (nameB c = true ∧ upB c = false ∧ smallF c = c) ∨ (nameB c = false ∧ upB c = true ∧ (smallF c).toNat = c.toNat + 32 ∧ c.toNat ≤ 90) ∨ (nameB c = false ∧ upB c = false ∧ digB c = true ∧ smallF c = c) := by
  have := all8 (fun c => !(wordB c) || ((nameB c && !(upB c) && (smallF c == c)) || (!(nameB c) && upB c && ((smallF c).toNat == c.toNat + 32) && decide (c.toNat ≤ 90)) || (!(nameB c) && !(upB c) && digB c && (smallF c == c)))) (by decide +kernel) c
  rw [h] at this
  simp at this
  rcases this with (⟨⟨h1, h2⟩, h3⟩ | ⟨⟨⟨h1, h2⟩, h3⟩, h4⟩) | ⟨⟨⟨h1, h2⟩, h3⟩, h4⟩
  · exact .inl ⟨h1, h2, h3⟩
  · exact .inr (.inl ⟨h1, h2, h3, h4⟩)
  · exact .inr (.inr ⟨h1, h2, h3, h4⟩)
theorem word_none (c : UInt8) (h : wordB c = false) : nameB c = false ∧ upB c = false ∧ digB c = false := by
  have := all8 (fun c => wordB c || (!(nameB c) && !(upB c) && !(digB c))) (by decide +kernel) c
  rw [h] at this
  simp at this
  exact ⟨this.1.1, this.1.2, this.2⟩
set_option maxHeartbeats 4000000 in
set_option maxRecDepth 100000 in
theorem rword_any (l : List UInt8) (a : Nat) (w : World) (ha : a ≤ l.length) (hl : l.length ≤ 100000) : Calls Try.prog 31 #[.string (S l), .int .i64 (a : Int)] w (PcR (wordF (l.drop a)) a w) := by
  have hsz := S_size l
  have HF := Lib.hid (fun v h => wordF_eq (l := l.drop a) (v := v) h)
  obtain ⟨p, hp⟩ : ∃ p, wordF (l.drop a) = p := ⟨_, rfl⟩
  rw [hp] at HF ⊢
  have HD := Lib.hid (fun c W => rdigit_any c W)
  have HG := Lib.hid (fun c W => rgreat_any c W)
  have HLT := Lib.hid (fun c W => rletter_any c W)
  have HRS := Lib.hid (fun v W hv => rreserved_any v W hv)
  have HBD := Lib.hid (fun W => rbad_any (a : Int) 4 W)
  clear hp
  obtain ⟨hv, hb⟩ := tnew w
  go_enter Try.func31, Try.ntmps31
  go_wp2_with fail
  generalize hW : (w.alloc (.cells #[.int .i64 0, .int .i64 0, .int .i64 0, .int .i64 0, .string ⟨#[]⟩] 24)) = W0 at hv hb ⊢
  clear hW
  go_loopw [6, 7] (fun i s wr => ∃ (k : Nat) (acc : List UInt8), a + k ≤ l.length ∧ i = .int .i64 ((a + k : Nat) : Int) ∧ acc.length = k ∧ s = .string (S acc) ∧ Below W0.heap.size W0 wr ∧ Hid (((l.drop a).takeWhile wordB).map smallF = acc ++ ((l.drop (a + k)).takeWhile wordB).map smallF)) (fun i _ _ => l.length - (intOf i).toNat)
  case atStart => exact ⟨0, [], by omega, rfl, rfl, rfl, Below.refl _ _, rfl⟩
  case round =>
    obtain ⟨k, acc, hk, rfl, rfl, rfl, hbw, HT⟩ := hrel
    obtain ⟨i, hi⟩ : ∃ i, a + acc.length = i := ⟨_, rfl⟩
    have HI := Lib.hid hi
    rw [hi] at hk HT ⊢
    have hfin : ((l.drop i).takeWhile wordB).map smallF = [] → p = (if resB acc then ⟨1, acc.length, 0, acc, 0⟩ else if 20 < acc.length then bad 4 else ⟨2, acc.length, 0, acc, 0⟩) := fun h => by
      have h2 := HT.out
      rw [h, List.append_nil] at h2
      exact HF.out acc h2
    have HACC : Hid (acc.length ≤ 100000) := by show _ ≤ _; omega
    obtain ⟨sx, hsx⟩ : ∃ x, x = S acc := ⟨_, rfl⟩
    have HX := Lib.hid hsx
    have HSZ : Hid (sx.size = acc.length) := by show _ = _; rw [hsx]; exact S_size acc
    rw [← hsx]
    clear hsx
    have hxz : sx.size ≤ 100000 := by have := HSZ.out; have := HACC.out; omega
    by_cases hlt : i < l.length
    · have hd := List.drop_eq_getElem_cons hlt
      have hc0 : i < (S l).size := by omega
      have hce : (((S l)[i]'hc0).toNat : Int) = (l[i]).toNat := by rw [S_at l i hlt]
      obtain ⟨c, hc⟩ : ∃ c, l[i] = c := ⟨_, rfl⟩
      rw [hc] at hd hce
      have hk0 : (0 : Int) ≤ i := by omega
      have hk1 : (i : Int) < l.length := by omega
      have HCL := Lib.hid (fun W => HLT.out c W)
      have HCG := Lib.hid (fun W => HG.out c W)
      have HCD := Lib.hid (fun W => HD.out c W)
      cases hb2 : wordB c with
      | true =>
        have h3 := word_three c hb2
        obtain ⟨d, hd5⟩ : ∃ d, smallF c = d := ⟨_, rfl⟩
        have HT2 : Hid (((l.drop a).takeWhile wordB).map smallF = (acc ++ [d]) ++ ((l.drop (i + 1)).takeWhile wordB).map smallF) := by
          show _ = _
          rw [HT.out, hd, List.takeWhile_cons, hb2, ← hd5]
          simp
        rw [hd5] at h3
        clear hd hc hfin hi HT hb2 hd5
        rcases h3 with ⟨h1, h2, h4⟩ | ⟨h1, h2, h4, h5⟩ | ⟨h1, h2, h3, h4⟩
        · rw [h1] at HCL
          rw [h2] at HCG
          have HDN : Hid ((d.toNat : Int) = c.toNat) := by show _ = _; rw [h4]
          clear h1 h2 h4
          go_wp2_with fail
          refine (HCL.out _).mono ?_
          rintro e w1 ⟨rfl, rfl⟩
          go_wp2_with fail
          refine (HCG.out _).mono ?_
          rintro e w1 ⟨rfl, rfl⟩
          go_wp2_with (first | ((with_reducible refine wpList_stringOf 36 9 5 Try.underlying36 Try.underlying5 Try.underlying9 [d] ?_); refine ⟨_, _, _, rfl, rfl, bytesAt_one _ _ _ _ ?_, ?_⟩; (have := HDN.out; omega)) | ((with_reducible refine wpList_concat _ ?_); refine ⟨_, _, rfl, rfl, ?_, ?_⟩; (have := HSZ.out; have := HACC.out; simp; omega)))
          exact ⟨⟨acc.length + 1, acc ++ [d], by have := HI.out; omega, by have := HI.out; go_num, by simp, by rw [HX.out]; exact congrArg Value.string (Oct.S_append acc [d]), hbw.alloc (by have := hbw.size; omega) _, by have := HI.out; rw [show a + (acc.length + 1) = i + 1 by omega]; exact HT2⟩, by simp [intOf]; omega⟩
        · rw [h1] at HCL
          rw [h2] at HCG
          have HDN : Hid ((d.toNat : Int) = c.toNat + 32) := by show _ = _; omega
          have hc5 : (c.toNat : Int) ≤ 90 := by omega
          clear h1 h2 h4 h5
          go_wp2_with fail
          refine (HCL.out _).mono ?_
          rintro e w1 ⟨rfl, rfl⟩
          go_wp2_with fail
          refine (HCG.out _).mono ?_
          rintro e w1 ⟨rfl, rfl⟩
          go_wp2_with fail
          refine (HCG.out _).mono ?_
          rintro e w1 ⟨rfl, rfl⟩
          go_wp2_with (first | ((with_reducible refine wpList_stringOf 36 9 5 Try.underlying36 Try.underlying5 Try.underlying9 [d] ?_); refine ⟨_, _, _, rfl, rfl, bytesAt_one _ _ _ _ ?_, ?_⟩; (have := HDN.out; omega)) | ((with_reducible refine wpList_concat _ ?_); refine ⟨_, _, rfl, rfl, ?_, ?_⟩; (have := HSZ.out; have := HACC.out; simp; omega)))
          exact ⟨⟨acc.length + 1, acc ++ [d], by have := HI.out; omega, by have := HI.out; go_num, by simp, by rw [HX.out]; exact congrArg Value.string (Oct.S_append acc [d]), hbw.alloc (by have := hbw.size; omega) _, by have := HI.out; rw [show a + (acc.length + 1) = i + 1 by omega]; exact HT2⟩, by simp [intOf]; omega⟩
        · rw [h1] at HCL
          rw [h2] at HCG
          rw [h3] at HCD
          have HDN : Hid ((d.toNat : Int) = c.toNat) := by show _ = _; rw [h4]
          clear h1 h2 h3 h4
          go_wp2_with fail
          refine (HCL.out _).mono ?_
          rintro e w1 ⟨rfl, rfl⟩
          go_wp2_with fail
          refine (HCG.out _).mono ?_
          rintro e w1 ⟨rfl, rfl⟩
          go_wp2_with fail
          refine (HCD.out _).mono ?_
          rintro e w1 ⟨rfl, rfl⟩
          go_wp2_with fail
          refine (HCG.out _).mono ?_
          rintro e w1 ⟨rfl, rfl⟩
          go_wp2_with (first | ((with_reducible refine wpList_stringOf 36 9 5 Try.underlying36 Try.underlying5 Try.underlying9 [d] ?_); refine ⟨_, _, _, rfl, rfl, bytesAt_one _ _ _ _ ?_, ?_⟩; (have := HDN.out; omega)) | ((with_reducible refine wpList_concat _ ?_); refine ⟨_, _, rfl, rfl, ?_, ?_⟩; (have := HSZ.out; have := HACC.out; simp; omega)))
          exact ⟨⟨acc.length + 1, acc ++ [d], by have := HI.out; omega, by have := HI.out; go_num, by simp, by rw [HX.out]; exact congrArg Value.string (Oct.S_append acc [d]), hbw.alloc (by have := hbw.size; omega) _, by have := HI.out; rw [show a + (acc.length + 1) = i + 1 by omega]; exact HT2⟩, by simp [intOf]; omega⟩
      | false =>
        have h3 := word_none c hb2
        rw [h3.1] at HCL
        rw [h3.2.1] at HCG
        rw [h3.2.2] at HCD
        clear h3
        have hpe := hfin (by rw [hd, List.takeWhile_cons, hb2]; rfl)
        clear hfin hi HT HF hd hc hb2
        have HR := Lib.hid (fun W => HRS.out acc W (by have := HACC.out; omega))
        rw [← HX.out] at HR
        obtain ⟨br, hbr⟩ : ∃ b, resB acc = b := ⟨_, rfl⟩
        rw [hbr] at HR hpe
        clear hbr
        have HPE := Lib.hid hpe
        clear hpe
        have hsub : ((i : Int) - (a : Int)) = acc.length := by have := HI.out; omega
        obtain ⟨n5, hn5⟩ : ∃ n, acc.length = n := ⟨_, rfl⟩
        have HN5 := Lib.hid hn5
        have hz5 : sx.size = acc.length := HSZ.out
        rw [hn5] at hsub hz5
        clear hn5
        replace hv := hv.below hbw
        replace hb := hb.next hbw
        clear hbw
        obtain ⟨z0, z1, z2, z3, z4, f0, f1, f2, f3, f4⟩ := tval hv
        cases br with
        | true =>
          obtain rfl : (⟨1, acc.length, 0, acc, 0⟩ : Pc) = p := by rw [HPE.out, if_pos rfl]
          go_wp2_with fail
          refine (HCL.out _).mono ?_
          rintro e w1 ⟨rfl, rfl⟩
          go_wp2_with fail
          refine (HCG.out _).mono ?_
          rintro e w1 ⟨rfl, rfl⟩
          go_wp2_with fail
          refine (HCD.out _).mono ?_
          rintro e w1 ⟨rfl, rfl⟩
          go_wp2_with fail
          refine (HR.out _).mono ?_
          rintro e w2 ⟨rfl, rfl⟩
          go_wp2_with fail
          obtain ⟨hbE, e0, e1, e2, e3, e4⟩ := tfin hv hb (Nat.le_refl _) (.int .i64 1) (.int .i64 (a : Int)) (.int .i64 (n5 : Int)) (.int .i64 0) (.string sx)
          exact bodyPost_ret (v := .tuple #[.agg #[.int .i64 1, .int .i64 (a : Int), .int .i64 (n5 : Int), .int .i64 0, .string sx], .int .i64 0]) (by simp [results, Try.results31, go_sem, e0, e1, e2, e3, e4]) rfl ⟨by rw [HX.out, ← HN5.out], hbE⟩
        | false =>
          by_cases h20 : 20 < n5
          · obtain rfl : bad 4 = p := by rw [HPE.out, if_neg (by simp), if_pos (by rw [HN5.out]; exact h20)]
            go_wp2_with fail
            refine (HCL.out _).mono ?_
            rintro e w1 ⟨rfl, rfl⟩
            go_wp2_with fail
            refine (HCG.out _).mono ?_
            rintro e w1 ⟨rfl, rfl⟩
            go_wp2_with fail
            refine (HCD.out _).mono ?_
            rintro e w1 ⟨rfl, rfl⟩
            go_wp2_with fail
            refine (HR.out _).mono ?_
            rintro e w2 ⟨rfl, rfl⟩
            go_wp2_with fail
            refine (HBD.out _).mono ?_
            rintro e w2 ⟨rfl, hb5⟩
            replace hv := hv.below hb5
            replace hb := hb.next hb5
            obtain ⟨z0, z1, z2, z3, z4, f0, f1, f2, f3, f4⟩ := tval hv
            go_wp2_with fail
            obtain ⟨hbE, e0, e1, e2, e3, e4⟩ := tfin hv hb (Nat.le_refl _) (.int .i64 0) (.int .i64 (a : Int)) (.int .i64 0) (.int .i64 0) (.string ⟨#[]⟩)
            exact bodyPost_ret (v := .tuple #[.agg #[.int .i64 0, .int .i64 (a : Int), .int .i64 0, .int .i64 0, .string ⟨#[]⟩], .int .i64 4]) (by simp [results, Try.results31, go_sem, e0, e1, e2, e3, e4]) rfl ⟨rfl, hbE⟩
          · obtain rfl : (⟨2, acc.length, 0, acc, 0⟩ : Pc) = p := by rw [HPE.out, if_neg (by simp), if_neg (by rw [HN5.out]; exact h20)]
            go_wp2_with fail
            refine (HCL.out _).mono ?_
            rintro e w1 ⟨rfl, rfl⟩
            go_wp2_with fail
            refine (HCG.out _).mono ?_
            rintro e w1 ⟨rfl, rfl⟩
            go_wp2_with fail
            refine (HCD.out _).mono ?_
            rintro e w1 ⟨rfl, rfl⟩
            go_wp2_with fail
            refine (HR.out _).mono ?_
            rintro e w2 ⟨rfl, rfl⟩
            go_wp2_with fail
            obtain ⟨hbE, e0, e1, e2, e3, e4⟩ := tfin hv hb (Nat.le_refl _) (.int .i64 2) (.int .i64 (a : Int)) (.int .i64 (n5 : Int)) (.int .i64 0) (.string sx)
            exact bodyPost_ret (v := .tuple #[.agg #[.int .i64 2, .int .i64 (a : Int), .int .i64 (n5 : Int), .int .i64 0, .string sx], .int .i64 0]) (by simp [results, Try.results31, go_sem, e0, e1, e2, e3, e4]) rfl ⟨by rw [HX.out, ← HN5.out], hbE⟩
    · have hpe := hfin (by rw [List.drop_of_length_le (by omega)]; rfl)
      clear hfin hi HT HF 
      have HR := Lib.hid (fun W => HRS.out acc W (by have := HACC.out; omega))
      rw [← HX.out] at HR
      obtain ⟨br, hbr⟩ : ∃ b, resB acc = b := ⟨_, rfl⟩
      rw [hbr] at HR hpe
      clear hbr
      have HPE := Lib.hid hpe
      clear hpe
      have hsub : ((i : Int) - (a : Int)) = acc.length := by have := HI.out; omega
      obtain ⟨n5, hn5⟩ : ∃ n, acc.length = n := ⟨_, rfl⟩
      have HN5 := Lib.hid hn5
      have hz5 : sx.size = acc.length := HSZ.out
      rw [hn5] at hsub hz5
      clear hn5
      replace hv := hv.below hbw
      replace hb := hb.next hbw
      clear hbw
      obtain ⟨z0, z1, z2, z3, z4, f0, f1, f2, f3, f4⟩ := tval hv
      cases br with
      | true =>
        obtain rfl : (⟨1, acc.length, 0, acc, 0⟩ : Pc) = p := by rw [HPE.out, if_pos rfl]
        go_wp2_with fail
        refine (HR.out _).mono ?_
        rintro e w2 ⟨rfl, rfl⟩
        go_wp2_with fail
        obtain ⟨hbE, e0, e1, e2, e3, e4⟩ := tfin hv hb (Nat.le_refl _) (.int .i64 1) (.int .i64 (a : Int)) (.int .i64 (n5 : Int)) (.int .i64 0) (.string sx)
        exact bodyPost_ret (v := .tuple #[.agg #[.int .i64 1, .int .i64 (a : Int), .int .i64 (n5 : Int), .int .i64 0, .string sx], .int .i64 0]) (by simp [results, Try.results31, go_sem, e0, e1, e2, e3, e4]) rfl ⟨by rw [HX.out, ← HN5.out], hbE⟩
      | false =>
        by_cases h20 : 20 < n5
        · obtain rfl : bad 4 = p := by rw [HPE.out, if_neg (by simp), if_pos (by rw [HN5.out]; exact h20)]
          go_wp2_with fail
          refine (HR.out _).mono ?_
          rintro e w2 ⟨rfl, rfl⟩
          go_wp2_with fail
          refine (HBD.out _).mono ?_
          rintro e w2 ⟨rfl, hb5⟩
          replace hv := hv.below hb5
          replace hb := hb.next hb5
          obtain ⟨z0, z1, z2, z3, z4, f0, f1, f2, f3, f4⟩ := tval hv
          go_wp2_with fail
          obtain ⟨hbE, e0, e1, e2, e3, e4⟩ := tfin hv hb (Nat.le_refl _) (.int .i64 0) (.int .i64 (a : Int)) (.int .i64 0) (.int .i64 0) (.string ⟨#[]⟩)
          exact bodyPost_ret (v := .tuple #[.agg #[.int .i64 0, .int .i64 (a : Int), .int .i64 0, .int .i64 0, .string ⟨#[]⟩], .int .i64 4]) (by simp [results, Try.results31, go_sem, e0, e1, e2, e3, e4]) rfl ⟨rfl, hbE⟩
        · obtain rfl : (⟨2, acc.length, 0, acc, 0⟩ : Pc) = p := by rw [HPE.out, if_neg (by simp), if_neg (by rw [HN5.out]; exact h20)]
          go_wp2_with fail
          refine (HR.out _).mono ?_
          rintro e w2 ⟨rfl, rfl⟩
          go_wp2_with fail
          obtain ⟨hbE, e0, e1, e2, e3, e4⟩ := tfin hv hb (Nat.le_refl _) (.int .i64 2) (.int .i64 (a : Int)) (.int .i64 (n5 : Int)) (.int .i64 0) (.string sx)
          exact bodyPost_ret (v := .tuple #[.agg #[.int .i64 2, .int .i64 (a : Int), .int .i64 (n5 : Int), .int .i64 0, .string sx], .int .i64 0]) (by simp [results, Try.results31, go_sem, e0, e1, e2, e3, e4]) rfl ⟨by rw [HX.out, ← HN5.out], hbE⟩
end Go.Proofs.Ytonpiacpgfibpaa.Lex
