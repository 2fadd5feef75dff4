/- lex: number, quoted, sign: what they answer. -/
import Derived.Test.YtonpiacpgfibpaaLexX
import Derived.Test.YtonpiacpgfibpaaKitE
namespace Go.Proofs.Ytonpiacpgfibpaa.Lex
set_option linter.unusedVariables false
set_option linter.unusedSimpArgs false
open Go.RowKit
open Oct (S S_size S_data)
open Lib (indexByte)
/-- A piece at a place, as it is answered. -/
def PcR (p : Pc) (i : Nat) (w : World) : Ending → World → Prop := Ret (.tuple #[.agg #[.int .i64 p.k, .int .i64 (i : Int), .int .i64 (p.z : Int), .int .i64 p.n, .string (S p.s)], .int .i64 p.e]) w
theorem tval {w : World} {g T : Nat} {c0 c1 c2 c3 c4 : Value} (h : Blk w g #[c0, c1, c2, c3, c4] T) :
    w.cell? ⟨g, 0, none⟩ = some c0 ∧ w.cell? ⟨g, 1, none⟩ = some c1 ∧ w.cell? ⟨g, 2, none⟩ = some c2 ∧ w.cell? ⟨g, 3, none⟩ = some c3 ∧ w.cell? ⟨g, 4, none⟩ = some c4 ∧
    w.frozen? ⟨g, 0, none⟩ = false ∧ w.frozen? ⟨g, 1, none⟩ = false ∧ w.frozen? ⟨g, 2, none⟩ = false ∧ w.frozen? ⟨g, 3, none⟩ = false ∧ w.frozen? ⟨g, 4, none⟩ = false :=
  ⟨h.cell 0 rfl, h.cell 1 rfl, h.cell 2 rfl, h.cell 3 rfl, h.cell 4 rfl, h.free 0, h.free 1, h.free 2, h.free 3, h.free 4⟩
theorem tfin {w W : World} {g T : Nat} {c0 c1 c2 c3 c4 : Value} (h : Blk W g #[c0, c1, c2, c3, c4] T) (hb : Below w.heap.size w W) (hg : w.heap.size ≤ g) (d0 d1 d2 d3 d4 : Value) :
    let V := ((((W.setCell ⟨g, 0, none⟩ d0).setCell ⟨g, 1, none⟩ d1).setCell ⟨g, 2, none⟩ d2).setCell ⟨g, 3, none⟩ d3).setCell ⟨g, 4, none⟩ d4
    Below w.heap.size w V ∧ V.cell? ⟨g, 0, none⟩ = some d0 ∧ V.cell? ⟨g, 1, none⟩ = some d1 ∧ V.cell? ⟨g, 2, none⟩ = some d2 ∧ V.cell? ⟨g, 3, none⟩ = some d3 ∧ V.cell? ⟨g, 4, none⟩ = some d4 := by
  have h1 : Blk (((((W.setCell ⟨g, 0, none⟩ d0).setCell ⟨g, 1, none⟩ d1).setCell ⟨g, 2, none⟩ d2).setCell ⟨g, 3, none⟩ d3).setCell ⟨g, 4, none⟩ d4) g #[d0, d1, d2, d3, d4] T := ((((h.set 0 d0).set 1 d1).set 2 d2).set 3 d3).set 4 d4
  obtain ⟨e0, e1, e2, e3, e4, _⟩ := tval h1
  exact ⟨((((hb.setCell hg _).setCell hg _).setCell hg _).setCell hg _).setCell hg _, e0, e1, e2, e3, e4⟩
theorem tnew (w : World) : Blk (w.alloc (.cells #[.int .i64 0, .int .i64 0, .int .i64 0, .int .i64 0, .string ⟨#[]⟩] 24)) w.heap.size #[.int .i64 0, .int .i64 0, .int .i64 0, .int .i64 0, .string ⟨#[]⟩] 24 ∧ Below w.heap.size w (w.alloc (.cells #[.int .i64 0, .int .i64 0, .int .i64 0, .int .i64 0, .string ⟨#[]⟩] 24)) :=
  ⟨Blk.new w _ _, (Below.refl _ _).alloc (Nat.le_refl _) _⟩
theorem numN_snoc (l : List UInt8) (c : UInt8) : numN (l ++ [c]) = min (10 * numN l + (c.toNat - 48)) 1000000000000001 := by simp [numN]
theorem numN_le (l : List UInt8) : numN l ≤ 1000000000000001 := by
  rcases List.eq_nil_or_concat l with rfl | ⟨m, c, rfl⟩
  · decide
  · rw [List.concat_eq_append, numN_snoc]; omega
set_option maxHeartbeats 4000000 in
theorem number_any (l : List UInt8) (a : Nat) (w : World) (ha : a ≤ l.length) (hl : l.length ≤ 100000) : Calls Try.prog 24 #[.string (S l), .int .i64 (a : Int)] w (PcR (numF (l.drop a)) a w) := by
  have hsz := S_size l
  obtain ⟨p, hp⟩ : ∃ p, numF (l.drop a) = p := ⟨_, rfl⟩
  have HF : Hid ((if 1000000000000000 < numN ((l.drop a).takeWhile digB) then bad 4 else ⟨3, ((l.drop a).takeWhile digB).length, numN ((l.drop a).takeWhile digB), [], 0⟩) = p) := hp
  have HD := Lib.hid (fun c W => digit_any c W)
  rw [hp]
  clear hp
  obtain ⟨hv, hb⟩ := tnew w
  go_enter Try.func24, Try.ntmps24
  go_wp2_with fail
  generalize hW : (w.alloc (.cells #[.int .i64 0, .int .i64 0, .int .i64 0, .int .i64 0, .string ⟨#[]⟩] 24)) = W0 at hv hb ⊢
  clear hW
  go_loopw [6, 7] (fun i n wr => ∃ (k : Nat) (d : List UInt8), a + k ≤ l.length ∧ i = .int .i64 ((a + k : Nat) : Int) ∧ n = .int .i64 (numN d : Nat) ∧ d.length = k ∧ wr = W0 ∧ Hid ((l.drop a).takeWhile digB = d ++ (l.drop (a + k)).takeWhile digB)) (fun i _ _ => l.length - (intOf i).toNat)
  case atStart => exact ⟨0, [], by omega, rfl, rfl, rfl, rfl, rfl⟩
  case round =>
    obtain ⟨k, d, hk, rfl, rfl, rfl, rfl, HT⟩ := hrel
    obtain ⟨i, hi⟩ : ∃ i, a + d.length = i := ⟨_, rfl⟩
    have HI := Lib.hid hi
    rw [hi] at hk HT ⊢
    have hfin : (l.drop i).takeWhile digB = [] → p = (if 1000000000000000 < numN d then bad 4 else ⟨3, d.length, numN d, [], 0⟩) := fun h => by
      have h1 := HF.out
      have h2 := HT.out
      rw [h, List.append_nil] at h2
      rw [← h1, h2]
    have hle := numN_le d
    by_cases hlt : i < l.length
    · have hd := List.drop_eq_getElem_cons hlt
      have hc0 : i < (S l).size := by omega
      have hce : (((S l)[i]'hc0).toNat : Int) = (l[i]).toNat := by rw [S_at l i hlt]
      obtain ⟨c, hc⟩ : ∃ c, l[i] = c := ⟨_, rfl⟩
      rw [hc] at hd hce
      have hk0 : (0 : Int) ≤ i := by omega
      have hk1 : (i : Int) < l.length := by omega
      have HC := Lib.hid (fun W => HD.out c W)
      have hsn := numN_snoc d c
      cases hb2 : digB c with
      | true =>
        rw [hb2] at HC
        have HT2 : Hid ((l.drop a).takeWhile digB = (d ++ [c]) ++ (l.drop (i + 1)).takeWhile digB) := by
          show _ = _
          rw [HT.out, hd, List.takeWhile_cons, hb2]
          simp
        have hcn : 48 ≤ c.toNat ∧ c.toNat ≤ 57 := by rw [dig_nat] at hb2; simpa using hb2
        have hx1 : (48 : Int) ≤ c.toNat := by omega
        have hx2 : (c.toNat : Int) ≤ 57 := by omega
        have HSN : Hid (((numN (d ++ [c]) : Nat) : Int) = min (10 * (numN d : Int) + ((c.toNat : Int) - 48)) 1000000000000001) := by
          show _ = _
          rw [hsn]
          omega
        clear hd hc hsn hfin hb2 hi HT
        generalize numN d = nd at *
        go_wp2_with fail
        refine (HC.out _).mono ?_
        rintro e w1 ⟨rfl, rfl⟩
        go_wp2_with fail
        exact ⟨⟨d.length + 1, d ++ [c], by have := HI.out; omega, by have := HI.out; go_num, by rw [HSN.out], by simp, trivial, by have := HI.out; rw [show a + (d.length + 1) = i + 1 by omega]; exact HT2⟩, by simp [intOf]; omega⟩
      | false =>
        rw [hb2] at HC
        obtain rfl := hfin (by rw [hd, List.takeWhile_cons, hb2]; rfl)
        have HDL : Hid (a + d.length = i) := HI.out
        obtain ⟨z0, z1, z2, z3, z4, f0, f1, f2, f3, f4⟩ := tval hv
        clear hd hc hsn hb2
        clear hfin hi HT HF HI
        generalize numN d = nd at *
        by_cases hbig : 1000000000000000 < nd
        · have hbi : (1000000000000000 : Int) < nd := by omega
          rw [if_pos hbig]
          clear hbig
          go_wp2_with fail
          refine (HC.out _).mono ?_
          rintro e w1 ⟨rfl, rfl⟩
          go_wp2_with fail
          obtain ⟨hbE, e0, e1, e2, e3, e4⟩ := tfin hv hb (Nat.le_refl _) (.int .i64 0) (.int .i64 (a : Int)) (.int .i64 0) (.int .i64 0) (.string ⟨#[]⟩)
          exact bodyPost_ret (v := .tuple #[.agg #[.int .i64 0, .int .i64 (a : Int), .int .i64 0, .int .i64 0, .string ⟨#[]⟩], .int .i64 4]) (by simp [results, Try.results24, go_sem, e0, e1, e2, e3, e4]) rfl ⟨rfl, hbE⟩
        · have hbi : ¬ (1000000000000000 : Int) < nd := by omega
          rw [if_neg hbig]
          clear hbig
          go_wp2_with fail
          refine (HC.out _).mono ?_
          rintro e w1 ⟨rfl, rfl⟩
          have hsub : ((i : Int) - (a : Int)) = d.length := by have := HDL.out; omega
          go_wp2_with fail
          obtain ⟨hbE, e0, e1, e2, e3, e4⟩ := tfin hv hb (Nat.le_refl _) (.int .i64 3) (.int .i64 (a : Int)) (.int .i64 (d.length : Int)) (.int .i64 (nd : Int)) (.string ⟨#[]⟩)
          exact bodyPost_ret (v := .tuple #[.agg #[.int .i64 3, .int .i64 (a : Int), .int .i64 (d.length : Int), .int .i64 (nd : Int), .string ⟨#[]⟩], .int .i64 0]) (by simp [results, Try.results24, go_sem, e0, e1, e2, e3, e4]) rfl ⟨rfl, hbE⟩
    · obtain rfl := hfin (by rw [List.drop_of_length_le (by omega)]; rfl)
      have HDL : Hid (a + d.length = i) := HI.out
      obtain ⟨z0, z1, z2, z3, z4, f0, f1, f2, f3, f4⟩ := tval hv
      clear hfin hi HT HF HI
      generalize numN d = nd at *
      by_cases hbig : 1000000000000000 < nd
      · have hbi : (1000000000000000 : Int) < nd := by omega
        rw [if_pos hbig]
        clear hbig
        go_wp2_with fail
        obtain ⟨hbE, e0, e1, e2, e3, e4⟩ := tfin hv hb (Nat.le_refl _) (.int .i64 0) (.int .i64 (a : Int)) (.int .i64 0) (.int .i64 0) (.string ⟨#[]⟩)
        exact bodyPost_ret (v := .tuple #[.agg #[.int .i64 0, .int .i64 (a : Int), .int .i64 0, .int .i64 0, .string ⟨#[]⟩], .int .i64 4]) (by simp [results, Try.results24, go_sem, e0, e1, e2, e3, e4]) rfl ⟨rfl, hbE⟩
      · have hbi : ¬ (1000000000000000 : Int) < nd := by omega
        rw [if_neg hbig]
        clear hbig
        have hsub : ((i : Int) - (a : Int)) = d.length := by have := HDL.out; omega
        go_wp2_with fail
        obtain ⟨hbE, e0, e1, e2, e3, e4⟩ := tfin hv hb (Nat.le_refl _) (.int .i64 3) (.int .i64 (a : Int)) (.int .i64 (d.length : Int)) (.int .i64 (nd : Int)) (.string ⟨#[]⟩)
        exact bodyPost_ret (v := .tuple #[.agg #[.int .i64 3, .int .i64 (a : Int), .int .i64 (d.length : Int), .int .i64 (nd : Int), .string ⟨#[]⟩], .int .i64 0]) (by simp [results, Try.results24, go_sem, e0, e1, e2, e3, e4]) rfl ⟨rfl, hbE⟩
set_option maxHeartbeats 4000000 in
theorem quoted_any (l : List UInt8) (a : Nat) (w : World) (ha : a < l.length) (hl : l.length ≤ 100000) : Calls Try.prog 25 #[.string (S l), .int .i64 (a : Int)] w (PcR (quotF (l.drop (a + 1))) a w) := by
  have hsz := S_size l
  have hr : (l.drop (a + 1)).length = l.length - (a + 1) := List.length_drop
  have HE : Hid ((S l).extract (a + 1) l.length = S (l.drop (a + 1))) := S_drop l (a + 1) (by omega)
  have hcut : ∀ j, j ≤ l.length - (a + 1) → (S l).extract (a + 1) (a + 1 + j) = S ((l.drop (a + 1)).take j) := fun j hj => by
    rw [S_cut l (a + 1) (a + 1 + j) (by omega)]; congr 2; omega
  have HQ := Lib.hid (fun W => Try.strings_IndexByte (S (l.drop (a + 1))) 34 W)
  rw [S_data, show (34 : Int).toNat.toUInt8 = 34 from rfl] at HQ
  obtain ⟨p, hp⟩ : ∃ p, quotF (l.drop (a + 1)) = p := ⟨_, rfl⟩
  have hF : (if indexByte (l.drop (a + 1)) 34 < 0 then bad 3 else if plainL ((l.drop (a + 1)).take (indexByte (l.drop (a + 1)) 34).toNat) = false then bad 2 else if 20 < ((l.drop (a + 1)).take (indexByte (l.drop (a + 1)) 34).toNat).length then bad 4 else ⟨2, ((l.drop (a + 1)).take (indexByte (l.drop (a + 1)) 34).toNat).length + 2, 0, (l.drop (a + 1)).take (indexByte (l.drop (a + 1)) 34).toNat, 0⟩) = p := hp
  have hzl : ¬ indexByte (l.drop (a + 1)) 34 < 0 → (indexByte (l.drop (a + 1)) 34).toNat < l.length - (a + 1) := fun h => by
    obtain ⟨j, hj⟩ : ∃ j : Nat, indexByte (l.drop (a + 1)) 34 = j := ⟨(indexByte (l.drop (a + 1)) 34).toNat, by omega⟩
    obtain ⟨h1, _⟩ := List.getElem?_eq_some_iff.1 (Lib.indexByte_some hj).1
    rw [hr] at h1
    omega
  rw [hp]
  clear hp
  obtain ⟨z, hz⟩ : ∃ z, indexByte (l.drop (a + 1)) 34 = z := ⟨_, rfl⟩
  rw [hz] at HQ hF hzl
  clear hz
  have ha0 : (0 : Int) ≤ a := by omega
  have ha1 : (a : Int) + 1 ≤ l.length := by omega
  obtain ⟨hv, hb⟩ := tnew w
  by_cases hz0 : z < 0
  · obtain rfl : bad 3 = p := by rw [← hF, if_pos hz0]
    clear hF hcut hzl hr
    go_enter Try.func25, Try.ntmps25
    go_wp2_with fail
    rw [HE.out]
    refine (HQ.out _).mono ?_
    rintro e w1 ⟨rfl, rfl⟩
    generalize hW : (w.alloc (.cells #[.int .i64 0, .int .i64 0, .int .i64 0, .int .i64 0, .string ⟨#[]⟩] 24)) = W0 at hv hb ⊢
    clear hW
    obtain ⟨z0, z1, z2, z3, z4, f0, f1, f2, f3, f4⟩ := tval hv
    go_wp2_with fail
    obtain ⟨hbE, e0, e1, e2, e3, e4⟩ := tfin hv hb (Nat.le_refl _) (.int .i64 0) (.int .i64 (a : Int)) (.int .i64 0) (.int .i64 0) (.string ⟨#[]⟩)
    exact bodyPost_ret (v := .tuple #[.agg #[.int .i64 0, .int .i64 (a : Int), .int .i64 0, .int .i64 0, .string ⟨#[]⟩], .int .i64 3]) (by simp [results, Try.results25, go_sem, e0, e1, e2, e3, e4]) rfl ⟨rfl, hbE⟩
  · have hj := hzl hz0
    obtain ⟨j, rfl⟩ : ∃ j : Nat, z = j := ⟨z.toNat, by omega⟩
    have htn : ((j : Nat) : Int).toNat = j := rfl
    rw [if_neg hz0, htn] at hF
    rw [htn] at hj
    have HC := Lib.hid (hcut j (by omega))
    have hwl : ((l.drop (a + 1)).take j).length = j := by rw [List.length_take, hr]; omega
    obtain ⟨q, hq⟩ : ∃ q, (l.drop (a + 1)).take j = q := ⟨_, rfl⟩
    rw [hq] at hF HC hwl
    have HP := Lib.hid (fun W => plain_any q W)
    have hqs := S_size q
    rw [hwl] at hqs hF
    have hj1 : (0 : Int) ≤ j := by omega
    have hj2 : (a : Int) + 1 + j ≤ l.length := by omega
    have hj3 : (a : Int) + 1 ≤ (a : Int) + 1 + j := by omega
    clear hcut hzl htn hz0 hq hr hwl
    obtain ⟨b, hbp⟩ : ∃ b, plainL q = b := ⟨_, rfl⟩
    rw [hbp] at HP hF
    clear hbp
    have HFF := Lib.hid hF
    clear hF
    obtain ⟨sq, hsq⟩ : ∃ x, S q = x := ⟨_, rfl⟩
    have HSQ := Lib.hid hsq
    rw [hsq] at HC HP hqs
    clear hsq
    cases b with
    | false =>
      obtain rfl : bad 2 = p := by rw [← HFF.out, if_pos rfl]
      go_enter Try.func25, Try.ntmps25
      go_wp2_with fail
      rw [HE.out]
      refine (HQ.out _).mono ?_
      rintro e w1 ⟨rfl, rfl⟩
      generalize hW : (w.alloc (.cells #[.int .i64 0, .int .i64 0, .int .i64 0, .int .i64 0, .string ⟨#[]⟩] 24)) = W0 at hv hb ⊢
      clear hW
      go_wp2_with fail
      rw [HC.out]
      refine (HP.out _).mono ?_
      rintro e w2 ⟨rfl, hb2⟩
      replace hv := hv.below hb2
      replace hb := hb.next hb2
      obtain ⟨z0, z1, z2, z3, z4, f0, f1, f2, f3, f4⟩ := tval hv
      go_wp2_with fail
      obtain ⟨hbE, e0, e1, e2, e3, e4⟩ := tfin hv hb (Nat.le_refl _) (.int .i64 0) (.int .i64 (a : Int)) (.int .i64 0) (.int .i64 0) (.string ⟨#[]⟩)
      exact bodyPost_ret (v := .tuple #[.agg #[.int .i64 0, .int .i64 (a : Int), .int .i64 0, .int .i64 0, .string ⟨#[]⟩], .int .i64 2]) (by simp [results, Try.results25, go_sem, e0, e1, e2, e3, e4]) rfl ⟨rfl, hbE⟩
    | true =>
      by_cases h20 : 20 < j
      · obtain rfl : bad 4 = p := by rw [← HFF.out, if_neg (by simp), if_pos h20]
        go_enter Try.func25, Try.ntmps25
        go_wp2_with fail
        rw [HE.out]
        refine (HQ.out _).mono ?_
        rintro e w1 ⟨rfl, rfl⟩
        generalize hW : (w.alloc (.cells #[.int .i64 0, .int .i64 0, .int .i64 0, .int .i64 0, .string ⟨#[]⟩] 24)) = W0 at hv hb ⊢
        clear hW
        go_wp2_with fail
        rw [HC.out]
        refine (HP.out _).mono ?_
        rintro e w2 ⟨rfl, hb2⟩
        replace hv := hv.below hb2
        replace hb := hb.next hb2
        obtain ⟨z0, z1, z2, z3, z4, f0, f1, f2, f3, f4⟩ := tval hv
        go_wp2_with fail
        obtain ⟨hbE, e0, e1, e2, e3, e4⟩ := tfin hv hb (Nat.le_refl _) (.int .i64 0) (.int .i64 (a : Int)) (.int .i64 0) (.int .i64 0) (.string ⟨#[]⟩)
        exact bodyPost_ret (v := .tuple #[.agg #[.int .i64 0, .int .i64 (a : Int), .int .i64 0, .int .i64 0, .string ⟨#[]⟩], .int .i64 4]) (by simp [results, Try.results25, go_sem, e0, e1, e2, e3, e4]) rfl ⟨rfl, hbE⟩
      · obtain rfl : (⟨2, j + 2, 0, q, 0⟩ : Pc) = p := by rw [← HFF.out, if_neg (by simp), if_neg h20]
        have HSQ2 : Hid (S q = sq) := HSQ.out
        go_enter Try.func25, Try.ntmps25
        go_wp2_with fail
        rw [HE.out]
        refine (HQ.out _).mono ?_
        rintro e w1 ⟨rfl, rfl⟩
        generalize hW : (w.alloc (.cells #[.int .i64 0, .int .i64 0, .int .i64 0, .int .i64 0, .string ⟨#[]⟩] 24)) = W0 at hv hb ⊢
        clear hW
        go_wp2_with fail
        rw [HC.out]
        refine (HP.out _).mono ?_
        rintro e w2 ⟨rfl, hb2⟩
        replace hv := hv.below hb2
        replace hb := hb.next hb2
        obtain ⟨z0, z1, z2, z3, z4, f0, f1, f2, f3, f4⟩ := tval hv
        go_wp2_with fail
        obtain ⟨hbE, e0, e1, e2, e3, e4⟩ := tfin hv hb (Nat.le_refl _) (.int .i64 2) (.int .i64 (a : Int)) (.int .i64 ((j : Int) + 2)) (.int .i64 0) (.string sq)
        exact bodyPost_ret (v := .tuple #[.agg #[.int .i64 2, .int .i64 (a : Int), .int .i64 ((j : Int) + 2), .int .i64 0, .string sq], .int .i64 0]) (by simp [results, Try.results25, go_sem, e0, e1, e2, e3, e4]) rfl ⟨by rw [← HSQ2.out]; rfl, hbE⟩
theorem neq8 {c d : UInt8} (h : c ≠ d) : ((c.toNat : Int) == (d.toNat : Int)) = false := by
  have : c.toNat ≠ d.toNat := fun e => h (UInt8.toNat_inj.1 e)
  simp
  omega
/-- What a sign's size hangs on. -/
theorem signN_cases (c d : UInt8) : (c = 124 ∧ d = 124 ∧ signN c d = 2) ∨ (c = 124 ∧ d ≠ 124 ∧ signN c d = 0) ∨ (c = 60 ∧ d = 62 ∧ signN c d = 2) ∨ (c = 60 ∧ d = 61 ∧ signN c d = 2) ∨ (c = 60 ∧ d ≠ 62 ∧ d ≠ 61 ∧ signN c d = 1) ∨
    (c = 62 ∧ d = 61 ∧ signN c d = 2) ∨ (c = 62 ∧ d ≠ 61 ∧ signN c d = 1) ∨ (c ≠ 124 ∧ c ≠ 60 ∧ c ≠ 62 ∧ (c = 40 ∨ c = 41 ∨ c = 44 ∨ c = 46 ∨ c = 59 ∨ c = 43 ∨ c = 45 ∨ c = 42 ∨ c = 47 ∨ c = 37 ∨ c = 61) ∧ signN c d = 1) ∨
    (c ≠ 124 ∧ c ≠ 60 ∧ c ≠ 62 ∧ c ≠ 40 ∧ c ≠ 41 ∧ c ≠ 44 ∧ c ≠ 46 ∧ c ≠ 59 ∧ c ≠ 43 ∧ c ≠ 45 ∧ c ≠ 42 ∧ c ≠ 47 ∧ c ≠ 37 ∧ c ≠ 61 ∧ signN c d = 0) := by
  by_cases h1 : c = 124
  · by_cases h2 : d = 124
    · exact .inl ⟨h1, h2, by rw [signN, if_pos h1, if_pos h2]⟩
    · exact .inr (.inl ⟨h1, h2, by rw [signN, if_pos h1, if_neg h2]⟩)
  · by_cases h2 : c = 60
    · by_cases h3 : d = 62
      · exact .inr (.inr (.inl ⟨h2, h3, by rw [signN, if_neg h1, if_pos h2, if_pos (.inl h3)]⟩))
      · by_cases h4 : d = 61
        · exact .inr (.inr (.inr (.inl ⟨h2, h4, by rw [signN, if_neg h1, if_pos h2, if_pos (.inr h4)]⟩)))
        · exact .inr (.inr (.inr (.inr (.inl ⟨h2, h3, h4, by rw [signN, if_neg h1, if_pos h2, if_neg (by rintro (e | e); exact h3 e; exact h4 e)]⟩))))
    · by_cases h3 : c = 62
      · by_cases h4 : d = 61
        · exact .inr (.inr (.inr (.inr (.inr (.inl ⟨h3, h4, by rw [signN, if_neg h1, if_neg h2, if_pos h3, if_pos h4]⟩)))))
        · exact .inr (.inr (.inr (.inr (.inr (.inr (.inl ⟨h3, h4, by rw [signN, if_neg h1, if_neg h2, if_pos h3, if_neg h4]⟩))))))
      · by_cases h4 : c = 40 ∨ c = 41 ∨ c = 44 ∨ c = 46 ∨ c = 59 ∨ c = 43 ∨ c = 45 ∨ c = 42 ∨ c = 47 ∨ c = 37 ∨ c = 61
        · exact .inr (.inr (.inr (.inr (.inr (.inr (.inr (.inl ⟨h1, h2, h3, h4, by rw [signN, if_neg h1, if_neg h2, if_neg h3, if_pos h4]⟩)))))))
        · have h5 := h4
          simp only [not_or] at h5
          obtain ⟨a1, a2, a3, a4, a5, a6, a7, a8, a9, a10, a11⟩ := h5
          exact .inr (.inr (.inr (.inr (.inr (.inr (.inr (.inr ⟨h1, h2, h3, a1, a2, a3, a4, a5, a6, a7, a8, a9, a10, a11, by rw [signN, if_neg h1, if_neg h2, if_neg h3, if_neg h4]⟩)))))))
end Go.Proofs.Ytonpiacpgfibpaa.Lex
