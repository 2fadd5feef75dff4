/- The walk of DiskSays. -/
import Derived.Test.YthliialieogakaaDskD
import Derived.Test.YthliialieogakaaDskH
import Derived.Test.YthliialieogakaaDskV
import Derived.Test.YthliialieogakaaKitQ
import Derived.BigQuiet
namespace Go.Proofs.Ythliialieogakaa
set_option linter.unusedVariables false
set_option linter.unusedSimpArgs false
open Go.RowKit
open Oct (S)
open Go.Sort
theorem same_self (d : Dk) (v u : Value) (w : World) (hv : SecAt w v d.s) (hu : SecAt w u d.s) (hl : d.s.length ≤ 100000) : Calls Try.prog 10 #[d.val v, d.val u] w (Ret (.bool true) w) := by
  have := same_any d d v u w hv hu hl
  simpa using this
set_option maxRecDepth 100000 in
theorem says_out (d : Dk) (u : Value) (k : Int) (b : ByteArray) (n : Int) (w : World) (h : SecAt w u d.s) (hs : b.size ≤ maxLen) (hno : d.may = false ∨ 100 < d.s.length ∨ 1000 < b.size) :
    Calls Try.prog 4 #[d.val u, .int .i64 k, .string b, .int .i64 n] w (Ret (.bool true) w) := by
  have HM := Lib.hid (fun W h => may_any d u W h)
  have hsm := h.small
  obtain ⟨q, hq⟩ : ∃ q, d.may = q := ⟨_, rfl⟩
  rw [hq] at HM hno
  obtain ⟨s, a, c⟩ := d
  obtain ⟨ao, cap, rfl⟩ := h.nil
  simp only [Dk.val] at HM ⊢
  simp only at hsm hno
  have HS := Lib.hid h
  have HX := Lib.hid (fun W => awake_any W)
  unfold maxLen at hs
  have hP := Blk.new w #[.slice ao s.length cap, .int .i64 a, .bool c] 25
  have hB : Below w.heap.size w (w.alloc (.cells #[.slice ao s.length cap, .int .i64 a, .bool c] 25)) := (Below.refl _ _).alloc (Nat.le_refl _) _
  clear hq h
  go_enter Try.func4, Try.ntmps4
  go_wp2_with fail
  refine (HM.out _ (HS.out.below hB)).mono ?_
  rintro e w1 ⟨rfl, hb1⟩
  replace hP := hP.below hb1
  replace hB := hB.next hb1
  obtain ⟨x0, x1, x2, y0, y1, y2⟩ := hP.dval
  generalize s.length = m at *
  clear hb1
  cases q with
  | false =>
    go_wp2_with fail
    refine (HX.out _).mono ?_
    rintro e w2 ⟨rfl, hb2⟩
    go_wp2_with fail
    go_ret
    exact ⟨rfl, hB.next hb2⟩
  | true =>
    by_cases h1 : 100 < m
    · have h1' : (100 : Int) < m := by omega
      go_wp2_with fail
      refine (HX.out _).mono ?_
      rintro e w2 ⟨rfl, hb2⟩
      go_wp2_with fail
      go_ret
      exact ⟨rfl, hB.next hb2⟩
    · have h1' : ¬ (100 : Int) < m := by omega
      have h2' : (1000 : Int) < b.size := by rcases hno with h | h | h <;> first | omega | cases h
      go_wp2_with fail
      refine (HX.out _).mono ?_
      rintro e w2 ⟨rfl, hb2⟩
      go_wp2_with fail
      go_ret
      exact ⟨rfl, hB.next hb2⟩

/-- New of a number that is cut at 70000. -/
theorem Dk.new_min (n : Int) : Dk.new (min n 70000) = Dk.new n := by
  unfold Dk.new
  by_cases h : n ≤ 70000
  · rw [show min n 70000 = n from by omega]
  · rw [show min n 70000 = 70000 from by omega]; simp; omega
theorem Dk.write_leq (d : Dk) (k : Int) (b : ByteArray) : (d.write k b).1.s.length = d.s.length := by
  unfold Dk.write; split; rfl; split; rfl; split; rfl; simp
theorem Dk.from_len (k : Int) (p : ByteArray) : ∀ (n : Nat) (d : Dk) (j : Nat), (Dk.writeFrom k p d j n).1.s.length = d.s.length
  | 0, d, j => rfl
  | n + 1, d, j => by
    rw [Dk.writeFrom]
    split
    · rw [Dk.from_len k p n, Dk.write_leq]
    · rw [Dk.write_leq]
theorem Dk.writePage_len (d : Dk) (k : Int) (p : ByteArray) : (d.writePage k p).1.s.length = d.s.length := by
  unfold Dk.writePage; split; rfl; split; rfl; exact Dk.from_len ..
set_option maxHeartbeats 4000000 in
set_option maxRecDepth 100000 in
theorem says_in (d : Dk) (u : Value) (k : Int) (b : ByteArray) (n : Int) (w : World) (h : SecAt w u d.s) (hk : -9223372036854775808 ≤ k ∧ k ≤ 9223372036854775807) (hn : -9223372036854775808 ≤ n ∧ n ≤ 9223372036854775807) (hlf : -9223372036854775808 ≤ d.left ∧ d.left ≤ 9223372036854775807) (hyes : d.may = true ∧ d.s.length ≤ 100 ∧ b.size ≤ 1000) :
    Calls Try.prog 4 #[d.val u, .int .i64 k, .string b, .int .i64 n] w (Ret (.bool true) w) := by
  obtain ⟨hmay, hl100, hb1000⟩ := hyes
  have hsz : ∀ x ∈ d.s, x.size ≤ 1000 := by
    intro x hx
    simp only [Dk.may, Bool.and_eq_true, List.all_eq_true] at hmay
    have := hmay.1 x hx
    simp at this
    omega
  have hpos : 1 ≤ d.s.length := by
    simp only [Dk.may, Bool.and_eq_true] at hmay
    simpa using hmay.2.1
  have hl : d.s.length ≤ 100000 := by omega
  have hbm : b.size ≤ maxLen := by unfold maxLen; omega
  have HM := Lib.hid (fun W h => may_any d u W h)
  rw [hmay] at HM
  have HN1 := Lib.hid (fun W => new_any n W)
  have HN2 := Lib.hid (fun W => rnew_any (min n 70000) W)
  rw [Dk.new_min] at HN2
  obtain ⟨⟨⟨sn, an, cn⟩, en⟩, hnw⟩ : ∃ r, Dk.new n = r := ⟨_, rfl⟩
  rw [hnw] at HN1 HN2
  have HR1 := Lib.hid (fun W h => read_any d u k W h)
  have HR2 := Lib.hid (fun W h => rread_any d u k W h)
  obtain ⟨⟨tr, er⟩, hr⟩ : ∃ r, d.read k = r := ⟨_, rfl⟩
  rw [hr] at HR1 HR2
  have HP1 := Lib.hid (fun W h => readPage_any d u k W h hk hsz)
  have HP2 := Lib.hid (fun W h => rreadPage_any d u k W h hk hl hsz)
  obtain ⟨⟨tp, ep⟩, hp⟩ : ∃ r, d.readPage k = r := ⟨_, rfl⟩
  rw [hp] at HP1 HP2
  have HW1 := Lib.hid (fun W h => write_any d u k b W h hl hlf.1 hlf.2 hbm)
  have HW2 := Lib.hid (fun W h => rwrite_any d u k b W h hl hlf.1 hlf.2 hbm)
  have hlx := Dk.write_leq d k b
  obtain ⟨⟨⟨sx, ax, cx⟩, ex⟩, hx⟩ : ∃ r, d.write k b = r := ⟨_, rfl⟩
  rw [hx] at HW1 HW2 hlx
  have HG1 := Lib.hid (fun W h => writePage_any d u k b W h hl hlf.1 hlf.2 hbm)
  have HG2 := Lib.hid (fun W h => rwritePage_any d u k b W h hl hlf.1 hlf.2 hbm)
  have hlg := Dk.writePage_len d k b
  obtain ⟨⟨⟨sg, ag, cg⟩, eg⟩, hg⟩ : ∃ r, d.writePage k b = r := ⟨_, rfl⟩
  rw [hg] at HG1 HG2 hlg
  have HA1 := Lib.hid (fun W h => arm_val d u n W h)
  have HA2 := Lib.hid (fun W h => rarm_val d u n W h)
  obtain ⟨aa, haa⟩ : ∃ aa, d.arm n = ⟨d.s, aa, d.down⟩ := ⟨_, rfl⟩
  rw [haa] at HA1 HA2
  have HT1 := Lib.hid (fun W h => start_val d u W h)
  have HT2 := Lib.hid (fun W h => rstart_val d u W h)
  have HX := Lib.hid (fun W => awake_any W)
  have HE := Lib.hid (fun (s : List ByteArray) (a : Int) (c : Bool) (v u : Value) W hv hu hl => same_self ⟨s, a, c⟩ v u W hv hu hl)
  obtain ⟨s, a, c⟩ := d
  obtain ⟨b0, off, cap, rfl, hlt0, hcell0⟩ := SecAt.get h 0 hpos
  simp only at hlx hlg hl hl100 hpos hlt0 hcell0
  simp only [Dk.val, Dk.start] at HM HN1 HN2 HR1 HR2 HP1 HP2 HW1 HW2 HG1 HG2 HA1 HA2 HT1 HT2 HE
  show Calls Try.prog 4 #[.agg #[.slice (some ⟨b0, off, none⟩) s.length cap, .int .i64 a, .bool c], .int .i64 k, .string b, .int .i64 n] w _
  have HS := Lib.hid h
  have HC0 := Lib.hid hcell0
  have hX := Blk.new w #[.slice (some ⟨b0, off, none⟩) s.length cap, .int .i64 a, .bool c] 25
  have hB : Below w.heap.size w (w.alloc (.cells #[.slice (some ⟨b0, off, none⟩) s.length cap, .int .i64 a, .bool c] 25)) := (Below.refl _ _).alloc (Nat.le_refl _) _
  have HLX := Lib.hid hlx
  have HLG := Lib.hid hlg
  have HL := Lib.hid hl
  have h100 : ¬ (100 : Int) < s.length := by omega
  have h1000 : ¬ (1000 : Int) < b.size := by omega
  have hnm : (if n ≤ 70000 then n else 70000) = min n 70000 := by omega
  clear h hcell0 hlx hlg hnw hr hp hx hg haa hmay hsz hbm hl100 hb1000
  go_enter Try.func4, Try.ntmps4
  go_wp2_with fail
  refine (HM.out _ (HS.out.below hB)).mono ?_
  rintro e w1 ⟨rfl, hb1⟩
  replace hX := hX.below hb1
  replace hB := hB.next hb1
  have hS := HS.out.below hB
  obtain ⟨x0, x1, x2, y0, y1, y2⟩ := hX.dval
  clear hb1
  obtain ⟨xa0, xa1, xa2, ya0, ya1, ya2⟩ := ((hX.alloc (.cells #[.slice (some ⟨b0, off, none⟩) s.length cap, .int .i64 a, .bool c] 25)).alloc (.cells #[] 9)).dval
  have hQ := Blk.new w1 #[.slice (some ⟨b0, off, none⟩) s.length cap, .int .i64 a, .bool c] 25
  have hG0 := Blk.new (w1.alloc (.cells #[.slice (some ⟨b0, off, none⟩) s.length cap, .int .i64 a, .bool c] 25)) #[] 9
  have hsz1 : (w1.alloc (.cells #[.slice (some ⟨b0, off, none⟩) s.length cap, .int .i64 a, .bool c] 25)).heap.size = w1.heap.size + 1 := by simp
  rw [hsz1] at hG0
  clear hsz1
  have hc1 : ∀ i (hi : i < s.length), w1.cell? ⟨b0, off + i, none⟩ = some (.string s[i]) := fun i hi => (hB.cell (p := ⟨b0, off + i, none⟩) hlt0).trans (HC0.out i hi)
  have HC1 := Lib.hid hc1
  clear hc1
  go_wp2_with ((with_reducible refine wpList_append_strs 23 9 Try.underlying23 info_str ?_); refine ⟨w1.heap.size + 1, s, b0, off, cap, rfl, rfl, ?g1, ?g2, HL.out, ?g3, ?g4⟩)
  case g1 => exact hG0
  case g2 => omega
  case g3 =>
    intro i hi
    exact cell_alloc (cell_alloc (HC1.out i hi) _) _
  case g4 =>
  intro g cap3 cur w3 hgg hG HK hb3
  have hX3 := ((hX.alloc (.cells #[.slice (some ⟨b0, off, none⟩) s.length cap, .int .i64 a, .bool c] 25)).alloc (.cells #[] 9)).belowB hb3 (by have := hX.lt; omega)
  have hQ3 := (hQ.alloc (.cells #[] 9)).belowB hb3 (by omega)
  have hB3 : Below w.heap.size w w3 := ((hB.alloc hB.size (.cells #[.slice (some ⟨b0, off, none⟩) s.length cap, .int .i64 a, .bool c] 25)).alloc (by have := hB.size; simp; omega) (.cells #[] 9)).trans (hb3.mono (by have := hB.size; omega))
  have hlq : w.heap.size < w1.heap.size := hX.lt
  have hgq : w1.heap.size < g := by omega
  generalize w1.heap.size = Q at *
  clear hX hQ hB hb3 hG0 HC1 HC0 hS x0 x1 x2 y0 y1 y2 xa0 xa1 xa2 ya0 ya1 ya2
  obtain ⟨q0, q1, q2, r0, r1, r2⟩ := hQ3.dval
  go_wp2_with fail
  generalize hW : w3.setCell ⟨Q, 0, none⟩ (.slice (some ⟨g, 0, none⟩) s.length cap3) = W
  have hX : Blk W w.heap.size #[.slice (some ⟨b0, off, none⟩) s.length cap, .int .i64 a, .bool c] 25 := by subst hW; exact hX3.other (fun e => by have e : w.heap.size = Q := e; omega) _
  have hQ : Blk W Q #[.slice (some ⟨g, 0, none⟩) s.length cap3, .int .i64 a, .bool c] 25 := by subst hW; exact hQ3.set 0 _
  have hB : Below w.heap.size w W := by subst hW; exact hB3.setCell (by show w.heap.size ≤ Q; omega) _
  have hSQ : SecAt W (.slice (some ⟨g, 0, none⟩) s.length cap3) s := by
    subst hW
    have hG' := hG.other (a := ⟨Q, 0, none⟩) (fun e => by have e : g = Q := e; omega) (.slice (some ⟨g, 0, none⟩) s.length cap3)
    exact SecAt.of (by have := HL.out; omega) hG'.lt (fun i hi => by rw [Nat.zero_add]; exact hG'.cell i (HK.out i hi))
  clear hW hX3 hQ3 hB3 hG HK q0 q1 q2 r0 r1 r2 hgg hgq
  refine (HN1.out _).mono ?_
  rintro e w10 ⟨hb, v10, rfl, hSv⟩
  obtain ⟨ao10, cap10, rfl⟩ := hSv.nil
  simp only [Dk.val] at hSv ⊢
  replace hX := hX.below hb
  replace hQ := hQ.below hb
  replace hSQ := hSQ.below hb
  replace hB := hB.next hb
  clear hb
  have hXa := hX.alloc (.cells #[.slice ao10 sn.length cap10, .int .i64 an, .bool cn] 25)
  obtain ⟨xa0, xa1, xa2, xa3, xa4, xa5⟩ := hXa.dval
  go_wp2_with fail
  generalize hW10 : w10.alloc (.cells #[.slice ao10 sn.length cap10, .int .i64 an, .bool cn] 25) = W10
  have hDv : Blk W10 w10.heap.size #[.slice ao10 sn.length cap10, .int .i64 an, .bool cn] 25 := by subst hW10; exact Blk.new _ _ _
  have hb : Below w10.heap.size w10 W10 := by subst hW10; exact (Below.refl _ _).alloc (Nat.le_refl _) _
  clear hW10 hXa xa0 xa1 xa2 xa3 xa4 xa5
  replace hX := hX.below hb
  replace hQ := hQ.below hb
  replace hSQ := hSQ.below hb
  replace hSv := hSv.below hb
  replace hB := hB.next hb
  clear hb
  refine (HN2.out _).mono ?_
  rintro e w11 ⟨hb, v11, rfl, hSw⟩
  obtain ⟨ao11, cap11, rfl⟩ := hSw.nil
  simp only [Dk.val] at hSw ⊢
  replace hX := hX.below hb
  replace hQ := hQ.below hb
  replace hSQ := hSQ.below hb
  replace hSv := hSv.below hb
  replace hDv := hDv.below hb
  replace hB := hB.next hb
  clear hb
  have hXa := hX.alloc (.cells #[.slice ao11 sn.length cap11, .int .i64 an, .bool cn] 25)
  obtain ⟨xa0, xa1, xa2, xa3, xa4, xa5⟩ := hXa.dval
  have hDva := hDv.alloc (.cells #[.slice ao11 sn.length cap11, .int .i64 an, .bool cn] 25)
  obtain ⟨hDvc0, hDvc1, hDvc2, hDvc3, hDvc4, hDvc5⟩ := hDva.dval
  go_wp2_with fail
  clear hDva hDvc0 hDvc1 hDvc2 hDvc3 hDvc4 hDvc5
  generalize hW11 : w11.alloc (.cells #[.slice ao11 sn.length cap11, .int .i64 an, .bool cn] 25) = W11
  have hDw : Blk W11 w11.heap.size #[.slice ao11 sn.length cap11, .int .i64 an, .bool cn] 25 := by subst hW11; exact Blk.new _ _ _
  have hb : Below w11.heap.size w11 W11 := by subst hW11; exact (Below.refl _ _).alloc (Nat.le_refl _) _
  clear hW11 hXa xa0 xa1 xa2 xa3 xa4 xa5
  replace hX := hX.below hb
  replace hQ := hQ.below hb
  replace hSQ := hSQ.below hb
  replace hSv := hSv.below hb
  replace hDv := hDv.below hb
  replace hSw := hSw.below hb
  replace hB := hB.next hb
  clear hb
  clear hDv hSv hDw hSw
  refine (HR1.out _ (HS.out.below hB)).mono ?_
  rintro e w12 ⟨rfl, hb⟩
  replace hX := hX.below hb
  replace hQ := hQ.below hb
  replace hSQ := hSQ.below hb
  replace hB := hB.next hb
  clear hb
  obtain ⟨x0, x1, x2, x3, x4, x5⟩ := hX.dval
  go_wp2_with fail
  clear x0 x1 x2 x3 x4 x5
  refine (HR2.out _ (HS.out.below hB)).mono ?_
  rintro e w13 ⟨rfl, hb⟩
  replace hX := hX.below hb
  replace hQ := hQ.below hb
  replace hSQ := hSQ.below hb
  replace hB := hB.next hb
  clear hb
  obtain ⟨x0, x1, x2, x3, x4, x5⟩ := hX.dval
  go_wp2_with fail
  clear x0 x1 x2 x3 x4 x5
  refine (HP1.out _ (HS.out.below hB)).mono ?_
  rintro e w14 ⟨rfl, hb⟩
  replace hX := hX.below hb
  replace hQ := hQ.below hb
  replace hSQ := hSQ.below hb
  replace hB := hB.next hb
  clear hb
  obtain ⟨x0, x1, x2, x3, x4, x5⟩ := hX.dval
  go_wp2_with fail
  clear x0 x1 x2 x3 x4 x5
  refine (HP2.out _ (HS.out.below hB)).mono ?_
  rintro e w15 ⟨rfl, hb⟩
  replace hX := hX.below hb
  replace hQ := hQ.below hb
  replace hSQ := hSQ.below hb
  replace hB := hB.next hb
  clear hb
  obtain ⟨x0, x1, x2, x3, x4, x5⟩ := hX.dval
  go_wp2_with fail
  clear x0 x1 x2 x3 x4 x5
  refine (HW1.out _ (HS.out.below hB)).mono ?_
  rintro e w16 ⟨hb, v16, rfl, hS1⟩
  obtain ⟨ao16, cap16, rfl⟩ := hS1.nil
  simp only [Dk.val] at hS1 ⊢
  replace hX := hX.below hb
  replace hQ := hQ.below hb
  replace hSQ := hSQ.below hb
  replace hB := hB.next hb
  clear hb
  have hXa := hX.alloc (.cells #[.slice ao16 sx.length cap16, .int .i64 ax, .bool cx] 25)
  obtain ⟨xa0, xa1, xa2, xa3, xa4, xa5⟩ := hXa.dval
  go_wp2_with fail
  generalize hW16 : w16.alloc (.cells #[.slice ao16 sx.length cap16, .int .i64 ax, .bool cx] 25) = W16
  have hD1 : Blk W16 w16.heap.size #[.slice ao16 sx.length cap16, .int .i64 ax, .bool cx] 25 := by subst hW16; exact Blk.new _ _ _
  have hb : Below w16.heap.size w16 W16 := by subst hW16; exact (Below.refl _ _).alloc (Nat.le_refl _) _
  clear hW16 hXa xa0 xa1 xa2 xa3 xa4 xa5
  replace hX := hX.below hb
  replace hQ := hQ.below hb
  replace hSQ := hSQ.below hb
  replace hS1 := hS1.below hb
  replace hB := hB.next hb
  clear hb
  refine (HW2.out _ (HS.out.below hB)).mono ?_
  rintro e w17 ⟨hb, v17, rfl, hS2⟩
  obtain ⟨ao17, cap17, rfl⟩ := hS2.nil
  simp only [Dk.val] at hS2 ⊢
  replace hX := hX.below hb
  replace hQ := hQ.below hb
  replace hSQ := hSQ.below hb
  replace hS1 := hS1.below hb
  replace hD1 := hD1.below hb
  replace hB := hB.next hb
  clear hb
  have hXa := hX.alloc (.cells #[.slice ao17 sx.length cap17, .int .i64 ax, .bool cx] 25)
  obtain ⟨xa0, xa1, xa2, xa3, xa4, xa5⟩ := hXa.dval
  go_wp2_with fail
  generalize hW17 : w17.alloc (.cells #[.slice ao17 sx.length cap17, .int .i64 ax, .bool cx] 25) = W17
  have hD2 : Blk W17 w17.heap.size #[.slice ao17 sx.length cap17, .int .i64 ax, .bool cx] 25 := by subst hW17; exact Blk.new _ _ _
  have hb : Below w17.heap.size w17 W17 := by subst hW17; exact (Below.refl _ _).alloc (Nat.le_refl _) _
  clear hW17 hXa xa0 xa1 xa2 xa3 xa4 xa5
  replace hX := hX.below hb
  replace hQ := hQ.below hb
  replace hSQ := hSQ.below hb
  replace hS1 := hS1.below hb
  replace hD1 := hD1.below hb
  replace hS2 := hS2.below hb
  replace hB := hB.next hb
  clear hb
  refine (HG1.out _ (HS.out.below hB)).mono ?_
  rintro e w18 ⟨hb, v18, rfl, hS3⟩
  obtain ⟨ao18, cap18, rfl⟩ := hS3.nil
  simp only [Dk.val] at hS3 ⊢
  replace hX := hX.below hb
  replace hQ := hQ.below hb
  replace hSQ := hSQ.below hb
  replace hS1 := hS1.below hb
  replace hD1 := hD1.below hb
  replace hS2 := hS2.below hb
  replace hD2 := hD2.below hb
  replace hB := hB.next hb
  clear hb
  have hXa := hX.alloc (.cells #[.slice ao18 sg.length cap18, .int .i64 ag, .bool cg] 25)
  obtain ⟨xa0, xa1, xa2, xa3, xa4, xa5⟩ := hXa.dval
  go_wp2_with fail
  generalize hW18 : w18.alloc (.cells #[.slice ao18 sg.length cap18, .int .i64 ag, .bool cg] 25) = W18
  have hD3 : Blk W18 w18.heap.size #[.slice ao18 sg.length cap18, .int .i64 ag, .bool cg] 25 := by subst hW18; exact Blk.new _ _ _
  have hb : Below w18.heap.size w18 W18 := by subst hW18; exact (Below.refl _ _).alloc (Nat.le_refl _) _
  clear hW18 hXa xa0 xa1 xa2 xa3 xa4 xa5
  replace hX := hX.below hb
  replace hQ := hQ.below hb
  replace hSQ := hSQ.below hb
  replace hS1 := hS1.below hb
  replace hD1 := hD1.below hb
  replace hS2 := hS2.below hb
  replace hD2 := hD2.below hb
  replace hS3 := hS3.below hb
  replace hB := hB.next hb
  clear hb
  refine (HG2.out _ (HS.out.below hB)).mono ?_
  rintro e w19 ⟨hb, v19, rfl, hS4⟩
  obtain ⟨ao19, cap19, rfl⟩ := hS4.nil
  simp only [Dk.val] at hS4 ⊢
  replace hX := hX.below hb
  replace hQ := hQ.below hb
  replace hSQ := hSQ.below hb
  replace hS1 := hS1.below hb
  replace hD1 := hD1.below hb
  replace hS2 := hS2.below hb
  replace hD2 := hD2.below hb
  replace hS3 := hS3.below hb
  replace hD3 := hD3.below hb
  replace hB := hB.next hb
  clear hb
  have hXa := hX.alloc (.cells #[.slice ao19 sg.length cap19, .int .i64 ag, .bool cg] 25)
  obtain ⟨xa0, xa1, xa2, xa3, xa4, xa5⟩ := hXa.dval
  have hD1a := hD1.alloc (.cells #[.slice ao19 sg.length cap19, .int .i64 ag, .bool cg] 25)
  obtain ⟨hD1c0, hD1c1, hD1c2, hD1c3, hD1c4, hD1c5⟩ := hD1a.dval
  have hD2a := hD2.alloc (.cells #[.slice ao19 sg.length cap19, .int .i64 ag, .bool cg] 25)
  obtain ⟨hD2c0, hD2c1, hD2c2, hD2c3, hD2c4, hD2c5⟩ := hD2a.dval
  have hD3a := hD3.alloc (.cells #[.slice ao19 sg.length cap19, .int .i64 ag, .bool cg] 25)
  obtain ⟨hD3c0, hD3c1, hD3c2, hD3c3, hD3c4, hD3c5⟩ := hD3a.dval
  go_wp2_with fail
  clear hD1a hD1c0 hD1c1 hD1c2 hD1c3 hD1c4 hD1c5
  clear hD2a hD2c0 hD2c1 hD2c2 hD2c3 hD2c4 hD2c5
  clear hD3a hD3c0 hD3c1 hD3c2 hD3c3 hD3c4 hD3c5
  generalize hW19 : w19.alloc (.cells #[.slice ao19 sg.length cap19, .int .i64 ag, .bool cg] 25) = W19
  have hD4 : Blk W19 w19.heap.size #[.slice ao19 sg.length cap19, .int .i64 ag, .bool cg] 25 := by subst hW19; exact Blk.new _ _ _
  have hb : Below w19.heap.size w19 W19 := by subst hW19; exact (Below.refl _ _).alloc (Nat.le_refl _) _
  clear hW19 hXa xa0 xa1 xa2 xa3 xa4 xa5
  replace hX := hX.below hb
  replace hQ := hQ.below hb
  replace hSQ := hSQ.below hb
  replace hS1 := hS1.below hb
  replace hD1 := hD1.below hb
  replace hS2 := hS2.below hb
  replace hD2 := hD2.below hb
  replace hS3 := hS3.below hb
  replace hD3 := hD3.below hb
  replace hS4 := hS4.below hb
  replace hB := hB.next hb
  clear hb
  refine (HE.out sx ax cx _ _ _ hS1 hS2 (by rw [HLX.out]; exact HL.out)).mono ?_
  rintro e w20 ⟨rfl, hb⟩
  replace hX := hX.below hb
  replace hQ := hQ.below hb
  replace hSQ := hSQ.below hb
  replace hS1 := hS1.below hb
  replace hD1 := hD1.below hb
  replace hS2 := hS2.below hb
  replace hD2 := hD2.below hb
  replace hS3 := hS3.below hb
  replace hD3 := hD3.below hb
  replace hS4 := hS4.below hb
  replace hD4 := hD4.below hb
  replace hB := hB.next hb
  clear hb
  obtain ⟨dc0, dc1, dc2, dc3, dc4, dc5⟩ := hD3.dval
  obtain ⟨dd0, dd1, dd2, dd3, dd4, dd5⟩ := hD4.dval
  go_wp2_with fail
  clear dc0 dc1 dc2 dc3 dc4 dc5 dd0 dd1 dd2 dd3 dd4 dd5
  refine (HE.out sg ag cg _ _ _ hS3 hS4 (by rw [HLG.out]; exact HL.out)).mono ?_
  rintro e w21 ⟨rfl, hb⟩
  replace hX := hX.below hb
  replace hQ := hQ.below hb
  replace hSQ := hSQ.below hb
  replace hS1 := hS1.below hb
  replace hD1 := hD1.below hb
  replace hS2 := hS2.below hb
  replace hD2 := hD2.below hb
  replace hS3 := hS3.below hb
  replace hD3 := hD3.below hb
  replace hS4 := hS4.below hb
  replace hD4 := hD4.below hb
  replace hB := hB.next hb
  clear hb hD1 hD2 hD3 hD4 hS1 hS2 hS3 hS4
  go_wp2_with fail
  have hP : ∀ p : Regrown, Below w.heap.size w (grow (redrawn w21 p.d) p.os) := fun p => hB.next (below_regrown _ _ _)
  have cX := Lib.hid (fun p : Regrown => HX.out (grow (redrawn w21 p.d) p.os))
  have cA1 := Lib.hid (fun p : Regrown => HA1.out (grow (redrawn w21 p.d) p.os) (HS.out.below (hP p)))
  have cA2 := Lib.hid (fun p : Regrown => HA2.out (grow (redrawn w21 p.d) p.os) (HS.out.below (hP p)))
  have cT1 := Lib.hid (fun p : Regrown => HT1.out (grow (redrawn w21 p.d) p.os) (HS.out.below (hP p)))
  have cT2 := Lib.hid (fun p : Regrown => HT2.out (grow (redrawn w21 p.d) p.os) (HS.out.below (hP p)))
  have cE1 := Lib.hid (fun p : Regrown => HE.out s aa c _ _ (grow (redrawn w21 p.d) p.os) (HS.out.below (hP p)) (HS.out.below (hP p)) HL.out)
  have cE2 := Lib.hid (fun p : Regrown => HE.out s (-1) false _ _ (grow (redrawn w21 p.d) p.os) (HS.out.below (hP p)) (HS.out.below (hP p)) HL.out)
  have cE3 := Lib.hid (fun p : Regrown => HE.out s a c _ _ (grow (redrawn w21 p.d) p.os) (HS.out.below (hP p)) (hSQ.below (below_regrown _ _ _)) HL.out)
  have e0 : ∀ p : Regrown, (grow (redrawn w21 p.d) p.os).cell? ⟨w.heap.size, 0, none⟩ = some (.slice (some ⟨b0, off, none⟩) s.length cap) := fun q => cell_regrown (hX.cell 0 rfl) q.d q.os
  have e1 : ∀ p : Regrown, (grow (redrawn w21 p.d) p.os).cell? ⟨w.heap.size, 1, none⟩ = some (.int .i64 a) := fun q => cell_regrown (hX.cell 1 rfl) q.d q.os
  have e2 : ∀ p : Regrown, (grow (redrawn w21 p.d) p.os).cell? ⟨w.heap.size, 2, none⟩ = some (.bool c) := fun q => cell_regrown (hX.cell 2 rfl) q.d q.os
  have f0 : ∀ p : Regrown, (grow (redrawn w21 p.d) p.os).cell? ⟨Q, 0, none⟩ = some (.slice (some ⟨g, 0, none⟩) s.length cap3) := fun q => cell_regrown (hQ.cell 0 rfl) q.d q.os
  have f1 : ∀ p : Regrown, (grow (redrawn w21 p.d) p.os).cell? ⟨Q, 1, none⟩ = some (.int .i64 a) := fun q => cell_regrown (hQ.cell 1 rfl) q.d q.os
  have f2 : ∀ p : Regrown, (grow (redrawn w21 p.d) p.os).cell? ⟨Q, 2, none⟩ = some (.bool c) := fun q => cell_regrown (hQ.cell 2 rfl) q.d q.os
  clear hX hQ hSQ hP HN1 HN2 HR1 HR2 HP1 HP2 HW1 HW2 HG1 HG2 HA1 HA2 HT1 HT2 HX HE HM HLX HLG
  refine wp_region_quiet_below (by kernel_rfl) (by kernel_rfl) ?_
  repeat (go_big_quiet_step (first | (go_at_call 9; with_reducible exact Ret.regrown (cX.out _)) | (go_at_call 20; with_reducible exact Ret.regrown (cA1.out _)) | (go_at_call 21; with_reducible exact Ret.regrown (cA2.out _)) | (go_at_call 22; with_reducible exact Ret.regrown (cT1.out _)) | (go_at_call 23; with_reducible exact Ret.regrown (cT2.out _)) | (go_at_call 10; first | (with_reducible exact Ret.regrown (cE1.out _)) | (with_reducible exact Ret.regrown (cE2.out _)) | (with_reducible exact Ret.regrown (cE3.out _)))))
  refine wpQuiet_nil ?_
  intro w22 hw2
  have hb2 := below_of_regrown hw2
  clear hw2 e0 e1 e2 f0 f1 f2
  go_wp2_with fail
  go_ret
  exact ⟨rfl, hB.next hb2⟩

theorem wf_i64 {n : Int} (h : (Lit.int .i64 n).wf = true) : -9223372036854775808 ≤ n ∧ n ≤ 9223372036854775807 := by
  simp [Lit.wf, show IntKind.i64.min = -9223372036854775808 by decide, show IntKind.i64.max = 9223372036854775807 by decide] at h
  omega
theorem walk_DiskSays (d : Dk) (u : Value) (k : Int) (b : ByteArray) (n : Int) (w : World) (h : SecAt w u d.s) (hd : (Lit.int .i64 d.left).wf = true) (h1 : (Lit.int .i64 k).wf = true) (h2 : b.size ≤ 140737488351232) (h3 : (Lit.int .i64 n).wf = true) :
    Calls Try.prog 4 #[d.val u, .int .i64 k, .string b, .int .i64 n] w (Ret (.bool true) w) := by
  by_cases hy : d.may = true ∧ d.s.length ≤ 100 ∧ b.size ≤ 1000
  · exact says_in d u k b n w h (wf_i64 h1) (wf_i64 h3) (wf_i64 hd) hy
  · refine says_out d u k b n w h (by unfold maxLen; omega) ?_
    by_cases hm : d.may = true
    · have : ¬ (d.s.length ≤ 100 ∧ b.size ≤ 1000) := fun e => hy ⟨hm, e⟩
      omega
    · exact .inl (by simpa using hm)
end Go.Proofs.Ythliialieogakaa
