/- rec: the writer's lists: what it writes. -/
import Derived.Test.YtloengjcniefgaaRecG
namespace Go.Proofs.Ytloengjcniefgaa.Rec
set_option linter.unusedVariables false
set_option linter.unusedSimpArgs false
open Go.RowKit
open Oct (S beN putL U I getI sumN S_size S_data)
open Wr (BldAt)
set_option maxHeartbeats 8000000 in
set_option maxRecDepth 100000 in
theorem lists_any (r : Rc) (vt vd : Value) (w0 w : World) (B b : Nat) (acc : List UInt8) (hbl : BldAt w B b acc) (hv : ElAt w0 4 vt (txC r.txns)) (hd : ElAt w0 2 vd (dyC r.dirty)) (h0 : Below w0.heap.size w0 w) (hB0 : w0.heap.size ≤ B) (hB : B ≤ w.heap.size) (hs : r.txns.length ≤ 1000) (hs2 : r.dirty.length ≤ 2000) (ha : acc.length ≤ 300000) :
    Calls Try.prog 49 #[.pointer (some ⟨b, 0, none⟩), .agg (rcC r vt vd)] w fun e w' => e = .returned (.tuple #[]) ∧ BldAt w' B b (acc ++ liL r) ∧ Below B w w' := by
  have HV := Lib.hid hv
  have HDV := Lib.hid hd
  have hlt := bld_lt hbl
  have HB0 : Hid (Below w0.heap.size w0 w ∧ w0.heap.size ≤ B) := ⟨h0, hB0⟩
  obtain ⟨ao, cap, hva⟩ := hv.nil
  obtain ⟨bo, cap2, hvb⟩ := hd.nil
  have HLI : Hid (liL r = putL (U r.num) 6 ++ putL (U (r.txns.length : Int)) 2 ++ (r.txns.map txL).flatten ++ putL (U (r.dirty.length : Int)) 2 ++ (r.dirty.map dyL).flatten) := rfl
  obtain ⟨L, hL⟩ : ∃ L, liL r = L := ⟨_, rfl⟩
  rw [hL] at HLI ⊢
  clear hv hd h0 hB0 hL
  obtain ⟨lsn, prev, txn, kind, page, next, num, ok, os, old, new, how, root, key, rp, rs, txns, dirty⟩ := r
  simp only [rcC] at *
  rw [txC_len] at hva
  rw [dyC_len] at hvb
  subst hva hvb
  obtain ⟨s1, e1⟩ : ∃ x, S old = x := ⟨_, rfl⟩
  obtain ⟨s2, e2⟩ : ∃ x, S new = x := ⟨_, rfl⟩
  obtain ⟨s3, e3⟩ : ∃ x, S key = x := ⟨_, rfl⟩
  simp only [e1, e2, e3]
  clear e1 e2 e3
  obtain ⟨CS, HCS⟩ : ∃ CS : Array Value, Hid (CS = #[.int .i64 lsn, .int .i64 prev, .int .i64 txn, .int .i64 kind, .int .i64 page, .int .i64 next, .int .i64 num, .int .i64 ok, .int .i64 os, .string s1, .string s2, .int .i64 how, .int .i64 root, .string s3, .int .i64 rp, .int .i64 rs, .slice ao txns.length cap, .slice bo dirty.length cap2]) := ⟨_, rfl⟩
  obtain ⟨g, hg⟩ : ∃ g, g = w.heap.size := ⟨_, rfl⟩
  have hS0 : WS w (w.alloc (.cells #[.int .i64 lsn, .int .i64 prev, .int .i64 txn, .int .i64 kind, .int .i64 page, .int .i64 next, .int .i64 num, .int .i64 ok, .int .i64 os, .string s1, .string s2, .int .i64 how, .int .i64 root, .string s3, .int .i64 rp, .int .i64 rs, .slice ao txns.length cap, .slice bo dirty.length cap2] 31)) B b w.heap.size CS acc 300000 :=
    ⟨hbl.alloc _, HCS.out ▸ Blk.new _ _ _, (Below.refl B w).alloc hB _, hB, by omega, ha⟩
  have HELT : Hid (∀ W m (ac : List UInt8), WS w W B b w.heap.size CS ac m → ElAt W 4 (.slice ao txns.length cap) (txC txns)) := fun W m ac h => HV.out.below (HB0.out.1.trans (h.hb.mono HB0.out.2))
  have HELD : Hid (∀ W m (ac : List UInt8), WS w W B b w.heap.size CS ac m → ElAt W 2 (.slice bo dirty.length cap2) (dyC dirty)) := fun W m ac h => HDV.out.below (HB0.out.1.trans (h.hb.mono HB0.out.2))
  have HR : Hid (∀ W m (ac : List UInt8), WS w W B b w.heap.size CS ac m → W.cell? ⟨w.heap.size, 6, none⟩ = some (.int .i64 num) ∧ W.cell? ⟨w.heap.size, 16, none⟩ = some (.slice ao txns.length cap) ∧ W.cell? ⟨w.heap.size, 17, none⟩ = some (.slice bo dirty.length cap2)) := fun W m ac h => by
    have := h.rn
    rw [HCS.out] at this
    exact ⟨this.cell 6 rfl, this.cell 16 rfl, this.cell 17 rfl⟩
  clear HV HDV HB0 hbl hB ha
  go_enter Try.func49, Try.ntmps49
  go_upto_region 1 with fail
  clear HCS
  rw [← hg] at hS0 HELT HELD HR ⊢
  have hgb : g ≠ b := by omega
  clear hg hgb
  generalize w.alloc _ = W0 at hS0 ⊢
  obtain ⟨c6, c16, c17⟩ := HR.out _ _ _ hS0
  replace hS0 := Lib.hid hS0
  go_wp2_with fail
  refine (hS0.out.put1 (by omega) num 6 6 rfl (by omega) _ rfl).mono ?_
  rintro e w1 ⟨rfl, hS1, _⟩
  clear c6 c16 c17 hS0
  obtain ⟨c6, c16, c17⟩ := HR.out _ _ _ hS1
  replace hS1 := Lib.hid hS1
  go_wp2_with fail
  refine (hS1.out.put1 (by omega) (txns.length : Int) 2 2 rfl (by omega) _ rfl).mono ?_
  rintro e w2 ⟨rfl, hS2, _⟩
  clear c6 c16 c17 hS1
  obtain ⟨c6, c16, c17⟩ := HR.out _ _ _ hS2
  replace hS2 := Lib.hid hS2
  go_wp2_with fail
  clear c6 c16 c17
  go_loopw [23] (fun iv wr => ∃ j : Nat, j ≤ txns.length ∧ iv = .int .i64 (j : Int) ∧ Hid (WS w wr B b g CS (acc ++ putL (U num) 6 ++ putL (U (txns.length : Int)) 2 ++ ((txns.take j).map txL).flatten) (300016 + 32 * j))) (fun iv _ => txns.length - (intOf iv).toNat)
  case atStart => exact ⟨0, Nat.zero_le _, rfl, by show WS _ _ _ _ _ _ _ _; simpa using hS2.out⟩
  case round =>
    clear hS2
    obtain ⟨j, hj, rfl, HS⟩ := hrel
    by_cases hlt2 : j < txns.length
    · obtain ⟨bb, off, c1, hv1, _, hc⟩ := (HELT.out _ _ _ HS.out).get j (by rw [txC_len]; exact hlt2)
      rw [txC_len] at hv1
      injection hv1 with e1 _ e3
      subst e1 e3
      rw [txC_get txns j hlt2] at hc
      have HST := Lib.hid (map_step txL txns j hlt2)
      have HTL : Hid (txL txns[j] = putL (U txns[j].t) 6 ++ putL (U txns[j].l) 6 ++ putL (U txns[j].n) 6 ++ putL (U (if txns[j].d then 1 else 0)) 1) := rfl
      obtain ⟨t, ht⟩ : ∃ t, txns[j] = t := ⟨_, rfl⟩
      rw [ht] at hc HST HTL
      obtain ⟨k1, k2, k3, k4⟩ := t
      simp only [Tx.cells] at hc
      have d0 : wr.cell? ⟨bb, off + j * 4, none⟩ = some (.int .i64 k1) := hc 0 _ rfl
      have d1 : wr.cell? ⟨bb, off + j * 4 + 1, none⟩ = some (.int .i64 k2) := hc 1 _ rfl
      have d2 : wr.cell? ⟨bb, off + j * 4 + 2, none⟩ = some (.int .i64 k3) := hc 2 _ rfl
      have d3 : wr.cell? ⟨bb, off + j * 4 + 3, none⟩ = some (.bool k4) := hc 3 _ rfl
      obtain ⟨tl, htl⟩ : ∃ tl, txL ⟨k1, k2, k3, k4⟩ = tl := ⟨_, rfl⟩
      rw [htl] at HST HTL
      have hi0 : (0 : Int) ≤ j := by omega
      have hi1 : (j : Int) < txns.length := by omega
      clear hc ht htl HELT HELD
      have hS3 := HS.out.alloc (.cells #[.int .i64 k1, .int .i64 k2, .int .i64 k3, .bool k4] 67)
      have hK3 := Blk.new wr #[.int .i64 k1, .int .i64 k2, .int .i64 k3, .bool k4] 67
      have hkb : wr.heap.size ≠ b := by have := bld_lt HS.out.bl; omega
      replace hS3 := Lib.hid hS3
      replace hK3 := Lib.hid hK3
      go_wp2_with fail
      refine (hS3.out.put3 (by omega) k1 k2 k3 6 6 rfl (by omega) _ (by simp)).mono ?_
      rintro e w5 ⟨rfl, hS5, _, ho5⟩
      have d5 := (Blk.others hK3.out ho5 hkb (by decide)).cell 3 (v := .bool k4) rfl
      replace hS5 := Lib.hid hS5
      clear hK3 hS3 ho5 d0 d1 d2 d3 HS
      cases k4 with
      | false =>
        go_wp2_with fail
        refine (hS5.out.put1 (by omega) 0 1 1 rfl (by omega) _ rfl).mono ?_
        rintro e w6 ⟨rfl, hS6, _⟩
        have HX : Hid (WS w w6 B b g CS (acc ++ putL (U num) 6 ++ putL (U (txns.length : Int)) 2 ++ ((txns.take (j + 1)).map txL).flatten) (300016 + 32 * (j + 1))) := by
          show WS _ _ _ _ _ _ _ _
          rw [HST.out, HTL.out, show 300016 + 32 * (j + 1) = 300016 + 32 * j + 24 + 8 by omega]
          simpa [List.append_assoc] using hS6
        clear hS6 hS5
        go_wp2_with fail
        go_roundw
        case rel => exact ⟨j + 1, by omega, by go_num, HX⟩
        case measure => simp [intOf]; omega
      | true =>
        go_wp2_with fail
        refine (hS5.out.put1 (by omega) 1 1 1 rfl (by omega) _ rfl).mono ?_
        rintro e w6 ⟨rfl, hS6, _⟩
        have HX : Hid (WS w w6 B b g CS (acc ++ putL (U num) 6 ++ putL (U (txns.length : Int)) 2 ++ ((txns.take (j + 1)).map txL).flatten) (300016 + 32 * (j + 1))) := by
          show WS _ _ _ _ _ _ _ _
          rw [HST.out, HTL.out, show 300016 + 32 * (j + 1) = 300016 + 32 * j + 24 + 8 by omega]
          simpa [List.append_assoc] using hS6
        clear hS6 hS5
        go_wp2_with fail
        go_roundw
        case rel => exact ⟨j + 1, by omega, by go_num, HX⟩
        case measure => simp [intOf]; omega
    · have hjn : j = txns.length := by omega
      have HS2 : Hid (WS w wr B b g CS (acc ++ putL (U num) 6 ++ putL (U (txns.length : Int)) 2 ++ (txns.map txL).flatten) 340000) := by
        show WS _ _ _ _ _ _ _ _
        have h := HS.out
        rw [List.take_of_length_le (by omega)] at h
        exact ⟨h.bl, h.rn, h.hb, h.hB, h.hg, Nat.le_trans h.len (by omega)⟩
      obtain ⟨c6, c16, c17⟩ := HR.out _ _ _ HS.out
      clear HS
      go_wp2_with fail
      refine (HS2.out.put1 (by omega) (dirty.length : Int) 2 2 rfl (by omega) _ rfl).mono ?_
      rintro e w3 ⟨rfl, hS3, _⟩
      clear c6 c16 c17 HS2
      obtain ⟨c6, c16, c17⟩ := HR.out _ _ _ hS3
      replace hS3 := Lib.hid hS3
      go_wp2_with fail
      clear c6 c16 c17
      obtain ⟨AC, HAC⟩ : ∃ AC, Hid (AC = acc ++ putL (U num) 6 ++ putL (U (txns.length : Int)) 2 ++ (txns.map txL).flatten ++ putL (U (dirty.length : Int)) 2) := ⟨_, rfl⟩
      rw [← HAC.out] at hS3
      clear hlt2 hjn hj
      obtain ⟨wo, hwo⟩ : ∃ wo : World, wo = wr := ⟨_, rfl⟩
      go_loopw [52] (fun iv wr => ∃ j : Nat, j ≤ dirty.length ∧ iv = .int .i64 (j : Int) ∧ Hid (WS w wr B b g CS (AC ++ ((dirty.take j).map dyL).flatten) (340008 + 16 * j))) (fun iv _ => dirty.length - (intOf iv).toNat)
      case atStart => exact ⟨0, Nat.zero_le _, rfl, by show WS _ _ _ _ _ _ _ _; simpa using hS3.out⟩
      case round =>
        clear hS3
        obtain ⟨j, hj, rfl, HS⟩ := hrel
        by_cases hlt2 : j < dirty.length
        · obtain ⟨bb, off, c1, hv1, _, hc⟩ := (HELD.out _ _ _ HS.out).get j (by rw [dyC_len]; exact hlt2)
          rw [dyC_len] at hv1
          injection hv1 with e1 _ e3
          subst e1 e3
          rw [dyC_get dirty j hlt2] at hc
          have HST := Lib.hid (map_step dyL dirty j hlt2)
          have HTL : Hid (dyL dirty[j] = putL (U dirty[j].p) 3 ++ putL (U dirty[j].r) 6) := rfl
          obtain ⟨t, ht⟩ : ∃ t, dirty[j] = t := ⟨_, rfl⟩
          rw [ht] at hc HST HTL
          obtain ⟨k1, k2⟩ := t
          simp only [Dy.cells] at hc
          have d0 : wr.cell? ⟨bb, off + j * 2, none⟩ = some (.int .i64 k1) := hc 0 _ rfl
          have d1 : wr.cell? ⟨bb, off + j * 2 + 1, none⟩ = some (.int .i64 k2) := hc 1 _ rfl
          obtain ⟨tl, htl⟩ : ∃ tl, dyL ⟨k1, k2⟩ = tl := ⟨_, rfl⟩
          rw [htl] at HST HTL
          have hi0 : (0 : Int) ≤ j := by omega
          have hi1 : (j : Int) < dirty.length := by omega
          clear hc ht htl HELT HELD
          have hS3 := HS.out.alloc (.cells #[.int .i64 k1, .int .i64 k2] 71)
          have hK3 := Blk.new wr #[.int .i64 k1, .int .i64 k2] 71
          have hkb : wr.heap.size ≠ b := by have := bld_lt HS.out.bl; omega
          replace hS3 := Lib.hid hS3
          replace hK3 := Lib.hid hK3
          go_wp2_with fail
          refine (hS3.out.put1 (by omega) k1 3 3 rfl (by omega) _ (by simp)).mono ?_
          rintro e w5 ⟨rfl, hS5, _, ho5⟩
          have d5 := (Blk.others hK3.out ho5 hkb (by decide)).cell 1 (v := .int .i64 k2) rfl
          replace hS5 := Lib.hid hS5
          clear hK3 hS3 ho5 d0 d1 HS
          go_wp2_with fail
          refine (hS5.out.put1 (by omega) k2 6 6 rfl (by omega) _ rfl).mono ?_
          rintro e w6 ⟨rfl, hS6, _⟩
          have HX : Hid (WS w w6 B b g CS (AC ++ ((dirty.take (j + 1)).map dyL).flatten) (340008 + 16 * (j + 1))) := by
            show WS _ _ _ _ _ _ _ _
            rw [HST.out, HTL.out, show 340008 + 16 * (j + 1) = 340008 + 16 * j + 8 + 8 by omega]
            simpa [List.append_assoc] using hS6
          clear hS6 hS5
          go_wp2_with fail
          go_roundw
          case rel => exact ⟨j + 1, by omega, by go_num, HX⟩
          case measure => simp [intOf]; omega
        · have HSE : Hid (BldAt wr B b (acc ++ L) ∧ Below B w wr) := by
            refine ⟨?_, HS.out.hb⟩
            have h := HS.out.bl
            rw [List.take_of_length_le (by omega), HAC.out] at h
            rw [HLI.out]
            simpa [List.append_assoc] using h
          clear HS
          go_wp2_with fail
          go_end0
          exact ⟨rfl, HSE.out⟩
end Go.Proofs.Ytloengjcniefgaa.Rec
