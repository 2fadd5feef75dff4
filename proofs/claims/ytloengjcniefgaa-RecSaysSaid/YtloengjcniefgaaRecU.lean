/- rec: Put: what it answers of any record. -/
import Derived.Test.YtloengjcniefgaaRecBd
import Derived.Test.YtloengjcniefgaaRecN
import Derived.Test.YtloengjcniefgaaRecL
namespace Go.Proofs.Ytloengjcniefgaa.Rec
set_option linter.unusedVariables false
set_option linter.unusedSimpArgs false
open Go.RowKit
open Oct (S beN putL U I getI sumN S_size S_data)
def putF (r : Rc) : List UInt8 × Int := if rightR r then (recL r, 0) else ([], 1)
theorem right_len {r : Rc} (h : rightR r = true) : 19 ≤ (bodyL r).length ∧ (bodyL r).length ≤ 40000 := by
  obtain ⟨_, _, _, h1, h2, h3⟩ := right_sizes h
  exact body_len h h1 h2 h3
set_option maxHeartbeats 4000000 in
set_option maxRecDepth 100000 in
theorem recput_any (r : Rc) (vt vd : Value) (w : World) (hv : ElAt w 4 vt (txC r.txns)) (hd : ElAt w 2 vd (dyC r.dirty)) (hs : r.txns.length ≤ 100000) (hs2 : r.dirty.length ≤ 100000) :
    Calls Try.prog 9 #[.agg (rcC r vt vd)] w (Ret (.tuple #[.string (S (putF r).1), .int .i64 (putF r).2]) w) := by
  have HP : Hid (putF r = if rightR r then (recL r, 0) else ([], 1)) := rfl
  have HRL : Hid (recL r = putL (bodyL r).length 4 ++ sealL (bodyL r)) := rfl
  have HR := Lib.hid (fun W h1 h2 => right_any r vt vd W h1 h2 hs hs2)
  have HB := Lib.hid (fun W h1 h2 h3 => body_any r vt vd W h1 h2 h3)
  have HLN := Lib.hid (fun h => right_len (r := r) h)
  obtain ⟨P, hP⟩ : ∃ P, putF r = P := ⟨_, rfl⟩
  obtain ⟨RL, hRL⟩ : ∃ P, recL r = P := ⟨_, rfl⟩
  rw [hP] at HP ⊢
  rw [hRL] at HP HRL
  obtain ⟨rb, hrb⟩ : ∃ b, rightR r = b := ⟨_, rfl⟩
  rw [hrb] at HP HR HB HLN
  obtain ⟨bl, hbl⟩ : ∃ b, bodyL r = b := ⟨_, rfl⟩
  rw [hbl] at HRL HB HLN
  have HV := Lib.hid hv
  have HDV := Lib.hid hd
  obtain ⟨ao, cap, hva⟩ := hv.nil
  obtain ⟨bo, cap2, hvb⟩ := hd.nil
  clear hP hRL hrb hbl hv hd hs hs2
  obtain ⟨C, hC⟩ : ∃ C, rcC r vt vd = C := ⟨_, rfl⟩
  obtain ⟨lsn, prev, txn, kind, page, next, num, ok, os, old, new, how, root, key, rp, rs, txns, dirty⟩ := r
  simp only [rcC] at *
  obtain ⟨n1, hn1⟩ : ∃ n, (txC txns).length = n := ⟨_, rfl⟩
  obtain ⟨n2, hn2⟩ : ∃ n, (dyC dirty).length = n := ⟨_, rfl⟩
  rw [hn1] at hva
  rw [hn2] at hvb
  subst hva hvb
  obtain ⟨s1, e1⟩ : ∃ x, S old = x := ⟨_, rfl⟩
  obtain ⟨s2, e2⟩ : ∃ x, S new = x := ⟨_, rfl⟩
  obtain ⟨s3, e3⟩ : ∃ x, S key = x := ⟨_, rfl⟩
  simp only [e1, e2, e3] at HR HB ⊢
  clear e1 e2 e3 hn1 hn2 hC C
  have hb0 := (Below.refl w.heap.size w).alloc (Nat.le_refl _) (.cells #[.int .i64 lsn, .int .i64 prev, .int .i64 txn, .int .i64 kind, .int .i64 page, .int .i64 next, .int .i64 num, .int .i64 ok, .int .i64 os, .string s1, .string s2, .int .i64 how, .int .i64 root, .string s3, .int .i64 rp, .int .i64 rs, .slice ao n1 cap, .slice bo n2 cap2] 31)
  have hN0 := Blk.new w #[.int .i64 lsn, .int .i64 prev, .int .i64 txn, .int .i64 kind, .int .i64 page, .int .i64 next, .int .i64 num, .int .i64 ok, .int .i64 os, .string s1, .string s2, .int .i64 how, .int .i64 root, .string s3, .int .i64 rp, .int .i64 rs, .slice ao n1 cap, .slice bo n2 cap2] 31
  go_enter Try.func9, Try.ntmps9
  go_wp2_with (first | (with_reducible refine wpList_load18 hN0 (by kernel_rfl) _ rfl rfl ?_))
  refine (HR.out _ (HV.out.below hb0) (HDV.out.below hb0)).mono ?_
  rintro e w1 ⟨rfl, hb1⟩
  have hN1 := hN0.below hb1
  have hw1 := hb0.next hb1
  clear hN0 hb0 hb1 HR
  cases rb with
  | false =>
    go_wp2_with fail
    go_ret2
    exact ⟨by rw [HP.out, if_neg (by simp)]; rfl, hw1⟩
  | true =>
    obtain ⟨hl1, hl2⟩ := HLN.out rfl
    go_wp2_with (first | (with_reducible refine wpList_load18 hN1 (by kernel_rfl) _ rfl rfl ?_))
    refine (HB.out _ (HV.out.below hw1) (HDV.out.below hw1) (by first | rfl | trivial)).mono ?_
    rintro e w2 ⟨rfl, hb2⟩
    have hw2 := hw1.next hb2
    have hsz := S_size bl
    obtain ⟨sb, hsb⟩ : ∃ s, S bl = s := ⟨_, rfl⟩
    rw [hsb] at hsz ⊢
    have HSL := Lib.hid (fun W => seal_any sb W (by omega))
    rw [← hsb] at HSL
    simp only [S_data] at HSL
    rw [hsb] at HSL
    have HPT := Lib.hid (fun W => put_at (bl.length : Int) 4 4 rfl (by omega) W)
    have hz1 : (S (putL (U (bl.length : Int)) 4)).size ≤ 4 := by rw [S_size, Oct.putL_length]; omega
    have hz2 : (S (sealL bl)).size ≤ 40004 := by rw [S_size, sealL, List.length_append, Oct.putL_length]; omega
    have HSA : Hid (S (putL (U (bl.length : Int)) 4) ++ S (sealL bl) = S RL) := by
      show _ = _
      rw [HRL.out, Oct.S_append, Oct.U_nat _ (by omega)]
    obtain ⟨sp, hsp⟩ : ∃ s, S (putL (U (bl.length : Int)) 4) = s := ⟨_, rfl⟩
    obtain ⟨se, hse⟩ : ∃ s, S (sealL bl) = s := ⟨_, rfl⟩
    rw [hsp] at HPT hz1 HSA
    rw [hse] at HSL hz2 HSA
    clear hsb hsp hse HRL HLN HB hN1 hw1 hb2
    have hsz2 : (sb.size : Int) = (bl.length : Int) := by omega
    rw [← hsz2] at HPT
    have hmx : sb.size ≤ 40000 := by omega
    clear hsz2 hsz hl1 hl2
    go_wp2_with fail
    refine (HPT.out _).mono ?_
    rintro e w3 ⟨rfl, hb3⟩
    have hw3 := hw2.next hb3
    go_wp2_with fail
    refine (HSL.out _).mono ?_
    rintro e w4 ⟨rfl, hb4⟩
    have hw4 := hw3.next hb4
    go_wp2_with (first | ((with_reducible refine wpList_concat _ ?_); refine ⟨_, _, rfl, rfl, ?_, ?_⟩; (omega)))
    go_ret2
    have hPv : P = (RL, 0) := by rw [HP.out]; simp
    exact ⟨by rw [hPv, ← HSA.out]; rfl, hw4⟩
end Go.Proofs.Ytloengjcniefgaa.Rec
