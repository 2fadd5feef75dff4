/- The reference: Right: may a record be? -/
import Derived.Test.YtloengjcniefgaaMrgB
import Derived.Deep.RegionHeld3
namespace Go.Proofs.Ytloengjcniefgaa.Rec
set_option linter.unusedVariables false
set_option linter.unusedSimpArgs false
open Go.RowKit
open Oct (S beN putL U I getI sumN S_size S_data)
theorem alloc_sto {V W : World} {o : Obj} (hg : (V.alloc o).grownBy W (some V.heap.size)) : Below V.heap.size V W :=
  Below.ofGrown ((Below.refl _ _).alloc (Nat.le_refl _) o) hg (Nat.le_refl _) (by simp)
theorem S_nil0 : S [] = ⟨#[]⟩ := rfl
theorem rr_1 (lsn prev txn page next num ok os : Int) (old new : List UInt8) (how root : Int) (key : List UInt8) (rp rs : Int) (txns : List Tx) (dirty : List Dy) : rightR (Rc.mk lsn prev txn 1 page next num ok os old new how root key rp rs txns dirty) = ((numB lsn && numB prev && numB txn) && decide (bareR (Rc.mk lsn prev txn 1 page next num ok os old new how root key rp rs txns dirty) = (Rc.mk lsn prev txn 1 page next num ok os old new how root key rp rs txns dirty))) := by
  simp only [rightR, listsB, chgB]
  rw [show isF 1 = true from rfl, show chF 1 = false from rfl, show hoF 1 = false from rfl, show neF 1 = false from rfl, show liF 1 = false from rfl]
  generalize decide (bareR (Rc.mk lsn prev txn 1 page next num ok os old new how root key rp rs txns dirty) = (Rc.mk lsn prev txn 1 page next num ok os old new how root key rp rs txns dirty)) = b0
  generalize numB lsn = b1
  generalize numB prev = b2
  generalize numB txn = b3
  simp only [Bool.not_true, Bool.not_false, Bool.true_or, Bool.false_or, Bool.and_true, Bool.true_and]
  all_goals (cases b0 <;> cases b1 <;> cases b2 <;> cases b3 <;> rfl)
theorem rr_5 (lsn prev txn page next num ok os : Int) (old new : List UInt8) (how root : Int) (key : List UInt8) (rp rs : Int) (txns : List Tx) (dirty : List Dy) : rightR (Rc.mk lsn prev txn 5 page next num ok os old new how root key rp rs txns dirty) = ((numB lsn && numB prev && numB txn) && decide (bareR (Rc.mk lsn prev txn 5 page next num ok os old new how root key rp rs txns dirty) = (Rc.mk lsn prev txn 5 page next num ok os old new how root key rp rs txns dirty))) := by
  simp only [rightR, listsB, chgB]
  rw [show isF 5 = true from rfl, show chF 5 = false from rfl, show hoF 5 = false from rfl, show neF 5 = false from rfl, show liF 5 = false from rfl]
  generalize decide (bareR (Rc.mk lsn prev txn 5 page next num ok os old new how root key rp rs txns dirty) = (Rc.mk lsn prev txn 5 page next num ok os old new how root key rp rs txns dirty)) = b0
  generalize numB lsn = b1
  generalize numB prev = b2
  generalize numB txn = b3
  simp only [Bool.not_true, Bool.not_false, Bool.true_or, Bool.false_or, Bool.and_true, Bool.true_and]
  all_goals (cases b0 <;> cases b1 <;> cases b2 <;> cases b3 <;> rfl)
theorem rr_6 (lsn prev txn page next num ok os : Int) (old new : List UInt8) (how root : Int) (key : List UInt8) (rp rs : Int) (txns : List Tx) (dirty : List Dy) : rightR (Rc.mk lsn prev txn 6 page next num ok os old new how root key rp rs txns dirty) = ((numB lsn && numB prev && numB txn) && decide (bareR (Rc.mk lsn prev txn 6 page next num ok os old new how root key rp rs txns dirty) = (Rc.mk lsn prev txn 6 page next num ok os old new how root key rp rs txns dirty))) := by
  simp only [rightR, listsB, chgB]
  rw [show isF 6 = true from rfl, show chF 6 = false from rfl, show hoF 6 = false from rfl, show neF 6 = false from rfl, show liF 6 = false from rfl]
  generalize decide (bareR (Rc.mk lsn prev txn 6 page next num ok os old new how root key rp rs txns dirty) = (Rc.mk lsn prev txn 6 page next num ok os old new how root key rp rs txns dirty)) = b0
  generalize numB lsn = b1
  generalize numB prev = b2
  generalize numB txn = b3
  simp only [Bool.not_true, Bool.not_false, Bool.true_or, Bool.false_or, Bool.and_true, Bool.true_and]
  all_goals (cases b0 <;> cases b1 <;> cases b2 <;> cases b3 <;> rfl)
theorem rr_7 (lsn prev txn page next num ok os : Int) (old new : List UInt8) (how root : Int) (key : List UInt8) (rp rs : Int) (txns : List Tx) (dirty : List Dy) : rightR (Rc.mk lsn prev txn 7 page next num ok os old new how root key rp rs txns dirty) = ((numB lsn && numB prev && numB txn) && decide (bareR (Rc.mk lsn prev txn 7 page next num ok os old new how root key rp rs txns dirty) = (Rc.mk lsn prev txn 7 page next num ok os old new how root key rp rs txns dirty))) := by
  simp only [rightR, listsB, chgB]
  rw [show isF 7 = true from rfl, show chF 7 = false from rfl, show hoF 7 = false from rfl, show neF 7 = false from rfl, show liF 7 = false from rfl]
  generalize decide (bareR (Rc.mk lsn prev txn 7 page next num ok os old new how root key rp rs txns dirty) = (Rc.mk lsn prev txn 7 page next num ok os old new how root key rp rs txns dirty)) = b0
  generalize numB lsn = b1
  generalize numB prev = b2
  generalize numB txn = b3
  simp only [Bool.not_true, Bool.not_false, Bool.true_or, Bool.false_or, Bool.and_true, Bool.true_and]
  all_goals (cases b0 <;> cases b1 <;> cases b2 <;> cases b3 <;> rfl)
theorem rr_2 (lsn prev txn page next num ok os : Int) (old new : List UInt8) (how root : Int) (key : List UInt8) (rp rs : Int) (txns : List Tx) (dirty : List Dy) : rightR (Rc.mk lsn prev txn 2 page next num ok os old new how root key rp rs txns dirty) = ((numB lsn && numB prev && numB txn) && decide (bareR (Rc.mk lsn prev txn 2 page next num ok os old new how root key rp rs txns dirty) = (Rc.mk lsn prev txn 2 page next num ok os old new how root key rp rs txns dirty)) && chgB (Rc.mk lsn prev txn 2 page next num ok os old new how root key rp rs txns dirty)) := by
  simp only [rightR, listsB, chgB]
  rw [show isF 2 = true from rfl, show chF 2 = true from rfl, show hoF 2 = true from rfl, show neF 2 = false from rfl, show liF 2 = false from rfl]
  generalize decide (bareR (Rc.mk lsn prev txn 2 page next num ok os old new how root key rp rs txns dirty) = (Rc.mk lsn prev txn 2 page next num ok os old new how root key rp rs txns dirty)) = b0
  generalize numB lsn = b1
  generalize numB prev = b2
  generalize numB txn = b3
  generalize pageB page = b4
  generalize opB ok os old new = b5
  generalize treeB how root key rp rs = b6
  simp only [Bool.not_true, Bool.not_false, Bool.true_or, Bool.false_or, Bool.and_true, Bool.true_and]
  all_goals (cases b0 <;> cases b1 <;> cases b2 <;> cases b3 <;> cases b4 <;> cases b5 <;> cases b6 <;> rfl)
theorem rr_3 (lsn prev txn page next num ok os : Int) (old new : List UInt8) (how root : Int) (key : List UInt8) (rp rs : Int) (txns : List Tx) (dirty : List Dy) : rightR (Rc.mk lsn prev txn 3 page next num ok os old new how root key rp rs txns dirty) = ((numB lsn && numB prev && numB txn) && decide (bareR (Rc.mk lsn prev txn 3 page next num ok os old new how root key rp rs txns dirty) = (Rc.mk lsn prev txn 3 page next num ok os old new how root key rp rs txns dirty)) && (pageB page && opB ok os old new && numB next)) := by
  simp only [rightR, listsB, chgB]
  rw [show isF 3 = true from rfl, show chF 3 = true from rfl, show hoF 3 = false from rfl, show neF 3 = true from rfl, show liF 3 = false from rfl]
  generalize decide (bareR (Rc.mk lsn prev txn 3 page next num ok os old new how root key rp rs txns dirty) = (Rc.mk lsn prev txn 3 page next num ok os old new how root key rp rs txns dirty)) = b0
  generalize numB lsn = b1
  generalize numB prev = b2
  generalize numB txn = b3
  generalize pageB page = b4
  generalize opB ok os old new = b5
  generalize numB next = b6
  simp only [Bool.not_true, Bool.not_false, Bool.true_or, Bool.false_or, Bool.and_true, Bool.true_and]
  all_goals (cases b0 <;> cases b1 <;> cases b2 <;> cases b3 <;> cases b4 <;> cases b5 <;> cases b6 <;> rfl)
theorem rr_4 (lsn prev txn page next num ok os : Int) (old new : List UInt8) (how root : Int) (key : List UInt8) (rp rs : Int) (txns : List Tx) (dirty : List Dy) : rightR (Rc.mk lsn prev txn 4 page next num ok os old new how root key rp rs txns dirty) = ((numB lsn && numB prev && numB txn) && decide (bareR (Rc.mk lsn prev txn 4 page next num ok os old new how root key rp rs txns dirty) = (Rc.mk lsn prev txn 4 page next num ok os old new how root key rp rs txns dirty)) && numB next) := by
  simp only [rightR, listsB, chgB]
  rw [show isF 4 = true from rfl, show chF 4 = false from rfl, show hoF 4 = false from rfl, show neF 4 = true from rfl, show liF 4 = false from rfl]
  generalize decide (bareR (Rc.mk lsn prev txn 4 page next num ok os old new how root key rp rs txns dirty) = (Rc.mk lsn prev txn 4 page next num ok os old new how root key rp rs txns dirty)) = b0
  generalize numB lsn = b1
  generalize numB prev = b2
  generalize numB txn = b3
  generalize numB next = b4
  simp only [Bool.not_true, Bool.not_false, Bool.true_or, Bool.false_or, Bool.and_true, Bool.true_and]
  all_goals (cases b0 <;> cases b1 <;> cases b2 <;> cases b3 <;> cases b4 <;> rfl)
theorem rr_8 (lsn prev txn page next num ok os : Int) (old new : List UInt8) (how root : Int) (key : List UInt8) (rp rs : Int) (txns : List Tx) (dirty : List Dy) : rightR (Rc.mk lsn prev txn 8 page next num ok os old new how root key rp rs txns dirty) = ((numB lsn && numB prev && numB txn) && decide (bareR (Rc.mk lsn prev txn 8 page next num ok os old new how root key rp rs txns dirty) = (Rc.mk lsn prev txn 8 page next num ok os old new how root key rp rs txns dirty)) && (pageB page && opB ok os old new)) := by
  simp only [rightR, listsB, chgB]
  rw [show isF 8 = true from rfl, show chF 8 = true from rfl, show hoF 8 = false from rfl, show neF 8 = false from rfl, show liF 8 = false from rfl]
  generalize decide (bareR (Rc.mk lsn prev txn 8 page next num ok os old new how root key rp rs txns dirty) = (Rc.mk lsn prev txn 8 page next num ok os old new how root key rp rs txns dirty)) = b0
  generalize numB lsn = b1
  generalize numB prev = b2
  generalize numB txn = b3
  generalize pageB page = b4
  generalize opB ok os old new = b5
  simp only [Bool.not_true, Bool.not_false, Bool.true_or, Bool.false_or, Bool.and_true, Bool.true_and]
  all_goals (cases b0 <;> cases b1 <;> cases b2 <;> cases b3 <;> cases b4 <;> cases b5 <;> rfl)
theorem rr_9 (lsn prev txn page next num ok os : Int) (old new : List UInt8) (how root : Int) (key : List UInt8) (rp rs : Int) (txns : List Tx) (dirty : List Dy) : rightR (Rc.mk lsn prev txn 9 page next num ok os old new how root key rp rs txns dirty) = ((numB lsn && numB prev && numB txn) && decide (bareR (Rc.mk lsn prev txn 9 page next num ok os old new how root key rp rs txns dirty) = (Rc.mk lsn prev txn 9 page next num ok os old new how root key rp rs txns dirty)) && (numB num && (txns.all txB && dirty.all dyB && (decide (txns.length ≤ 1000) && decide (dirty.length ≤ 2000))))) := by
  simp only [rightR, listsB, chgB]
  rw [show isF 9 = true from rfl, show chF 9 = false from rfl, show hoF 9 = false from rfl, show neF 9 = false from rfl, show liF 9 = true from rfl]
  generalize decide (bareR (Rc.mk lsn prev txn 9 page next num ok os old new how root key rp rs txns dirty) = (Rc.mk lsn prev txn 9 page next num ok os old new how root key rp rs txns dirty)) = b0
  generalize numB lsn = b1
  generalize numB prev = b2
  generalize numB txn = b3
  generalize numB num = b4
  generalize decide (txns.length ≤ 1000) = b5
  generalize decide (dirty.length ≤ 2000) = b6
  generalize txns.all txB = b7
  generalize dirty.all dyB = b8
  simp only [Bool.not_true, Bool.not_false, Bool.true_or, Bool.false_or, Bool.and_true, Bool.true_and]
  all_goals (cases b0 <;> cases b1 <;> cases b2 <;> cases b3 <;> cases b4 <;> cases b5 <;> cases b6 <;> cases b7 <;> cases b8 <;> rfl)
set_option maxHeartbeats 8000000 in
set_option maxRecDepth 100000 in
theorem rright_1 (lsn prev txn page next num ok os : Int) (old new : List UInt8) (how root : Int) (key : List UInt8) (rp rs : Int) (txns : List Tx) (dirty : List Dy) (vt vd : Value) (w : World) (hv : ElAt w 4 vt (txC txns)) (hd : ElAt w 2 vd (dyC dirty)) (hs : txns.length ≤ 100000) (hs2 : dirty.length ≤ 100000) :
    Calls Try.prog 14 #[.agg (rcC (Rc.mk lsn prev txn 1 page next num ok os old new how root key rp rs txns dirty) vt vd)] w (Ret (.bool (rightR (Rc.mk lsn prev txn 1 page next num ok os old new how root key rp rs txns dirty))) w) := by
  have HB := rr_1 lsn prev txn page next num ok os old new how root key rp rs txns dirty
  obtain ⟨R, hR⟩ : ∃ R, rightR (Rc.mk lsn prev txn 1 page next num ok os old new how root key rp rs txns dirty) = R := ⟨_, rfl⟩
  rw [hR] at HB ⊢
  clear hR
  have HV := Lib.hid hv
  have HDV := Lib.hid hd
  have HSM := fun W (h1 : ElAt W 4 vt (txC txns)) (h2 : ElAt W 2 vd (dyC dirty)) => rsame_any (bareR (Rc.mk lsn prev txn 1 page next num ok os old new how root key rp rs txns dirty)) (Rc.mk lsn prev txn 1 page next num ok os old new how root key rp rs txns dirty) (.slice none 0 0) (.slice none 0 0) vt vd W (ElAt.empty _ _) (ElAt.empty _ _) h1 h2 (by show 0 ≤ _; omega) (by show 0 ≤ _; omega)
  obtain ⟨qs, hqs⟩ : ∃ q, decide (bareR (Rc.mk lsn prev txn 1 page next num ok os old new how root key rp rs txns dirty) = (Rc.mk lsn prev txn 1 page next num ok os old new how root key rp rs txns dirty)) = q := ⟨_, rfl⟩
  rw [hqs] at HB HSM
  clear hqs
  rw [show bareR (Rc.mk lsn prev txn 1 page next num ok os old new how root key rp rs txns dirty) = { lsn := lsn, prev := prev, txn := txn, kind := 1, page := 0, next := 0, num := 0, ok := 0, os := 0, old := [], new := [], how := 0, root := 0, key := [], rp := 0, rs := 0, txns := [], dirty := [] } from rfl] at HSM
  obtain ⟨ao, cap, hva⟩ := hv.nil
  obtain ⟨bo, cap2, hvb⟩ := hd.nil
  obtain ⟨n1, hn1⟩ : ∃ n, (txC txns).length = n := ⟨_, rfl⟩
  obtain ⟨n2, hn2⟩ : ∃ n, (dyC dirty).length = n := ⟨_, rfl⟩
  rw [hn1] at hva
  rw [hn2] at hvb
  subst hva hvb
  clear hv hd hn1 hn2 hs hs2
  simp only [rcC, S_nil0] at HSM ⊢
  obtain ⟨s1, e1⟩ : ∃ x, S old = x := ⟨_, rfl⟩
  obtain ⟨s2, e2⟩ : ∃ x, S new = x := ⟨_, rfl⟩
  obtain ⟨s3, e3⟩ : ∃ x, S key = x := ⟨_, rfl⟩
  simp only [e1, e2, e3] at HSM ⊢
  replace HSM := Lib.hid HSM
  clear e1 e2 e3
  have H1 := Lib.hid (fun W => rnumber_any lsn W)
  have H2 := Lib.hid (fun W => rnumber_any prev W)
  have H3 := Lib.hid (fun W => rnumber_any txn W)
  obtain ⟨q1, hq1⟩ : ∃ q, numB lsn = q := ⟨_, rfl⟩
  obtain ⟨q2, hq2⟩ : ∃ q, numB prev = q := ⟨_, rfl⟩
  obtain ⟨q3, hq3⟩ : ∃ q, numB txn = q := ⟨_, rfl⟩
  rw [hq1] at HB H1
  rw [hq2] at HB H2
  rw [hq3] at HB H3
  replace HB := Lib.hid HB
  clear hq1 hq2 hq3
  have HBR := Lib.hid (fun W => rbare_any lsn prev txn 1 (.int .i64 page) (.int .i64 next) (.int .i64 num) (.int .i64 ok) (.int .i64 os) (.string s1) (.string s2) (.int .i64 how) (.int .i64 root) (.string s3) (.int .i64 rp) (.int .i64 rs) (.slice ao n1 cap) (.slice bo n2 cap2) W)
  have hN := Blk.new w #[.int .i64 lsn, .int .i64 prev, .int .i64 txn, .int .i64 1, .int .i64 page, .int .i64 next, .int .i64 num, .int .i64 ok, .int .i64 os, .string s1, .string s2, .int .i64 how, .int .i64 root, .string s3, .int .i64 rp, .int .i64 rs, .slice ao n1 cap, .slice bo n2 cap2] 31
  have hbb := (Below.refl w.heap.size w).alloc (Nat.le_refl _) (.cells #[.int .i64 lsn, .int .i64 prev, .int .i64 txn, .int .i64 1, .int .i64 page, .int .i64 next, .int .i64 num, .int .i64 ok, .int .i64 os, .string s1, .string s2, .int .i64 how, .int .i64 root, .string s3, .int .i64 rp, .int .i64 rs, .slice ao n1 cap, .slice bo n2 cap2] 31)
  go_enter Try.func14, Try.ntmps14
  go_upto_region 1 with fail
  obtain ⟨g, HG⟩ : ∃ x, w.heap.size = x := ⟨_, rfl⟩
  have hgw : w.heap.size ≤ g := by omega
  rw [HG] at hN ⊢
  clear HG
  generalize (w.alloc (.cells #[.int .i64 lsn, .int .i64 prev, .int .i64 txn, .int .i64 1, .int .i64 page, .int .i64 next, .int .i64 num, .int .i64 ok, .int .i64 os, .string s1, .string s2, .int .i64 how, .int .i64 root, .string s3, .int .i64 rp, .int .i64 rs, .slice ao n1 cap, .slice bo n2 cap2] 31)) = W at hN hbb ⊢
  obtain ⟨c0, c1, c2, c3, c4, c5, c6, c7, c8, c9, c10, c11, c12, c13, c14, c15, c16, c17⟩ := Blk18 hN
  go_wp2_with fail
  refine (H1.out _).mono ?_
  rintro e wq1 ⟨rfl, hb1⟩
  replace hN := hN.below hb1
  replace hbb := hbb.next hb1
  clear hb1
  clear c0 c1 c2 c3 c4 c5 c6 c7 c8 c9 c10 c11 c12 c13 c14 c15 c16 c17
  obtain ⟨c0, c1, c2, c3, c4, c5, c6, c7, c8, c9, c10, c11, c12, c13, c14, c15, c16, c17⟩ := Blk18 hN
  clear H1
  cases q1 with
  | false =>
    go_wp2_with fail
    go_ret
    exact ⟨ret_bool (by rw [HB.out]; simp), hbb⟩
  | true =>
    go_wp2_with fail
    refine (H2.out _).mono ?_
    rintro e wq2 ⟨rfl, hb1⟩
    replace hN := hN.below hb1
    replace hbb := hbb.next hb1
    clear hb1
    clear c0 c1 c2 c3 c4 c5 c6 c7 c8 c9 c10 c11 c12 c13 c14 c15 c16 c17
    obtain ⟨c0, c1, c2, c3, c4, c5, c6, c7, c8, c9, c10, c11, c12, c13, c14, c15, c16, c17⟩ := Blk18 hN
    clear H2
    cases q2 with
    | false =>
      go_wp2_with fail
      go_ret
      exact ⟨ret_bool (by rw [HB.out]; simp), hbb⟩
    | true =>
      go_wp2_with fail
      refine (H3.out _).mono ?_
      rintro e wq3 ⟨rfl, hb1⟩
      replace hN := hN.below hb1
      replace hbb := hbb.next hb1
      clear hb1
      clear c0 c1 c2 c3 c4 c5 c6 c7 c8 c9 c10 c11 c12 c13 c14 c15 c16 c17
      obtain ⟨c0, c1, c2, c3, c4, c5, c6, c7, c8, c9, c10, c11, c12, c13, c14, c15, c16, c17⟩ := Blk18 hN
      clear H3
      cases q3 with
      | false =>
        go_wp2_with fail
        go_ret
        exact ⟨ret_bool (by rw [HB.out]; simp), hbb⟩
      | true =>
        go_wp2_with (first | (with_reducible refine wpList_load18 hN (by kernel_rfl) _ rfl rfl ?_))
        refine (HBR.out _).mono ?_
        rintro e wB ⟨rfl, hb1⟩
        replace hN := hN.below hb1
        replace hbb := hbb.next hb1
        clear hb1 HBR
        clear c0 c1 c2 c3 c4 c5 c6 c7 c8 c9 c10 c11 c12 c13 c14 c15 c16 c17
        go_upto_region 4 with (first | ((with_reducible refine wpList_store18 (Blk.new _ #[.int .i64 0, .int .i64 0, .int .i64 0, .int .i64 0, .int .i64 0, .int .i64 0, .int .i64 0, .int .i64 0, .int .i64 0, .string ⟨#[]⟩, .string ⟨#[]⟩, .int .i64 0, .int .i64 0, .string ⟨#[]⟩, .int .i64 0, .int .i64 0, .slice none 0 0, .slice none 0 0] 31) (by kernel_rfl) (by kernel_rfl) (by kernel_rfl) rfl _ _ rfl rfl rfl ?_); intro W4 hX hg4))
        obtain ⟨gx, HGX⟩ : ∃ x, wB.heap.size = x := ⟨_, rfl⟩
        have hne : g ≠ gx := by have := hN.lt; omega
        have hne2 : gx ≠ g := fun e => hne e.symm
        have hgx : w.heap.size ≤ gx := by have := hbb.size; omega
        have hbx := alloc_sto hg4
        rw [HGX] at hX ⊢
        replace hN := hN.below hbx
        replace hbb := hbb.next hbx
        clear HGX hbx hg4
        obtain ⟨c0, c1, c2, c3, c4, c5, c6, c7, c8, c9, c10, c11, c12, c13, c14, c15, c16, c17⟩ := Blk18 hN
        go_upto_region 9 with fail
        clear c0 c1 c2 c3 c4 c5 c6 c7 c8 c9 c10 c11 c12 c13 c14 c15 c16 c17
        have hX2 := hX
        clear hX
        go_wp2_with (first | (with_reducible refine wpList_load18 hX2 (by kernel_rfl) _ rfl rfl ?_) | (with_reducible refine wpList_load18 hN (by kernel_rfl) _ rfl rfl ?_))
        refine (HSM.out _ (HV.out.below hbb) (HDV.out.below hbb)).mono ?_
        rintro e w6 ⟨rfl, hb1⟩
        replace hN := hN.below hb1
        replace hbb := hbb.next hb1
        clear hb1 HSM hX2
        go_wp2_with fail
        go_ret
        exact ⟨ret_bool (by rw [HB.out]; simp), hbb⟩
set_option maxHeartbeats 8000000 in
set_option maxRecDepth 100000 in
theorem rright_5 (lsn prev txn page next num ok os : Int) (old new : List UInt8) (how root : Int) (key : List UInt8) (rp rs : Int) (txns : List Tx) (dirty : List Dy) (vt vd : Value) (w : World) (hv : ElAt w 4 vt (txC txns)) (hd : ElAt w 2 vd (dyC dirty)) (hs : txns.length ≤ 100000) (hs2 : dirty.length ≤ 100000) :
    Calls Try.prog 14 #[.agg (rcC (Rc.mk lsn prev txn 5 page next num ok os old new how root key rp rs txns dirty) vt vd)] w (Ret (.bool (rightR (Rc.mk lsn prev txn 5 page next num ok os old new how root key rp rs txns dirty))) w) := by
  have HB := rr_5 lsn prev txn page next num ok os old new how root key rp rs txns dirty
  obtain ⟨R, hR⟩ : ∃ R, rightR (Rc.mk lsn prev txn 5 page next num ok os old new how root key rp rs txns dirty) = R := ⟨_, rfl⟩
  rw [hR] at HB ⊢
  clear hR
  have HV := Lib.hid hv
  have HDV := Lib.hid hd
  have HSM := fun W (h1 : ElAt W 4 vt (txC txns)) (h2 : ElAt W 2 vd (dyC dirty)) => rsame_any (bareR (Rc.mk lsn prev txn 5 page next num ok os old new how root key rp rs txns dirty)) (Rc.mk lsn prev txn 5 page next num ok os old new how root key rp rs txns dirty) (.slice none 0 0) (.slice none 0 0) vt vd W (ElAt.empty _ _) (ElAt.empty _ _) h1 h2 (by show 0 ≤ _; omega) (by show 0 ≤ _; omega)
  obtain ⟨qs, hqs⟩ : ∃ q, decide (bareR (Rc.mk lsn prev txn 5 page next num ok os old new how root key rp rs txns dirty) = (Rc.mk lsn prev txn 5 page next num ok os old new how root key rp rs txns dirty)) = q := ⟨_, rfl⟩
  rw [hqs] at HB HSM
  clear hqs
  rw [show bareR (Rc.mk lsn prev txn 5 page next num ok os old new how root key rp rs txns dirty) = { lsn := lsn, prev := prev, txn := txn, kind := 5, page := 0, next := 0, num := 0, ok := 0, os := 0, old := [], new := [], how := 0, root := 0, key := [], rp := 0, rs := 0, txns := [], dirty := [] } from rfl] at HSM
  obtain ⟨ao, cap, hva⟩ := hv.nil
  obtain ⟨bo, cap2, hvb⟩ := hd.nil
  obtain ⟨n1, hn1⟩ : ∃ n, (txC txns).length = n := ⟨_, rfl⟩
  obtain ⟨n2, hn2⟩ : ∃ n, (dyC dirty).length = n := ⟨_, rfl⟩
  rw [hn1] at hva
  rw [hn2] at hvb
  subst hva hvb
  clear hv hd hn1 hn2 hs hs2
  simp only [rcC, S_nil0] at HSM ⊢
  obtain ⟨s1, e1⟩ : ∃ x, S old = x := ⟨_, rfl⟩
  obtain ⟨s2, e2⟩ : ∃ x, S new = x := ⟨_, rfl⟩
  obtain ⟨s3, e3⟩ : ∃ x, S key = x := ⟨_, rfl⟩
  simp only [e1, e2, e3] at HSM ⊢
  replace HSM := Lib.hid HSM
  clear e1 e2 e3
  have H1 := Lib.hid (fun W => rnumber_any lsn W)
  have H2 := Lib.hid (fun W => rnumber_any prev W)
  have H3 := Lib.hid (fun W => rnumber_any txn W)
  obtain ⟨q1, hq1⟩ : ∃ q, numB lsn = q := ⟨_, rfl⟩
  obtain ⟨q2, hq2⟩ : ∃ q, numB prev = q := ⟨_, rfl⟩
  obtain ⟨q3, hq3⟩ : ∃ q, numB txn = q := ⟨_, rfl⟩
  rw [hq1] at HB H1
  rw [hq2] at HB H2
  rw [hq3] at HB H3
  replace HB := Lib.hid HB
  clear hq1 hq2 hq3
  have HBR := Lib.hid (fun W => rbare_any lsn prev txn 5 (.int .i64 page) (.int .i64 next) (.int .i64 num) (.int .i64 ok) (.int .i64 os) (.string s1) (.string s2) (.int .i64 how) (.int .i64 root) (.string s3) (.int .i64 rp) (.int .i64 rs) (.slice ao n1 cap) (.slice bo n2 cap2) W)
  have hN := Blk.new w #[.int .i64 lsn, .int .i64 prev, .int .i64 txn, .int .i64 5, .int .i64 page, .int .i64 next, .int .i64 num, .int .i64 ok, .int .i64 os, .string s1, .string s2, .int .i64 how, .int .i64 root, .string s3, .int .i64 rp, .int .i64 rs, .slice ao n1 cap, .slice bo n2 cap2] 31
  have hbb := (Below.refl w.heap.size w).alloc (Nat.le_refl _) (.cells #[.int .i64 lsn, .int .i64 prev, .int .i64 txn, .int .i64 5, .int .i64 page, .int .i64 next, .int .i64 num, .int .i64 ok, .int .i64 os, .string s1, .string s2, .int .i64 how, .int .i64 root, .string s3, .int .i64 rp, .int .i64 rs, .slice ao n1 cap, .slice bo n2 cap2] 31)
  go_enter Try.func14, Try.ntmps14
  go_upto_region 1 with fail
  obtain ⟨g, HG⟩ : ∃ x, w.heap.size = x := ⟨_, rfl⟩
  have hgw : w.heap.size ≤ g := by omega
  rw [HG] at hN ⊢
  clear HG
  generalize (w.alloc (.cells #[.int .i64 lsn, .int .i64 prev, .int .i64 txn, .int .i64 5, .int .i64 page, .int .i64 next, .int .i64 num, .int .i64 ok, .int .i64 os, .string s1, .string s2, .int .i64 how, .int .i64 root, .string s3, .int .i64 rp, .int .i64 rs, .slice ao n1 cap, .slice bo n2 cap2] 31)) = W at hN hbb ⊢
  obtain ⟨c0, c1, c2, c3, c4, c5, c6, c7, c8, c9, c10, c11, c12, c13, c14, c15, c16, c17⟩ := Blk18 hN
  go_wp2_with fail
  refine (H1.out _).mono ?_
  rintro e wq1 ⟨rfl, hb1⟩
  replace hN := hN.below hb1
  replace hbb := hbb.next hb1
  clear hb1
  clear c0 c1 c2 c3 c4 c5 c6 c7 c8 c9 c10 c11 c12 c13 c14 c15 c16 c17
  obtain ⟨c0, c1, c2, c3, c4, c5, c6, c7, c8, c9, c10, c11, c12, c13, c14, c15, c16, c17⟩ := Blk18 hN
  clear H1
  cases q1 with
  | false =>
    go_wp2_with fail
    go_ret
    exact ⟨ret_bool (by rw [HB.out]; simp), hbb⟩
  | true =>
    go_wp2_with fail
    refine (H2.out _).mono ?_
    rintro e wq2 ⟨rfl, hb1⟩
    replace hN := hN.below hb1
    replace hbb := hbb.next hb1
    clear hb1
    clear c0 c1 c2 c3 c4 c5 c6 c7 c8 c9 c10 c11 c12 c13 c14 c15 c16 c17
    obtain ⟨c0, c1, c2, c3, c4, c5, c6, c7, c8, c9, c10, c11, c12, c13, c14, c15, c16, c17⟩ := Blk18 hN
    clear H2
    cases q2 with
    | false =>
      go_wp2_with fail
      go_ret
      exact ⟨ret_bool (by rw [HB.out]; simp), hbb⟩
    | true =>
      go_wp2_with fail
      refine (H3.out _).mono ?_
      rintro e wq3 ⟨rfl, hb1⟩
      replace hN := hN.below hb1
      replace hbb := hbb.next hb1
      clear hb1
      clear c0 c1 c2 c3 c4 c5 c6 c7 c8 c9 c10 c11 c12 c13 c14 c15 c16 c17
      obtain ⟨c0, c1, c2, c3, c4, c5, c6, c7, c8, c9, c10, c11, c12, c13, c14, c15, c16, c17⟩ := Blk18 hN
      clear H3
      cases q3 with
      | false =>
        go_wp2_with fail
        go_ret
        exact ⟨ret_bool (by rw [HB.out]; simp), hbb⟩
      | true =>
        go_wp2_with (first | (with_reducible refine wpList_load18 hN (by kernel_rfl) _ rfl rfl ?_))
        refine (HBR.out _).mono ?_
        rintro e wB ⟨rfl, hb1⟩
        replace hN := hN.below hb1
        replace hbb := hbb.next hb1
        clear hb1 HBR
        clear c0 c1 c2 c3 c4 c5 c6 c7 c8 c9 c10 c11 c12 c13 c14 c15 c16 c17
        go_upto_region 4 with (first | ((with_reducible refine wpList_store18 (Blk.new _ #[.int .i64 0, .int .i64 0, .int .i64 0, .int .i64 0, .int .i64 0, .int .i64 0, .int .i64 0, .int .i64 0, .int .i64 0, .string ⟨#[]⟩, .string ⟨#[]⟩, .int .i64 0, .int .i64 0, .string ⟨#[]⟩, .int .i64 0, .int .i64 0, .slice none 0 0, .slice none 0 0] 31) (by kernel_rfl) (by kernel_rfl) (by kernel_rfl) rfl _ _ rfl rfl rfl ?_); intro W4 hX hg4))
        obtain ⟨gx, HGX⟩ : ∃ x, wB.heap.size = x := ⟨_, rfl⟩
        have hne : g ≠ gx := by have := hN.lt; omega
        have hne2 : gx ≠ g := fun e => hne e.symm
        have hgx : w.heap.size ≤ gx := by have := hbb.size; omega
        have hbx := alloc_sto hg4
        rw [HGX] at hX ⊢
        replace hN := hN.below hbx
        replace hbb := hbb.next hbx
        clear HGX hbx hg4
        obtain ⟨c0, c1, c2, c3, c4, c5, c6, c7, c8, c9, c10, c11, c12, c13, c14, c15, c16, c17⟩ := Blk18 hN
        go_upto_region 9 with fail
        clear c0 c1 c2 c3 c4 c5 c6 c7 c8 c9 c10 c11 c12 c13 c14 c15 c16 c17
        have hX2 := hX
        clear hX
        go_wp2_with (first | (with_reducible refine wpList_load18 hX2 (by kernel_rfl) _ rfl rfl ?_) | (with_reducible refine wpList_load18 hN (by kernel_rfl) _ rfl rfl ?_))
        refine (HSM.out _ (HV.out.below hbb) (HDV.out.below hbb)).mono ?_
        rintro e w6 ⟨rfl, hb1⟩
        replace hN := hN.below hb1
        replace hbb := hbb.next hb1
        clear hb1 HSM hX2
        go_wp2_with fail
        go_ret
        exact ⟨ret_bool (by rw [HB.out]; simp), hbb⟩
set_option maxHeartbeats 8000000 in
set_option maxRecDepth 100000 in
theorem rright_6 (lsn prev txn page next num ok os : Int) (old new : List UInt8) (how root : Int) (key : List UInt8) (rp rs : Int) (txns : List Tx) (dirty : List Dy) (vt vd : Value) (w : World) (hv : ElAt w 4 vt (txC txns)) (hd : ElAt w 2 vd (dyC dirty)) (hs : txns.length ≤ 100000) (hs2 : dirty.length ≤ 100000) :
    Calls Try.prog 14 #[.agg (rcC (Rc.mk lsn prev txn 6 page next num ok os old new how root key rp rs txns dirty) vt vd)] w (Ret (.bool (rightR (Rc.mk lsn prev txn 6 page next num ok os old new how root key rp rs txns dirty))) w) := by
  have HB := rr_6 lsn prev txn page next num ok os old new how root key rp rs txns dirty
  obtain ⟨R, hR⟩ : ∃ R, rightR (Rc.mk lsn prev txn 6 page next num ok os old new how root key rp rs txns dirty) = R := ⟨_, rfl⟩
  rw [hR] at HB ⊢
  clear hR
  have HV := Lib.hid hv
  have HDV := Lib.hid hd
  have HSM := fun W (h1 : ElAt W 4 vt (txC txns)) (h2 : ElAt W 2 vd (dyC dirty)) => rsame_any (bareR (Rc.mk lsn prev txn 6 page next num ok os old new how root key rp rs txns dirty)) (Rc.mk lsn prev txn 6 page next num ok os old new how root key rp rs txns dirty) (.slice none 0 0) (.slice none 0 0) vt vd W (ElAt.empty _ _) (ElAt.empty _ _) h1 h2 (by show 0 ≤ _; omega) (by show 0 ≤ _; omega)
  obtain ⟨qs, hqs⟩ : ∃ q, decide (bareR (Rc.mk lsn prev txn 6 page next num ok os old new how root key rp rs txns dirty) = (Rc.mk lsn prev txn 6 page next num ok os old new how root key rp rs txns dirty)) = q := ⟨_, rfl⟩
  rw [hqs] at HB HSM
  clear hqs
  rw [show bareR (Rc.mk lsn prev txn 6 page next num ok os old new how root key rp rs txns dirty) = { lsn := lsn, prev := prev, txn := txn, kind := 6, page := 0, next := 0, num := 0, ok := 0, os := 0, old := [], new := [], how := 0, root := 0, key := [], rp := 0, rs := 0, txns := [], dirty := [] } from rfl] at HSM
  obtain ⟨ao, cap, hva⟩ := hv.nil
  obtain ⟨bo, cap2, hvb⟩ := hd.nil
  obtain ⟨n1, hn1⟩ : ∃ n, (txC txns).length = n := ⟨_, rfl⟩
  obtain ⟨n2, hn2⟩ : ∃ n, (dyC dirty).length = n := ⟨_, rfl⟩
  rw [hn1] at hva
  rw [hn2] at hvb
  subst hva hvb
  clear hv hd hn1 hn2 hs hs2
  simp only [rcC, S_nil0] at HSM ⊢
  obtain ⟨s1, e1⟩ : ∃ x, S old = x := ⟨_, rfl⟩
  obtain ⟨s2, e2⟩ : ∃ x, S new = x := ⟨_, rfl⟩
  obtain ⟨s3, e3⟩ : ∃ x, S key = x := ⟨_, rfl⟩
  simp only [e1, e2, e3] at HSM ⊢
  replace HSM := Lib.hid HSM
  clear e1 e2 e3
  have H1 := Lib.hid (fun W => rnumber_any lsn W)
  have H2 := Lib.hid (fun W => rnumber_any prev W)
  have H3 := Lib.hid (fun W => rnumber_any txn W)
  obtain ⟨q1, hq1⟩ : ∃ q, numB lsn = q := ⟨_, rfl⟩
  obtain ⟨q2, hq2⟩ : ∃ q, numB prev = q := ⟨_, rfl⟩
  obtain ⟨q3, hq3⟩ : ∃ q, numB txn = q := ⟨_, rfl⟩
  rw [hq1] at HB H1
  rw [hq2] at HB H2
  rw [hq3] at HB H3
  replace HB := Lib.hid HB
  clear hq1 hq2 hq3
  have HBR := Lib.hid (fun W => rbare_any lsn prev txn 6 (.int .i64 page) (.int .i64 next) (.int .i64 num) (.int .i64 ok) (.int .i64 os) (.string s1) (.string s2) (.int .i64 how) (.int .i64 root) (.string s3) (.int .i64 rp) (.int .i64 rs) (.slice ao n1 cap) (.slice bo n2 cap2) W)
  have hN := Blk.new w #[.int .i64 lsn, .int .i64 prev, .int .i64 txn, .int .i64 6, .int .i64 page, .int .i64 next, .int .i64 num, .int .i64 ok, .int .i64 os, .string s1, .string s2, .int .i64 how, .int .i64 root, .string s3, .int .i64 rp, .int .i64 rs, .slice ao n1 cap, .slice bo n2 cap2] 31
  have hbb := (Below.refl w.heap.size w).alloc (Nat.le_refl _) (.cells #[.int .i64 lsn, .int .i64 prev, .int .i64 txn, .int .i64 6, .int .i64 page, .int .i64 next, .int .i64 num, .int .i64 ok, .int .i64 os, .string s1, .string s2, .int .i64 how, .int .i64 root, .string s3, .int .i64 rp, .int .i64 rs, .slice ao n1 cap, .slice bo n2 cap2] 31)
  go_enter Try.func14, Try.ntmps14
  go_upto_region 1 with fail
  obtain ⟨g, HG⟩ : ∃ x, w.heap.size = x := ⟨_, rfl⟩
  have hgw : w.heap.size ≤ g := by omega
  rw [HG] at hN ⊢
  clear HG
  generalize (w.alloc (.cells #[.int .i64 lsn, .int .i64 prev, .int .i64 txn, .int .i64 6, .int .i64 page, .int .i64 next, .int .i64 num, .int .i64 ok, .int .i64 os, .string s1, .string s2, .int .i64 how, .int .i64 root, .string s3, .int .i64 rp, .int .i64 rs, .slice ao n1 cap, .slice bo n2 cap2] 31)) = W at hN hbb ⊢
  obtain ⟨c0, c1, c2, c3, c4, c5, c6, c7, c8, c9, c10, c11, c12, c13, c14, c15, c16, c17⟩ := Blk18 hN
  go_wp2_with fail
  refine (H1.out _).mono ?_
  rintro e wq1 ⟨rfl, hb1⟩
  replace hN := hN.below hb1
  replace hbb := hbb.next hb1
  clear hb1
  clear c0 c1 c2 c3 c4 c5 c6 c7 c8 c9 c10 c11 c12 c13 c14 c15 c16 c17
  obtain ⟨c0, c1, c2, c3, c4, c5, c6, c7, c8, c9, c10, c11, c12, c13, c14, c15, c16, c17⟩ := Blk18 hN
  clear H1
  cases q1 with
  | false =>
    go_wp2_with fail
    go_ret
    exact ⟨ret_bool (by rw [HB.out]; simp), hbb⟩
  | true =>
    go_wp2_with fail
    refine (H2.out _).mono ?_
    rintro e wq2 ⟨rfl, hb1⟩
    replace hN := hN.below hb1
    replace hbb := hbb.next hb1
    clear hb1
    clear c0 c1 c2 c3 c4 c5 c6 c7 c8 c9 c10 c11 c12 c13 c14 c15 c16 c17
    obtain ⟨c0, c1, c2, c3, c4, c5, c6, c7, c8, c9, c10, c11, c12, c13, c14, c15, c16, c17⟩ := Blk18 hN
    clear H2
    cases q2 with
    | false =>
      go_wp2_with fail
      go_ret
      exact ⟨ret_bool (by rw [HB.out]; simp), hbb⟩
    | true =>
      go_wp2_with fail
      refine (H3.out _).mono ?_
      rintro e wq3 ⟨rfl, hb1⟩
      replace hN := hN.below hb1
      replace hbb := hbb.next hb1
      clear hb1
      clear c0 c1 c2 c3 c4 c5 c6 c7 c8 c9 c10 c11 c12 c13 c14 c15 c16 c17
      obtain ⟨c0, c1, c2, c3, c4, c5, c6, c7, c8, c9, c10, c11, c12, c13, c14, c15, c16, c17⟩ := Blk18 hN
      clear H3
      cases q3 with
      | false =>
        go_wp2_with fail
        go_ret
        exact ⟨ret_bool (by rw [HB.out]; simp), hbb⟩
      | true =>
        go_wp2_with (first | (with_reducible refine wpList_load18 hN (by kernel_rfl) _ rfl rfl ?_))
        refine (HBR.out _).mono ?_
        rintro e wB ⟨rfl, hb1⟩
        replace hN := hN.below hb1
        replace hbb := hbb.next hb1
        clear hb1 HBR
        clear c0 c1 c2 c3 c4 c5 c6 c7 c8 c9 c10 c11 c12 c13 c14 c15 c16 c17
        go_upto_region 4 with (first | ((with_reducible refine wpList_store18 (Blk.new _ #[.int .i64 0, .int .i64 0, .int .i64 0, .int .i64 0, .int .i64 0, .int .i64 0, .int .i64 0, .int .i64 0, .int .i64 0, .string ⟨#[]⟩, .string ⟨#[]⟩, .int .i64 0, .int .i64 0, .string ⟨#[]⟩, .int .i64 0, .int .i64 0, .slice none 0 0, .slice none 0 0] 31) (by kernel_rfl) (by kernel_rfl) (by kernel_rfl) rfl _ _ rfl rfl rfl ?_); intro W4 hX hg4))
        obtain ⟨gx, HGX⟩ : ∃ x, wB.heap.size = x := ⟨_, rfl⟩
        have hne : g ≠ gx := by have := hN.lt; omega
        have hne2 : gx ≠ g := fun e => hne e.symm
        have hgx : w.heap.size ≤ gx := by have := hbb.size; omega
        have hbx := alloc_sto hg4
        rw [HGX] at hX ⊢
        replace hN := hN.below hbx
        replace hbb := hbb.next hbx
        clear HGX hbx hg4
        obtain ⟨c0, c1, c2, c3, c4, c5, c6, c7, c8, c9, c10, c11, c12, c13, c14, c15, c16, c17⟩ := Blk18 hN
        go_upto_region 9 with fail
        clear c0 c1 c2 c3 c4 c5 c6 c7 c8 c9 c10 c11 c12 c13 c14 c15 c16 c17
        have hX2 := hX
        clear hX
        go_wp2_with (first | (with_reducible refine wpList_load18 hX2 (by kernel_rfl) _ rfl rfl ?_) | (with_reducible refine wpList_load18 hN (by kernel_rfl) _ rfl rfl ?_))
        refine (HSM.out _ (HV.out.below hbb) (HDV.out.below hbb)).mono ?_
        rintro e w6 ⟨rfl, hb1⟩
        replace hN := hN.below hb1
        replace hbb := hbb.next hb1
        clear hb1 HSM hX2
        go_wp2_with fail
        go_ret
        exact ⟨ret_bool (by rw [HB.out]; simp), hbb⟩
set_option maxHeartbeats 8000000 in
set_option maxRecDepth 100000 in
theorem rright_7 (lsn prev txn page next num ok os : Int) (old new : List UInt8) (how root : Int) (key : List UInt8) (rp rs : Int) (txns : List Tx) (dirty : List Dy) (vt vd : Value) (w : World) (hv : ElAt w 4 vt (txC txns)) (hd : ElAt w 2 vd (dyC dirty)) (hs : txns.length ≤ 100000) (hs2 : dirty.length ≤ 100000) :
    Calls Try.prog 14 #[.agg (rcC (Rc.mk lsn prev txn 7 page next num ok os old new how root key rp rs txns dirty) vt vd)] w (Ret (.bool (rightR (Rc.mk lsn prev txn 7 page next num ok os old new how root key rp rs txns dirty))) w) := by
  have HB := rr_7 lsn prev txn page next num ok os old new how root key rp rs txns dirty
  obtain ⟨R, hR⟩ : ∃ R, rightR (Rc.mk lsn prev txn 7 page next num ok os old new how root key rp rs txns dirty) = R := ⟨_, rfl⟩
  rw [hR] at HB ⊢
  clear hR
  have HV := Lib.hid hv
  have HDV := Lib.hid hd
  have HSM := fun W (h1 : ElAt W 4 vt (txC txns)) (h2 : ElAt W 2 vd (dyC dirty)) => rsame_any (bareR (Rc.mk lsn prev txn 7 page next num ok os old new how root key rp rs txns dirty)) (Rc.mk lsn prev txn 7 page next num ok os old new how root key rp rs txns dirty) (.slice none 0 0) (.slice none 0 0) vt vd W (ElAt.empty _ _) (ElAt.empty _ _) h1 h2 (by show 0 ≤ _; omega) (by show 0 ≤ _; omega)
  obtain ⟨qs, hqs⟩ : ∃ q, decide (bareR (Rc.mk lsn prev txn 7 page next num ok os old new how root key rp rs txns dirty) = (Rc.mk lsn prev txn 7 page next num ok os old new how root key rp rs txns dirty)) = q := ⟨_, rfl⟩
  rw [hqs] at HB HSM
  clear hqs
  rw [show bareR (Rc.mk lsn prev txn 7 page next num ok os old new how root key rp rs txns dirty) = { lsn := lsn, prev := prev, txn := txn, kind := 7, page := 0, next := 0, num := 0, ok := 0, os := 0, old := [], new := [], how := 0, root := 0, key := [], rp := 0, rs := 0, txns := [], dirty := [] } from rfl] at HSM
  obtain ⟨ao, cap, hva⟩ := hv.nil
  obtain ⟨bo, cap2, hvb⟩ := hd.nil
  obtain ⟨n1, hn1⟩ : ∃ n, (txC txns).length = n := ⟨_, rfl⟩
  obtain ⟨n2, hn2⟩ : ∃ n, (dyC dirty).length = n := ⟨_, rfl⟩
  rw [hn1] at hva
  rw [hn2] at hvb
  subst hva hvb
  clear hv hd hn1 hn2 hs hs2
  simp only [rcC, S_nil0] at HSM ⊢
  obtain ⟨s1, e1⟩ : ∃ x, S old = x := ⟨_, rfl⟩
  obtain ⟨s2, e2⟩ : ∃ x, S new = x := ⟨_, rfl⟩
  obtain ⟨s3, e3⟩ : ∃ x, S key = x := ⟨_, rfl⟩
  simp only [e1, e2, e3] at HSM ⊢
  replace HSM := Lib.hid HSM
  clear e1 e2 e3
  have H1 := Lib.hid (fun W => rnumber_any lsn W)
  have H2 := Lib.hid (fun W => rnumber_any prev W)
  have H3 := Lib.hid (fun W => rnumber_any txn W)
  obtain ⟨q1, hq1⟩ : ∃ q, numB lsn = q := ⟨_, rfl⟩
  obtain ⟨q2, hq2⟩ : ∃ q, numB prev = q := ⟨_, rfl⟩
  obtain ⟨q3, hq3⟩ : ∃ q, numB txn = q := ⟨_, rfl⟩
  rw [hq1] at HB H1
  rw [hq2] at HB H2
  rw [hq3] at HB H3
  replace HB := Lib.hid HB
  clear hq1 hq2 hq3
  have HBR := Lib.hid (fun W => rbare_any lsn prev txn 7 (.int .i64 page) (.int .i64 next) (.int .i64 num) (.int .i64 ok) (.int .i64 os) (.string s1) (.string s2) (.int .i64 how) (.int .i64 root) (.string s3) (.int .i64 rp) (.int .i64 rs) (.slice ao n1 cap) (.slice bo n2 cap2) W)
  have hN := Blk.new w #[.int .i64 lsn, .int .i64 prev, .int .i64 txn, .int .i64 7, .int .i64 page, .int .i64 next, .int .i64 num, .int .i64 ok, .int .i64 os, .string s1, .string s2, .int .i64 how, .int .i64 root, .string s3, .int .i64 rp, .int .i64 rs, .slice ao n1 cap, .slice bo n2 cap2] 31
  have hbb := (Below.refl w.heap.size w).alloc (Nat.le_refl _) (.cells #[.int .i64 lsn, .int .i64 prev, .int .i64 txn, .int .i64 7, .int .i64 page, .int .i64 next, .int .i64 num, .int .i64 ok, .int .i64 os, .string s1, .string s2, .int .i64 how, .int .i64 root, .string s3, .int .i64 rp, .int .i64 rs, .slice ao n1 cap, .slice bo n2 cap2] 31)
  go_enter Try.func14, Try.ntmps14
  go_upto_region 1 with fail
  obtain ⟨g, HG⟩ : ∃ x, w.heap.size = x := ⟨_, rfl⟩
  have hgw : w.heap.size ≤ g := by omega
  rw [HG] at hN ⊢
  clear HG
  generalize (w.alloc (.cells #[.int .i64 lsn, .int .i64 prev, .int .i64 txn, .int .i64 7, .int .i64 page, .int .i64 next, .int .i64 num, .int .i64 ok, .int .i64 os, .string s1, .string s2, .int .i64 how, .int .i64 root, .string s3, .int .i64 rp, .int .i64 rs, .slice ao n1 cap, .slice bo n2 cap2] 31)) = W at hN hbb ⊢
  obtain ⟨c0, c1, c2, c3, c4, c5, c6, c7, c8, c9, c10, c11, c12, c13, c14, c15, c16, c17⟩ := Blk18 hN
  go_wp2_with fail
  refine (H1.out _).mono ?_
  rintro e wq1 ⟨rfl, hb1⟩
  replace hN := hN.below hb1
  replace hbb := hbb.next hb1
  clear hb1
  clear c0 c1 c2 c3 c4 c5 c6 c7 c8 c9 c10 c11 c12 c13 c14 c15 c16 c17
  obtain ⟨c0, c1, c2, c3, c4, c5, c6, c7, c8, c9, c10, c11, c12, c13, c14, c15, c16, c17⟩ := Blk18 hN
  clear H1
  cases q1 with
  | false =>
    go_wp2_with fail
    go_ret
    exact ⟨ret_bool (by rw [HB.out]; simp), hbb⟩
  | true =>
    go_wp2_with fail
    refine (H2.out _).mono ?_
    rintro e wq2 ⟨rfl, hb1⟩
    replace hN := hN.below hb1
    replace hbb := hbb.next hb1
    clear hb1
    clear c0 c1 c2 c3 c4 c5 c6 c7 c8 c9 c10 c11 c12 c13 c14 c15 c16 c17
    obtain ⟨c0, c1, c2, c3, c4, c5, c6, c7, c8, c9, c10, c11, c12, c13, c14, c15, c16, c17⟩ := Blk18 hN
    clear H2
    cases q2 with
    | false =>
      go_wp2_with fail
      go_ret
      exact ⟨ret_bool (by rw [HB.out]; simp), hbb⟩
    | true =>
      go_wp2_with fail
      refine (H3.out _).mono ?_
      rintro e wq3 ⟨rfl, hb1⟩
      replace hN := hN.below hb1
      replace hbb := hbb.next hb1
      clear hb1
      clear c0 c1 c2 c3 c4 c5 c6 c7 c8 c9 c10 c11 c12 c13 c14 c15 c16 c17
      obtain ⟨c0, c1, c2, c3, c4, c5, c6, c7, c8, c9, c10, c11, c12, c13, c14, c15, c16, c17⟩ := Blk18 hN
      clear H3
      cases q3 with
      | false =>
        go_wp2_with fail
        go_ret
        exact ⟨ret_bool (by rw [HB.out]; simp), hbb⟩
      | true =>
        go_wp2_with (first | (with_reducible refine wpList_load18 hN (by kernel_rfl) _ rfl rfl ?_))
        refine (HBR.out _).mono ?_
        rintro e wB ⟨rfl, hb1⟩
        replace hN := hN.below hb1
        replace hbb := hbb.next hb1
        clear hb1 HBR
        clear c0 c1 c2 c3 c4 c5 c6 c7 c8 c9 c10 c11 c12 c13 c14 c15 c16 c17
        go_upto_region 4 with (first | ((with_reducible refine wpList_store18 (Blk.new _ #[.int .i64 0, .int .i64 0, .int .i64 0, .int .i64 0, .int .i64 0, .int .i64 0, .int .i64 0, .int .i64 0, .int .i64 0, .string ⟨#[]⟩, .string ⟨#[]⟩, .int .i64 0, .int .i64 0, .string ⟨#[]⟩, .int .i64 0, .int .i64 0, .slice none 0 0, .slice none 0 0] 31) (by kernel_rfl) (by kernel_rfl) (by kernel_rfl) rfl _ _ rfl rfl rfl ?_); intro W4 hX hg4))
        obtain ⟨gx, HGX⟩ : ∃ x, wB.heap.size = x := ⟨_, rfl⟩
        have hne : g ≠ gx := by have := hN.lt; omega
        have hne2 : gx ≠ g := fun e => hne e.symm
        have hgx : w.heap.size ≤ gx := by have := hbb.size; omega
        have hbx := alloc_sto hg4
        rw [HGX] at hX ⊢
        replace hN := hN.below hbx
        replace hbb := hbb.next hbx
        clear HGX hbx hg4
        obtain ⟨c0, c1, c2, c3, c4, c5, c6, c7, c8, c9, c10, c11, c12, c13, c14, c15, c16, c17⟩ := Blk18 hN
        go_upto_region 9 with fail
        clear c0 c1 c2 c3 c4 c5 c6 c7 c8 c9 c10 c11 c12 c13 c14 c15 c16 c17
        have hX2 := hX
        clear hX
        go_wp2_with (first | (with_reducible refine wpList_load18 hX2 (by kernel_rfl) _ rfl rfl ?_) | (with_reducible refine wpList_load18 hN (by kernel_rfl) _ rfl rfl ?_))
        refine (HSM.out _ (HV.out.below hbb) (HDV.out.below hbb)).mono ?_
        rintro e w6 ⟨rfl, hb1⟩
        replace hN := hN.below hb1
        replace hbb := hbb.next hb1
        clear hb1 HSM hX2
        go_wp2_with fail
        go_ret
        exact ⟨ret_bool (by rw [HB.out]; simp), hbb⟩
set_option maxHeartbeats 8000000 in
set_option maxRecDepth 100000 in
theorem rright_2 (lsn prev txn page next num ok os : Int) (old new : List UInt8) (how root : Int) (key : List UInt8) (rp rs : Int) (txns : List Tx) (dirty : List Dy) (vt vd : Value) (w : World) (hv : ElAt w 4 vt (txC txns)) (hd : ElAt w 2 vd (dyC dirty)) (hs : txns.length ≤ 100000) (hs2 : dirty.length ≤ 100000) :
    Calls Try.prog 14 #[.agg (rcC (Rc.mk lsn prev txn 2 page next num ok os old new how root key rp rs txns dirty) vt vd)] w (Ret (.bool (rightR (Rc.mk lsn prev txn 2 page next num ok os old new how root key rp rs txns dirty))) w) := by
  have HB := rr_2 lsn prev txn page next num ok os old new how root key rp rs txns dirty
  obtain ⟨R, hR⟩ : ∃ R, rightR (Rc.mk lsn prev txn 2 page next num ok os old new how root key rp rs txns dirty) = R := ⟨_, rfl⟩
  rw [hR] at HB ⊢
  clear hR
  have HV := Lib.hid hv
  have HDV := Lib.hid hd
  have HSM := fun W (h1 : ElAt W 4 vt (txC txns)) (h2 : ElAt W 2 vd (dyC dirty)) => rsame_any (bareR (Rc.mk lsn prev txn 2 page next num ok os old new how root key rp rs txns dirty)) (Rc.mk lsn prev txn 2 page next num ok os old new how root key rp rs txns dirty) (.slice none 0 0) (.slice none 0 0) vt vd W (ElAt.empty _ _) (ElAt.empty _ _) h1 h2 (by show 0 ≤ _; omega) (by show 0 ≤ _; omega)
  obtain ⟨qs, hqs⟩ : ∃ q, decide (bareR (Rc.mk lsn prev txn 2 page next num ok os old new how root key rp rs txns dirty) = (Rc.mk lsn prev txn 2 page next num ok os old new how root key rp rs txns dirty)) = q := ⟨_, rfl⟩
  rw [hqs] at HB HSM
  clear hqs
  rw [show bareR (Rc.mk lsn prev txn 2 page next num ok os old new how root key rp rs txns dirty) = { lsn := lsn, prev := prev, txn := txn, kind := 2, page := page, next := 0, num := 0, ok := ok, os := os, old := old, new := new, how := how, root := root, key := key, rp := rp, rs := rs, txns := [], dirty := [] } from rfl] at HSM
  have HCH := fun W (h1 : ElAt W 4 vt (txC txns)) (h2 : ElAt W 2 vd (dyC dirty)) => rchg_any (Rc.mk lsn prev txn 2 page next num ok os old new how root key rp rs txns dirty) vt vd W h1 h2
  obtain ⟨qc, hqc⟩ : ∃ q, chgB (Rc.mk lsn prev txn 2 page next num ok os old new how root key rp rs txns dirty) = q := ⟨_, rfl⟩
  rw [hqc] at HB HCH
  clear hqc
  obtain ⟨ao, cap, hva⟩ := hv.nil
  obtain ⟨bo, cap2, hvb⟩ := hd.nil
  obtain ⟨n1, hn1⟩ : ∃ n, (txC txns).length = n := ⟨_, rfl⟩
  obtain ⟨n2, hn2⟩ : ∃ n, (dyC dirty).length = n := ⟨_, rfl⟩
  rw [hn1] at hva
  rw [hn2] at hvb
  subst hva hvb
  clear hv hd hn1 hn2 hs hs2
  simp only [rcC, S_nil0] at HSM HCH ⊢
  obtain ⟨s1, e1⟩ : ∃ x, S old = x := ⟨_, rfl⟩
  obtain ⟨s2, e2⟩ : ∃ x, S new = x := ⟨_, rfl⟩
  obtain ⟨s3, e3⟩ : ∃ x, S key = x := ⟨_, rfl⟩
  simp only [e1, e2, e3] at HSM HCH ⊢
  replace HSM := Lib.hid HSM
  replace HCH := Lib.hid HCH
  clear e1 e2 e3
  have H1 := Lib.hid (fun W => rnumber_any lsn W)
  have H2 := Lib.hid (fun W => rnumber_any prev W)
  have H3 := Lib.hid (fun W => rnumber_any txn W)
  obtain ⟨q1, hq1⟩ : ∃ q, numB lsn = q := ⟨_, rfl⟩
  obtain ⟨q2, hq2⟩ : ∃ q, numB prev = q := ⟨_, rfl⟩
  obtain ⟨q3, hq3⟩ : ∃ q, numB txn = q := ⟨_, rfl⟩
  rw [hq1] at HB H1
  rw [hq2] at HB H2
  rw [hq3] at HB H3
  replace HB := Lib.hid HB
  clear hq1 hq2 hq3
  have HBR := Lib.hid (fun W => rbare_any lsn prev txn 2 (.int .i64 page) (.int .i64 next) (.int .i64 num) (.int .i64 ok) (.int .i64 os) (.string s1) (.string s2) (.int .i64 how) (.int .i64 root) (.string s3) (.int .i64 rp) (.int .i64 rs) (.slice ao n1 cap) (.slice bo n2 cap2) W)
  have hN := Blk.new w #[.int .i64 lsn, .int .i64 prev, .int .i64 txn, .int .i64 2, .int .i64 page, .int .i64 next, .int .i64 num, .int .i64 ok, .int .i64 os, .string s1, .string s2, .int .i64 how, .int .i64 root, .string s3, .int .i64 rp, .int .i64 rs, .slice ao n1 cap, .slice bo n2 cap2] 31
  have hbb := (Below.refl w.heap.size w).alloc (Nat.le_refl _) (.cells #[.int .i64 lsn, .int .i64 prev, .int .i64 txn, .int .i64 2, .int .i64 page, .int .i64 next, .int .i64 num, .int .i64 ok, .int .i64 os, .string s1, .string s2, .int .i64 how, .int .i64 root, .string s3, .int .i64 rp, .int .i64 rs, .slice ao n1 cap, .slice bo n2 cap2] 31)
  go_enter Try.func14, Try.ntmps14
  go_upto_region 1 with fail
  obtain ⟨g, HG⟩ : ∃ x, w.heap.size = x := ⟨_, rfl⟩
  have hgw : w.heap.size ≤ g := by omega
  rw [HG] at hN ⊢
  clear HG
  generalize (w.alloc (.cells #[.int .i64 lsn, .int .i64 prev, .int .i64 txn, .int .i64 2, .int .i64 page, .int .i64 next, .int .i64 num, .int .i64 ok, .int .i64 os, .string s1, .string s2, .int .i64 how, .int .i64 root, .string s3, .int .i64 rp, .int .i64 rs, .slice ao n1 cap, .slice bo n2 cap2] 31)) = W at hN hbb ⊢
  obtain ⟨c0, c1, c2, c3, c4, c5, c6, c7, c8, c9, c10, c11, c12, c13, c14, c15, c16, c17⟩ := Blk18 hN
  go_wp2_with fail
  refine (H1.out _).mono ?_
  rintro e wq1 ⟨rfl, hb1⟩
  replace hN := hN.below hb1
  replace hbb := hbb.next hb1
  clear hb1
  clear c0 c1 c2 c3 c4 c5 c6 c7 c8 c9 c10 c11 c12 c13 c14 c15 c16 c17
  obtain ⟨c0, c1, c2, c3, c4, c5, c6, c7, c8, c9, c10, c11, c12, c13, c14, c15, c16, c17⟩ := Blk18 hN
  clear H1
  cases q1 with
  | false =>
    go_wp2_with fail
    go_ret
    exact ⟨ret_bool (by rw [HB.out]; simp), hbb⟩
  | true =>
    go_wp2_with fail
    refine (H2.out _).mono ?_
    rintro e wq2 ⟨rfl, hb1⟩
    replace hN := hN.below hb1
    replace hbb := hbb.next hb1
    clear hb1
    clear c0 c1 c2 c3 c4 c5 c6 c7 c8 c9 c10 c11 c12 c13 c14 c15 c16 c17
    obtain ⟨c0, c1, c2, c3, c4, c5, c6, c7, c8, c9, c10, c11, c12, c13, c14, c15, c16, c17⟩ := Blk18 hN
    clear H2
    cases q2 with
    | false =>
      go_wp2_with fail
      go_ret
      exact ⟨ret_bool (by rw [HB.out]; simp), hbb⟩
    | true =>
      go_wp2_with fail
      refine (H3.out _).mono ?_
      rintro e wq3 ⟨rfl, hb1⟩
      replace hN := hN.below hb1
      replace hbb := hbb.next hb1
      clear hb1
      clear c0 c1 c2 c3 c4 c5 c6 c7 c8 c9 c10 c11 c12 c13 c14 c15 c16 c17
      obtain ⟨c0, c1, c2, c3, c4, c5, c6, c7, c8, c9, c10, c11, c12, c13, c14, c15, c16, c17⟩ := Blk18 hN
      clear H3
      cases q3 with
      | false =>
        go_wp2_with fail
        go_ret
        exact ⟨ret_bool (by rw [HB.out]; simp), hbb⟩
      | true =>
        go_wp2_with (first | (with_reducible refine wpList_load18 hN (by kernel_rfl) _ rfl rfl ?_))
        refine (HBR.out _).mono ?_
        rintro e wB ⟨rfl, hb1⟩
        replace hN := hN.below hb1
        replace hbb := hbb.next hb1
        clear hb1 HBR
        clear c0 c1 c2 c3 c4 c5 c6 c7 c8 c9 c10 c11 c12 c13 c14 c15 c16 c17
        go_upto_region 4 with (first | ((with_reducible refine wpList_store18 (Blk.new _ #[.int .i64 0, .int .i64 0, .int .i64 0, .int .i64 0, .int .i64 0, .int .i64 0, .int .i64 0, .int .i64 0, .int .i64 0, .string ⟨#[]⟩, .string ⟨#[]⟩, .int .i64 0, .int .i64 0, .string ⟨#[]⟩, .int .i64 0, .int .i64 0, .slice none 0 0, .slice none 0 0] 31) (by kernel_rfl) (by kernel_rfl) (by kernel_rfl) rfl _ _ rfl rfl rfl ?_); intro W4 hX hg4))
        obtain ⟨gx, HGX⟩ : ∃ x, wB.heap.size = x := ⟨_, rfl⟩
        have hne : g ≠ gx := by have := hN.lt; omega
        have hne2 : gx ≠ g := fun e => hne e.symm
        have hgx : w.heap.size ≤ gx := by have := hbb.size; omega
        have hbx := alloc_sto hg4
        rw [HGX] at hX ⊢
        replace hN := hN.below hbx
        replace hbb := hbb.next hbx
        clear HGX hbx hg4
        obtain ⟨c0, c1, c2, c3, c4, c5, c6, c7, c8, c9, c10, c11, c12, c13, c14, c15, c16, c17⟩ := Blk18 hN
        go_upto_region 11 with fail
        obtain ⟨x0, x1, x2, x3, x4, x5, x6, x7, x8, x9, x10, x11, x12, x13, x14, x15, x16, x17⟩ := Blk18 hX
        obtain ⟨y0, y1, y2, y3, y4, y5, y6, y7, y8, y9, y10, y11, y12, y13, y14, y15, y16, y17⟩ := Free18 hX
        clear x0 x1 x2 x3 y0 y1 y2 y3
        have hX2 := hX
        have hN2 := hN
        have hb2 := hbb
        replace hX2 : Blk (W4.setCell ⟨gx, 4, none⟩ (.int .i64 page)) gx #[.int .i64 lsn, .int .i64 prev, .int .i64 txn, .int .i64 2, .int .i64 page, .int .i64 0, .int .i64 0, .int .i64 0, .int .i64 0, .string ⟨#[]⟩, .string ⟨#[]⟩, .int .i64 0, .int .i64 0, .string ⟨#[]⟩, .int .i64 0, .int .i64 0, .slice none 0 0, .slice none 0 0] 31 := hX2.set 4 (.int .i64 page)
        replace hN2 : Blk (W4.setCell ⟨gx, 4, none⟩ (.int .i64 page)) g #[.int .i64 lsn, .int .i64 prev, .int .i64 txn, .int .i64 2, .int .i64 page, .int .i64 next, .int .i64 num, .int .i64 ok, .int .i64 os, .string s1, .string s2, .int .i64 how, .int .i64 root, .string s3, .int .i64 rp, .int .i64 rs, .slice ao n1 cap, .slice bo n2 cap2] 31 := hN2.other (a := ⟨gx, 4, none⟩) (by show g ≠ gx; exact hne) (.int .i64 page)
        replace hb2 : Below w.heap.size w (W4.setCell ⟨gx, 4, none⟩ (.int .i64 page)) := hb2.setCell (p := ⟨gx, 4, none⟩) (by show w.heap.size ≤ gx; exact hgx) (.int .i64 page)
        replace hX2 : Blk ((W4.setCell ⟨gx, 4, none⟩ (.int .i64 page)).setCell ⟨gx, 7, none⟩ (.int .i64 ok)) gx #[.int .i64 lsn, .int .i64 prev, .int .i64 txn, .int .i64 2, .int .i64 page, .int .i64 0, .int .i64 0, .int .i64 ok, .int .i64 0, .string ⟨#[]⟩, .string ⟨#[]⟩, .int .i64 0, .int .i64 0, .string ⟨#[]⟩, .int .i64 0, .int .i64 0, .slice none 0 0, .slice none 0 0] 31 := hX2.set 7 (.int .i64 ok)
        replace hN2 : Blk ((W4.setCell ⟨gx, 4, none⟩ (.int .i64 page)).setCell ⟨gx, 7, none⟩ (.int .i64 ok)) g #[.int .i64 lsn, .int .i64 prev, .int .i64 txn, .int .i64 2, .int .i64 page, .int .i64 next, .int .i64 num, .int .i64 ok, .int .i64 os, .string s1, .string s2, .int .i64 how, .int .i64 root, .string s3, .int .i64 rp, .int .i64 rs, .slice ao n1 cap, .slice bo n2 cap2] 31 := hN2.other (a := ⟨gx, 7, none⟩) (by show g ≠ gx; exact hne) (.int .i64 ok)
        replace hb2 : Below w.heap.size w ((W4.setCell ⟨gx, 4, none⟩ (.int .i64 page)).setCell ⟨gx, 7, none⟩ (.int .i64 ok)) := hb2.setCell (p := ⟨gx, 7, none⟩) (by show w.heap.size ≤ gx; exact hgx) (.int .i64 ok)
        replace hX2 : Blk (((W4.setCell ⟨gx, 4, none⟩ (.int .i64 page)).setCell ⟨gx, 7, none⟩ (.int .i64 ok)).setCell ⟨gx, 8, none⟩ (.int .i64 os)) gx #[.int .i64 lsn, .int .i64 prev, .int .i64 txn, .int .i64 2, .int .i64 page, .int .i64 0, .int .i64 0, .int .i64 ok, .int .i64 os, .string ⟨#[]⟩, .string ⟨#[]⟩, .int .i64 0, .int .i64 0, .string ⟨#[]⟩, .int .i64 0, .int .i64 0, .slice none 0 0, .slice none 0 0] 31 := hX2.set 8 (.int .i64 os)
        replace hN2 : Blk (((W4.setCell ⟨gx, 4, none⟩ (.int .i64 page)).setCell ⟨gx, 7, none⟩ (.int .i64 ok)).setCell ⟨gx, 8, none⟩ (.int .i64 os)) g #[.int .i64 lsn, .int .i64 prev, .int .i64 txn, .int .i64 2, .int .i64 page, .int .i64 next, .int .i64 num, .int .i64 ok, .int .i64 os, .string s1, .string s2, .int .i64 how, .int .i64 root, .string s3, .int .i64 rp, .int .i64 rs, .slice ao n1 cap, .slice bo n2 cap2] 31 := hN2.other (a := ⟨gx, 8, none⟩) (by show g ≠ gx; exact hne) (.int .i64 os)
        replace hb2 : Below w.heap.size w (((W4.setCell ⟨gx, 4, none⟩ (.int .i64 page)).setCell ⟨gx, 7, none⟩ (.int .i64 ok)).setCell ⟨gx, 8, none⟩ (.int .i64 os)) := hb2.setCell (p := ⟨gx, 8, none⟩) (by show w.heap.size ≤ gx; exact hgx) (.int .i64 os)
        replace hX2 : Blk ((((W4.setCell ⟨gx, 4, none⟩ (.int .i64 page)).setCell ⟨gx, 7, none⟩ (.int .i64 ok)).setCell ⟨gx, 8, none⟩ (.int .i64 os)).setCell ⟨gx, 9, none⟩ (.string s1)) gx #[.int .i64 lsn, .int .i64 prev, .int .i64 txn, .int .i64 2, .int .i64 page, .int .i64 0, .int .i64 0, .int .i64 ok, .int .i64 os, .string s1, .string ⟨#[]⟩, .int .i64 0, .int .i64 0, .string ⟨#[]⟩, .int .i64 0, .int .i64 0, .slice none 0 0, .slice none 0 0] 31 := hX2.set 9 (.string s1)
        replace hN2 : Blk ((((W4.setCell ⟨gx, 4, none⟩ (.int .i64 page)).setCell ⟨gx, 7, none⟩ (.int .i64 ok)).setCell ⟨gx, 8, none⟩ (.int .i64 os)).setCell ⟨gx, 9, none⟩ (.string s1)) g #[.int .i64 lsn, .int .i64 prev, .int .i64 txn, .int .i64 2, .int .i64 page, .int .i64 next, .int .i64 num, .int .i64 ok, .int .i64 os, .string s1, .string s2, .int .i64 how, .int .i64 root, .string s3, .int .i64 rp, .int .i64 rs, .slice ao n1 cap, .slice bo n2 cap2] 31 := hN2.other (a := ⟨gx, 9, none⟩) (by show g ≠ gx; exact hne) (.string s1)
        replace hb2 : Below w.heap.size w ((((W4.setCell ⟨gx, 4, none⟩ (.int .i64 page)).setCell ⟨gx, 7, none⟩ (.int .i64 ok)).setCell ⟨gx, 8, none⟩ (.int .i64 os)).setCell ⟨gx, 9, none⟩ (.string s1)) := hb2.setCell (p := ⟨gx, 9, none⟩) (by show w.heap.size ≤ gx; exact hgx) (.string s1)
        replace hX2 : Blk (((((W4.setCell ⟨gx, 4, none⟩ (.int .i64 page)).setCell ⟨gx, 7, none⟩ (.int .i64 ok)).setCell ⟨gx, 8, none⟩ (.int .i64 os)).setCell ⟨gx, 9, none⟩ (.string s1)).setCell ⟨gx, 10, none⟩ (.string s2)) gx #[.int .i64 lsn, .int .i64 prev, .int .i64 txn, .int .i64 2, .int .i64 page, .int .i64 0, .int .i64 0, .int .i64 ok, .int .i64 os, .string s1, .string s2, .int .i64 0, .int .i64 0, .string ⟨#[]⟩, .int .i64 0, .int .i64 0, .slice none 0 0, .slice none 0 0] 31 := hX2.set 10 (.string s2)
        replace hN2 : Blk (((((W4.setCell ⟨gx, 4, none⟩ (.int .i64 page)).setCell ⟨gx, 7, none⟩ (.int .i64 ok)).setCell ⟨gx, 8, none⟩ (.int .i64 os)).setCell ⟨gx, 9, none⟩ (.string s1)).setCell ⟨gx, 10, none⟩ (.string s2)) g #[.int .i64 lsn, .int .i64 prev, .int .i64 txn, .int .i64 2, .int .i64 page, .int .i64 next, .int .i64 num, .int .i64 ok, .int .i64 os, .string s1, .string s2, .int .i64 how, .int .i64 root, .string s3, .int .i64 rp, .int .i64 rs, .slice ao n1 cap, .slice bo n2 cap2] 31 := hN2.other (a := ⟨gx, 10, none⟩) (by show g ≠ gx; exact hne) (.string s2)
        replace hb2 : Below w.heap.size w (((((W4.setCell ⟨gx, 4, none⟩ (.int .i64 page)).setCell ⟨gx, 7, none⟩ (.int .i64 ok)).setCell ⟨gx, 8, none⟩ (.int .i64 os)).setCell ⟨gx, 9, none⟩ (.string s1)).setCell ⟨gx, 10, none⟩ (.string s2)) := hb2.setCell (p := ⟨gx, 10, none⟩) (by show w.heap.size ≤ gx; exact hgx) (.string s2)
        replace hX2 : Blk ((((((W4.setCell ⟨gx, 4, none⟩ (.int .i64 page)).setCell ⟨gx, 7, none⟩ (.int .i64 ok)).setCell ⟨gx, 8, none⟩ (.int .i64 os)).setCell ⟨gx, 9, none⟩ (.string s1)).setCell ⟨gx, 10, none⟩ (.string s2)).setCell ⟨gx, 11, none⟩ (.int .i64 how)) gx #[.int .i64 lsn, .int .i64 prev, .int .i64 txn, .int .i64 2, .int .i64 page, .int .i64 0, .int .i64 0, .int .i64 ok, .int .i64 os, .string s1, .string s2, .int .i64 how, .int .i64 0, .string ⟨#[]⟩, .int .i64 0, .int .i64 0, .slice none 0 0, .slice none 0 0] 31 := hX2.set 11 (.int .i64 how)
        replace hN2 : Blk ((((((W4.setCell ⟨gx, 4, none⟩ (.int .i64 page)).setCell ⟨gx, 7, none⟩ (.int .i64 ok)).setCell ⟨gx, 8, none⟩ (.int .i64 os)).setCell ⟨gx, 9, none⟩ (.string s1)).setCell ⟨gx, 10, none⟩ (.string s2)).setCell ⟨gx, 11, none⟩ (.int .i64 how)) g #[.int .i64 lsn, .int .i64 prev, .int .i64 txn, .int .i64 2, .int .i64 page, .int .i64 next, .int .i64 num, .int .i64 ok, .int .i64 os, .string s1, .string s2, .int .i64 how, .int .i64 root, .string s3, .int .i64 rp, .int .i64 rs, .slice ao n1 cap, .slice bo n2 cap2] 31 := hN2.other (a := ⟨gx, 11, none⟩) (by show g ≠ gx; exact hne) (.int .i64 how)
        replace hb2 : Below w.heap.size w ((((((W4.setCell ⟨gx, 4, none⟩ (.int .i64 page)).setCell ⟨gx, 7, none⟩ (.int .i64 ok)).setCell ⟨gx, 8, none⟩ (.int .i64 os)).setCell ⟨gx, 9, none⟩ (.string s1)).setCell ⟨gx, 10, none⟩ (.string s2)).setCell ⟨gx, 11, none⟩ (.int .i64 how)) := hb2.setCell (p := ⟨gx, 11, none⟩) (by show w.heap.size ≤ gx; exact hgx) (.int .i64 how)
        replace hX2 : Blk (((((((W4.setCell ⟨gx, 4, none⟩ (.int .i64 page)).setCell ⟨gx, 7, none⟩ (.int .i64 ok)).setCell ⟨gx, 8, none⟩ (.int .i64 os)).setCell ⟨gx, 9, none⟩ (.string s1)).setCell ⟨gx, 10, none⟩ (.string s2)).setCell ⟨gx, 11, none⟩ (.int .i64 how)).setCell ⟨gx, 12, none⟩ (.int .i64 root)) gx #[.int .i64 lsn, .int .i64 prev, .int .i64 txn, .int .i64 2, .int .i64 page, .int .i64 0, .int .i64 0, .int .i64 ok, .int .i64 os, .string s1, .string s2, .int .i64 how, .int .i64 root, .string ⟨#[]⟩, .int .i64 0, .int .i64 0, .slice none 0 0, .slice none 0 0] 31 := hX2.set 12 (.int .i64 root)
        replace hN2 : Blk (((((((W4.setCell ⟨gx, 4, none⟩ (.int .i64 page)).setCell ⟨gx, 7, none⟩ (.int .i64 ok)).setCell ⟨gx, 8, none⟩ (.int .i64 os)).setCell ⟨gx, 9, none⟩ (.string s1)).setCell ⟨gx, 10, none⟩ (.string s2)).setCell ⟨gx, 11, none⟩ (.int .i64 how)).setCell ⟨gx, 12, none⟩ (.int .i64 root)) g #[.int .i64 lsn, .int .i64 prev, .int .i64 txn, .int .i64 2, .int .i64 page, .int .i64 next, .int .i64 num, .int .i64 ok, .int .i64 os, .string s1, .string s2, .int .i64 how, .int .i64 root, .string s3, .int .i64 rp, .int .i64 rs, .slice ao n1 cap, .slice bo n2 cap2] 31 := hN2.other (a := ⟨gx, 12, none⟩) (by show g ≠ gx; exact hne) (.int .i64 root)
        replace hb2 : Below w.heap.size w (((((((W4.setCell ⟨gx, 4, none⟩ (.int .i64 page)).setCell ⟨gx, 7, none⟩ (.int .i64 ok)).setCell ⟨gx, 8, none⟩ (.int .i64 os)).setCell ⟨gx, 9, none⟩ (.string s1)).setCell ⟨gx, 10, none⟩ (.string s2)).setCell ⟨gx, 11, none⟩ (.int .i64 how)).setCell ⟨gx, 12, none⟩ (.int .i64 root)) := hb2.setCell (p := ⟨gx, 12, none⟩) (by show w.heap.size ≤ gx; exact hgx) (.int .i64 root)
        replace hX2 : Blk ((((((((W4.setCell ⟨gx, 4, none⟩ (.int .i64 page)).setCell ⟨gx, 7, none⟩ (.int .i64 ok)).setCell ⟨gx, 8, none⟩ (.int .i64 os)).setCell ⟨gx, 9, none⟩ (.string s1)).setCell ⟨gx, 10, none⟩ (.string s2)).setCell ⟨gx, 11, none⟩ (.int .i64 how)).setCell ⟨gx, 12, none⟩ (.int .i64 root)).setCell ⟨gx, 13, none⟩ (.string s3)) gx #[.int .i64 lsn, .int .i64 prev, .int .i64 txn, .int .i64 2, .int .i64 page, .int .i64 0, .int .i64 0, .int .i64 ok, .int .i64 os, .string s1, .string s2, .int .i64 how, .int .i64 root, .string s3, .int .i64 0, .int .i64 0, .slice none 0 0, .slice none 0 0] 31 := hX2.set 13 (.string s3)
        replace hN2 : Blk ((((((((W4.setCell ⟨gx, 4, none⟩ (.int .i64 page)).setCell ⟨gx, 7, none⟩ (.int .i64 ok)).setCell ⟨gx, 8, none⟩ (.int .i64 os)).setCell ⟨gx, 9, none⟩ (.string s1)).setCell ⟨gx, 10, none⟩ (.string s2)).setCell ⟨gx, 11, none⟩ (.int .i64 how)).setCell ⟨gx, 12, none⟩ (.int .i64 root)).setCell ⟨gx, 13, none⟩ (.string s3)) g #[.int .i64 lsn, .int .i64 prev, .int .i64 txn, .int .i64 2, .int .i64 page, .int .i64 next, .int .i64 num, .int .i64 ok, .int .i64 os, .string s1, .string s2, .int .i64 how, .int .i64 root, .string s3, .int .i64 rp, .int .i64 rs, .slice ao n1 cap, .slice bo n2 cap2] 31 := hN2.other (a := ⟨gx, 13, none⟩) (by show g ≠ gx; exact hne) (.string s3)
        replace hb2 : Below w.heap.size w ((((((((W4.setCell ⟨gx, 4, none⟩ (.int .i64 page)).setCell ⟨gx, 7, none⟩ (.int .i64 ok)).setCell ⟨gx, 8, none⟩ (.int .i64 os)).setCell ⟨gx, 9, none⟩ (.string s1)).setCell ⟨gx, 10, none⟩ (.string s2)).setCell ⟨gx, 11, none⟩ (.int .i64 how)).setCell ⟨gx, 12, none⟩ (.int .i64 root)).setCell ⟨gx, 13, none⟩ (.string s3)) := hb2.setCell (p := ⟨gx, 13, none⟩) (by show w.heap.size ≤ gx; exact hgx) (.string s3)
        replace hX2 : Blk (((((((((W4.setCell ⟨gx, 4, none⟩ (.int .i64 page)).setCell ⟨gx, 7, none⟩ (.int .i64 ok)).setCell ⟨gx, 8, none⟩ (.int .i64 os)).setCell ⟨gx, 9, none⟩ (.string s1)).setCell ⟨gx, 10, none⟩ (.string s2)).setCell ⟨gx, 11, none⟩ (.int .i64 how)).setCell ⟨gx, 12, none⟩ (.int .i64 root)).setCell ⟨gx, 13, none⟩ (.string s3)).setCell ⟨gx, 14, none⟩ (.int .i64 rp)) gx #[.int .i64 lsn, .int .i64 prev, .int .i64 txn, .int .i64 2, .int .i64 page, .int .i64 0, .int .i64 0, .int .i64 ok, .int .i64 os, .string s1, .string s2, .int .i64 how, .int .i64 root, .string s3, .int .i64 rp, .int .i64 0, .slice none 0 0, .slice none 0 0] 31 := hX2.set 14 (.int .i64 rp)
        replace hN2 : Blk (((((((((W4.setCell ⟨gx, 4, none⟩ (.int .i64 page)).setCell ⟨gx, 7, none⟩ (.int .i64 ok)).setCell ⟨gx, 8, none⟩ (.int .i64 os)).setCell ⟨gx, 9, none⟩ (.string s1)).setCell ⟨gx, 10, none⟩ (.string s2)).setCell ⟨gx, 11, none⟩ (.int .i64 how)).setCell ⟨gx, 12, none⟩ (.int .i64 root)).setCell ⟨gx, 13, none⟩ (.string s3)).setCell ⟨gx, 14, none⟩ (.int .i64 rp)) g #[.int .i64 lsn, .int .i64 prev, .int .i64 txn, .int .i64 2, .int .i64 page, .int .i64 next, .int .i64 num, .int .i64 ok, .int .i64 os, .string s1, .string s2, .int .i64 how, .int .i64 root, .string s3, .int .i64 rp, .int .i64 rs, .slice ao n1 cap, .slice bo n2 cap2] 31 := hN2.other (a := ⟨gx, 14, none⟩) (by show g ≠ gx; exact hne) (.int .i64 rp)
        replace hb2 : Below w.heap.size w (((((((((W4.setCell ⟨gx, 4, none⟩ (.int .i64 page)).setCell ⟨gx, 7, none⟩ (.int .i64 ok)).setCell ⟨gx, 8, none⟩ (.int .i64 os)).setCell ⟨gx, 9, none⟩ (.string s1)).setCell ⟨gx, 10, none⟩ (.string s2)).setCell ⟨gx, 11, none⟩ (.int .i64 how)).setCell ⟨gx, 12, none⟩ (.int .i64 root)).setCell ⟨gx, 13, none⟩ (.string s3)).setCell ⟨gx, 14, none⟩ (.int .i64 rp)) := hb2.setCell (p := ⟨gx, 14, none⟩) (by show w.heap.size ≤ gx; exact hgx) (.int .i64 rp)
        replace hX2 : Blk ((((((((((W4.setCell ⟨gx, 4, none⟩ (.int .i64 page)).setCell ⟨gx, 7, none⟩ (.int .i64 ok)).setCell ⟨gx, 8, none⟩ (.int .i64 os)).setCell ⟨gx, 9, none⟩ (.string s1)).setCell ⟨gx, 10, none⟩ (.string s2)).setCell ⟨gx, 11, none⟩ (.int .i64 how)).setCell ⟨gx, 12, none⟩ (.int .i64 root)).setCell ⟨gx, 13, none⟩ (.string s3)).setCell ⟨gx, 14, none⟩ (.int .i64 rp)).setCell ⟨gx, 15, none⟩ (.int .i64 rs)) gx #[.int .i64 lsn, .int .i64 prev, .int .i64 txn, .int .i64 2, .int .i64 page, .int .i64 0, .int .i64 0, .int .i64 ok, .int .i64 os, .string s1, .string s2, .int .i64 how, .int .i64 root, .string s3, .int .i64 rp, .int .i64 rs, .slice none 0 0, .slice none 0 0] 31 := hX2.set 15 (.int .i64 rs)
        replace hN2 : Blk ((((((((((W4.setCell ⟨gx, 4, none⟩ (.int .i64 page)).setCell ⟨gx, 7, none⟩ (.int .i64 ok)).setCell ⟨gx, 8, none⟩ (.int .i64 os)).setCell ⟨gx, 9, none⟩ (.string s1)).setCell ⟨gx, 10, none⟩ (.string s2)).setCell ⟨gx, 11, none⟩ (.int .i64 how)).setCell ⟨gx, 12, none⟩ (.int .i64 root)).setCell ⟨gx, 13, none⟩ (.string s3)).setCell ⟨gx, 14, none⟩ (.int .i64 rp)).setCell ⟨gx, 15, none⟩ (.int .i64 rs)) g #[.int .i64 lsn, .int .i64 prev, .int .i64 txn, .int .i64 2, .int .i64 page, .int .i64 next, .int .i64 num, .int .i64 ok, .int .i64 os, .string s1, .string s2, .int .i64 how, .int .i64 root, .string s3, .int .i64 rp, .int .i64 rs, .slice ao n1 cap, .slice bo n2 cap2] 31 := hN2.other (a := ⟨gx, 15, none⟩) (by show g ≠ gx; exact hne) (.int .i64 rs)
        replace hb2 : Below w.heap.size w ((((((((((W4.setCell ⟨gx, 4, none⟩ (.int .i64 page)).setCell ⟨gx, 7, none⟩ (.int .i64 ok)).setCell ⟨gx, 8, none⟩ (.int .i64 os)).setCell ⟨gx, 9, none⟩ (.string s1)).setCell ⟨gx, 10, none⟩ (.string s2)).setCell ⟨gx, 11, none⟩ (.int .i64 how)).setCell ⟨gx, 12, none⟩ (.int .i64 root)).setCell ⟨gx, 13, none⟩ (.string s3)).setCell ⟨gx, 14, none⟩ (.int .i64 rp)).setCell ⟨gx, 15, none⟩ (.int .i64 rs)) := hb2.setCell (p := ⟨gx, 15, none⟩) (by show w.heap.size ≤ gx; exact hgx) (.int .i64 rs)
        replace hX2 := hX2.drew
        replace hN2 := hN2.drew
        replace hb2 := Below.drew hb2
        replace hX2 := Lib.hid hX2
        replace hN2 := Lib.hid hN2
        replace hb2 := Lib.hid hb2
        clear hX hN hbb
        have hS0 : W4.cell? ⟨g, 4, none⟩ = some (.int .i64 page) ∧ W4.cell? ⟨g, 7, none⟩ = some (.int .i64 ok) ∧ W4.cell? ⟨g, 8, none⟩ = some (.int .i64 os) ∧ W4.cell? ⟨g, 9, none⟩ = some (.string s1) ∧ W4.cell? ⟨g, 10, none⟩ = some (.string s2) ∧ W4.cell? ⟨g, 11, none⟩ = some (.int .i64 how) ∧ W4.cell? ⟨g, 12, none⟩ = some (.int .i64 root) ∧ W4.cell? ⟨g, 13, none⟩ = some (.string s3) ∧ W4.cell? ⟨g, 14, none⟩ = some (.int .i64 rp) ∧ W4.cell? ⟨g, 15, none⟩ = some (.int .i64 rs) := ⟨c4, c7, c8, c9, c10, c11, c12, c13, c14, c15⟩
        have hS1 : W4.drew.cell? ⟨g, 4, none⟩ = some (.int .i64 page) ∧ W4.drew.cell? ⟨g, 7, none⟩ = some (.int .i64 ok) ∧ W4.drew.cell? ⟨g, 8, none⟩ = some (.int .i64 os) ∧ W4.drew.cell? ⟨g, 9, none⟩ = some (.string s1) ∧ W4.drew.cell? ⟨g, 10, none⟩ = some (.string s2) ∧ W4.drew.cell? ⟨g, 11, none⟩ = some (.int .i64 how) ∧ W4.drew.cell? ⟨g, 12, none⟩ = some (.int .i64 root) ∧ W4.drew.cell? ⟨g, 13, none⟩ = some (.string s3) ∧ W4.drew.cell? ⟨g, 14, none⟩ = some (.int .i64 rp) ∧ W4.drew.cell? ⟨g, 15, none⟩ = some (.int .i64 rs) := ⟨c4, c7, c8, c9, c10, c11, c12, c13, c14, c15⟩
        go_region_held3 (fun w' => w'.cell? ⟨g, 4, none⟩ = some (.int .i64 page) ∧ w'.cell? ⟨g, 7, none⟩ = some (.int .i64 ok) ∧ w'.cell? ⟨g, 8, none⟩ = some (.int .i64 os) ∧ w'.cell? ⟨g, 9, none⟩ = some (.string s1) ∧ w'.cell? ⟨g, 10, none⟩ = some (.string s2) ∧ w'.cell? ⟨g, 11, none⟩ = some (.int .i64 how) ∧ w'.cell? ⟨g, 12, none⟩ = some (.int .i64 root) ∧ w'.cell? ⟨g, 13, none⟩ = some (.string s3) ∧ w'.cell? ⟨g, 14, none⟩ = some (.int .i64 rp) ∧ w'.cell? ⟨g, 15, none⟩ = some (.int .i64 rs)) (first | with_reducible exact hS0 | with_reducible exact hS1 | go_keep) (fail)
        go_upto_region 12 with fail
        clear c0 c1 c2 c3 c4 c5 c6 c7 c8 c9 c10 c11 c12 c13 c14 c15 c16 c17
        clear x4 x5 x6 x7 x8 x9 x10 x11 x12 x13 x14 x15 x16 x17 y4 y5 y6 y7 y8 y9 y10 y11 y12 y13 y14 y15 y16 y17 hS0 hS1
        generalize (((((((((((W4.setCell ⟨gx, 4, none⟩ (.int .i64 page)).setCell ⟨gx, 7, none⟩ (.int .i64 ok)).setCell ⟨gx, 8, none⟩ (.int .i64 os)).setCell ⟨gx, 9, none⟩ (.string s1)).setCell ⟨gx, 10, none⟩ (.string s2)).setCell ⟨gx, 11, none⟩ (.int .i64 how)).setCell ⟨gx, 12, none⟩ (.int .i64 root)).setCell ⟨gx, 13, none⟩ (.string s3)).setCell ⟨gx, 14, none⟩ (.int .i64 rp)).setCell ⟨gx, 15, none⟩ (.int .i64 rs))).drew = W5 at hX2 hN2 hb2 ⊢
        replace hX2 := hX2.out
        have hN := hN2.out
        have hbb := hb2.out
        clear hN2 hb2
        go_wp2_with (first | (with_reducible refine wpList_load18 hX2 (by kernel_rfl) _ rfl rfl ?_) | (with_reducible refine wpList_load18 hN (by kernel_rfl) _ rfl rfl ?_))
        refine (HSM.out _ (HV.out.below hbb) (HDV.out.below hbb)).mono ?_
        rintro e w6 ⟨rfl, hb1⟩
        replace hN := hN.below hb1
        replace hbb := hbb.next hb1
        clear hb1 HSM hX2
        cases qs with
        | false =>
          obtain ⟨c0, c1, c2, c3, c4, c5, c6, c7, c8, c9, c10, c11, c12, c13, c14, c15, c16, c17⟩ := Blk18 hN
          go_wp2_with fail
          go_ret
          exact ⟨ret_bool (by rw [HB.out]; simp), hbb⟩
        | true =>
          go_wp2_with (first | (with_reducible refine wpList_load18 hN (by kernel_rfl) _ rfl rfl ?_))
          refine (HCH.out _ (HV.out.below hbb) (HDV.out.below hbb)).mono ?_
          rintro e w9 ⟨rfl, hb9⟩
          go_wp2_with fail
          go_ret
          exact ⟨ret_bool (by rw [HB.out]; simp), hbb.next hb9⟩
set_option maxHeartbeats 8000000 in
set_option maxRecDepth 100000 in
theorem rright_3 (lsn prev txn page next num ok os : Int) (old new : List UInt8) (how root : Int) (key : List UInt8) (rp rs : Int) (txns : List Tx) (dirty : List Dy) (vt vd : Value) (w : World) (hv : ElAt w 4 vt (txC txns)) (hd : ElAt w 2 vd (dyC dirty)) (hs : txns.length ≤ 100000) (hs2 : dirty.length ≤ 100000) :
    Calls Try.prog 14 #[.agg (rcC (Rc.mk lsn prev txn 3 page next num ok os old new how root key rp rs txns dirty) vt vd)] w (Ret (.bool (rightR (Rc.mk lsn prev txn 3 page next num ok os old new how root key rp rs txns dirty))) w) := by
  have HB := rr_3 lsn prev txn page next num ok os old new how root key rp rs txns dirty
  obtain ⟨R, hR⟩ : ∃ R, rightR (Rc.mk lsn prev txn 3 page next num ok os old new how root key rp rs txns dirty) = R := ⟨_, rfl⟩
  rw [hR] at HB ⊢
  clear hR
  have HV := Lib.hid hv
  have HDV := Lib.hid hd
  have HSM := fun W (h1 : ElAt W 4 vt (txC txns)) (h2 : ElAt W 2 vd (dyC dirty)) => rsame_any (bareR (Rc.mk lsn prev txn 3 page next num ok os old new how root key rp rs txns dirty)) (Rc.mk lsn prev txn 3 page next num ok os old new how root key rp rs txns dirty) (.slice none 0 0) (.slice none 0 0) vt vd W (ElAt.empty _ _) (ElAt.empty _ _) h1 h2 (by show 0 ≤ _; omega) (by show 0 ≤ _; omega)
  obtain ⟨qs, hqs⟩ : ∃ q, decide (bareR (Rc.mk lsn prev txn 3 page next num ok os old new how root key rp rs txns dirty) = (Rc.mk lsn prev txn 3 page next num ok os old new how root key rp rs txns dirty)) = q := ⟨_, rfl⟩
  rw [hqs] at HB HSM
  clear hqs
  rw [show bareR (Rc.mk lsn prev txn 3 page next num ok os old new how root key rp rs txns dirty) = { lsn := lsn, prev := prev, txn := txn, kind := 3, page := page, next := next, num := 0, ok := ok, os := os, old := old, new := new, how := 0, root := 0, key := [], rp := 0, rs := 0, txns := [], dirty := [] } from rfl] at HSM
  obtain ⟨ao, cap, hva⟩ := hv.nil
  obtain ⟨bo, cap2, hvb⟩ := hd.nil
  obtain ⟨n1, hn1⟩ : ∃ n, (txC txns).length = n := ⟨_, rfl⟩
  obtain ⟨n2, hn2⟩ : ∃ n, (dyC dirty).length = n := ⟨_, rfl⟩
  rw [hn1] at hva
  rw [hn2] at hvb
  subst hva hvb
  clear hv hd hn1 hn2 hs hs2
  simp only [rcC, S_nil0] at HSM ⊢
  obtain ⟨s1, e1⟩ : ∃ x, S old = x := ⟨_, rfl⟩
  obtain ⟨s2, e2⟩ : ∃ x, S new = x := ⟨_, rfl⟩
  obtain ⟨s3, e3⟩ : ∃ x, S key = x := ⟨_, rfl⟩
  have HOP := Lib.hid (fun W => rOp_any ok os old new s1 s2 e1 e2 W)
  have HPG := Lib.hid (fun W => rpage_any page W)
  obtain ⟨qo, hqo⟩ : ∃ q, opB ok os old new = q := ⟨_, rfl⟩
  obtain ⟨qp, hqp⟩ : ∃ q, pageB page = q := ⟨_, rfl⟩
  rw [hqo] at HB HOP
  rw [hqp] at HB HPG
  clear hqo hqp
  have HNX := Lib.hid (fun W => rnumber_any next W)
  obtain ⟨qn, hqn⟩ : ∃ q, numB next = q := ⟨_, rfl⟩
  rw [hqn] at HB HNX
  clear hqn
  simp only [e1, e2, e3] at HSM ⊢
  replace HSM := Lib.hid HSM
  clear e1 e2 e3
  have H1 := Lib.hid (fun W => rnumber_any lsn W)
  have H2 := Lib.hid (fun W => rnumber_any prev W)
  have H3 := Lib.hid (fun W => rnumber_any txn W)
  obtain ⟨q1, hq1⟩ : ∃ q, numB lsn = q := ⟨_, rfl⟩
  obtain ⟨q2, hq2⟩ : ∃ q, numB prev = q := ⟨_, rfl⟩
  obtain ⟨q3, hq3⟩ : ∃ q, numB txn = q := ⟨_, rfl⟩
  rw [hq1] at HB H1
  rw [hq2] at HB H2
  rw [hq3] at HB H3
  replace HB := Lib.hid HB
  clear hq1 hq2 hq3
  have HBR := Lib.hid (fun W => rbare_any lsn prev txn 3 (.int .i64 page) (.int .i64 next) (.int .i64 num) (.int .i64 ok) (.int .i64 os) (.string s1) (.string s2) (.int .i64 how) (.int .i64 root) (.string s3) (.int .i64 rp) (.int .i64 rs) (.slice ao n1 cap) (.slice bo n2 cap2) W)
  have hN := Blk.new w #[.int .i64 lsn, .int .i64 prev, .int .i64 txn, .int .i64 3, .int .i64 page, .int .i64 next, .int .i64 num, .int .i64 ok, .int .i64 os, .string s1, .string s2, .int .i64 how, .int .i64 root, .string s3, .int .i64 rp, .int .i64 rs, .slice ao n1 cap, .slice bo n2 cap2] 31
  have hbb := (Below.refl w.heap.size w).alloc (Nat.le_refl _) (.cells #[.int .i64 lsn, .int .i64 prev, .int .i64 txn, .int .i64 3, .int .i64 page, .int .i64 next, .int .i64 num, .int .i64 ok, .int .i64 os, .string s1, .string s2, .int .i64 how, .int .i64 root, .string s3, .int .i64 rp, .int .i64 rs, .slice ao n1 cap, .slice bo n2 cap2] 31)
  go_enter Try.func14, Try.ntmps14
  go_upto_region 1 with fail
  obtain ⟨g, HG⟩ : ∃ x, w.heap.size = x := ⟨_, rfl⟩
  have hgw : w.heap.size ≤ g := by omega
  rw [HG] at hN ⊢
  clear HG
  generalize (w.alloc (.cells #[.int .i64 lsn, .int .i64 prev, .int .i64 txn, .int .i64 3, .int .i64 page, .int .i64 next, .int .i64 num, .int .i64 ok, .int .i64 os, .string s1, .string s2, .int .i64 how, .int .i64 root, .string s3, .int .i64 rp, .int .i64 rs, .slice ao n1 cap, .slice bo n2 cap2] 31)) = W at hN hbb ⊢
  obtain ⟨c0, c1, c2, c3, c4, c5, c6, c7, c8, c9, c10, c11, c12, c13, c14, c15, c16, c17⟩ := Blk18 hN
  go_wp2_with fail
  refine (H1.out _).mono ?_
  rintro e wq1 ⟨rfl, hb1⟩
  replace hN := hN.below hb1
  replace hbb := hbb.next hb1
  clear hb1
  clear c0 c1 c2 c3 c4 c5 c6 c7 c8 c9 c10 c11 c12 c13 c14 c15 c16 c17
  obtain ⟨c0, c1, c2, c3, c4, c5, c6, c7, c8, c9, c10, c11, c12, c13, c14, c15, c16, c17⟩ := Blk18 hN
  clear H1
  cases q1 with
  | false =>
    go_wp2_with fail
    go_ret
    exact ⟨ret_bool (by rw [HB.out]; simp), hbb⟩
  | true =>
    go_wp2_with fail
    refine (H2.out _).mono ?_
    rintro e wq2 ⟨rfl, hb1⟩
    replace hN := hN.below hb1
    replace hbb := hbb.next hb1
    clear hb1
    clear c0 c1 c2 c3 c4 c5 c6 c7 c8 c9 c10 c11 c12 c13 c14 c15 c16 c17
    obtain ⟨c0, c1, c2, c3, c4, c5, c6, c7, c8, c9, c10, c11, c12, c13, c14, c15, c16, c17⟩ := Blk18 hN
    clear H2
    cases q2 with
    | false =>
      go_wp2_with fail
      go_ret
      exact ⟨ret_bool (by rw [HB.out]; simp), hbb⟩
    | true =>
      go_wp2_with fail
      refine (H3.out _).mono ?_
      rintro e wq3 ⟨rfl, hb1⟩
      replace hN := hN.below hb1
      replace hbb := hbb.next hb1
      clear hb1
      clear c0 c1 c2 c3 c4 c5 c6 c7 c8 c9 c10 c11 c12 c13 c14 c15 c16 c17
      obtain ⟨c0, c1, c2, c3, c4, c5, c6, c7, c8, c9, c10, c11, c12, c13, c14, c15, c16, c17⟩ := Blk18 hN
      clear H3
      cases q3 with
      | false =>
        go_wp2_with fail
        go_ret
        exact ⟨ret_bool (by rw [HB.out]; simp), hbb⟩
      | true =>
        go_wp2_with (first | (with_reducible refine wpList_load18 hN (by kernel_rfl) _ rfl rfl ?_))
        refine (HBR.out _).mono ?_
        rintro e wB ⟨rfl, hb1⟩
        replace hN := hN.below hb1
        replace hbb := hbb.next hb1
        clear hb1 HBR
        clear c0 c1 c2 c3 c4 c5 c6 c7 c8 c9 c10 c11 c12 c13 c14 c15 c16 c17
        go_upto_region 4 with (first | ((with_reducible refine wpList_store18 (Blk.new _ #[.int .i64 0, .int .i64 0, .int .i64 0, .int .i64 0, .int .i64 0, .int .i64 0, .int .i64 0, .int .i64 0, .int .i64 0, .string ⟨#[]⟩, .string ⟨#[]⟩, .int .i64 0, .int .i64 0, .string ⟨#[]⟩, .int .i64 0, .int .i64 0, .slice none 0 0, .slice none 0 0] 31) (by kernel_rfl) (by kernel_rfl) (by kernel_rfl) rfl _ _ rfl rfl rfl ?_); intro W4 hX hg4))
        obtain ⟨gx, HGX⟩ : ∃ x, wB.heap.size = x := ⟨_, rfl⟩
        have hne : g ≠ gx := by have := hN.lt; omega
        have hne2 : gx ≠ g := fun e => hne e.symm
        have hgx : w.heap.size ≤ gx := by have := hbb.size; omega
        have hbx := alloc_sto hg4
        rw [HGX] at hX ⊢
        replace hN := hN.below hbx
        replace hbb := hbb.next hbx
        clear HGX hbx hg4
        obtain ⟨c0, c1, c2, c3, c4, c5, c6, c7, c8, c9, c10, c11, c12, c13, c14, c15, c16, c17⟩ := Blk18 hN
        go_upto_region 14 with fail
        obtain ⟨x0, x1, x2, x3, x4, x5, x6, x7, x8, x9, x10, x11, x12, x13, x14, x15, x16, x17⟩ := Blk18 hX
        obtain ⟨y0, y1, y2, y3, y4, y5, y6, y7, y8, y9, y10, y11, y12, y13, y14, y15, y16, y17⟩ := Free18 hX
        clear x0 x1 x2 x3 y0 y1 y2 y3
        have hX2 := hX
        have hN2 := hN
        have hb2 := hbb
        replace hX2 : Blk (W4.setCell ⟨gx, 4, none⟩ (.int .i64 page)) gx #[.int .i64 lsn, .int .i64 prev, .int .i64 txn, .int .i64 3, .int .i64 page, .int .i64 0, .int .i64 0, .int .i64 0, .int .i64 0, .string ⟨#[]⟩, .string ⟨#[]⟩, .int .i64 0, .int .i64 0, .string ⟨#[]⟩, .int .i64 0, .int .i64 0, .slice none 0 0, .slice none 0 0] 31 := hX2.set 4 (.int .i64 page)
        replace hN2 : Blk (W4.setCell ⟨gx, 4, none⟩ (.int .i64 page)) g #[.int .i64 lsn, .int .i64 prev, .int .i64 txn, .int .i64 3, .int .i64 page, .int .i64 next, .int .i64 num, .int .i64 ok, .int .i64 os, .string s1, .string s2, .int .i64 how, .int .i64 root, .string s3, .int .i64 rp, .int .i64 rs, .slice ao n1 cap, .slice bo n2 cap2] 31 := hN2.other (a := ⟨gx, 4, none⟩) (by show g ≠ gx; exact hne) (.int .i64 page)
        replace hb2 : Below w.heap.size w (W4.setCell ⟨gx, 4, none⟩ (.int .i64 page)) := hb2.setCell (p := ⟨gx, 4, none⟩) (by show w.heap.size ≤ gx; exact hgx) (.int .i64 page)
        replace hX2 : Blk ((W4.setCell ⟨gx, 4, none⟩ (.int .i64 page)).setCell ⟨gx, 7, none⟩ (.int .i64 ok)) gx #[.int .i64 lsn, .int .i64 prev, .int .i64 txn, .int .i64 3, .int .i64 page, .int .i64 0, .int .i64 0, .int .i64 ok, .int .i64 0, .string ⟨#[]⟩, .string ⟨#[]⟩, .int .i64 0, .int .i64 0, .string ⟨#[]⟩, .int .i64 0, .int .i64 0, .slice none 0 0, .slice none 0 0] 31 := hX2.set 7 (.int .i64 ok)
        replace hN2 : Blk ((W4.setCell ⟨gx, 4, none⟩ (.int .i64 page)).setCell ⟨gx, 7, none⟩ (.int .i64 ok)) g #[.int .i64 lsn, .int .i64 prev, .int .i64 txn, .int .i64 3, .int .i64 page, .int .i64 next, .int .i64 num, .int .i64 ok, .int .i64 os, .string s1, .string s2, .int .i64 how, .int .i64 root, .string s3, .int .i64 rp, .int .i64 rs, .slice ao n1 cap, .slice bo n2 cap2] 31 := hN2.other (a := ⟨gx, 7, none⟩) (by show g ≠ gx; exact hne) (.int .i64 ok)
        replace hb2 : Below w.heap.size w ((W4.setCell ⟨gx, 4, none⟩ (.int .i64 page)).setCell ⟨gx, 7, none⟩ (.int .i64 ok)) := hb2.setCell (p := ⟨gx, 7, none⟩) (by show w.heap.size ≤ gx; exact hgx) (.int .i64 ok)
        replace hX2 : Blk (((W4.setCell ⟨gx, 4, none⟩ (.int .i64 page)).setCell ⟨gx, 7, none⟩ (.int .i64 ok)).setCell ⟨gx, 8, none⟩ (.int .i64 os)) gx #[.int .i64 lsn, .int .i64 prev, .int .i64 txn, .int .i64 3, .int .i64 page, .int .i64 0, .int .i64 0, .int .i64 ok, .int .i64 os, .string ⟨#[]⟩, .string ⟨#[]⟩, .int .i64 0, .int .i64 0, .string ⟨#[]⟩, .int .i64 0, .int .i64 0, .slice none 0 0, .slice none 0 0] 31 := hX2.set 8 (.int .i64 os)
        replace hN2 : Blk (((W4.setCell ⟨gx, 4, none⟩ (.int .i64 page)).setCell ⟨gx, 7, none⟩ (.int .i64 ok)).setCell ⟨gx, 8, none⟩ (.int .i64 os)) g #[.int .i64 lsn, .int .i64 prev, .int .i64 txn, .int .i64 3, .int .i64 page, .int .i64 next, .int .i64 num, .int .i64 ok, .int .i64 os, .string s1, .string s2, .int .i64 how, .int .i64 root, .string s3, .int .i64 rp, .int .i64 rs, .slice ao n1 cap, .slice bo n2 cap2] 31 := hN2.other (a := ⟨gx, 8, none⟩) (by show g ≠ gx; exact hne) (.int .i64 os)
        replace hb2 : Below w.heap.size w (((W4.setCell ⟨gx, 4, none⟩ (.int .i64 page)).setCell ⟨gx, 7, none⟩ (.int .i64 ok)).setCell ⟨gx, 8, none⟩ (.int .i64 os)) := hb2.setCell (p := ⟨gx, 8, none⟩) (by show w.heap.size ≤ gx; exact hgx) (.int .i64 os)
        replace hX2 : Blk ((((W4.setCell ⟨gx, 4, none⟩ (.int .i64 page)).setCell ⟨gx, 7, none⟩ (.int .i64 ok)).setCell ⟨gx, 8, none⟩ (.int .i64 os)).setCell ⟨gx, 9, none⟩ (.string s1)) gx #[.int .i64 lsn, .int .i64 prev, .int .i64 txn, .int .i64 3, .int .i64 page, .int .i64 0, .int .i64 0, .int .i64 ok, .int .i64 os, .string s1, .string ⟨#[]⟩, .int .i64 0, .int .i64 0, .string ⟨#[]⟩, .int .i64 0, .int .i64 0, .slice none 0 0, .slice none 0 0] 31 := hX2.set 9 (.string s1)
        replace hN2 : Blk ((((W4.setCell ⟨gx, 4, none⟩ (.int .i64 page)).setCell ⟨gx, 7, none⟩ (.int .i64 ok)).setCell ⟨gx, 8, none⟩ (.int .i64 os)).setCell ⟨gx, 9, none⟩ (.string s1)) g #[.int .i64 lsn, .int .i64 prev, .int .i64 txn, .int .i64 3, .int .i64 page, .int .i64 next, .int .i64 num, .int .i64 ok, .int .i64 os, .string s1, .string s2, .int .i64 how, .int .i64 root, .string s3, .int .i64 rp, .int .i64 rs, .slice ao n1 cap, .slice bo n2 cap2] 31 := hN2.other (a := ⟨gx, 9, none⟩) (by show g ≠ gx; exact hne) (.string s1)
        replace hb2 : Below w.heap.size w ((((W4.setCell ⟨gx, 4, none⟩ (.int .i64 page)).setCell ⟨gx, 7, none⟩ (.int .i64 ok)).setCell ⟨gx, 8, none⟩ (.int .i64 os)).setCell ⟨gx, 9, none⟩ (.string s1)) := hb2.setCell (p := ⟨gx, 9, none⟩) (by show w.heap.size ≤ gx; exact hgx) (.string s1)
        replace hX2 : Blk (((((W4.setCell ⟨gx, 4, none⟩ (.int .i64 page)).setCell ⟨gx, 7, none⟩ (.int .i64 ok)).setCell ⟨gx, 8, none⟩ (.int .i64 os)).setCell ⟨gx, 9, none⟩ (.string s1)).setCell ⟨gx, 10, none⟩ (.string s2)) gx #[.int .i64 lsn, .int .i64 prev, .int .i64 txn, .int .i64 3, .int .i64 page, .int .i64 0, .int .i64 0, .int .i64 ok, .int .i64 os, .string s1, .string s2, .int .i64 0, .int .i64 0, .string ⟨#[]⟩, .int .i64 0, .int .i64 0, .slice none 0 0, .slice none 0 0] 31 := hX2.set 10 (.string s2)
        replace hN2 : Blk (((((W4.setCell ⟨gx, 4, none⟩ (.int .i64 page)).setCell ⟨gx, 7, none⟩ (.int .i64 ok)).setCell ⟨gx, 8, none⟩ (.int .i64 os)).setCell ⟨gx, 9, none⟩ (.string s1)).setCell ⟨gx, 10, none⟩ (.string s2)) g #[.int .i64 lsn, .int .i64 prev, .int .i64 txn, .int .i64 3, .int .i64 page, .int .i64 next, .int .i64 num, .int .i64 ok, .int .i64 os, .string s1, .string s2, .int .i64 how, .int .i64 root, .string s3, .int .i64 rp, .int .i64 rs, .slice ao n1 cap, .slice bo n2 cap2] 31 := hN2.other (a := ⟨gx, 10, none⟩) (by show g ≠ gx; exact hne) (.string s2)
        replace hb2 : Below w.heap.size w (((((W4.setCell ⟨gx, 4, none⟩ (.int .i64 page)).setCell ⟨gx, 7, none⟩ (.int .i64 ok)).setCell ⟨gx, 8, none⟩ (.int .i64 os)).setCell ⟨gx, 9, none⟩ (.string s1)).setCell ⟨gx, 10, none⟩ (.string s2)) := hb2.setCell (p := ⟨gx, 10, none⟩) (by show w.heap.size ≤ gx; exact hgx) (.string s2)
        replace hX2 : Blk ((((((W4.setCell ⟨gx, 4, none⟩ (.int .i64 page)).setCell ⟨gx, 7, none⟩ (.int .i64 ok)).setCell ⟨gx, 8, none⟩ (.int .i64 os)).setCell ⟨gx, 9, none⟩ (.string s1)).setCell ⟨gx, 10, none⟩ (.string s2)).setCell ⟨gx, 5, none⟩ (.int .i64 next)) gx #[.int .i64 lsn, .int .i64 prev, .int .i64 txn, .int .i64 3, .int .i64 page, .int .i64 next, .int .i64 0, .int .i64 ok, .int .i64 os, .string s1, .string s2, .int .i64 0, .int .i64 0, .string ⟨#[]⟩, .int .i64 0, .int .i64 0, .slice none 0 0, .slice none 0 0] 31 := hX2.set 5 (.int .i64 next)
        replace hN2 : Blk ((((((W4.setCell ⟨gx, 4, none⟩ (.int .i64 page)).setCell ⟨gx, 7, none⟩ (.int .i64 ok)).setCell ⟨gx, 8, none⟩ (.int .i64 os)).setCell ⟨gx, 9, none⟩ (.string s1)).setCell ⟨gx, 10, none⟩ (.string s2)).setCell ⟨gx, 5, none⟩ (.int .i64 next)) g #[.int .i64 lsn, .int .i64 prev, .int .i64 txn, .int .i64 3, .int .i64 page, .int .i64 next, .int .i64 num, .int .i64 ok, .int .i64 os, .string s1, .string s2, .int .i64 how, .int .i64 root, .string s3, .int .i64 rp, .int .i64 rs, .slice ao n1 cap, .slice bo n2 cap2] 31 := hN2.other (a := ⟨gx, 5, none⟩) (by show g ≠ gx; exact hne) (.int .i64 next)
        replace hb2 : Below w.heap.size w ((((((W4.setCell ⟨gx, 4, none⟩ (.int .i64 page)).setCell ⟨gx, 7, none⟩ (.int .i64 ok)).setCell ⟨gx, 8, none⟩ (.int .i64 os)).setCell ⟨gx, 9, none⟩ (.string s1)).setCell ⟨gx, 10, none⟩ (.string s2)).setCell ⟨gx, 5, none⟩ (.int .i64 next)) := hb2.setCell (p := ⟨gx, 5, none⟩) (by show w.heap.size ≤ gx; exact hgx) (.int .i64 next)
        replace hX2 := hX2.drew
        replace hN2 := hN2.drew
        replace hb2 := Below.drew hb2
        replace hX2 := Lib.hid hX2
        replace hN2 := Lib.hid hN2
        replace hb2 := Lib.hid hb2
        clear hX hN hbb
        have hS0 : W4.cell? ⟨g, 4, none⟩ = some (.int .i64 page) ∧ W4.cell? ⟨g, 5, none⟩ = some (.int .i64 next) ∧ W4.cell? ⟨g, 7, none⟩ = some (.int .i64 ok) ∧ W4.cell? ⟨g, 8, none⟩ = some (.int .i64 os) ∧ W4.cell? ⟨g, 9, none⟩ = some (.string s1) ∧ W4.cell? ⟨g, 10, none⟩ = some (.string s2) := ⟨c4, c5, c7, c8, c9, c10⟩
        have hS1 : W4.drew.cell? ⟨g, 4, none⟩ = some (.int .i64 page) ∧ W4.drew.cell? ⟨g, 5, none⟩ = some (.int .i64 next) ∧ W4.drew.cell? ⟨g, 7, none⟩ = some (.int .i64 ok) ∧ W4.drew.cell? ⟨g, 8, none⟩ = some (.int .i64 os) ∧ W4.drew.cell? ⟨g, 9, none⟩ = some (.string s1) ∧ W4.drew.cell? ⟨g, 10, none⟩ = some (.string s2) := ⟨c4, c5, c7, c8, c9, c10⟩
        go_region_held3 (fun w' => w'.cell? ⟨g, 4, none⟩ = some (.int .i64 page) ∧ w'.cell? ⟨g, 5, none⟩ = some (.int .i64 next) ∧ w'.cell? ⟨g, 7, none⟩ = some (.int .i64 ok) ∧ w'.cell? ⟨g, 8, none⟩ = some (.int .i64 os) ∧ w'.cell? ⟨g, 9, none⟩ = some (.string s1) ∧ w'.cell? ⟨g, 10, none⟩ = some (.string s2)) (first | with_reducible exact hS0 | with_reducible exact hS1 | go_keep) (fail)
        go_upto_region 15 with fail
        clear c0 c1 c2 c3 c4 c5 c6 c7 c8 c9 c10 c11 c12 c13 c14 c15 c16 c17
        clear x4 x5 x6 x7 x8 x9 x10 x11 x12 x13 x14 x15 x16 x17 y4 y5 y6 y7 y8 y9 y10 y11 y12 y13 y14 y15 y16 y17 hS0 hS1
        generalize (((((((W4.setCell ⟨gx, 4, none⟩ (.int .i64 page)).setCell ⟨gx, 7, none⟩ (.int .i64 ok)).setCell ⟨gx, 8, none⟩ (.int .i64 os)).setCell ⟨gx, 9, none⟩ (.string s1)).setCell ⟨gx, 10, none⟩ (.string s2)).setCell ⟨gx, 5, none⟩ (.int .i64 next))).drew = W5 at hX2 hN2 hb2 ⊢
        replace hX2 := hX2.out
        have hN := hN2.out
        have hbb := hb2.out
        clear hN2 hb2
        go_wp2_with (first | (with_reducible refine wpList_load18 hX2 (by kernel_rfl) _ rfl rfl ?_) | (with_reducible refine wpList_load18 hN (by kernel_rfl) _ rfl rfl ?_))
        refine (HSM.out _ (HV.out.below hbb) (HDV.out.below hbb)).mono ?_
        rintro e w6 ⟨rfl, hb1⟩
        replace hN := hN.below hb1
        replace hbb := hbb.next hb1
        clear hb1 HSM hX2
        cases qs with
        | false =>
          obtain ⟨c0, c1, c2, c3, c4, c5, c6, c7, c8, c9, c10, c11, c12, c13, c14, c15, c16, c17⟩ := Blk18 hN
          go_wp2_with fail
          go_ret
          exact ⟨ret_bool (by rw [HB.out]; simp), hbb⟩
        | true =>
          obtain ⟨c0, c1, c2, c3, c4, c5, c6, c7, c8, c9, c10, c11, c12, c13, c14, c15, c16, c17⟩ := Blk18 hN
          go_wp2_with fail
          refine (HPG.out _).mono ?_
          rintro e wqp ⟨rfl, hb1⟩
          replace hN := hN.below hb1
          replace hbb := hbb.next hb1
          clear hb1
          clear c0 c1 c2 c3 c4 c5 c6 c7 c8 c9 c10 c11 c12 c13 c14 c15 c16 c17
          cases qp with
          | false =>
            obtain ⟨c0, c1, c2, c3, c4, c5, c6, c7, c8, c9, c10, c11, c12, c13, c14, c15, c16, c17⟩ := Blk18 hN
            go_wp2_with fail
            go_ret
            exact ⟨ret_bool (by rw [HB.out]; simp), hbb⟩
          | true =>
            obtain ⟨c0, c1, c2, c3, c4, c5, c6, c7, c8, c9, c10, c11, c12, c13, c14, c15, c16, c17⟩ := Blk18 hN
            go_wp2_with fail
            refine (HOP.out _).mono ?_
            rintro e wqo ⟨rfl, hb1⟩
            replace hN := hN.below hb1
            replace hbb := hbb.next hb1
            clear hb1
            clear c0 c1 c2 c3 c4 c5 c6 c7 c8 c9 c10 c11 c12 c13 c14 c15 c16 c17
            cases qo with
            | false =>
              obtain ⟨c0, c1, c2, c3, c4, c5, c6, c7, c8, c9, c10, c11, c12, c13, c14, c15, c16, c17⟩ := Blk18 hN
              go_wp2_with fail
              go_ret
              exact ⟨ret_bool (by rw [HB.out]; simp), hbb⟩
            | true =>
              obtain ⟨c0, c1, c2, c3, c4, c5, c6, c7, c8, c9, c10, c11, c12, c13, c14, c15, c16, c17⟩ := Blk18 hN
              go_wp2_with (first | (with_reducible refine wpList_load18 hN (by kernel_rfl) _ rfl rfl ?_))
              refine (HNX.out _).mono ?_
              rintro e w9 ⟨rfl, hb9⟩
              go_wp2_with fail
              go_ret
              exact ⟨ret_bool (by rw [HB.out]; simp), hbb.next hb9⟩
set_option maxHeartbeats 8000000 in
set_option maxRecDepth 100000 in
theorem rright_4 (lsn prev txn page next num ok os : Int) (old new : List UInt8) (how root : Int) (key : List UInt8) (rp rs : Int) (txns : List Tx) (dirty : List Dy) (vt vd : Value) (w : World) (hv : ElAt w 4 vt (txC txns)) (hd : ElAt w 2 vd (dyC dirty)) (hs : txns.length ≤ 100000) (hs2 : dirty.length ≤ 100000) :
    Calls Try.prog 14 #[.agg (rcC (Rc.mk lsn prev txn 4 page next num ok os old new how root key rp rs txns dirty) vt vd)] w (Ret (.bool (rightR (Rc.mk lsn prev txn 4 page next num ok os old new how root key rp rs txns dirty))) w) := by
  have HB := rr_4 lsn prev txn page next num ok os old new how root key rp rs txns dirty
  obtain ⟨R, hR⟩ : ∃ R, rightR (Rc.mk lsn prev txn 4 page next num ok os old new how root key rp rs txns dirty) = R := ⟨_, rfl⟩
  rw [hR] at HB ⊢
  clear hR
  have HV := Lib.hid hv
  have HDV := Lib.hid hd
  have HSM := fun W (h1 : ElAt W 4 vt (txC txns)) (h2 : ElAt W 2 vd (dyC dirty)) => rsame_any (bareR (Rc.mk lsn prev txn 4 page next num ok os old new how root key rp rs txns dirty)) (Rc.mk lsn prev txn 4 page next num ok os old new how root key rp rs txns dirty) (.slice none 0 0) (.slice none 0 0) vt vd W (ElAt.empty _ _) (ElAt.empty _ _) h1 h2 (by show 0 ≤ _; omega) (by show 0 ≤ _; omega)
  obtain ⟨qs, hqs⟩ : ∃ q, decide (bareR (Rc.mk lsn prev txn 4 page next num ok os old new how root key rp rs txns dirty) = (Rc.mk lsn prev txn 4 page next num ok os old new how root key rp rs txns dirty)) = q := ⟨_, rfl⟩
  rw [hqs] at HB HSM
  clear hqs
  rw [show bareR (Rc.mk lsn prev txn 4 page next num ok os old new how root key rp rs txns dirty) = { lsn := lsn, prev := prev, txn := txn, kind := 4, page := 0, next := next, num := 0, ok := 0, os := 0, old := [], new := [], how := 0, root := 0, key := [], rp := 0, rs := 0, txns := [], dirty := [] } from rfl] at HSM
  obtain ⟨ao, cap, hva⟩ := hv.nil
  obtain ⟨bo, cap2, hvb⟩ := hd.nil
  obtain ⟨n1, hn1⟩ : ∃ n, (txC txns).length = n := ⟨_, rfl⟩
  obtain ⟨n2, hn2⟩ : ∃ n, (dyC dirty).length = n := ⟨_, rfl⟩
  rw [hn1] at hva
  rw [hn2] at hvb
  subst hva hvb
  clear hv hd hn1 hn2 hs hs2
  simp only [rcC, S_nil0] at HSM ⊢
  obtain ⟨s1, e1⟩ : ∃ x, S old = x := ⟨_, rfl⟩
  obtain ⟨s2, e2⟩ : ∃ x, S new = x := ⟨_, rfl⟩
  obtain ⟨s3, e3⟩ : ∃ x, S key = x := ⟨_, rfl⟩
  have HNX := Lib.hid (fun W => rnumber_any next W)
  obtain ⟨qn, hqn⟩ : ∃ q, numB next = q := ⟨_, rfl⟩
  rw [hqn] at HB HNX
  clear hqn
  simp only [e1, e2, e3] at HSM ⊢
  replace HSM := Lib.hid HSM
  clear e1 e2 e3
  have H1 := Lib.hid (fun W => rnumber_any lsn W)
  have H2 := Lib.hid (fun W => rnumber_any prev W)
  have H3 := Lib.hid (fun W => rnumber_any txn W)
  obtain ⟨q1, hq1⟩ : ∃ q, numB lsn = q := ⟨_, rfl⟩
  obtain ⟨q2, hq2⟩ : ∃ q, numB prev = q := ⟨_, rfl⟩
  obtain ⟨q3, hq3⟩ : ∃ q, numB txn = q := ⟨_, rfl⟩
  rw [hq1] at HB H1
  rw [hq2] at HB H2
  rw [hq3] at HB H3
  replace HB := Lib.hid HB
  clear hq1 hq2 hq3
  have HBR := Lib.hid (fun W => rbare_any lsn prev txn 4 (.int .i64 page) (.int .i64 next) (.int .i64 num) (.int .i64 ok) (.int .i64 os) (.string s1) (.string s2) (.int .i64 how) (.int .i64 root) (.string s3) (.int .i64 rp) (.int .i64 rs) (.slice ao n1 cap) (.slice bo n2 cap2) W)
  have hN := Blk.new w #[.int .i64 lsn, .int .i64 prev, .int .i64 txn, .int .i64 4, .int .i64 page, .int .i64 next, .int .i64 num, .int .i64 ok, .int .i64 os, .string s1, .string s2, .int .i64 how, .int .i64 root, .string s3, .int .i64 rp, .int .i64 rs, .slice ao n1 cap, .slice bo n2 cap2] 31
  have hbb := (Below.refl w.heap.size w).alloc (Nat.le_refl _) (.cells #[.int .i64 lsn, .int .i64 prev, .int .i64 txn, .int .i64 4, .int .i64 page, .int .i64 next, .int .i64 num, .int .i64 ok, .int .i64 os, .string s1, .string s2, .int .i64 how, .int .i64 root, .string s3, .int .i64 rp, .int .i64 rs, .slice ao n1 cap, .slice bo n2 cap2] 31)
  go_enter Try.func14, Try.ntmps14
  go_upto_region 1 with fail
  obtain ⟨g, HG⟩ : ∃ x, w.heap.size = x := ⟨_, rfl⟩
  have hgw : w.heap.size ≤ g := by omega
  rw [HG] at hN ⊢
  clear HG
  generalize (w.alloc (.cells #[.int .i64 lsn, .int .i64 prev, .int .i64 txn, .int .i64 4, .int .i64 page, .int .i64 next, .int .i64 num, .int .i64 ok, .int .i64 os, .string s1, .string s2, .int .i64 how, .int .i64 root, .string s3, .int .i64 rp, .int .i64 rs, .slice ao n1 cap, .slice bo n2 cap2] 31)) = W at hN hbb ⊢
  obtain ⟨c0, c1, c2, c3, c4, c5, c6, c7, c8, c9, c10, c11, c12, c13, c14, c15, c16, c17⟩ := Blk18 hN
  go_wp2_with fail
  refine (H1.out _).mono ?_
  rintro e wq1 ⟨rfl, hb1⟩
  replace hN := hN.below hb1
  replace hbb := hbb.next hb1
  clear hb1
  clear c0 c1 c2 c3 c4 c5 c6 c7 c8 c9 c10 c11 c12 c13 c14 c15 c16 c17
  obtain ⟨c0, c1, c2, c3, c4, c5, c6, c7, c8, c9, c10, c11, c12, c13, c14, c15, c16, c17⟩ := Blk18 hN
  clear H1
  cases q1 with
  | false =>
    go_wp2_with fail
    go_ret
    exact ⟨ret_bool (by rw [HB.out]; simp), hbb⟩
  | true =>
    go_wp2_with fail
    refine (H2.out _).mono ?_
    rintro e wq2 ⟨rfl, hb1⟩
    replace hN := hN.below hb1
    replace hbb := hbb.next hb1
    clear hb1
    clear c0 c1 c2 c3 c4 c5 c6 c7 c8 c9 c10 c11 c12 c13 c14 c15 c16 c17
    obtain ⟨c0, c1, c2, c3, c4, c5, c6, c7, c8, c9, c10, c11, c12, c13, c14, c15, c16, c17⟩ := Blk18 hN
    clear H2
    cases q2 with
    | false =>
      go_wp2_with fail
      go_ret
      exact ⟨ret_bool (by rw [HB.out]; simp), hbb⟩
    | true =>
      go_wp2_with fail
      refine (H3.out _).mono ?_
      rintro e wq3 ⟨rfl, hb1⟩
      replace hN := hN.below hb1
      replace hbb := hbb.next hb1
      clear hb1
      clear c0 c1 c2 c3 c4 c5 c6 c7 c8 c9 c10 c11 c12 c13 c14 c15 c16 c17
      obtain ⟨c0, c1, c2, c3, c4, c5, c6, c7, c8, c9, c10, c11, c12, c13, c14, c15, c16, c17⟩ := Blk18 hN
      clear H3
      cases q3 with
      | false =>
        go_wp2_with fail
        go_ret
        exact ⟨ret_bool (by rw [HB.out]; simp), hbb⟩
      | true =>
        go_wp2_with (first | (with_reducible refine wpList_load18 hN (by kernel_rfl) _ rfl rfl ?_))
        refine (HBR.out _).mono ?_
        rintro e wB ⟨rfl, hb1⟩
        replace hN := hN.below hb1
        replace hbb := hbb.next hb1
        clear hb1 HBR
        clear c0 c1 c2 c3 c4 c5 c6 c7 c8 c9 c10 c11 c12 c13 c14 c15 c16 c17
        go_upto_region 4 with (first | ((with_reducible refine wpList_store18 (Blk.new _ #[.int .i64 0, .int .i64 0, .int .i64 0, .int .i64 0, .int .i64 0, .int .i64 0, .int .i64 0, .int .i64 0, .int .i64 0, .string ⟨#[]⟩, .string ⟨#[]⟩, .int .i64 0, .int .i64 0, .string ⟨#[]⟩, .int .i64 0, .int .i64 0, .slice none 0 0, .slice none 0 0] 31) (by kernel_rfl) (by kernel_rfl) (by kernel_rfl) rfl _ _ rfl rfl rfl ?_); intro W4 hX hg4))
        obtain ⟨gx, HGX⟩ : ∃ x, wB.heap.size = x := ⟨_, rfl⟩
        have hne : g ≠ gx := by have := hN.lt; omega
        have hne2 : gx ≠ g := fun e => hne e.symm
        have hgx : w.heap.size ≤ gx := by have := hbb.size; omega
        have hbx := alloc_sto hg4
        rw [HGX] at hX ⊢
        replace hN := hN.below hbx
        replace hbb := hbb.next hbx
        clear HGX hbx hg4
        obtain ⟨c0, c1, c2, c3, c4, c5, c6, c7, c8, c9, c10, c11, c12, c13, c14, c15, c16, c17⟩ := Blk18 hN
        go_upto_region 17 with fail
        obtain ⟨x0, x1, x2, x3, x4, x5, x6, x7, x8, x9, x10, x11, x12, x13, x14, x15, x16, x17⟩ := Blk18 hX
        obtain ⟨y0, y1, y2, y3, y4, y5, y6, y7, y8, y9, y10, y11, y12, y13, y14, y15, y16, y17⟩ := Free18 hX
        clear x0 x1 x2 x3 y0 y1 y2 y3
        have hX2 := hX
        have hN2 := hN
        have hb2 := hbb
        replace hX2 : Blk (W4.setCell ⟨gx, 5, none⟩ (.int .i64 next)) gx #[.int .i64 lsn, .int .i64 prev, .int .i64 txn, .int .i64 4, .int .i64 0, .int .i64 next, .int .i64 0, .int .i64 0, .int .i64 0, .string ⟨#[]⟩, .string ⟨#[]⟩, .int .i64 0, .int .i64 0, .string ⟨#[]⟩, .int .i64 0, .int .i64 0, .slice none 0 0, .slice none 0 0] 31 := hX2.set 5 (.int .i64 next)
        replace hN2 : Blk (W4.setCell ⟨gx, 5, none⟩ (.int .i64 next)) g #[.int .i64 lsn, .int .i64 prev, .int .i64 txn, .int .i64 4, .int .i64 page, .int .i64 next, .int .i64 num, .int .i64 ok, .int .i64 os, .string s1, .string s2, .int .i64 how, .int .i64 root, .string s3, .int .i64 rp, .int .i64 rs, .slice ao n1 cap, .slice bo n2 cap2] 31 := hN2.other (a := ⟨gx, 5, none⟩) (by show g ≠ gx; exact hne) (.int .i64 next)
        replace hb2 : Below w.heap.size w (W4.setCell ⟨gx, 5, none⟩ (.int .i64 next)) := hb2.setCell (p := ⟨gx, 5, none⟩) (by show w.heap.size ≤ gx; exact hgx) (.int .i64 next)
        replace hX2 := Lib.hid hX2
        replace hN2 := Lib.hid hN2
        replace hb2 := Lib.hid hb2
        clear hX hN hbb
        go_upto_region 18 with fail
        clear c0 c1 c2 c3 c4 c5 c6 c7 c8 c9 c10 c11 c12 c13 c14 c15 c16 c17
        clear x4 x5 x6 x7 x8 x9 x10 x11 x12 x13 x14 x15 x16 x17 y4 y5 y6 y7 y8 y9 y10 y11 y12 y13 y14 y15 y16 y17
        generalize (W4.setCell ⟨gx, 5, none⟩ (.int .i64 next)) = W5 at hX2 hN2 hb2 ⊢
        replace hX2 := hX2.out
        have hN := hN2.out
        have hbb := hb2.out
        clear hN2 hb2
        go_wp2_with (first | (with_reducible refine wpList_load18 hX2 (by kernel_rfl) _ rfl rfl ?_) | (with_reducible refine wpList_load18 hN (by kernel_rfl) _ rfl rfl ?_))
        refine (HSM.out _ (HV.out.below hbb) (HDV.out.below hbb)).mono ?_
        rintro e w6 ⟨rfl, hb1⟩
        replace hN := hN.below hb1
        replace hbb := hbb.next hb1
        clear hb1 HSM hX2
        cases qs with
        | false =>
          obtain ⟨c0, c1, c2, c3, c4, c5, c6, c7, c8, c9, c10, c11, c12, c13, c14, c15, c16, c17⟩ := Blk18 hN
          go_wp2_with fail
          go_ret
          exact ⟨ret_bool (by rw [HB.out]; simp), hbb⟩
        | true =>
          obtain ⟨c0, c1, c2, c3, c4, c5, c6, c7, c8, c9, c10, c11, c12, c13, c14, c15, c16, c17⟩ := Blk18 hN
          go_wp2_with (first | (with_reducible refine wpList_load18 hN (by kernel_rfl) _ rfl rfl ?_))
          refine (HNX.out _).mono ?_
          rintro e w9 ⟨rfl, hb9⟩
          go_wp2_with fail
          go_ret
          exact ⟨ret_bool (by rw [HB.out]; simp), hbb.next hb9⟩
set_option maxHeartbeats 8000000 in
set_option maxRecDepth 100000 in
theorem rright_8 (lsn prev txn page next num ok os : Int) (old new : List UInt8) (how root : Int) (key : List UInt8) (rp rs : Int) (txns : List Tx) (dirty : List Dy) (vt vd : Value) (w : World) (hv : ElAt w 4 vt (txC txns)) (hd : ElAt w 2 vd (dyC dirty)) (hs : txns.length ≤ 100000) (hs2 : dirty.length ≤ 100000) :
    Calls Try.prog 14 #[.agg (rcC (Rc.mk lsn prev txn 8 page next num ok os old new how root key rp rs txns dirty) vt vd)] w (Ret (.bool (rightR (Rc.mk lsn prev txn 8 page next num ok os old new how root key rp rs txns dirty))) w) := by
  have HB := rr_8 lsn prev txn page next num ok os old new how root key rp rs txns dirty
  obtain ⟨R, hR⟩ : ∃ R, rightR (Rc.mk lsn prev txn 8 page next num ok os old new how root key rp rs txns dirty) = R := ⟨_, rfl⟩
  rw [hR] at HB ⊢
  clear hR
  have HV := Lib.hid hv
  have HDV := Lib.hid hd
  have HSM := fun W (h1 : ElAt W 4 vt (txC txns)) (h2 : ElAt W 2 vd (dyC dirty)) => rsame_any (bareR (Rc.mk lsn prev txn 8 page next num ok os old new how root key rp rs txns dirty)) (Rc.mk lsn prev txn 8 page next num ok os old new how root key rp rs txns dirty) (.slice none 0 0) (.slice none 0 0) vt vd W (ElAt.empty _ _) (ElAt.empty _ _) h1 h2 (by show 0 ≤ _; omega) (by show 0 ≤ _; omega)
  obtain ⟨qs, hqs⟩ : ∃ q, decide (bareR (Rc.mk lsn prev txn 8 page next num ok os old new how root key rp rs txns dirty) = (Rc.mk lsn prev txn 8 page next num ok os old new how root key rp rs txns dirty)) = q := ⟨_, rfl⟩
  rw [hqs] at HB HSM
  clear hqs
  rw [show bareR (Rc.mk lsn prev txn 8 page next num ok os old new how root key rp rs txns dirty) = { lsn := lsn, prev := prev, txn := txn, kind := 8, page := page, next := 0, num := 0, ok := ok, os := os, old := old, new := new, how := 0, root := 0, key := [], rp := 0, rs := 0, txns := [], dirty := [] } from rfl] at HSM
  obtain ⟨ao, cap, hva⟩ := hv.nil
  obtain ⟨bo, cap2, hvb⟩ := hd.nil
  obtain ⟨n1, hn1⟩ : ∃ n, (txC txns).length = n := ⟨_, rfl⟩
  obtain ⟨n2, hn2⟩ : ∃ n, (dyC dirty).length = n := ⟨_, rfl⟩
  rw [hn1] at hva
  rw [hn2] at hvb
  subst hva hvb
  clear hv hd hn1 hn2 hs hs2
  simp only [rcC, S_nil0] at HSM ⊢
  obtain ⟨s1, e1⟩ : ∃ x, S old = x := ⟨_, rfl⟩
  obtain ⟨s2, e2⟩ : ∃ x, S new = x := ⟨_, rfl⟩
  obtain ⟨s3, e3⟩ : ∃ x, S key = x := ⟨_, rfl⟩
  have HOP := Lib.hid (fun W => rOp_any ok os old new s1 s2 e1 e2 W)
  have HPG := Lib.hid (fun W => rpage_any page W)
  obtain ⟨qo, hqo⟩ : ∃ q, opB ok os old new = q := ⟨_, rfl⟩
  obtain ⟨qp, hqp⟩ : ∃ q, pageB page = q := ⟨_, rfl⟩
  rw [hqo] at HB HOP
  rw [hqp] at HB HPG
  clear hqo hqp
  simp only [e1, e2, e3] at HSM ⊢
  replace HSM := Lib.hid HSM
  clear e1 e2 e3
  have H1 := Lib.hid (fun W => rnumber_any lsn W)
  have H2 := Lib.hid (fun W => rnumber_any prev W)
  have H3 := Lib.hid (fun W => rnumber_any txn W)
  obtain ⟨q1, hq1⟩ : ∃ q, numB lsn = q := ⟨_, rfl⟩
  obtain ⟨q2, hq2⟩ : ∃ q, numB prev = q := ⟨_, rfl⟩
  obtain ⟨q3, hq3⟩ : ∃ q, numB txn = q := ⟨_, rfl⟩
  rw [hq1] at HB H1
  rw [hq2] at HB H2
  rw [hq3] at HB H3
  replace HB := Lib.hid HB
  clear hq1 hq2 hq3
  have HBR := Lib.hid (fun W => rbare_any lsn prev txn 8 (.int .i64 page) (.int .i64 next) (.int .i64 num) (.int .i64 ok) (.int .i64 os) (.string s1) (.string s2) (.int .i64 how) (.int .i64 root) (.string s3) (.int .i64 rp) (.int .i64 rs) (.slice ao n1 cap) (.slice bo n2 cap2) W)
  have hN := Blk.new w #[.int .i64 lsn, .int .i64 prev, .int .i64 txn, .int .i64 8, .int .i64 page, .int .i64 next, .int .i64 num, .int .i64 ok, .int .i64 os, .string s1, .string s2, .int .i64 how, .int .i64 root, .string s3, .int .i64 rp, .int .i64 rs, .slice ao n1 cap, .slice bo n2 cap2] 31
  have hbb := (Below.refl w.heap.size w).alloc (Nat.le_refl _) (.cells #[.int .i64 lsn, .int .i64 prev, .int .i64 txn, .int .i64 8, .int .i64 page, .int .i64 next, .int .i64 num, .int .i64 ok, .int .i64 os, .string s1, .string s2, .int .i64 how, .int .i64 root, .string s3, .int .i64 rp, .int .i64 rs, .slice ao n1 cap, .slice bo n2 cap2] 31)
  go_enter Try.func14, Try.ntmps14
  go_upto_region 1 with fail
  obtain ⟨g, HG⟩ : ∃ x, w.heap.size = x := ⟨_, rfl⟩
  have hgw : w.heap.size ≤ g := by omega
  rw [HG] at hN ⊢
  clear HG
  generalize (w.alloc (.cells #[.int .i64 lsn, .int .i64 prev, .int .i64 txn, .int .i64 8, .int .i64 page, .int .i64 next, .int .i64 num, .int .i64 ok, .int .i64 os, .string s1, .string s2, .int .i64 how, .int .i64 root, .string s3, .int .i64 rp, .int .i64 rs, .slice ao n1 cap, .slice bo n2 cap2] 31)) = W at hN hbb ⊢
  obtain ⟨c0, c1, c2, c3, c4, c5, c6, c7, c8, c9, c10, c11, c12, c13, c14, c15, c16, c17⟩ := Blk18 hN
  go_wp2_with fail
  refine (H1.out _).mono ?_
  rintro e wq1 ⟨rfl, hb1⟩
  replace hN := hN.below hb1
  replace hbb := hbb.next hb1
  clear hb1
  clear c0 c1 c2 c3 c4 c5 c6 c7 c8 c9 c10 c11 c12 c13 c14 c15 c16 c17
  obtain ⟨c0, c1, c2, c3, c4, c5, c6, c7, c8, c9, c10, c11, c12, c13, c14, c15, c16, c17⟩ := Blk18 hN
  clear H1
  cases q1 with
  | false =>
    go_wp2_with fail
    go_ret
    exact ⟨ret_bool (by rw [HB.out]; simp), hbb⟩
  | true =>
    go_wp2_with fail
    refine (H2.out _).mono ?_
    rintro e wq2 ⟨rfl, hb1⟩
    replace hN := hN.below hb1
    replace hbb := hbb.next hb1
    clear hb1
    clear c0 c1 c2 c3 c4 c5 c6 c7 c8 c9 c10 c11 c12 c13 c14 c15 c16 c17
    obtain ⟨c0, c1, c2, c3, c4, c5, c6, c7, c8, c9, c10, c11, c12, c13, c14, c15, c16, c17⟩ := Blk18 hN
    clear H2
    cases q2 with
    | false =>
      go_wp2_with fail
      go_ret
      exact ⟨ret_bool (by rw [HB.out]; simp), hbb⟩
    | true =>
      go_wp2_with fail
      refine (H3.out _).mono ?_
      rintro e wq3 ⟨rfl, hb1⟩
      replace hN := hN.below hb1
      replace hbb := hbb.next hb1
      clear hb1
      clear c0 c1 c2 c3 c4 c5 c6 c7 c8 c9 c10 c11 c12 c13 c14 c15 c16 c17
      obtain ⟨c0, c1, c2, c3, c4, c5, c6, c7, c8, c9, c10, c11, c12, c13, c14, c15, c16, c17⟩ := Blk18 hN
      clear H3
      cases q3 with
      | false =>
        go_wp2_with fail
        go_ret
        exact ⟨ret_bool (by rw [HB.out]; simp), hbb⟩
      | true =>
        go_wp2_with (first | (with_reducible refine wpList_load18 hN (by kernel_rfl) _ rfl rfl ?_))
        refine (HBR.out _).mono ?_
        rintro e wB ⟨rfl, hb1⟩
        replace hN := hN.below hb1
        replace hbb := hbb.next hb1
        clear hb1 HBR
        clear c0 c1 c2 c3 c4 c5 c6 c7 c8 c9 c10 c11 c12 c13 c14 c15 c16 c17
        go_upto_region 4 with (first | ((with_reducible refine wpList_store18 (Blk.new _ #[.int .i64 0, .int .i64 0, .int .i64 0, .int .i64 0, .int .i64 0, .int .i64 0, .int .i64 0, .int .i64 0, .int .i64 0, .string ⟨#[]⟩, .string ⟨#[]⟩, .int .i64 0, .int .i64 0, .string ⟨#[]⟩, .int .i64 0, .int .i64 0, .slice none 0 0, .slice none 0 0] 31) (by kernel_rfl) (by kernel_rfl) (by kernel_rfl) rfl _ _ rfl rfl rfl ?_); intro W4 hX hg4))
        obtain ⟨gx, HGX⟩ : ∃ x, wB.heap.size = x := ⟨_, rfl⟩
        have hne : g ≠ gx := by have := hN.lt; omega
        have hne2 : gx ≠ g := fun e => hne e.symm
        have hgx : w.heap.size ≤ gx := by have := hbb.size; omega
        have hbx := alloc_sto hg4
        rw [HGX] at hX ⊢
        replace hN := hN.below hbx
        replace hbb := hbb.next hbx
        clear HGX hbx hg4
        obtain ⟨c0, c1, c2, c3, c4, c5, c6, c7, c8, c9, c10, c11, c12, c13, c14, c15, c16, c17⟩ := Blk18 hN
        go_upto_region 20 with fail
        obtain ⟨x0, x1, x2, x3, x4, x5, x6, x7, x8, x9, x10, x11, x12, x13, x14, x15, x16, x17⟩ := Blk18 hX
        obtain ⟨y0, y1, y2, y3, y4, y5, y6, y7, y8, y9, y10, y11, y12, y13, y14, y15, y16, y17⟩ := Free18 hX
        clear x0 x1 x2 x3 y0 y1 y2 y3
        have hX2 := hX
        have hN2 := hN
        have hb2 := hbb
        replace hX2 : Blk (W4.setCell ⟨gx, 4, none⟩ (.int .i64 page)) gx #[.int .i64 lsn, .int .i64 prev, .int .i64 txn, .int .i64 8, .int .i64 page, .int .i64 0, .int .i64 0, .int .i64 0, .int .i64 0, .string ⟨#[]⟩, .string ⟨#[]⟩, .int .i64 0, .int .i64 0, .string ⟨#[]⟩, .int .i64 0, .int .i64 0, .slice none 0 0, .slice none 0 0] 31 := hX2.set 4 (.int .i64 page)
        replace hN2 : Blk (W4.setCell ⟨gx, 4, none⟩ (.int .i64 page)) g #[.int .i64 lsn, .int .i64 prev, .int .i64 txn, .int .i64 8, .int .i64 page, .int .i64 next, .int .i64 num, .int .i64 ok, .int .i64 os, .string s1, .string s2, .int .i64 how, .int .i64 root, .string s3, .int .i64 rp, .int .i64 rs, .slice ao n1 cap, .slice bo n2 cap2] 31 := hN2.other (a := ⟨gx, 4, none⟩) (by show g ≠ gx; exact hne) (.int .i64 page)
        replace hb2 : Below w.heap.size w (W4.setCell ⟨gx, 4, none⟩ (.int .i64 page)) := hb2.setCell (p := ⟨gx, 4, none⟩) (by show w.heap.size ≤ gx; exact hgx) (.int .i64 page)
        replace hX2 : Blk ((W4.setCell ⟨gx, 4, none⟩ (.int .i64 page)).setCell ⟨gx, 7, none⟩ (.int .i64 ok)) gx #[.int .i64 lsn, .int .i64 prev, .int .i64 txn, .int .i64 8, .int .i64 page, .int .i64 0, .int .i64 0, .int .i64 ok, .int .i64 0, .string ⟨#[]⟩, .string ⟨#[]⟩, .int .i64 0, .int .i64 0, .string ⟨#[]⟩, .int .i64 0, .int .i64 0, .slice none 0 0, .slice none 0 0] 31 := hX2.set 7 (.int .i64 ok)
        replace hN2 : Blk ((W4.setCell ⟨gx, 4, none⟩ (.int .i64 page)).setCell ⟨gx, 7, none⟩ (.int .i64 ok)) g #[.int .i64 lsn, .int .i64 prev, .int .i64 txn, .int .i64 8, .int .i64 page, .int .i64 next, .int .i64 num, .int .i64 ok, .int .i64 os, .string s1, .string s2, .int .i64 how, .int .i64 root, .string s3, .int .i64 rp, .int .i64 rs, .slice ao n1 cap, .slice bo n2 cap2] 31 := hN2.other (a := ⟨gx, 7, none⟩) (by show g ≠ gx; exact hne) (.int .i64 ok)
        replace hb2 : Below w.heap.size w ((W4.setCell ⟨gx, 4, none⟩ (.int .i64 page)).setCell ⟨gx, 7, none⟩ (.int .i64 ok)) := hb2.setCell (p := ⟨gx, 7, none⟩) (by show w.heap.size ≤ gx; exact hgx) (.int .i64 ok)
        replace hX2 : Blk (((W4.setCell ⟨gx, 4, none⟩ (.int .i64 page)).setCell ⟨gx, 7, none⟩ (.int .i64 ok)).setCell ⟨gx, 8, none⟩ (.int .i64 os)) gx #[.int .i64 lsn, .int .i64 prev, .int .i64 txn, .int .i64 8, .int .i64 page, .int .i64 0, .int .i64 0, .int .i64 ok, .int .i64 os, .string ⟨#[]⟩, .string ⟨#[]⟩, .int .i64 0, .int .i64 0, .string ⟨#[]⟩, .int .i64 0, .int .i64 0, .slice none 0 0, .slice none 0 0] 31 := hX2.set 8 (.int .i64 os)
        replace hN2 : Blk (((W4.setCell ⟨gx, 4, none⟩ (.int .i64 page)).setCell ⟨gx, 7, none⟩ (.int .i64 ok)).setCell ⟨gx, 8, none⟩ (.int .i64 os)) g #[.int .i64 lsn, .int .i64 prev, .int .i64 txn, .int .i64 8, .int .i64 page, .int .i64 next, .int .i64 num, .int .i64 ok, .int .i64 os, .string s1, .string s2, .int .i64 how, .int .i64 root, .string s3, .int .i64 rp, .int .i64 rs, .slice ao n1 cap, .slice bo n2 cap2] 31 := hN2.other (a := ⟨gx, 8, none⟩) (by show g ≠ gx; exact hne) (.int .i64 os)
        replace hb2 : Below w.heap.size w (((W4.setCell ⟨gx, 4, none⟩ (.int .i64 page)).setCell ⟨gx, 7, none⟩ (.int .i64 ok)).setCell ⟨gx, 8, none⟩ (.int .i64 os)) := hb2.setCell (p := ⟨gx, 8, none⟩) (by show w.heap.size ≤ gx; exact hgx) (.int .i64 os)
        replace hX2 : Blk ((((W4.setCell ⟨gx, 4, none⟩ (.int .i64 page)).setCell ⟨gx, 7, none⟩ (.int .i64 ok)).setCell ⟨gx, 8, none⟩ (.int .i64 os)).setCell ⟨gx, 9, none⟩ (.string s1)) gx #[.int .i64 lsn, .int .i64 prev, .int .i64 txn, .int .i64 8, .int .i64 page, .int .i64 0, .int .i64 0, .int .i64 ok, .int .i64 os, .string s1, .string ⟨#[]⟩, .int .i64 0, .int .i64 0, .string ⟨#[]⟩, .int .i64 0, .int .i64 0, .slice none 0 0, .slice none 0 0] 31 := hX2.set 9 (.string s1)
        replace hN2 : Blk ((((W4.setCell ⟨gx, 4, none⟩ (.int .i64 page)).setCell ⟨gx, 7, none⟩ (.int .i64 ok)).setCell ⟨gx, 8, none⟩ (.int .i64 os)).setCell ⟨gx, 9, none⟩ (.string s1)) g #[.int .i64 lsn, .int .i64 prev, .int .i64 txn, .int .i64 8, .int .i64 page, .int .i64 next, .int .i64 num, .int .i64 ok, .int .i64 os, .string s1, .string s2, .int .i64 how, .int .i64 root, .string s3, .int .i64 rp, .int .i64 rs, .slice ao n1 cap, .slice bo n2 cap2] 31 := hN2.other (a := ⟨gx, 9, none⟩) (by show g ≠ gx; exact hne) (.string s1)
        replace hb2 : Below w.heap.size w ((((W4.setCell ⟨gx, 4, none⟩ (.int .i64 page)).setCell ⟨gx, 7, none⟩ (.int .i64 ok)).setCell ⟨gx, 8, none⟩ (.int .i64 os)).setCell ⟨gx, 9, none⟩ (.string s1)) := hb2.setCell (p := ⟨gx, 9, none⟩) (by show w.heap.size ≤ gx; exact hgx) (.string s1)
        replace hX2 : Blk (((((W4.setCell ⟨gx, 4, none⟩ (.int .i64 page)).setCell ⟨gx, 7, none⟩ (.int .i64 ok)).setCell ⟨gx, 8, none⟩ (.int .i64 os)).setCell ⟨gx, 9, none⟩ (.string s1)).setCell ⟨gx, 10, none⟩ (.string s2)) gx #[.int .i64 lsn, .int .i64 prev, .int .i64 txn, .int .i64 8, .int .i64 page, .int .i64 0, .int .i64 0, .int .i64 ok, .int .i64 os, .string s1, .string s2, .int .i64 0, .int .i64 0, .string ⟨#[]⟩, .int .i64 0, .int .i64 0, .slice none 0 0, .slice none 0 0] 31 := hX2.set 10 (.string s2)
        replace hN2 : Blk (((((W4.setCell ⟨gx, 4, none⟩ (.int .i64 page)).setCell ⟨gx, 7, none⟩ (.int .i64 ok)).setCell ⟨gx, 8, none⟩ (.int .i64 os)).setCell ⟨gx, 9, none⟩ (.string s1)).setCell ⟨gx, 10, none⟩ (.string s2)) g #[.int .i64 lsn, .int .i64 prev, .int .i64 txn, .int .i64 8, .int .i64 page, .int .i64 next, .int .i64 num, .int .i64 ok, .int .i64 os, .string s1, .string s2, .int .i64 how, .int .i64 root, .string s3, .int .i64 rp, .int .i64 rs, .slice ao n1 cap, .slice bo n2 cap2] 31 := hN2.other (a := ⟨gx, 10, none⟩) (by show g ≠ gx; exact hne) (.string s2)
        replace hb2 : Below w.heap.size w (((((W4.setCell ⟨gx, 4, none⟩ (.int .i64 page)).setCell ⟨gx, 7, none⟩ (.int .i64 ok)).setCell ⟨gx, 8, none⟩ (.int .i64 os)).setCell ⟨gx, 9, none⟩ (.string s1)).setCell ⟨gx, 10, none⟩ (.string s2)) := hb2.setCell (p := ⟨gx, 10, none⟩) (by show w.heap.size ≤ gx; exact hgx) (.string s2)
        replace hX2 := hX2.drew
        replace hN2 := hN2.drew
        replace hb2 := Below.drew hb2
        replace hX2 := Lib.hid hX2
        replace hN2 := Lib.hid hN2
        replace hb2 := Lib.hid hb2
        clear hX hN hbb
        have hS0 : W4.cell? ⟨g, 4, none⟩ = some (.int .i64 page) ∧ W4.cell? ⟨g, 7, none⟩ = some (.int .i64 ok) ∧ W4.cell? ⟨g, 8, none⟩ = some (.int .i64 os) ∧ W4.cell? ⟨g, 9, none⟩ = some (.string s1) ∧ W4.cell? ⟨g, 10, none⟩ = some (.string s2) := ⟨c4, c7, c8, c9, c10⟩
        have hS1 : W4.drew.cell? ⟨g, 4, none⟩ = some (.int .i64 page) ∧ W4.drew.cell? ⟨g, 7, none⟩ = some (.int .i64 ok) ∧ W4.drew.cell? ⟨g, 8, none⟩ = some (.int .i64 os) ∧ W4.drew.cell? ⟨g, 9, none⟩ = some (.string s1) ∧ W4.drew.cell? ⟨g, 10, none⟩ = some (.string s2) := ⟨c4, c7, c8, c9, c10⟩
        go_region_held3 (fun w' => w'.cell? ⟨g, 4, none⟩ = some (.int .i64 page) ∧ w'.cell? ⟨g, 7, none⟩ = some (.int .i64 ok) ∧ w'.cell? ⟨g, 8, none⟩ = some (.int .i64 os) ∧ w'.cell? ⟨g, 9, none⟩ = some (.string s1) ∧ w'.cell? ⟨g, 10, none⟩ = some (.string s2)) (first | with_reducible exact hS0 | with_reducible exact hS1 | go_keep) (fail)
        go_upto_region 21 with fail
        clear c0 c1 c2 c3 c4 c5 c6 c7 c8 c9 c10 c11 c12 c13 c14 c15 c16 c17
        clear x4 x5 x6 x7 x8 x9 x10 x11 x12 x13 x14 x15 x16 x17 y4 y5 y6 y7 y8 y9 y10 y11 y12 y13 y14 y15 y16 y17 hS0 hS1
        generalize ((((((W4.setCell ⟨gx, 4, none⟩ (.int .i64 page)).setCell ⟨gx, 7, none⟩ (.int .i64 ok)).setCell ⟨gx, 8, none⟩ (.int .i64 os)).setCell ⟨gx, 9, none⟩ (.string s1)).setCell ⟨gx, 10, none⟩ (.string s2))).drew = W5 at hX2 hN2 hb2 ⊢
        replace hX2 := hX2.out
        have hN := hN2.out
        have hbb := hb2.out
        clear hN2 hb2
        go_wp2_with (first | (with_reducible refine wpList_load18 hX2 (by kernel_rfl) _ rfl rfl ?_) | (with_reducible refine wpList_load18 hN (by kernel_rfl) _ rfl rfl ?_))
        refine (HSM.out _ (HV.out.below hbb) (HDV.out.below hbb)).mono ?_
        rintro e w6 ⟨rfl, hb1⟩
        replace hN := hN.below hb1
        replace hbb := hbb.next hb1
        clear hb1 HSM hX2
        cases qs with
        | false =>
          obtain ⟨c0, c1, c2, c3, c4, c5, c6, c7, c8, c9, c10, c11, c12, c13, c14, c15, c16, c17⟩ := Blk18 hN
          go_wp2_with fail
          go_ret
          exact ⟨ret_bool (by rw [HB.out]; simp), hbb⟩
        | true =>
          obtain ⟨c0, c1, c2, c3, c4, c5, c6, c7, c8, c9, c10, c11, c12, c13, c14, c15, c16, c17⟩ := Blk18 hN
          go_wp2_with fail
          refine (HPG.out _).mono ?_
          rintro e wqp ⟨rfl, hb1⟩
          replace hN := hN.below hb1
          replace hbb := hbb.next hb1
          clear hb1
          clear c0 c1 c2 c3 c4 c5 c6 c7 c8 c9 c10 c11 c12 c13 c14 c15 c16 c17
          cases qp with
          | false =>
            obtain ⟨c0, c1, c2, c3, c4, c5, c6, c7, c8, c9, c10, c11, c12, c13, c14, c15, c16, c17⟩ := Blk18 hN
            go_wp2_with fail
            go_ret
            exact ⟨ret_bool (by rw [HB.out]; simp), hbb⟩
          | true =>
            obtain ⟨c0, c1, c2, c3, c4, c5, c6, c7, c8, c9, c10, c11, c12, c13, c14, c15, c16, c17⟩ := Blk18 hN
            go_wp2_with (first | (with_reducible refine wpList_load18 hN (by kernel_rfl) _ rfl rfl ?_))
            refine (HOP.out _).mono ?_
            rintro e w9 ⟨rfl, hb9⟩
            go_wp2_with fail
            go_ret
            exact ⟨ret_bool (by rw [HB.out]; simp), hbb.next hb9⟩
set_option maxHeartbeats 8000000 in
set_option maxRecDepth 100000 in
theorem rright_9 (lsn prev txn page next num ok os : Int) (old new : List UInt8) (how root : Int) (key : List UInt8) (rp rs : Int) (txns : List Tx) (dirty : List Dy) (vt vd : Value) (w : World) (hv : ElAt w 4 vt (txC txns)) (hd : ElAt w 2 vd (dyC dirty)) (hs : txns.length ≤ 100000) (hs2 : dirty.length ≤ 100000) :
    Calls Try.prog 14 #[.agg (rcC (Rc.mk lsn prev txn 9 page next num ok os old new how root key rp rs txns dirty) vt vd)] w (Ret (.bool (rightR (Rc.mk lsn prev txn 9 page next num ok os old new how root key rp rs txns dirty))) w) := by
  have HB := rr_9 lsn prev txn page next num ok os old new how root key rp rs txns dirty
  obtain ⟨R, hR⟩ : ∃ R, rightR (Rc.mk lsn prev txn 9 page next num ok os old new how root key rp rs txns dirty) = R := ⟨_, rfl⟩
  rw [hR] at HB ⊢
  clear hR
  have HV := Lib.hid hv
  have HDV := Lib.hid hd
  have HSM := fun W (h1 : ElAt W 4 vt (txC txns)) (h2 : ElAt W 2 vd (dyC dirty)) => rsame_any (bareR (Rc.mk lsn prev txn 9 page next num ok os old new how root key rp rs txns dirty)) (Rc.mk lsn prev txn 9 page next num ok os old new how root key rp rs txns dirty) vt vd vt vd W h1 h2 h1 h2 hs hs2
  obtain ⟨qs, hqs⟩ : ∃ q, decide (bareR (Rc.mk lsn prev txn 9 page next num ok os old new how root key rp rs txns dirty) = (Rc.mk lsn prev txn 9 page next num ok os old new how root key rp rs txns dirty)) = q := ⟨_, rfl⟩
  rw [hqs] at HB HSM
  clear hqs
  rw [show bareR (Rc.mk lsn prev txn 9 page next num ok os old new how root key rp rs txns dirty) = { lsn := lsn, prev := prev, txn := txn, kind := 9, page := 0, next := 0, num := num, ok := 0, os := 0, old := [], new := [], how := 0, root := 0, key := [], rp := 0, rs := 0, txns := txns, dirty := dirty } from rfl] at HSM
  have HLI := fun W (h1 : ElAt W 4 vt (txC txns)) (h2 : ElAt W 2 vd (dyC dirty)) => rlists_any (Rc.mk lsn prev txn 9 page next num ok os old new how root key rp rs txns dirty) vt vd W h1 h2 hs hs2
  dsimp only at HLI
  obtain ⟨ql, hql⟩ : ∃ q, (txns.all txB && dirty.all dyB && (decide (txns.length ≤ 1000) && decide (dirty.length ≤ 2000))) = q := ⟨_, rfl⟩
  rw [hql] at HB HLI
  clear hql
  obtain ⟨ao, cap, hva⟩ := hv.nil
  obtain ⟨bo, cap2, hvb⟩ := hd.nil
  obtain ⟨n1, hn1⟩ : ∃ n, (txC txns).length = n := ⟨_, rfl⟩
  obtain ⟨n2, hn2⟩ : ∃ n, (dyC dirty).length = n := ⟨_, rfl⟩
  rw [hn1] at hva
  rw [hn2] at hvb
  subst hva hvb
  clear hv hd hn1 hn2 hs hs2
  simp only [rcC, S_nil0] at HSM HLI ⊢
  obtain ⟨s1, e1⟩ : ∃ x, S old = x := ⟨_, rfl⟩
  obtain ⟨s2, e2⟩ : ∃ x, S new = x := ⟨_, rfl⟩
  obtain ⟨s3, e3⟩ : ∃ x, S key = x := ⟨_, rfl⟩
  have HNM := Lib.hid (fun W => rnumber_any num W)
  obtain ⟨qn, hqn⟩ : ∃ q, numB num = q := ⟨_, rfl⟩
  rw [hqn] at HB HNM
  clear hqn
  simp only [e1, e2, e3] at HSM HLI ⊢
  replace HSM := Lib.hid HSM
  replace HLI := Lib.hid HLI
  clear e1 e2 e3
  have H1 := Lib.hid (fun W => rnumber_any lsn W)
  have H2 := Lib.hid (fun W => rnumber_any prev W)
  have H3 := Lib.hid (fun W => rnumber_any txn W)
  obtain ⟨q1, hq1⟩ : ∃ q, numB lsn = q := ⟨_, rfl⟩
  obtain ⟨q2, hq2⟩ : ∃ q, numB prev = q := ⟨_, rfl⟩
  obtain ⟨q3, hq3⟩ : ∃ q, numB txn = q := ⟨_, rfl⟩
  rw [hq1] at HB H1
  rw [hq2] at HB H2
  rw [hq3] at HB H3
  replace HB := Lib.hid HB
  clear hq1 hq2 hq3
  have HBR := Lib.hid (fun W => rbare_any lsn prev txn 9 (.int .i64 page) (.int .i64 next) (.int .i64 num) (.int .i64 ok) (.int .i64 os) (.string s1) (.string s2) (.int .i64 how) (.int .i64 root) (.string s3) (.int .i64 rp) (.int .i64 rs) (.slice ao n1 cap) (.slice bo n2 cap2) W)
  have hN := Blk.new w #[.int .i64 lsn, .int .i64 prev, .int .i64 txn, .int .i64 9, .int .i64 page, .int .i64 next, .int .i64 num, .int .i64 ok, .int .i64 os, .string s1, .string s2, .int .i64 how, .int .i64 root, .string s3, .int .i64 rp, .int .i64 rs, .slice ao n1 cap, .slice bo n2 cap2] 31
  have hbb := (Below.refl w.heap.size w).alloc (Nat.le_refl _) (.cells #[.int .i64 lsn, .int .i64 prev, .int .i64 txn, .int .i64 9, .int .i64 page, .int .i64 next, .int .i64 num, .int .i64 ok, .int .i64 os, .string s1, .string s2, .int .i64 how, .int .i64 root, .string s3, .int .i64 rp, .int .i64 rs, .slice ao n1 cap, .slice bo n2 cap2] 31)
  go_enter Try.func14, Try.ntmps14
  go_upto_region 1 with fail
  obtain ⟨g, HG⟩ : ∃ x, w.heap.size = x := ⟨_, rfl⟩
  have hgw : w.heap.size ≤ g := by omega
  rw [HG] at hN ⊢
  clear HG
  generalize (w.alloc (.cells #[.int .i64 lsn, .int .i64 prev, .int .i64 txn, .int .i64 9, .int .i64 page, .int .i64 next, .int .i64 num, .int .i64 ok, .int .i64 os, .string s1, .string s2, .int .i64 how, .int .i64 root, .string s3, .int .i64 rp, .int .i64 rs, .slice ao n1 cap, .slice bo n2 cap2] 31)) = W at hN hbb ⊢
  obtain ⟨c0, c1, c2, c3, c4, c5, c6, c7, c8, c9, c10, c11, c12, c13, c14, c15, c16, c17⟩ := Blk18 hN
  go_wp2_with fail
  refine (H1.out _).mono ?_
  rintro e wq1 ⟨rfl, hb1⟩
  replace hN := hN.below hb1
  replace hbb := hbb.next hb1
  clear hb1
  clear c0 c1 c2 c3 c4 c5 c6 c7 c8 c9 c10 c11 c12 c13 c14 c15 c16 c17
  obtain ⟨c0, c1, c2, c3, c4, c5, c6, c7, c8, c9, c10, c11, c12, c13, c14, c15, c16, c17⟩ := Blk18 hN
  clear H1
  cases q1 with
  | false =>
    go_wp2_with fail
    go_ret
    exact ⟨ret_bool (by rw [HB.out]; simp), hbb⟩
  | true =>
    go_wp2_with fail
    refine (H2.out _).mono ?_
    rintro e wq2 ⟨rfl, hb1⟩
    replace hN := hN.below hb1
    replace hbb := hbb.next hb1
    clear hb1
    clear c0 c1 c2 c3 c4 c5 c6 c7 c8 c9 c10 c11 c12 c13 c14 c15 c16 c17
    obtain ⟨c0, c1, c2, c3, c4, c5, c6, c7, c8, c9, c10, c11, c12, c13, c14, c15, c16, c17⟩ := Blk18 hN
    clear H2
    cases q2 with
    | false =>
      go_wp2_with fail
      go_ret
      exact ⟨ret_bool (by rw [HB.out]; simp), hbb⟩
    | true =>
      go_wp2_with fail
      refine (H3.out _).mono ?_
      rintro e wq3 ⟨rfl, hb1⟩
      replace hN := hN.below hb1
      replace hbb := hbb.next hb1
      clear hb1
      clear c0 c1 c2 c3 c4 c5 c6 c7 c8 c9 c10 c11 c12 c13 c14 c15 c16 c17
      obtain ⟨c0, c1, c2, c3, c4, c5, c6, c7, c8, c9, c10, c11, c12, c13, c14, c15, c16, c17⟩ := Blk18 hN
      clear H3
      cases q3 with
      | false =>
        go_wp2_with fail
        go_ret
        exact ⟨ret_bool (by rw [HB.out]; simp), hbb⟩
      | true =>
        go_wp2_with (first | (with_reducible refine wpList_load18 hN (by kernel_rfl) _ rfl rfl ?_))
        refine (HBR.out _).mono ?_
        rintro e wB ⟨rfl, hb1⟩
        replace hN := hN.below hb1
        replace hbb := hbb.next hb1
        clear hb1 HBR
        clear c0 c1 c2 c3 c4 c5 c6 c7 c8 c9 c10 c11 c12 c13 c14 c15 c16 c17
        go_upto_region 4 with (first | ((with_reducible refine wpList_store18 (Blk.new _ #[.int .i64 0, .int .i64 0, .int .i64 0, .int .i64 0, .int .i64 0, .int .i64 0, .int .i64 0, .int .i64 0, .int .i64 0, .string ⟨#[]⟩, .string ⟨#[]⟩, .int .i64 0, .int .i64 0, .string ⟨#[]⟩, .int .i64 0, .int .i64 0, .slice none 0 0, .slice none 0 0] 31) (by kernel_rfl) (by kernel_rfl) (by kernel_rfl) rfl _ _ rfl rfl rfl ?_); intro W4 hX hg4))
        obtain ⟨gx, HGX⟩ : ∃ x, wB.heap.size = x := ⟨_, rfl⟩
        have hne : g ≠ gx := by have := hN.lt; omega
        have hne2 : gx ≠ g := fun e => hne e.symm
        have hgx : w.heap.size ≤ gx := by have := hbb.size; omega
        have hbx := alloc_sto hg4
        rw [HGX] at hX ⊢
        replace hN := hN.below hbx
        replace hbb := hbb.next hbx
        clear HGX hbx hg4
        obtain ⟨c0, c1, c2, c3, c4, c5, c6, c7, c8, c9, c10, c11, c12, c13, c14, c15, c16, c17⟩ := Blk18 hN
        go_upto_region 23 with fail
        obtain ⟨x0, x1, x2, x3, x4, x5, x6, x7, x8, x9, x10, x11, x12, x13, x14, x15, x16, x17⟩ := Blk18 hX
        obtain ⟨y0, y1, y2, y3, y4, y5, y6, y7, y8, y9, y10, y11, y12, y13, y14, y15, y16, y17⟩ := Free18 hX
        clear x0 x1 x2 x3 y0 y1 y2 y3
        have hX2 := hX
        have hN2 := hN
        have hb2 := hbb
        replace hX2 : Blk (W4.setCell ⟨gx, 6, none⟩ (.int .i64 num)) gx #[.int .i64 lsn, .int .i64 prev, .int .i64 txn, .int .i64 9, .int .i64 0, .int .i64 0, .int .i64 num, .int .i64 0, .int .i64 0, .string ⟨#[]⟩, .string ⟨#[]⟩, .int .i64 0, .int .i64 0, .string ⟨#[]⟩, .int .i64 0, .int .i64 0, .slice none 0 0, .slice none 0 0] 31 := hX2.set 6 (.int .i64 num)
        replace hN2 : Blk (W4.setCell ⟨gx, 6, none⟩ (.int .i64 num)) g #[.int .i64 lsn, .int .i64 prev, .int .i64 txn, .int .i64 9, .int .i64 page, .int .i64 next, .int .i64 num, .int .i64 ok, .int .i64 os, .string s1, .string s2, .int .i64 how, .int .i64 root, .string s3, .int .i64 rp, .int .i64 rs, .slice ao n1 cap, .slice bo n2 cap2] 31 := hN2.other (a := ⟨gx, 6, none⟩) (by show g ≠ gx; exact hne) (.int .i64 num)
        replace hb2 : Below w.heap.size w (W4.setCell ⟨gx, 6, none⟩ (.int .i64 num)) := hb2.setCell (p := ⟨gx, 6, none⟩) (by show w.heap.size ≤ gx; exact hgx) (.int .i64 num)
        replace hX2 : Blk ((W4.setCell ⟨gx, 6, none⟩ (.int .i64 num)).setCell ⟨gx, 16, none⟩ (.slice ao n1 cap)) gx #[.int .i64 lsn, .int .i64 prev, .int .i64 txn, .int .i64 9, .int .i64 0, .int .i64 0, .int .i64 num, .int .i64 0, .int .i64 0, .string ⟨#[]⟩, .string ⟨#[]⟩, .int .i64 0, .int .i64 0, .string ⟨#[]⟩, .int .i64 0, .int .i64 0, .slice ao n1 cap, .slice none 0 0] 31 := hX2.set 16 (.slice ao n1 cap)
        replace hN2 : Blk ((W4.setCell ⟨gx, 6, none⟩ (.int .i64 num)).setCell ⟨gx, 16, none⟩ (.slice ao n1 cap)) g #[.int .i64 lsn, .int .i64 prev, .int .i64 txn, .int .i64 9, .int .i64 page, .int .i64 next, .int .i64 num, .int .i64 ok, .int .i64 os, .string s1, .string s2, .int .i64 how, .int .i64 root, .string s3, .int .i64 rp, .int .i64 rs, .slice ao n1 cap, .slice bo n2 cap2] 31 := hN2.other (a := ⟨gx, 16, none⟩) (by show g ≠ gx; exact hne) (.slice ao n1 cap)
        replace hb2 : Below w.heap.size w ((W4.setCell ⟨gx, 6, none⟩ (.int .i64 num)).setCell ⟨gx, 16, none⟩ (.slice ao n1 cap)) := hb2.setCell (p := ⟨gx, 16, none⟩) (by show w.heap.size ≤ gx; exact hgx) (.slice ao n1 cap)
        replace hX2 : Blk (((W4.setCell ⟨gx, 6, none⟩ (.int .i64 num)).setCell ⟨gx, 16, none⟩ (.slice ao n1 cap)).setCell ⟨gx, 17, none⟩ (.slice bo n2 cap2)) gx #[.int .i64 lsn, .int .i64 prev, .int .i64 txn, .int .i64 9, .int .i64 0, .int .i64 0, .int .i64 num, .int .i64 0, .int .i64 0, .string ⟨#[]⟩, .string ⟨#[]⟩, .int .i64 0, .int .i64 0, .string ⟨#[]⟩, .int .i64 0, .int .i64 0, .slice ao n1 cap, .slice bo n2 cap2] 31 := hX2.set 17 (.slice bo n2 cap2)
        replace hN2 : Blk (((W4.setCell ⟨gx, 6, none⟩ (.int .i64 num)).setCell ⟨gx, 16, none⟩ (.slice ao n1 cap)).setCell ⟨gx, 17, none⟩ (.slice bo n2 cap2)) g #[.int .i64 lsn, .int .i64 prev, .int .i64 txn, .int .i64 9, .int .i64 page, .int .i64 next, .int .i64 num, .int .i64 ok, .int .i64 os, .string s1, .string s2, .int .i64 how, .int .i64 root, .string s3, .int .i64 rp, .int .i64 rs, .slice ao n1 cap, .slice bo n2 cap2] 31 := hN2.other (a := ⟨gx, 17, none⟩) (by show g ≠ gx; exact hne) (.slice bo n2 cap2)
        replace hb2 : Below w.heap.size w (((W4.setCell ⟨gx, 6, none⟩ (.int .i64 num)).setCell ⟨gx, 16, none⟩ (.slice ao n1 cap)).setCell ⟨gx, 17, none⟩ (.slice bo n2 cap2)) := hb2.setCell (p := ⟨gx, 17, none⟩) (by show w.heap.size ≤ gx; exact hgx) (.slice bo n2 cap2)
        replace hX2 := hX2.drew
        replace hN2 := hN2.drew
        replace hb2 := Below.drew hb2
        replace hX2 := Lib.hid hX2
        replace hN2 := Lib.hid hN2
        replace hb2 := Lib.hid hb2
        clear hX hN hbb
        have hS0 : W4.cell? ⟨g, 6, none⟩ = some (.int .i64 num) ∧ W4.cell? ⟨g, 16, none⟩ = some (.slice ao n1 cap) ∧ W4.cell? ⟨g, 17, none⟩ = some (.slice bo n2 cap2) := ⟨c6, c16, c17⟩
        have hS1 : W4.drew.cell? ⟨g, 6, none⟩ = some (.int .i64 num) ∧ W4.drew.cell? ⟨g, 16, none⟩ = some (.slice ao n1 cap) ∧ W4.drew.cell? ⟨g, 17, none⟩ = some (.slice bo n2 cap2) := ⟨c6, c16, c17⟩
        go_region_held3 (fun w' => w'.cell? ⟨g, 6, none⟩ = some (.int .i64 num) ∧ w'.cell? ⟨g, 16, none⟩ = some (.slice ao n1 cap) ∧ w'.cell? ⟨g, 17, none⟩ = some (.slice bo n2 cap2)) (first | with_reducible exact hS0 | with_reducible exact hS1 | go_keep) (fail)
        go_upto_region 24 with fail
        clear c0 c1 c2 c3 c4 c5 c6 c7 c8 c9 c10 c11 c12 c13 c14 c15 c16 c17
        clear x4 x5 x6 x7 x8 x9 x10 x11 x12 x13 x14 x15 x16 x17 y4 y5 y6 y7 y8 y9 y10 y11 y12 y13 y14 y15 y16 y17 hS0 hS1
        generalize ((((W4.setCell ⟨gx, 6, none⟩ (.int .i64 num)).setCell ⟨gx, 16, none⟩ (.slice ao n1 cap)).setCell ⟨gx, 17, none⟩ (.slice bo n2 cap2))).drew = W5 at hX2 hN2 hb2 ⊢
        replace hX2 := hX2.out
        have hN := hN2.out
        have hbb := hb2.out
        clear hN2 hb2
        go_wp2_with (first | (with_reducible refine wpList_load18 hX2 (by kernel_rfl) _ rfl rfl ?_) | (with_reducible refine wpList_load18 hN (by kernel_rfl) _ rfl rfl ?_))
        refine (HSM.out _ (HV.out.below hbb) (HDV.out.below hbb)).mono ?_
        rintro e w6 ⟨rfl, hb1⟩
        replace hN := hN.below hb1
        replace hbb := hbb.next hb1
        clear hb1 HSM hX2
        cases qs with
        | false =>
          obtain ⟨c0, c1, c2, c3, c4, c5, c6, c7, c8, c9, c10, c11, c12, c13, c14, c15, c16, c17⟩ := Blk18 hN
          go_wp2_with fail
          go_ret
          exact ⟨ret_bool (by rw [HB.out]; simp), hbb⟩
        | true =>
          obtain ⟨c0, c1, c2, c3, c4, c5, c6, c7, c8, c9, c10, c11, c12, c13, c14, c15, c16, c17⟩ := Blk18 hN
          go_wp2_with fail
          refine (HNM.out _).mono ?_
          rintro e wqn ⟨rfl, hb1⟩
          replace hN := hN.below hb1
          replace hbb := hbb.next hb1
          clear hb1
          clear c0 c1 c2 c3 c4 c5 c6 c7 c8 c9 c10 c11 c12 c13 c14 c15 c16 c17
          cases qn with
          | false =>
            obtain ⟨c0, c1, c2, c3, c4, c5, c6, c7, c8, c9, c10, c11, c12, c13, c14, c15, c16, c17⟩ := Blk18 hN
            go_wp2_with fail
            go_ret
            exact ⟨ret_bool (by rw [HB.out]; simp), hbb⟩
          | true =>
            go_wp2_with (first | (with_reducible refine wpList_load18 hN (by kernel_rfl) _ rfl rfl ?_))
            refine (HLI.out _ (HV.out.below hbb) (HDV.out.below hbb)).mono ?_
            rintro e w9 ⟨rfl, hb9⟩
            go_wp2_with fail
            go_ret
            exact ⟨ret_bool (by rw [HB.out]; simp), hbb.next hb9⟩
theorem rr_out (lsn prev txn kind page next num ok os : Int) (old new : List UInt8) (how root : Int) (key : List UInt8) (rp rs : Int) (txns : List Tx) (dirty : List Dy) (hk : isF kind = false) : rightR (Rc.mk lsn prev txn kind page next num ok os old new how root key rp rs txns dirty) = false := by
  simp only [rightR, hk, Bool.false_and]
set_option maxHeartbeats 8000000 in
set_option maxRecDepth 100000 in
theorem rright_out (lsn prev txn kind page next num ok os : Int) (old new : List UInt8) (how root : Int) (key : List UInt8) (rp rs : Int) (txns : List Tx) (dirty : List Dy) (vt vd : Value) (w : World) (hv : ElAt w 4 vt (txC txns)) (hd : ElAt w 2 vd (dyC dirty)) (hs : txns.length ≤ 100000) (hs2 : dirty.length ≤ 100000) (hk : isF kind = false) :
    Calls Try.prog 14 #[.agg (rcC (Rc.mk lsn prev txn kind page next num ok os old new how root key rp rs txns dirty) vt vd)] w (Ret (.bool (rightR (Rc.mk lsn prev txn kind page next num ok os old new how root key rp rs txns dirty))) w) := by
  have HB := rr_out lsn prev txn kind page next num ok os old new how root key rp rs txns dirty hk
  obtain ⟨R, hR⟩ : ∃ R, rightR (Rc.mk lsn prev txn kind page next num ok os old new how root key rp rs txns dirty) = R := ⟨_, rfl⟩
  rw [hR] at HB ⊢
  clear hR
  have HV := Lib.hid hv
  have HDV := Lib.hid hd
  obtain ⟨ao, cap, hva⟩ := hv.nil
  obtain ⟨bo, cap2, hvb⟩ := hd.nil
  obtain ⟨n1, hn1⟩ : ∃ n, (txC txns).length = n := ⟨_, rfl⟩
  obtain ⟨n2, hn2⟩ : ∃ n, (dyC dirty).length = n := ⟨_, rfl⟩
  rw [hn1] at hva
  rw [hn2] at hvb
  subst hva hvb
  clear hv hd hn1 hn2 hs hs2 HV HDV
  have hK : kind < 1 ∨ 9 < kind := by simp only [isF, Bool.and_eq_false_iff, decide_eq_false_iff_not] at hk; omega
  clear hk
  simp only [rcC, S_nil0]
  obtain ⟨s1, e1⟩ : ∃ x, S old = x := ⟨_, rfl⟩
  obtain ⟨s2, e2⟩ : ∃ x, S new = x := ⟨_, rfl⟩
  obtain ⟨s3, e3⟩ : ∃ x, S key = x := ⟨_, rfl⟩
  simp only [e1, e2, e3]
  replace hK := Lib.hid hK
  clear e1 e2 e3
  have H1 := Lib.hid (fun W => rnumber_any lsn W)
  have H2 := Lib.hid (fun W => rnumber_any prev W)
  have H3 := Lib.hid (fun W => rnumber_any txn W)
  obtain ⟨q1, hq1⟩ : ∃ q, numB lsn = q := ⟨_, rfl⟩
  obtain ⟨q2, hq2⟩ : ∃ q, numB prev = q := ⟨_, rfl⟩
  obtain ⟨q3, hq3⟩ : ∃ q, numB txn = q := ⟨_, rfl⟩
  rw [hq1] at H1
  rw [hq2] at H2
  rw [hq3] at H3
  replace HB := Lib.hid HB
  clear hq1 hq2 hq3
  have HBR := Lib.hid (fun W => rbare_any lsn prev txn kind (.int .i64 page) (.int .i64 next) (.int .i64 num) (.int .i64 ok) (.int .i64 os) (.string s1) (.string s2) (.int .i64 how) (.int .i64 root) (.string s3) (.int .i64 rp) (.int .i64 rs) (.slice ao n1 cap) (.slice bo n2 cap2) W)
  have hN := Blk.new w #[.int .i64 lsn, .int .i64 prev, .int .i64 txn, .int .i64 kind, .int .i64 page, .int .i64 next, .int .i64 num, .int .i64 ok, .int .i64 os, .string s1, .string s2, .int .i64 how, .int .i64 root, .string s3, .int .i64 rp, .int .i64 rs, .slice ao n1 cap, .slice bo n2 cap2] 31
  have hbb := (Below.refl w.heap.size w).alloc (Nat.le_refl _) (.cells #[.int .i64 lsn, .int .i64 prev, .int .i64 txn, .int .i64 kind, .int .i64 page, .int .i64 next, .int .i64 num, .int .i64 ok, .int .i64 os, .string s1, .string s2, .int .i64 how, .int .i64 root, .string s3, .int .i64 rp, .int .i64 rs, .slice ao n1 cap, .slice bo n2 cap2] 31)
  go_enter Try.func14, Try.ntmps14
  go_upto_region 1 with fail
  obtain ⟨g, HG⟩ : ∃ x, w.heap.size = x := ⟨_, rfl⟩
  have hgw : w.heap.size ≤ g := by omega
  rw [HG] at hN ⊢
  clear HG
  generalize (w.alloc (.cells #[.int .i64 lsn, .int .i64 prev, .int .i64 txn, .int .i64 kind, .int .i64 page, .int .i64 next, .int .i64 num, .int .i64 ok, .int .i64 os, .string s1, .string s2, .int .i64 how, .int .i64 root, .string s3, .int .i64 rp, .int .i64 rs, .slice ao n1 cap, .slice bo n2 cap2] 31)) = W at hN hbb ⊢
  obtain ⟨c0, c1, c2, c3, c4, c5, c6, c7, c8, c9, c10, c11, c12, c13, c14, c15, c16, c17⟩ := Blk18 hN
  go_wp2_with fail
  refine (H1.out _).mono ?_
  rintro e wq1 ⟨rfl, hb1⟩
  replace hN := hN.below hb1
  replace hbb := hbb.next hb1
  clear hb1
  clear c0 c1 c2 c3 c4 c5 c6 c7 c8 c9 c10 c11 c12 c13 c14 c15 c16 c17
  obtain ⟨c0, c1, c2, c3, c4, c5, c6, c7, c8, c9, c10, c11, c12, c13, c14, c15, c16, c17⟩ := Blk18 hN
  clear H1
  cases q1 with
  | false =>
    go_wp2_with fail
    go_ret
    exact ⟨ret_bool (by rw [HB.out]), hbb⟩
  | true =>
    go_wp2_with fail
    refine (H2.out _).mono ?_
    rintro e wq2 ⟨rfl, hb1⟩
    replace hN := hN.below hb1
    replace hbb := hbb.next hb1
    clear hb1
    clear c0 c1 c2 c3 c4 c5 c6 c7 c8 c9 c10 c11 c12 c13 c14 c15 c16 c17
    obtain ⟨c0, c1, c2, c3, c4, c5, c6, c7, c8, c9, c10, c11, c12, c13, c14, c15, c16, c17⟩ := Blk18 hN
    clear H2
    cases q2 with
    | false =>
      go_wp2_with fail
      go_ret
      exact ⟨ret_bool (by rw [HB.out]), hbb⟩
    | true =>
      go_wp2_with fail
      refine (H3.out _).mono ?_
      rintro e wq3 ⟨rfl, hb1⟩
      replace hN := hN.below hb1
      replace hbb := hbb.next hb1
      clear hb1
      clear c0 c1 c2 c3 c4 c5 c6 c7 c8 c9 c10 c11 c12 c13 c14 c15 c16 c17
      obtain ⟨c0, c1, c2, c3, c4, c5, c6, c7, c8, c9, c10, c11, c12, c13, c14, c15, c16, c17⟩ := Blk18 hN
      clear H3
      cases q3 with
      | false =>
        go_wp2_with fail
        go_ret
        exact ⟨ret_bool (by rw [HB.out]), hbb⟩
      | true =>
        go_wp2_with (first | (with_reducible refine wpList_load18 hN (by kernel_rfl) _ rfl rfl ?_))
        refine (HBR.out _).mono ?_
        rintro e wB ⟨rfl, hb1⟩
        replace hN := hN.below hb1
        replace hbb := hbb.next hb1
        clear hb1 HBR
        clear c0 c1 c2 c3 c4 c5 c6 c7 c8 c9 c10 c11 c12 c13 c14 c15 c16 c17
        go_upto_region 4 with (first | ((with_reducible refine wpList_store18 (Blk.new _ #[.int .i64 0, .int .i64 0, .int .i64 0, .int .i64 0, .int .i64 0, .int .i64 0, .int .i64 0, .int .i64 0, .int .i64 0, .string ⟨#[]⟩, .string ⟨#[]⟩, .int .i64 0, .int .i64 0, .string ⟨#[]⟩, .int .i64 0, .int .i64 0, .slice none 0 0, .slice none 0 0] 31) (by kernel_rfl) (by kernel_rfl) (by kernel_rfl) rfl _ _ rfl rfl rfl ?_); intro W4 hX hg4))
        obtain ⟨gx, HGX⟩ : ∃ x, wB.heap.size = x := ⟨_, rfl⟩
        have hne : g ≠ gx := by have := hN.lt; omega
        have hne2 : gx ≠ g := fun e => hne e.symm
        have hgx : w.heap.size ≤ gx := by have := hbb.size; omega
        have hbx := alloc_sto hg4
        rw [HGX] at hX ⊢
        replace hN := hN.below hbx
        replace hbb := hbb.next hbx
        clear HGX hbx hg4
        obtain ⟨c0, c1, c2, c3, c4, c5, c6, c7, c8, c9, c10, c11, c12, c13, c14, c15, c16, c17⟩ := Blk18 hN
        have d1 : (kind == 1) = false := by have := hK.out; simp only [beq_eq_false_iff_ne]; omega
        have d5 : (kind == 5) = false := by have := hK.out; simp only [beq_eq_false_iff_ne]; omega
        have d6 : (kind == 6) = false := by have := hK.out; simp only [beq_eq_false_iff_ne]; omega
        have d7 : (kind == 7) = false := by have := hK.out; simp only [beq_eq_false_iff_ne]; omega
        have d2 : (kind == 2) = false := by have := hK.out; simp only [beq_eq_false_iff_ne]; omega
        have d3 : (kind == 3) = false := by have := hK.out; simp only [beq_eq_false_iff_ne]; omega
        have d4 : (kind == 4) = false := by have := hK.out; simp only [beq_eq_false_iff_ne]; omega
        have d8 : (kind == 8) = false := by have := hK.out; simp only [beq_eq_false_iff_ne]; omega
        have d9 : (kind == 9) = false := by have := hK.out; simp only [beq_eq_false_iff_ne]; omega
        go_wp2_with fail
        go_ret
        exact ⟨ret_bool (by rw [HB.out]), hbb⟩
theorem rright_any (r : Rc) (vt vd : Value) (w : World) (hv : ElAt w 4 vt (txC r.txns)) (hd : ElAt w 2 vd (dyC r.dirty)) (hs : r.txns.length ≤ 100000) (hs2 : r.dirty.length ≤ 100000) :
    Calls Try.prog 14 #[.agg (rcC r vt vd)] w (Ret (.bool (rightR r)) w) := by
  obtain ⟨lsn, prev, txn, kind, page, next, num, ok, os, old, new, how, root, key, rp, rs, txns, dirty⟩ := r
  by_cases hk : isF kind = false
  · exact rright_out lsn prev txn kind page next num ok os old new how root key rp rs txns dirty vt vd w hv hd hs hs2 hk
  · have h : 1 ≤ kind ∧ kind ≤ 9 := by simpa [isF] using hk
    have h9 : kind = 1 ∨ kind = 2 ∨ kind = 3 ∨ kind = 4 ∨ kind = 5 ∨ kind = 6 ∨ kind = 7 ∨ kind = 8 ∨ kind = 9 := by omega
    rcases h9 with rfl | rfl | rfl | rfl | rfl | rfl | rfl | rfl | rfl
    · exact rright_1 lsn prev txn page next num ok os old new how root key rp rs txns dirty vt vd w hv hd hs hs2
    · exact rright_2 lsn prev txn page next num ok os old new how root key rp rs txns dirty vt vd w hv hd hs hs2
    · exact rright_3 lsn prev txn page next num ok os old new how root key rp rs txns dirty vt vd w hv hd hs hs2
    · exact rright_4 lsn prev txn page next num ok os old new how root key rp rs txns dirty vt vd w hv hd hs hs2
    · exact rright_5 lsn prev txn page next num ok os old new how root key rp rs txns dirty vt vd w hv hd hs hs2
    · exact rright_6 lsn prev txn page next num ok os old new how root key rp rs txns dirty vt vd w hv hd hs hs2
    · exact rright_7 lsn prev txn page next num ok os old new how root key rp rs txns dirty vt vd w hv hd hs hs2
    · exact rright_8 lsn prev txn page next num ok os old new how root key rp rs txns dirty vt vd w hv hd hs hs2
    · exact rright_9 lsn prev txn page next num ok os old new how root key rp rs txns dirty vt vd w hv hd hs hs2

end Go.Proofs.Ytloengjcniefgaa.Rec
