/- The reference: op, body: a right record's bytes. Bytes that began as '[]byte(s)': texts appended to them, read as a text. Over any program. The reference: check: a checkpoint's bytes. The reference: body whole; Put. The reference: Get: what it answers of any bytes. -/
import Derived.Test.YtloengjcniefgaaMrgC
import Derived.Test.YtloengjcniefgaaKitT
import Derived.Test.YtloengjcniefgaaKitA
import Derived.Test.YtloengjcniefgaaKitW
import Derived.Test.YtloengjcniefgaaOctP
import Derived.Lib.AppendStr
import Derived.Deep.MidRow
import Derived.Test.YtloengjcniefgaaRecL
import Derived.Test.YtloengjcniefgaaRecM
import Derived.Test.YtloengjcniefgaaRecU
import Derived.Test.YtloengjcniefgaaMrgA
import Derived.Test.YtloengjcniefgaaRecX
namespace Go.Proofs.Ytloengjcniefgaa.Rec
set_option linter.unusedVariables false
set_option linter.unusedSimpArgs false
open Go.RowKit Go.Sort
open Oct (S beN putL U I getI sumN S_size S_data)
theorem textL_z (t : List UInt8) : (textL t).length ≤ 65537 := by
  rw [textL, List.length_append, Oct.putL_length, List.length_take]
  omega
theorem rtext_at (l : List UInt8) (s : ByteArray) (h : S l = s) (hl : l.length ≤ 65535) (w : World) : Calls Try.prog 53 #[.string s] w (Ret (.string (S (textL l))) w) := by
  have := rputtext_any s w (by rw [← h, S_size]; unfold maxLen; omega)
  rwa [← h, S_data, h] at this
theorem name_put (n : Int) (k : Nat) : ∃ a : ByteArray, S (putL (U n) k) = a ∧ a.size = k := ⟨_, rfl, by rw [S_size, Oct.putL_length]⟩
theorem name_text (l : List UInt8) : ∃ a : ByteArray, S (textL l) = a ∧ a.size ≤ 65537 := ⟨_, rfl, by rw [S_size]; exact textL_z l⟩
set_option maxHeartbeats 2000000 in
set_option maxRecDepth 100000 in
theorem rstr_op (k s : Int) (o n : List UInt8) (so sn : ByteArray) (ho : S o = so) (hn : S n = sn) (hlo : o.length ≤ 65535) (hln : n.length ≤ 65535) (w : World) :
    Calls Try.prog 52 #[.agg #[.int .i64 k, .int .i64 s, .string so, .string sn]] w (Ret (.string (S (putL (U k) 1 ++ putL (U s) 2 ++ textL o ++ textL n))) w) := by
  have HP1 := Lib.hid (fun W => rput_at k 1 1 rfl (by omega) W)
  have HP2 := Lib.hid (fun W => rput_at s 2 2 rfl (by omega) W)
  have HT1 := Lib.hid (fun W => rtext_at o so ho hlo W)
  have HT2 := Lib.hid (fun W => rtext_at n sn hn hln W)
  rw [← Oct.S_append, ← Oct.S_append, ← Oct.S_append]
  obtain ⟨a1, e1, z1⟩ := name_put k 1
  obtain ⟨a2, e2, z2⟩ := name_put s 2
  obtain ⟨a3, e3, z3⟩ := name_text o
  obtain ⟨a4, e4, z4⟩ := name_text n
  rw [e1] at HP1
  rw [e2] at HP2
  rw [e3] at HT1
  rw [e4] at HT2
  rw [e1, e2, e3, e4]
  clear e1 e2 e3 e4 ho hn hlo hln
  have z12 : (a1 ++ a2).size ≤ 100 := by rw [ByteArray.size_append]; omega
  have z123 : (a1 ++ a2 ++ a3).size ≤ 100000 := by rw [ByteArray.size_append]; omega
  have hN := Blk.new w #[.int .i64 k, .int .i64 s, .string so, .string sn] 23
  have hbb := (Below.refl w.heap.size w).alloc (Nat.le_refl _) (.cells #[.int .i64 k, .int .i64 s, .string so, .string sn] 23)
  go_enter Try.func52, Try.ntmps52
  go_upto_region 1 with fail
  generalize (w.alloc (.cells #[.int .i64 k, .int .i64 s, .string so, .string sn] 23)) = W at hN hbb ⊢
  obtain ⟨⟨c0, c1, c2, c3⟩, _⟩ := Blk4 hN
  have f0 : ∀ p : Regrown, (grow (redrawn W p.d) p.os).cell? ⟨w.heap.size, 0, none⟩ = some (.int .i64 k) := fun q => cell_regrown c0 q.d q.os
  have f1 : ∀ p : Regrown, (grow (redrawn W p.d) p.os).cell? ⟨w.heap.size, 1, none⟩ = some (.int .i64 s) := fun q => cell_regrown c1 q.d q.os
  have f2 : ∀ p : Regrown, (grow (redrawn W p.d) p.os).cell? ⟨w.heap.size, 2, none⟩ = some (.string so) := fun q => cell_regrown c2 q.d q.os
  have f3 : ∀ p : Regrown, (grow (redrawn W p.d) p.os).cell? ⟨w.heap.size, 3, none⟩ = some (.string sn) := fun q => cell_regrown c3 q.d q.os
  clear c0 c1 c2 c3 hN
  refine wp_region_quiet_below (by kernel_rfl) (by kernel_rfl) ?_
  repeat (go_big_quiet_step (first | (go_at_call 21; with_reducible exact Ret.regrown (HP1.out _)) | (go_at_call 21; with_reducible exact Ret.regrown (HP2.out _)) | (go_at_call 53; with_reducible exact Ret.regrown (HT1.out _)) | (go_at_call 53; with_reducible exact Ret.regrown (HT2.out _))))
  refine wpQuiet_nil ?_
  intro w5 hw5
  have hb5 := hbb.next (below_of_regrown hw5)
  clear hw5 f0 f1 f2 f3
  go_wp2_with fail
  go_ret
  exact ⟨rfl, hb5⟩
set_option maxHeartbeats 4000000 in
set_option maxRecDepth 100000 in
theorem rbody_1 (lsn prev txn page next num ok os : Int) (old new : List UInt8) (how root : Int) (key : List UInt8) (rp rs : Int) (txns : List Tx) (dirty : List Dy) (vt vd : Value) (w : World) (hv : ElAt w 4 vt (txC txns)) (hd : ElAt w 2 vd (dyC dirty)) (hlo : old.length ≤ 65535) (hln : new.length ≤ 65535) (hlk : key.length ≤ 65535) :
    Calls Try.prog 20 #[.agg (rcC (Rc.mk lsn prev txn 1 page next num ok os old new how root key rp rs txns dirty) vt vd)] w (Ret (.string (S (bodyL (Rc.mk lsn prev txn 1 page next num ok os old new how root key rp rs txns dirty)))) w) := by
  obtain ⟨ao, cap, rfl⟩ := hv.nil
  obtain ⟨bo, cap2, rfl⟩ := hd.nil
  clear hv hd
  have HP1 := Lib.hid (fun W => rput_at 1 1 1 rfl (by omega) W)
  have HP2 := Lib.hid (fun W => rput_at lsn 6 6 rfl (by omega) W)
  have HP3 := Lib.hid (fun W => rput_at prev 6 6 rfl (by omega) W)
  have HP4 := Lib.hid (fun W => rput_at txn 6 6 rfl (by omega) W)
  have HBO : Hid (S (bodyL (Rc.mk lsn prev txn 1 page next num ok os old new how root key rp rs txns dirty)) = S (putL (U 1) 1 ++ putL (U lsn) 6 ++ putL (U prev) 6 ++ putL (U txn) 6)) := by
    show _ = _
    refine congrArg S ?_
    show headL (Rc.mk lsn prev txn 1 page next num ok os old new how root key rp rs txns dirty) ++ [] ++ [] ++ [] ++ [] = _
    
    simp only [headL, chL, neL, hoL, List.append_assoc, List.append_nil, List.nil_append, if_true]
  obtain ⟨F, hF⟩ : ∃ F, S (bodyL (Rc.mk lsn prev txn 1 page next num ok os old new how root key rp rs txns dirty)) = F := ⟨_, rfl⟩
  rw [hF] at HBO ⊢
  clear hF
  simp only [rcC]
  obtain ⟨s1, e1⟩ : ∃ x, S old = x := ⟨_, rfl⟩
  obtain ⟨s2, e2⟩ : ∃ x, S new = x := ⟨_, rfl⟩
  obtain ⟨s3, e3⟩ : ∃ x, S key = x := ⟨_, rfl⟩
  obtain ⟨n1, hn1⟩ : ∃ n, (txC txns).length = n := ⟨_, rfl⟩
  obtain ⟨n2, hn2⟩ : ∃ n, (dyC dirty).length = n := ⟨_, rfl⟩
  rw [e1, e2, e3, hn1, hn2]
  clear e1 e2 e3 hn1 hn2
  replace HBO := HBO.out
  simp only [← Oct.S_append] at HBO
  obtain ⟨a1, e1, z1⟩ := name_put 1 1
  obtain ⟨a2, e2, z2⟩ := name_put lsn 6
  obtain ⟨a3, e3, z3⟩ := name_put prev 6
  obtain ⟨a4, e4, z4⟩ := name_put txn 6
  rw [e1] at HBO HP1
  rw [e2] at HBO HP2
  rw [e3] at HBO HP3
  rw [e4] at HBO HP4
  replace HBO := Lib.hid HBO
  clear e1 e2 e3 e4 hlo hln hlk
  have z12 : (a1 ++ a2).size ≤ 20 := by rw [ByteArray.size_append]; omega
  have z123 : (a1 ++ a2 ++ a3).size ≤ 40 := by rw [ByteArray.size_append]; omega
  have z1234 : (a1 ++ a2 ++ a3 ++ a4).size ≤ 60 := by rw [ByteArray.size_append]; omega
  have hN := Blk.new w #[.int .i64 lsn, .int .i64 prev, .int .i64 txn, .int .i64 1, .int .i64 page, .int .i64 next, .int .i64 num, .int .i64 ok, .int .i64 os, .string s1, .string s2, .int .i64 how, .int .i64 root, .string s3, .int .i64 rp, .int .i64 rs, .slice ao n1 cap, .slice bo n2 cap2] 31
  have hbb := (Below.refl w.heap.size w).alloc (Nat.le_refl _) (.cells #[.int .i64 lsn, .int .i64 prev, .int .i64 txn, .int .i64 1, .int .i64 page, .int .i64 next, .int .i64 num, .int .i64 ok, .int .i64 os, .string s1, .string s2, .int .i64 how, .int .i64 root, .string s3, .int .i64 rp, .int .i64 rs, .slice ao n1 cap, .slice bo n2 cap2] 31)
  go_enter Try.func20, Try.ntmps20
  go_upto_region 1 with fail
  obtain ⟨g, HG⟩ : ∃ x, w.heap.size = x := ⟨_, rfl⟩
  rw [HG] at hN hbb ⊢
  generalize (w.alloc (.cells #[.int .i64 lsn, .int .i64 prev, .int .i64 txn, .int .i64 1, .int .i64 page, .int .i64 next, .int .i64 num, .int .i64 ok, .int .i64 os, .string s1, .string s2, .int .i64 how, .int .i64 root, .string s3, .int .i64 rp, .int .i64 rs, .slice ao n1 cap, .slice bo n2 cap2] 31)) = W at hN hbb ⊢
  have f0 : ∀ p : Regrown, (grow (redrawn W p.d) p.os).cell? ⟨g, 0, none⟩ = some (.int .i64 lsn) := fun q => cell_regrown (hN.cell 0 (v := .int .i64 lsn) rfl) q.d q.os
  have f1 : ∀ p : Regrown, (grow (redrawn W p.d) p.os).cell? ⟨g, 1, none⟩ = some (.int .i64 prev) := fun q => cell_regrown (hN.cell 1 (v := .int .i64 prev) rfl) q.d q.os
  have f2 : ∀ p : Regrown, (grow (redrawn W p.d) p.os).cell? ⟨g, 2, none⟩ = some (.int .i64 txn) := fun q => cell_regrown (hN.cell 2 (v := .int .i64 txn) rfl) q.d q.os
  have f3 : ∀ p : Regrown, (grow (redrawn W p.d) p.os).cell? ⟨g, 3, none⟩ = some (.int .i64 1) := fun q => cell_regrown (hN.cell 3 (v := .int .i64 1) rfl) q.d q.os
  refine wp_region_quiet_below (by kernel_rfl) (by kernel_rfl) ?_
  repeat (go_big_quiet_step (first | (go_at_call 21; with_reducible exact Ret.regrown (HP1.out _)) | (go_at_call 21; with_reducible exact Ret.regrown (HP2.out _)) | (go_at_call 21; with_reducible exact Ret.regrown (HP3.out _)) | (go_at_call 21; with_reducible exact Ret.regrown (HP4.out _))))
  refine wpQuiet_nil ?_
  intro w5 hw5
  have hbx := below_of_regrown hw5
  replace hN := hN.below hbx
  replace hbb := Below.trans hbb (hbx.mono (by have := hbb.size; omega))
  clear hw5 hbx f0 f1 f2 f3
  generalize hhs : a1 ++ a2 ++ a3 ++ a4 = hs at z1234 HBO ⊢
  clear hhs z1 z2 z3 z4 HP1 HP2 HP3 HP4
  obtain ⟨c0, c1, c2, c3, c4, c5, c6, c7, c8, c9, c10, c11, c12, c13, c14, c15, c16, c17⟩ := Blk18 hN
  go_wp2_with fail
  go_ret
  exact ⟨ret_str (by rw [HBO.out]), by rw [← HG] at hbb; exact hbb⟩
set_option maxHeartbeats 4000000 in
set_option maxRecDepth 100000 in
theorem rbody_5 (lsn prev txn page next num ok os : Int) (old new : List UInt8) (how root : Int) (key : List UInt8) (rp rs : Int) (txns : List Tx) (dirty : List Dy) (vt vd : Value) (w : World) (hv : ElAt w 4 vt (txC txns)) (hd : ElAt w 2 vd (dyC dirty)) (hlo : old.length ≤ 65535) (hln : new.length ≤ 65535) (hlk : key.length ≤ 65535) :
    Calls Try.prog 20 #[.agg (rcC (Rc.mk lsn prev txn 5 page next num ok os old new how root key rp rs txns dirty) vt vd)] w (Ret (.string (S (bodyL (Rc.mk lsn prev txn 5 page next num ok os old new how root key rp rs txns dirty)))) w) := by
  obtain ⟨ao, cap, rfl⟩ := hv.nil
  obtain ⟨bo, cap2, rfl⟩ := hd.nil
  clear hv hd
  have HP1 := Lib.hid (fun W => rput_at 5 1 1 rfl (by omega) W)
  have HP2 := Lib.hid (fun W => rput_at lsn 6 6 rfl (by omega) W)
  have HP3 := Lib.hid (fun W => rput_at prev 6 6 rfl (by omega) W)
  have HP4 := Lib.hid (fun W => rput_at txn 6 6 rfl (by omega) W)
  have HBO : Hid (S (bodyL (Rc.mk lsn prev txn 5 page next num ok os old new how root key rp rs txns dirty)) = S (putL (U 5) 1 ++ putL (U lsn) 6 ++ putL (U prev) 6 ++ putL (U txn) 6)) := by
    show _ = _
    refine congrArg S ?_
    show headL (Rc.mk lsn prev txn 5 page next num ok os old new how root key rp rs txns dirty) ++ [] ++ [] ++ [] ++ [] = _
    
    simp only [headL, chL, neL, hoL, List.append_assoc, List.append_nil, List.nil_append, if_true]
  obtain ⟨F, hF⟩ : ∃ F, S (bodyL (Rc.mk lsn prev txn 5 page next num ok os old new how root key rp rs txns dirty)) = F := ⟨_, rfl⟩
  rw [hF] at HBO ⊢
  clear hF
  simp only [rcC]
  obtain ⟨s1, e1⟩ : ∃ x, S old = x := ⟨_, rfl⟩
  obtain ⟨s2, e2⟩ : ∃ x, S new = x := ⟨_, rfl⟩
  obtain ⟨s3, e3⟩ : ∃ x, S key = x := ⟨_, rfl⟩
  obtain ⟨n1, hn1⟩ : ∃ n, (txC txns).length = n := ⟨_, rfl⟩
  obtain ⟨n2, hn2⟩ : ∃ n, (dyC dirty).length = n := ⟨_, rfl⟩
  rw [e1, e2, e3, hn1, hn2]
  clear e1 e2 e3 hn1 hn2
  replace HBO := HBO.out
  simp only [← Oct.S_append] at HBO
  obtain ⟨a1, e1, z1⟩ := name_put 5 1
  obtain ⟨a2, e2, z2⟩ := name_put lsn 6
  obtain ⟨a3, e3, z3⟩ := name_put prev 6
  obtain ⟨a4, e4, z4⟩ := name_put txn 6
  rw [e1] at HBO HP1
  rw [e2] at HBO HP2
  rw [e3] at HBO HP3
  rw [e4] at HBO HP4
  replace HBO := Lib.hid HBO
  clear e1 e2 e3 e4 hlo hln hlk
  have z12 : (a1 ++ a2).size ≤ 20 := by rw [ByteArray.size_append]; omega
  have z123 : (a1 ++ a2 ++ a3).size ≤ 40 := by rw [ByteArray.size_append]; omega
  have z1234 : (a1 ++ a2 ++ a3 ++ a4).size ≤ 60 := by rw [ByteArray.size_append]; omega
  have hN := Blk.new w #[.int .i64 lsn, .int .i64 prev, .int .i64 txn, .int .i64 5, .int .i64 page, .int .i64 next, .int .i64 num, .int .i64 ok, .int .i64 os, .string s1, .string s2, .int .i64 how, .int .i64 root, .string s3, .int .i64 rp, .int .i64 rs, .slice ao n1 cap, .slice bo n2 cap2] 31
  have hbb := (Below.refl w.heap.size w).alloc (Nat.le_refl _) (.cells #[.int .i64 lsn, .int .i64 prev, .int .i64 txn, .int .i64 5, .int .i64 page, .int .i64 next, .int .i64 num, .int .i64 ok, .int .i64 os, .string s1, .string s2, .int .i64 how, .int .i64 root, .string s3, .int .i64 rp, .int .i64 rs, .slice ao n1 cap, .slice bo n2 cap2] 31)
  go_enter Try.func20, Try.ntmps20
  go_upto_region 1 with fail
  obtain ⟨g, HG⟩ : ∃ x, w.heap.size = x := ⟨_, rfl⟩
  rw [HG] at hN hbb ⊢
  generalize (w.alloc (.cells #[.int .i64 lsn, .int .i64 prev, .int .i64 txn, .int .i64 5, .int .i64 page, .int .i64 next, .int .i64 num, .int .i64 ok, .int .i64 os, .string s1, .string s2, .int .i64 how, .int .i64 root, .string s3, .int .i64 rp, .int .i64 rs, .slice ao n1 cap, .slice bo n2 cap2] 31)) = W at hN hbb ⊢
  have f0 : ∀ p : Regrown, (grow (redrawn W p.d) p.os).cell? ⟨g, 0, none⟩ = some (.int .i64 lsn) := fun q => cell_regrown (hN.cell 0 (v := .int .i64 lsn) rfl) q.d q.os
  have f1 : ∀ p : Regrown, (grow (redrawn W p.d) p.os).cell? ⟨g, 1, none⟩ = some (.int .i64 prev) := fun q => cell_regrown (hN.cell 1 (v := .int .i64 prev) rfl) q.d q.os
  have f2 : ∀ p : Regrown, (grow (redrawn W p.d) p.os).cell? ⟨g, 2, none⟩ = some (.int .i64 txn) := fun q => cell_regrown (hN.cell 2 (v := .int .i64 txn) rfl) q.d q.os
  have f3 : ∀ p : Regrown, (grow (redrawn W p.d) p.os).cell? ⟨g, 3, none⟩ = some (.int .i64 5) := fun q => cell_regrown (hN.cell 3 (v := .int .i64 5) rfl) q.d q.os
  refine wp_region_quiet_below (by kernel_rfl) (by kernel_rfl) ?_
  repeat (go_big_quiet_step (first | (go_at_call 21; with_reducible exact Ret.regrown (HP1.out _)) | (go_at_call 21; with_reducible exact Ret.regrown (HP2.out _)) | (go_at_call 21; with_reducible exact Ret.regrown (HP3.out _)) | (go_at_call 21; with_reducible exact Ret.regrown (HP4.out _))))
  refine wpQuiet_nil ?_
  intro w5 hw5
  have hbx := below_of_regrown hw5
  replace hN := hN.below hbx
  replace hbb := Below.trans hbb (hbx.mono (by have := hbb.size; omega))
  clear hw5 hbx f0 f1 f2 f3
  generalize hhs : a1 ++ a2 ++ a3 ++ a4 = hs at z1234 HBO ⊢
  clear hhs z1 z2 z3 z4 HP1 HP2 HP3 HP4
  obtain ⟨c0, c1, c2, c3, c4, c5, c6, c7, c8, c9, c10, c11, c12, c13, c14, c15, c16, c17⟩ := Blk18 hN
  go_wp2_with fail
  go_ret
  exact ⟨ret_str (by rw [HBO.out]), by rw [← HG] at hbb; exact hbb⟩
set_option maxHeartbeats 4000000 in
set_option maxRecDepth 100000 in
theorem rbody_6 (lsn prev txn page next num ok os : Int) (old new : List UInt8) (how root : Int) (key : List UInt8) (rp rs : Int) (txns : List Tx) (dirty : List Dy) (vt vd : Value) (w : World) (hv : ElAt w 4 vt (txC txns)) (hd : ElAt w 2 vd (dyC dirty)) (hlo : old.length ≤ 65535) (hln : new.length ≤ 65535) (hlk : key.length ≤ 65535) :
    Calls Try.prog 20 #[.agg (rcC (Rc.mk lsn prev txn 6 page next num ok os old new how root key rp rs txns dirty) vt vd)] w (Ret (.string (S (bodyL (Rc.mk lsn prev txn 6 page next num ok os old new how root key rp rs txns dirty)))) w) := by
  obtain ⟨ao, cap, rfl⟩ := hv.nil
  obtain ⟨bo, cap2, rfl⟩ := hd.nil
  clear hv hd
  have HP1 := Lib.hid (fun W => rput_at 6 1 1 rfl (by omega) W)
  have HP2 := Lib.hid (fun W => rput_at lsn 6 6 rfl (by omega) W)
  have HP3 := Lib.hid (fun W => rput_at prev 6 6 rfl (by omega) W)
  have HP4 := Lib.hid (fun W => rput_at txn 6 6 rfl (by omega) W)
  have HBO : Hid (S (bodyL (Rc.mk lsn prev txn 6 page next num ok os old new how root key rp rs txns dirty)) = S (putL (U 6) 1 ++ putL (U lsn) 6 ++ putL (U prev) 6 ++ putL (U txn) 6)) := by
    show _ = _
    refine congrArg S ?_
    show headL (Rc.mk lsn prev txn 6 page next num ok os old new how root key rp rs txns dirty) ++ [] ++ [] ++ [] ++ [] = _
    
    simp only [headL, chL, neL, hoL, List.append_assoc, List.append_nil, List.nil_append, if_true]
  obtain ⟨F, hF⟩ : ∃ F, S (bodyL (Rc.mk lsn prev txn 6 page next num ok os old new how root key rp rs txns dirty)) = F := ⟨_, rfl⟩
  rw [hF] at HBO ⊢
  clear hF
  simp only [rcC]
  obtain ⟨s1, e1⟩ : ∃ x, S old = x := ⟨_, rfl⟩
  obtain ⟨s2, e2⟩ : ∃ x, S new = x := ⟨_, rfl⟩
  obtain ⟨s3, e3⟩ : ∃ x, S key = x := ⟨_, rfl⟩
  obtain ⟨n1, hn1⟩ : ∃ n, (txC txns).length = n := ⟨_, rfl⟩
  obtain ⟨n2, hn2⟩ : ∃ n, (dyC dirty).length = n := ⟨_, rfl⟩
  rw [e1, e2, e3, hn1, hn2]
  clear e1 e2 e3 hn1 hn2
  replace HBO := HBO.out
  simp only [← Oct.S_append] at HBO
  obtain ⟨a1, e1, z1⟩ := name_put 6 1
  obtain ⟨a2, e2, z2⟩ := name_put lsn 6
  obtain ⟨a3, e3, z3⟩ := name_put prev 6
  obtain ⟨a4, e4, z4⟩ := name_put txn 6
  rw [e1] at HBO HP1
  rw [e2] at HBO HP2
  rw [e3] at HBO HP3
  rw [e4] at HBO HP4
  replace HBO := Lib.hid HBO
  clear e1 e2 e3 e4 hlo hln hlk
  have z12 : (a1 ++ a2).size ≤ 20 := by rw [ByteArray.size_append]; omega
  have z123 : (a1 ++ a2 ++ a3).size ≤ 40 := by rw [ByteArray.size_append]; omega
  have z1234 : (a1 ++ a2 ++ a3 ++ a4).size ≤ 60 := by rw [ByteArray.size_append]; omega
  have hN := Blk.new w #[.int .i64 lsn, .int .i64 prev, .int .i64 txn, .int .i64 6, .int .i64 page, .int .i64 next, .int .i64 num, .int .i64 ok, .int .i64 os, .string s1, .string s2, .int .i64 how, .int .i64 root, .string s3, .int .i64 rp, .int .i64 rs, .slice ao n1 cap, .slice bo n2 cap2] 31
  have hbb := (Below.refl w.heap.size w).alloc (Nat.le_refl _) (.cells #[.int .i64 lsn, .int .i64 prev, .int .i64 txn, .int .i64 6, .int .i64 page, .int .i64 next, .int .i64 num, .int .i64 ok, .int .i64 os, .string s1, .string s2, .int .i64 how, .int .i64 root, .string s3, .int .i64 rp, .int .i64 rs, .slice ao n1 cap, .slice bo n2 cap2] 31)
  go_enter Try.func20, Try.ntmps20
  go_upto_region 1 with fail
  obtain ⟨g, HG⟩ : ∃ x, w.heap.size = x := ⟨_, rfl⟩
  rw [HG] at hN hbb ⊢
  generalize (w.alloc (.cells #[.int .i64 lsn, .int .i64 prev, .int .i64 txn, .int .i64 6, .int .i64 page, .int .i64 next, .int .i64 num, .int .i64 ok, .int .i64 os, .string s1, .string s2, .int .i64 how, .int .i64 root, .string s3, .int .i64 rp, .int .i64 rs, .slice ao n1 cap, .slice bo n2 cap2] 31)) = W at hN hbb ⊢
  have f0 : ∀ p : Regrown, (grow (redrawn W p.d) p.os).cell? ⟨g, 0, none⟩ = some (.int .i64 lsn) := fun q => cell_regrown (hN.cell 0 (v := .int .i64 lsn) rfl) q.d q.os
  have f1 : ∀ p : Regrown, (grow (redrawn W p.d) p.os).cell? ⟨g, 1, none⟩ = some (.int .i64 prev) := fun q => cell_regrown (hN.cell 1 (v := .int .i64 prev) rfl) q.d q.os
  have f2 : ∀ p : Regrown, (grow (redrawn W p.d) p.os).cell? ⟨g, 2, none⟩ = some (.int .i64 txn) := fun q => cell_regrown (hN.cell 2 (v := .int .i64 txn) rfl) q.d q.os
  have f3 : ∀ p : Regrown, (grow (redrawn W p.d) p.os).cell? ⟨g, 3, none⟩ = some (.int .i64 6) := fun q => cell_regrown (hN.cell 3 (v := .int .i64 6) rfl) q.d q.os
  refine wp_region_quiet_below (by kernel_rfl) (by kernel_rfl) ?_
  repeat (go_big_quiet_step (first | (go_at_call 21; with_reducible exact Ret.regrown (HP1.out _)) | (go_at_call 21; with_reducible exact Ret.regrown (HP2.out _)) | (go_at_call 21; with_reducible exact Ret.regrown (HP3.out _)) | (go_at_call 21; with_reducible exact Ret.regrown (HP4.out _))))
  refine wpQuiet_nil ?_
  intro w5 hw5
  have hbx := below_of_regrown hw5
  replace hN := hN.below hbx
  replace hbb := Below.trans hbb (hbx.mono (by have := hbb.size; omega))
  clear hw5 hbx f0 f1 f2 f3
  generalize hhs : a1 ++ a2 ++ a3 ++ a4 = hs at z1234 HBO ⊢
  clear hhs z1 z2 z3 z4 HP1 HP2 HP3 HP4
  obtain ⟨c0, c1, c2, c3, c4, c5, c6, c7, c8, c9, c10, c11, c12, c13, c14, c15, c16, c17⟩ := Blk18 hN
  go_wp2_with fail
  go_ret
  exact ⟨ret_str (by rw [HBO.out]), by rw [← HG] at hbb; exact hbb⟩
set_option maxHeartbeats 4000000 in
set_option maxRecDepth 100000 in
theorem rbody_7 (lsn prev txn page next num ok os : Int) (old new : List UInt8) (how root : Int) (key : List UInt8) (rp rs : Int) (txns : List Tx) (dirty : List Dy) (vt vd : Value) (w : World) (hv : ElAt w 4 vt (txC txns)) (hd : ElAt w 2 vd (dyC dirty)) (hlo : old.length ≤ 65535) (hln : new.length ≤ 65535) (hlk : key.length ≤ 65535) :
    Calls Try.prog 20 #[.agg (rcC (Rc.mk lsn prev txn 7 page next num ok os old new how root key rp rs txns dirty) vt vd)] w (Ret (.string (S (bodyL (Rc.mk lsn prev txn 7 page next num ok os old new how root key rp rs txns dirty)))) w) := by
  obtain ⟨ao, cap, rfl⟩ := hv.nil
  obtain ⟨bo, cap2, rfl⟩ := hd.nil
  clear hv hd
  have HP1 := Lib.hid (fun W => rput_at 7 1 1 rfl (by omega) W)
  have HP2 := Lib.hid (fun W => rput_at lsn 6 6 rfl (by omega) W)
  have HP3 := Lib.hid (fun W => rput_at prev 6 6 rfl (by omega) W)
  have HP4 := Lib.hid (fun W => rput_at txn 6 6 rfl (by omega) W)
  have HBO : Hid (S (bodyL (Rc.mk lsn prev txn 7 page next num ok os old new how root key rp rs txns dirty)) = S (putL (U 7) 1 ++ putL (U lsn) 6 ++ putL (U prev) 6 ++ putL (U txn) 6)) := by
    show _ = _
    refine congrArg S ?_
    show headL (Rc.mk lsn prev txn 7 page next num ok os old new how root key rp rs txns dirty) ++ [] ++ [] ++ [] ++ [] = _
    
    simp only [headL, chL, neL, hoL, List.append_assoc, List.append_nil, List.nil_append, if_true]
  obtain ⟨F, hF⟩ : ∃ F, S (bodyL (Rc.mk lsn prev txn 7 page next num ok os old new how root key rp rs txns dirty)) = F := ⟨_, rfl⟩
  rw [hF] at HBO ⊢
  clear hF
  simp only [rcC]
  obtain ⟨s1, e1⟩ : ∃ x, S old = x := ⟨_, rfl⟩
  obtain ⟨s2, e2⟩ : ∃ x, S new = x := ⟨_, rfl⟩
  obtain ⟨s3, e3⟩ : ∃ x, S key = x := ⟨_, rfl⟩
  obtain ⟨n1, hn1⟩ : ∃ n, (txC txns).length = n := ⟨_, rfl⟩
  obtain ⟨n2, hn2⟩ : ∃ n, (dyC dirty).length = n := ⟨_, rfl⟩
  rw [e1, e2, e3, hn1, hn2]
  clear e1 e2 e3 hn1 hn2
  replace HBO := HBO.out
  simp only [← Oct.S_append] at HBO
  obtain ⟨a1, e1, z1⟩ := name_put 7 1
  obtain ⟨a2, e2, z2⟩ := name_put lsn 6
  obtain ⟨a3, e3, z3⟩ := name_put prev 6
  obtain ⟨a4, e4, z4⟩ := name_put txn 6
  rw [e1] at HBO HP1
  rw [e2] at HBO HP2
  rw [e3] at HBO HP3
  rw [e4] at HBO HP4
  replace HBO := Lib.hid HBO
  clear e1 e2 e3 e4 hlo hln hlk
  have z12 : (a1 ++ a2).size ≤ 20 := by rw [ByteArray.size_append]; omega
  have z123 : (a1 ++ a2 ++ a3).size ≤ 40 := by rw [ByteArray.size_append]; omega
  have z1234 : (a1 ++ a2 ++ a3 ++ a4).size ≤ 60 := by rw [ByteArray.size_append]; omega
  have hN := Blk.new w #[.int .i64 lsn, .int .i64 prev, .int .i64 txn, .int .i64 7, .int .i64 page, .int .i64 next, .int .i64 num, .int .i64 ok, .int .i64 os, .string s1, .string s2, .int .i64 how, .int .i64 root, .string s3, .int .i64 rp, .int .i64 rs, .slice ao n1 cap, .slice bo n2 cap2] 31
  have hbb := (Below.refl w.heap.size w).alloc (Nat.le_refl _) (.cells #[.int .i64 lsn, .int .i64 prev, .int .i64 txn, .int .i64 7, .int .i64 page, .int .i64 next, .int .i64 num, .int .i64 ok, .int .i64 os, .string s1, .string s2, .int .i64 how, .int .i64 root, .string s3, .int .i64 rp, .int .i64 rs, .slice ao n1 cap, .slice bo n2 cap2] 31)
  go_enter Try.func20, Try.ntmps20
  go_upto_region 1 with fail
  obtain ⟨g, HG⟩ : ∃ x, w.heap.size = x := ⟨_, rfl⟩
  rw [HG] at hN hbb ⊢
  generalize (w.alloc (.cells #[.int .i64 lsn, .int .i64 prev, .int .i64 txn, .int .i64 7, .int .i64 page, .int .i64 next, .int .i64 num, .int .i64 ok, .int .i64 os, .string s1, .string s2, .int .i64 how, .int .i64 root, .string s3, .int .i64 rp, .int .i64 rs, .slice ao n1 cap, .slice bo n2 cap2] 31)) = W at hN hbb ⊢
  have f0 : ∀ p : Regrown, (grow (redrawn W p.d) p.os).cell? ⟨g, 0, none⟩ = some (.int .i64 lsn) := fun q => cell_regrown (hN.cell 0 (v := .int .i64 lsn) rfl) q.d q.os
  have f1 : ∀ p : Regrown, (grow (redrawn W p.d) p.os).cell? ⟨g, 1, none⟩ = some (.int .i64 prev) := fun q => cell_regrown (hN.cell 1 (v := .int .i64 prev) rfl) q.d q.os
  have f2 : ∀ p : Regrown, (grow (redrawn W p.d) p.os).cell? ⟨g, 2, none⟩ = some (.int .i64 txn) := fun q => cell_regrown (hN.cell 2 (v := .int .i64 txn) rfl) q.d q.os
  have f3 : ∀ p : Regrown, (grow (redrawn W p.d) p.os).cell? ⟨g, 3, none⟩ = some (.int .i64 7) := fun q => cell_regrown (hN.cell 3 (v := .int .i64 7) rfl) q.d q.os
  refine wp_region_quiet_below (by kernel_rfl) (by kernel_rfl) ?_
  repeat (go_big_quiet_step (first | (go_at_call 21; with_reducible exact Ret.regrown (HP1.out _)) | (go_at_call 21; with_reducible exact Ret.regrown (HP2.out _)) | (go_at_call 21; with_reducible exact Ret.regrown (HP3.out _)) | (go_at_call 21; with_reducible exact Ret.regrown (HP4.out _))))
  refine wpQuiet_nil ?_
  intro w5 hw5
  have hbx := below_of_regrown hw5
  replace hN := hN.below hbx
  replace hbb := Below.trans hbb (hbx.mono (by have := hbb.size; omega))
  clear hw5 hbx f0 f1 f2 f3
  generalize hhs : a1 ++ a2 ++ a3 ++ a4 = hs at z1234 HBO ⊢
  clear hhs z1 z2 z3 z4 HP1 HP2 HP3 HP4
  obtain ⟨c0, c1, c2, c3, c4, c5, c6, c7, c8, c9, c10, c11, c12, c13, c14, c15, c16, c17⟩ := Blk18 hN
  go_wp2_with fail
  go_ret
  exact ⟨ret_str (by rw [HBO.out]), by rw [← HG] at hbb; exact hbb⟩
set_option maxHeartbeats 4000000 in
set_option maxRecDepth 100000 in
theorem rbody_4 (lsn prev txn page next num ok os : Int) (old new : List UInt8) (how root : Int) (key : List UInt8) (rp rs : Int) (txns : List Tx) (dirty : List Dy) (vt vd : Value) (w : World) (hv : ElAt w 4 vt (txC txns)) (hd : ElAt w 2 vd (dyC dirty)) (hlo : old.length ≤ 65535) (hln : new.length ≤ 65535) (hlk : key.length ≤ 65535) :
    Calls Try.prog 20 #[.agg (rcC (Rc.mk lsn prev txn 4 page next num ok os old new how root key rp rs txns dirty) vt vd)] w (Ret (.string (S (bodyL (Rc.mk lsn prev txn 4 page next num ok os old new how root key rp rs txns dirty)))) w) := by
  obtain ⟨ao, cap, rfl⟩ := hv.nil
  obtain ⟨bo, cap2, rfl⟩ := hd.nil
  clear hv hd
  have HP1 := Lib.hid (fun W => rput_at 4 1 1 rfl (by omega) W)
  have HP2 := Lib.hid (fun W => rput_at lsn 6 6 rfl (by omega) W)
  have HP3 := Lib.hid (fun W => rput_at prev 6 6 rfl (by omega) W)
  have HP4 := Lib.hid (fun W => rput_at txn 6 6 rfl (by omega) W)
  have HB0 := Lib.hid (fun W => rput_at next 6 6 rfl (by omega) W)
  have HBO : Hid (S (bodyL (Rc.mk lsn prev txn 4 page next num ok os old new how root key rp rs txns dirty)) = S (putL (U 4) 1 ++ putL (U lsn) 6 ++ putL (U prev) 6 ++ putL (U txn) 6 ++ putL (U next) 6)) := by
    show _ = _
    refine congrArg S ?_
    show headL (Rc.mk lsn prev txn 4 page next num ok os old new how root key rp rs txns dirty) ++ [] ++ [] ++ neL (Rc.mk lsn prev txn 4 page next num ok os old new how root key rp rs txns dirty) ++ [] = _
    
    simp only [headL, chL, neL, hoL, List.append_assoc, List.append_nil, List.nil_append, if_true]
  obtain ⟨F, hF⟩ : ∃ F, S (bodyL (Rc.mk lsn prev txn 4 page next num ok os old new how root key rp rs txns dirty)) = F := ⟨_, rfl⟩
  rw [hF] at HBO ⊢
  clear hF
  simp only [rcC]
  obtain ⟨s1, e1⟩ : ∃ x, S old = x := ⟨_, rfl⟩
  obtain ⟨s2, e2⟩ : ∃ x, S new = x := ⟨_, rfl⟩
  obtain ⟨s3, e3⟩ : ∃ x, S key = x := ⟨_, rfl⟩
  obtain ⟨n1, hn1⟩ : ∃ n, (txC txns).length = n := ⟨_, rfl⟩
  obtain ⟨n2, hn2⟩ : ∃ n, (dyC dirty).length = n := ⟨_, rfl⟩
  rw [e1, e2, e3, hn1, hn2]
  clear e1 e2 e3 hn1 hn2
  replace HBO := HBO.out
  simp only [← Oct.S_append] at HBO
  obtain ⟨a1, e1, z1⟩ := name_put 4 1
  obtain ⟨a2, e2, z2⟩ := name_put lsn 6
  obtain ⟨a3, e3, z3⟩ := name_put prev 6
  obtain ⟨a4, e4, z4⟩ := name_put txn 6
  rw [e1] at HBO HP1
  rw [e2] at HBO HP2
  rw [e3] at HBO HP3
  rw [e4] at HBO HP4
  obtain ⟨b0, g0, y0⟩ := name_put next 6
  rw [g0] at HBO HB0
  replace HBO := Lib.hid HBO
  clear e1 e2 e3 e4 hlo hln hlk g0
  have z12 : (a1 ++ a2).size ≤ 20 := by rw [ByteArray.size_append]; omega
  have z123 : (a1 ++ a2 ++ a3).size ≤ 40 := by rw [ByteArray.size_append]; omega
  have z1234 : (a1 ++ a2 ++ a3 ++ a4).size ≤ 60 := by rw [ByteArray.size_append]; omega
  have hN := Blk.new w #[.int .i64 lsn, .int .i64 prev, .int .i64 txn, .int .i64 4, .int .i64 page, .int .i64 next, .int .i64 num, .int .i64 ok, .int .i64 os, .string s1, .string s2, .int .i64 how, .int .i64 root, .string s3, .int .i64 rp, .int .i64 rs, .slice ao n1 cap, .slice bo n2 cap2] 31
  have hbb := (Below.refl w.heap.size w).alloc (Nat.le_refl _) (.cells #[.int .i64 lsn, .int .i64 prev, .int .i64 txn, .int .i64 4, .int .i64 page, .int .i64 next, .int .i64 num, .int .i64 ok, .int .i64 os, .string s1, .string s2, .int .i64 how, .int .i64 root, .string s3, .int .i64 rp, .int .i64 rs, .slice ao n1 cap, .slice bo n2 cap2] 31)
  go_enter Try.func20, Try.ntmps20
  go_upto_region 1 with fail
  obtain ⟨g, HG⟩ : ∃ x, w.heap.size = x := ⟨_, rfl⟩
  rw [HG] at hN hbb ⊢
  generalize (w.alloc (.cells #[.int .i64 lsn, .int .i64 prev, .int .i64 txn, .int .i64 4, .int .i64 page, .int .i64 next, .int .i64 num, .int .i64 ok, .int .i64 os, .string s1, .string s2, .int .i64 how, .int .i64 root, .string s3, .int .i64 rp, .int .i64 rs, .slice ao n1 cap, .slice bo n2 cap2] 31)) = W at hN hbb ⊢
  have f0 : ∀ p : Regrown, (grow (redrawn W p.d) p.os).cell? ⟨g, 0, none⟩ = some (.int .i64 lsn) := fun q => cell_regrown (hN.cell 0 (v := .int .i64 lsn) rfl) q.d q.os
  have f1 : ∀ p : Regrown, (grow (redrawn W p.d) p.os).cell? ⟨g, 1, none⟩ = some (.int .i64 prev) := fun q => cell_regrown (hN.cell 1 (v := .int .i64 prev) rfl) q.d q.os
  have f2 : ∀ p : Regrown, (grow (redrawn W p.d) p.os).cell? ⟨g, 2, none⟩ = some (.int .i64 txn) := fun q => cell_regrown (hN.cell 2 (v := .int .i64 txn) rfl) q.d q.os
  have f3 : ∀ p : Regrown, (grow (redrawn W p.d) p.os).cell? ⟨g, 3, none⟩ = some (.int .i64 4) := fun q => cell_regrown (hN.cell 3 (v := .int .i64 4) rfl) q.d q.os
  refine wp_region_quiet_below (by kernel_rfl) (by kernel_rfl) ?_
  repeat (go_big_quiet_step (first | (go_at_call 21; with_reducible exact Ret.regrown (HP1.out _)) | (go_at_call 21; with_reducible exact Ret.regrown (HP2.out _)) | (go_at_call 21; with_reducible exact Ret.regrown (HP3.out _)) | (go_at_call 21; with_reducible exact Ret.regrown (HP4.out _))))
  refine wpQuiet_nil ?_
  intro w5 hw5
  have hbx := below_of_regrown hw5
  replace hN := hN.below hbx
  replace hbb := Below.trans hbb (hbx.mono (by have := hbb.size; omega))
  clear hw5 hbx f0 f1 f2 f3
  generalize hhs : a1 ++ a2 ++ a3 ++ a4 = hs at z1234 HBO ⊢
  clear hhs z1 z2 z3 z4 HP1 HP2 HP3 HP4
  obtain ⟨c0, c1, c2, c3, c4, c5, c6, c7, c8, c9, c10, c11, c12, c13, c14, c15, c16, c17⟩ := Blk18 hN
  go_wp2_with fail
  refine (HB0.out _).mono ?_
  rintro e w6 ⟨rfl, hb6⟩
  replace hbb := Below.trans hbb (hb6.mono (by have := hbb.size; omega))
  clear hb6 hN
  clear c0 c1 c2 c3 c4 c5 c6 c7 c8 c9 c10 c11 c12 c13 c14 c15 c16 c17
  go_wp2_with ((with_reducible refine wpList_concat _ ?_); refine ⟨_, _, rfl, rfl, ?_, ?_⟩; omega)
  go_ret
  exact ⟨ret_str (by rw [HBO.out]), by rw [← HG] at hbb; exact hbb⟩
set_option maxHeartbeats 4000000 in
set_option maxRecDepth 100000 in
theorem rbody_8 (lsn prev txn page next num ok os : Int) (old new : List UInt8) (how root : Int) (key : List UInt8) (rp rs : Int) (txns : List Tx) (dirty : List Dy) (vt vd : Value) (w : World) (hv : ElAt w 4 vt (txC txns)) (hd : ElAt w 2 vd (dyC dirty)) (hlo : old.length ≤ 65535) (hln : new.length ≤ 65535) (hlk : key.length ≤ 65535) :
    Calls Try.prog 20 #[.agg (rcC (Rc.mk lsn prev txn 8 page next num ok os old new how root key rp rs txns dirty) vt vd)] w (Ret (.string (S (bodyL (Rc.mk lsn prev txn 8 page next num ok os old new how root key rp rs txns dirty)))) w) := by
  obtain ⟨ao, cap, rfl⟩ := hv.nil
  obtain ⟨bo, cap2, rfl⟩ := hd.nil
  clear hv hd
  have HP1 := Lib.hid (fun W => rput_at 8 1 1 rfl (by omega) W)
  have HP2 := Lib.hid (fun W => rput_at lsn 6 6 rfl (by omega) W)
  have HP3 := Lib.hid (fun W => rput_at prev 6 6 rfl (by omega) W)
  have HP4 := Lib.hid (fun W => rput_at txn 6 6 rfl (by omega) W)
  have HB0 := Lib.hid (fun W => rput_at page 3 3 rfl (by omega) W)
  have HBO : Hid (S (bodyL (Rc.mk lsn prev txn 8 page next num ok os old new how root key rp rs txns dirty)) = S (putL (U 8) 1 ++ putL (U lsn) 6 ++ putL (U prev) 6 ++ putL (U txn) 6 ++ putL (U page) 3 ++ (putL (U ok) 1 ++ putL (U os) 2 ++ textL old ++ textL new))) := by
    show _ = _
    refine congrArg S ?_
    show headL (Rc.mk lsn prev txn 8 page next num ok os old new how root key rp rs txns dirty) ++ chL (Rc.mk lsn prev txn 8 page next num ok os old new how root key rp rs txns dirty) ++ [] ++ [] ++ [] = _
    
    simp only [headL, chL, neL, hoL, List.append_assoc, List.append_nil, List.nil_append, if_true]
  obtain ⟨F, hF⟩ : ∃ F, S (bodyL (Rc.mk lsn prev txn 8 page next num ok os old new how root key rp rs txns dirty)) = F := ⟨_, rfl⟩
  rw [hF] at HBO ⊢
  clear hF
  simp only [rcC]
  obtain ⟨s1, e1⟩ : ∃ x, S old = x := ⟨_, rfl⟩
  obtain ⟨s2, e2⟩ : ∃ x, S new = x := ⟨_, rfl⟩
  obtain ⟨s3, e3⟩ : ∃ x, S key = x := ⟨_, rfl⟩
  obtain ⟨n1, hn1⟩ : ∃ n, (txC txns).length = n := ⟨_, rfl⟩
  obtain ⟨n2, hn2⟩ : ∃ n, (dyC dirty).length = n := ⟨_, rfl⟩
  have HB1 := Lib.hid (fun W => rstr_op ok os old new s1 s2 e1 e2 hlo hln W)
  rw [e1, e2, e3, hn1, hn2]
  clear e1 e2 e3 hn1 hn2
  replace HBO := HBO.out
  simp only [← Oct.S_append] at HBO
  obtain ⟨a1, e1, z1⟩ := name_put 8 1
  obtain ⟨a2, e2, z2⟩ := name_put lsn 6
  obtain ⟨a3, e3, z3⟩ := name_put prev 6
  obtain ⟨a4, e4, z4⟩ := name_put txn 6
  rw [e1] at HBO HP1
  rw [e2] at HBO HP2
  rw [e3] at HBO HP3
  rw [e4] at HBO HP4
  obtain ⟨b0, g0, y0⟩ := name_put page 3
  rw [g0] at HBO HB0
  obtain ⟨b1, g1⟩ : ∃ b, S (putL (U ok) 1 ++ putL (U os) 2 ++ textL old ++ textL new) = b := ⟨_, rfl⟩
  have y1 : b1.size ≤ 140000 := by rw [← g1, S_size]; simp only [List.length_append, Oct.putL_length]; have := textL_z old; have := textL_z new; omega
  rw [g1] at HB1
  rw [show S (putL (U ok) 1) ++ S (putL (U os) 2) ++ S (textL old) ++ S (textL new) = b1 from by rw [← g1]; simp only [← Oct.S_append]] at HBO
  replace HBO := Lib.hid HBO
  clear e1 e2 e3 e4 hlo hln hlk g0 g1
  have z12 : (a1 ++ a2).size ≤ 20 := by rw [ByteArray.size_append]; omega
  have z123 : (a1 ++ a2 ++ a3).size ≤ 40 := by rw [ByteArray.size_append]; omega
  have z1234 : (a1 ++ a2 ++ a3 ++ a4).size ≤ 60 := by rw [ByteArray.size_append]; omega
  have hN := Blk.new w #[.int .i64 lsn, .int .i64 prev, .int .i64 txn, .int .i64 8, .int .i64 page, .int .i64 next, .int .i64 num, .int .i64 ok, .int .i64 os, .string s1, .string s2, .int .i64 how, .int .i64 root, .string s3, .int .i64 rp, .int .i64 rs, .slice ao n1 cap, .slice bo n2 cap2] 31
  have hbb := (Below.refl w.heap.size w).alloc (Nat.le_refl _) (.cells #[.int .i64 lsn, .int .i64 prev, .int .i64 txn, .int .i64 8, .int .i64 page, .int .i64 next, .int .i64 num, .int .i64 ok, .int .i64 os, .string s1, .string s2, .int .i64 how, .int .i64 root, .string s3, .int .i64 rp, .int .i64 rs, .slice ao n1 cap, .slice bo n2 cap2] 31)
  go_enter Try.func20, Try.ntmps20
  go_upto_region 1 with fail
  obtain ⟨g, HG⟩ : ∃ x, w.heap.size = x := ⟨_, rfl⟩
  rw [HG] at hN hbb ⊢
  generalize (w.alloc (.cells #[.int .i64 lsn, .int .i64 prev, .int .i64 txn, .int .i64 8, .int .i64 page, .int .i64 next, .int .i64 num, .int .i64 ok, .int .i64 os, .string s1, .string s2, .int .i64 how, .int .i64 root, .string s3, .int .i64 rp, .int .i64 rs, .slice ao n1 cap, .slice bo n2 cap2] 31)) = W at hN hbb ⊢
  have f0 : ∀ p : Regrown, (grow (redrawn W p.d) p.os).cell? ⟨g, 0, none⟩ = some (.int .i64 lsn) := fun q => cell_regrown (hN.cell 0 (v := .int .i64 lsn) rfl) q.d q.os
  have f1 : ∀ p : Regrown, (grow (redrawn W p.d) p.os).cell? ⟨g, 1, none⟩ = some (.int .i64 prev) := fun q => cell_regrown (hN.cell 1 (v := .int .i64 prev) rfl) q.d q.os
  have f2 : ∀ p : Regrown, (grow (redrawn W p.d) p.os).cell? ⟨g, 2, none⟩ = some (.int .i64 txn) := fun q => cell_regrown (hN.cell 2 (v := .int .i64 txn) rfl) q.d q.os
  have f3 : ∀ p : Regrown, (grow (redrawn W p.d) p.os).cell? ⟨g, 3, none⟩ = some (.int .i64 8) := fun q => cell_regrown (hN.cell 3 (v := .int .i64 8) rfl) q.d q.os
  refine wp_region_quiet_below (by kernel_rfl) (by kernel_rfl) ?_
  repeat (go_big_quiet_step (first | (go_at_call 21; with_reducible exact Ret.regrown (HP1.out _)) | (go_at_call 21; with_reducible exact Ret.regrown (HP2.out _)) | (go_at_call 21; with_reducible exact Ret.regrown (HP3.out _)) | (go_at_call 21; with_reducible exact Ret.regrown (HP4.out _))))
  refine wpQuiet_nil ?_
  intro w5 hw5
  have hbx := below_of_regrown hw5
  replace hN := hN.below hbx
  replace hbb := Below.trans hbb (hbx.mono (by have := hbb.size; omega))
  clear hw5 hbx f0 f1 f2 f3
  generalize hhs : a1 ++ a2 ++ a3 ++ a4 = hs at z1234 HBO ⊢
  clear hhs z1 z2 z3 z4 HP1 HP2 HP3 HP4
  obtain ⟨c0, c1, c2, c3, c4, c5, c6, c7, c8, c9, c10, c11, c12, c13, c14, c15, c16, c17⟩ := Blk18 hN
  go_upto_region 13 with fail
  clear c0 c1 c2 c3 c4 c5 c6 c7 c8 c9 c10 c11 c12 c13 c14 c15 c16 c17
  have ta0 : (hs ++ b0).size ≤ 1000000 := by rw [ByteArray.size_append]; omega
  have f4 : ∀ p : Regrown, (grow (redrawn w5 p.d) p.os).cell? ⟨g, 4, none⟩ = some (.int .i64 page) := fun q => cell_regrown (hN.cell 4 (v := .int .i64 page) rfl) q.d q.os
  have f7 : ∀ p : Regrown, (grow (redrawn w5 p.d) p.os).cell? ⟨g, 7, none⟩ = some (.int .i64 ok) := fun q => cell_regrown (hN.cell 7 (v := .int .i64 ok) rfl) q.d q.os
  have f8 : ∀ p : Regrown, (grow (redrawn w5 p.d) p.os).cell? ⟨g, 8, none⟩ = some (.int .i64 os) := fun q => cell_regrown (hN.cell 8 (v := .int .i64 os) rfl) q.d q.os
  have f9 : ∀ p : Regrown, (grow (redrawn w5 p.d) p.os).cell? ⟨g, 9, none⟩ = some (.string s1) := fun q => cell_regrown (hN.cell 9 (v := .string s1) rfl) q.d q.os
  have f10 : ∀ p : Regrown, (grow (redrawn w5 p.d) p.os).cell? ⟨g, 10, none⟩ = some (.string s2) := fun q => cell_regrown (hN.cell 10 (v := .string s2) rfl) q.d q.os
  refine wp_region_quiet_below (by kernel_rfl) (by kernel_rfl) ?_
  repeat (go_big_quiet_step (first | (go_at_call 21; with_reducible exact Ret.regrown (HB0.out _)) | (go_at_call 52; with_reducible exact Ret.regrown (HB1.out _))))
  refine wpQuiet_nil ?_
  intro w6 hw5
  have hbx := below_of_regrown hw5
  replace hN := hN.below hbx
  replace hbb := Below.trans hbb (hbx.mono (by have := hbb.size; omega))
  clear hw5 hbx f4 f7 f8 f9 f10
  go_wp2_with fail
  go_ret
  exact ⟨ret_str (by rw [HBO.out]), by rw [← HG] at hbb; exact hbb⟩
set_option maxHeartbeats 4000000 in
set_option maxRecDepth 100000 in
theorem rbody_3 (lsn prev txn page next num ok os : Int) (old new : List UInt8) (how root : Int) (key : List UInt8) (rp rs : Int) (txns : List Tx) (dirty : List Dy) (vt vd : Value) (w : World) (hv : ElAt w 4 vt (txC txns)) (hd : ElAt w 2 vd (dyC dirty)) (hlo : old.length ≤ 65535) (hln : new.length ≤ 65535) (hlk : key.length ≤ 65535) :
    Calls Try.prog 20 #[.agg (rcC (Rc.mk lsn prev txn 3 page next num ok os old new how root key rp rs txns dirty) vt vd)] w (Ret (.string (S (bodyL (Rc.mk lsn prev txn 3 page next num ok os old new how root key rp rs txns dirty)))) w) := by
  obtain ⟨ao, cap, rfl⟩ := hv.nil
  obtain ⟨bo, cap2, rfl⟩ := hd.nil
  clear hv hd
  have HP1 := Lib.hid (fun W => rput_at 3 1 1 rfl (by omega) W)
  have HP2 := Lib.hid (fun W => rput_at lsn 6 6 rfl (by omega) W)
  have HP3 := Lib.hid (fun W => rput_at prev 6 6 rfl (by omega) W)
  have HP4 := Lib.hid (fun W => rput_at txn 6 6 rfl (by omega) W)
  have HB0 := Lib.hid (fun W => rput_at page 3 3 rfl (by omega) W)
  have HB2 := Lib.hid (fun W => rput_at next 6 6 rfl (by omega) W)
  have HBO : Hid (S (bodyL (Rc.mk lsn prev txn 3 page next num ok os old new how root key rp rs txns dirty)) = S (putL (U 3) 1 ++ putL (U lsn) 6 ++ putL (U prev) 6 ++ putL (U txn) 6 ++ putL (U page) 3 ++ (putL (U ok) 1 ++ putL (U os) 2 ++ textL old ++ textL new) ++ putL (U next) 6)) := by
    show _ = _
    refine congrArg S ?_
    show headL (Rc.mk lsn prev txn 3 page next num ok os old new how root key rp rs txns dirty) ++ chL (Rc.mk lsn prev txn 3 page next num ok os old new how root key rp rs txns dirty) ++ [] ++ neL (Rc.mk lsn prev txn 3 page next num ok os old new how root key rp rs txns dirty) ++ [] = _
    
    simp only [headL, chL, neL, hoL, List.append_assoc, List.append_nil, List.nil_append, if_true]
  obtain ⟨F, hF⟩ : ∃ F, S (bodyL (Rc.mk lsn prev txn 3 page next num ok os old new how root key rp rs txns dirty)) = F := ⟨_, rfl⟩
  rw [hF] at HBO ⊢
  clear hF
  simp only [rcC]
  obtain ⟨s1, e1⟩ : ∃ x, S old = x := ⟨_, rfl⟩
  obtain ⟨s2, e2⟩ : ∃ x, S new = x := ⟨_, rfl⟩
  obtain ⟨s3, e3⟩ : ∃ x, S key = x := ⟨_, rfl⟩
  obtain ⟨n1, hn1⟩ : ∃ n, (txC txns).length = n := ⟨_, rfl⟩
  obtain ⟨n2, hn2⟩ : ∃ n, (dyC dirty).length = n := ⟨_, rfl⟩
  have HB1 := Lib.hid (fun W => rstr_op ok os old new s1 s2 e1 e2 hlo hln W)
  rw [e1, e2, e3, hn1, hn2]
  clear e1 e2 e3 hn1 hn2
  replace HBO := HBO.out
  simp only [← Oct.S_append] at HBO
  obtain ⟨a1, e1, z1⟩ := name_put 3 1
  obtain ⟨a2, e2, z2⟩ := name_put lsn 6
  obtain ⟨a3, e3, z3⟩ := name_put prev 6
  obtain ⟨a4, e4, z4⟩ := name_put txn 6
  rw [e1] at HBO HP1
  rw [e2] at HBO HP2
  rw [e3] at HBO HP3
  rw [e4] at HBO HP4
  obtain ⟨b0, g0, y0⟩ := name_put page 3
  rw [g0] at HBO HB0
  obtain ⟨b1, g1⟩ : ∃ b, S (putL (U ok) 1 ++ putL (U os) 2 ++ textL old ++ textL new) = b := ⟨_, rfl⟩
  have y1 : b1.size ≤ 140000 := by rw [← g1, S_size]; simp only [List.length_append, Oct.putL_length]; have := textL_z old; have := textL_z new; omega
  rw [g1] at HB1
  rw [show S (putL (U ok) 1) ++ S (putL (U os) 2) ++ S (textL old) ++ S (textL new) = b1 from by rw [← g1]; simp only [← Oct.S_append]] at HBO
  obtain ⟨b2, g2, y2⟩ := name_put next 6
  rw [g2] at HBO HB2
  replace HBO := Lib.hid HBO
  clear e1 e2 e3 e4 hlo hln hlk g0 g1 g2
  have z12 : (a1 ++ a2).size ≤ 20 := by rw [ByteArray.size_append]; omega
  have z123 : (a1 ++ a2 ++ a3).size ≤ 40 := by rw [ByteArray.size_append]; omega
  have z1234 : (a1 ++ a2 ++ a3 ++ a4).size ≤ 60 := by rw [ByteArray.size_append]; omega
  have hN := Blk.new w #[.int .i64 lsn, .int .i64 prev, .int .i64 txn, .int .i64 3, .int .i64 page, .int .i64 next, .int .i64 num, .int .i64 ok, .int .i64 os, .string s1, .string s2, .int .i64 how, .int .i64 root, .string s3, .int .i64 rp, .int .i64 rs, .slice ao n1 cap, .slice bo n2 cap2] 31
  have hbb := (Below.refl w.heap.size w).alloc (Nat.le_refl _) (.cells #[.int .i64 lsn, .int .i64 prev, .int .i64 txn, .int .i64 3, .int .i64 page, .int .i64 next, .int .i64 num, .int .i64 ok, .int .i64 os, .string s1, .string s2, .int .i64 how, .int .i64 root, .string s3, .int .i64 rp, .int .i64 rs, .slice ao n1 cap, .slice bo n2 cap2] 31)
  go_enter Try.func20, Try.ntmps20
  go_upto_region 1 with fail
  obtain ⟨g, HG⟩ : ∃ x, w.heap.size = x := ⟨_, rfl⟩
  rw [HG] at hN hbb ⊢
  generalize (w.alloc (.cells #[.int .i64 lsn, .int .i64 prev, .int .i64 txn, .int .i64 3, .int .i64 page, .int .i64 next, .int .i64 num, .int .i64 ok, .int .i64 os, .string s1, .string s2, .int .i64 how, .int .i64 root, .string s3, .int .i64 rp, .int .i64 rs, .slice ao n1 cap, .slice bo n2 cap2] 31)) = W at hN hbb ⊢
  have f0 : ∀ p : Regrown, (grow (redrawn W p.d) p.os).cell? ⟨g, 0, none⟩ = some (.int .i64 lsn) := fun q => cell_regrown (hN.cell 0 (v := .int .i64 lsn) rfl) q.d q.os
  have f1 : ∀ p : Regrown, (grow (redrawn W p.d) p.os).cell? ⟨g, 1, none⟩ = some (.int .i64 prev) := fun q => cell_regrown (hN.cell 1 (v := .int .i64 prev) rfl) q.d q.os
  have f2 : ∀ p : Regrown, (grow (redrawn W p.d) p.os).cell? ⟨g, 2, none⟩ = some (.int .i64 txn) := fun q => cell_regrown (hN.cell 2 (v := .int .i64 txn) rfl) q.d q.os
  have f3 : ∀ p : Regrown, (grow (redrawn W p.d) p.os).cell? ⟨g, 3, none⟩ = some (.int .i64 3) := fun q => cell_regrown (hN.cell 3 (v := .int .i64 3) rfl) q.d q.os
  refine wp_region_quiet_below (by kernel_rfl) (by kernel_rfl) ?_
  repeat (go_big_quiet_step (first | (go_at_call 21; with_reducible exact Ret.regrown (HP1.out _)) | (go_at_call 21; with_reducible exact Ret.regrown (HP2.out _)) | (go_at_call 21; with_reducible exact Ret.regrown (HP3.out _)) | (go_at_call 21; with_reducible exact Ret.regrown (HP4.out _))))
  refine wpQuiet_nil ?_
  intro w5 hw5
  have hbx := below_of_regrown hw5
  replace hN := hN.below hbx
  replace hbb := Below.trans hbb (hbx.mono (by have := hbb.size; omega))
  clear hw5 hbx f0 f1 f2 f3
  generalize hhs : a1 ++ a2 ++ a3 ++ a4 = hs at z1234 HBO ⊢
  clear hhs z1 z2 z3 z4 HP1 HP2 HP3 HP4
  obtain ⟨c0, c1, c2, c3, c4, c5, c6, c7, c8, c9, c10, c11, c12, c13, c14, c15, c16, c17⟩ := Blk18 hN
  go_upto_region 9 with fail
  clear c0 c1 c2 c3 c4 c5 c6 c7 c8 c9 c10 c11 c12 c13 c14 c15 c16 c17
  have ta0 : (hs ++ b0).size ≤ 1000000 := by rw [ByteArray.size_append]; omega
  have ta1 : (hs ++ b0 ++ b1).size ≤ 2000000 := by rw [ByteArray.size_append]; omega
  have f4 : ∀ p : Regrown, (grow (redrawn w5 p.d) p.os).cell? ⟨g, 4, none⟩ = some (.int .i64 page) := fun q => cell_regrown (hN.cell 4 (v := .int .i64 page) rfl) q.d q.os
  have f7 : ∀ p : Regrown, (grow (redrawn w5 p.d) p.os).cell? ⟨g, 7, none⟩ = some (.int .i64 ok) := fun q => cell_regrown (hN.cell 7 (v := .int .i64 ok) rfl) q.d q.os
  have f8 : ∀ p : Regrown, (grow (redrawn w5 p.d) p.os).cell? ⟨g, 8, none⟩ = some (.int .i64 os) := fun q => cell_regrown (hN.cell 8 (v := .int .i64 os) rfl) q.d q.os
  have f9 : ∀ p : Regrown, (grow (redrawn w5 p.d) p.os).cell? ⟨g, 9, none⟩ = some (.string s1) := fun q => cell_regrown (hN.cell 9 (v := .string s1) rfl) q.d q.os
  have f10 : ∀ p : Regrown, (grow (redrawn w5 p.d) p.os).cell? ⟨g, 10, none⟩ = some (.string s2) := fun q => cell_regrown (hN.cell 10 (v := .string s2) rfl) q.d q.os
  have f5 : ∀ p : Regrown, (grow (redrawn w5 p.d) p.os).cell? ⟨g, 5, none⟩ = some (.int .i64 next) := fun q => cell_regrown (hN.cell 5 (v := .int .i64 next) rfl) q.d q.os
  refine wp_region_quiet_below (by kernel_rfl) (by kernel_rfl) ?_
  repeat (go_big_quiet_step (first | (go_at_call 21; with_reducible exact Ret.regrown (HB0.out _)) | (go_at_call 52; with_reducible exact Ret.regrown (HB1.out _)) | (go_at_call 21; with_reducible exact Ret.regrown (HB2.out _))))
  refine wpQuiet_nil ?_
  intro w6 hw5
  have hbx := below_of_regrown hw5
  replace hN := hN.below hbx
  replace hbb := Below.trans hbb (hbx.mono (by have := hbb.size; omega))
  clear hw5 hbx f4 f7 f8 f9 f10 f5
  go_wp2_with fail
  go_ret
  exact ⟨ret_str (by rw [HBO.out]), by rw [← HG] at hbb; exact hbb⟩
set_option maxHeartbeats 4000000 in
set_option maxRecDepth 100000 in
theorem rbody_2a (lsn prev txn page next num ok os : Int) (old new : List UInt8) (how root : Int) (key : List UInt8) (rp rs : Int) (txns : List Tx) (dirty : List Dy) (vt vd : Value) (w : World) (hv : ElAt w 4 vt (txC txns)) (hd : ElAt w 2 vd (dyC dirty)) (hlo : old.length ≤ 65535) (hln : new.length ≤ 65535) (hlk : key.length ≤ 65535) :
    Calls Try.prog 20 #[.agg (rcC (Rc.mk lsn prev txn 2 page next num ok os old new 1 root key rp rs txns dirty) vt vd)] w (Ret (.string (S (bodyL (Rc.mk lsn prev txn 2 page next num ok os old new 1 root key rp rs txns dirty)))) w) := by
  obtain ⟨ao, cap, rfl⟩ := hv.nil
  obtain ⟨bo, cap2, rfl⟩ := hd.nil
  clear hv hd
  have HP1 := Lib.hid (fun W => rput_at 2 1 1 rfl (by omega) W)
  have HP2 := Lib.hid (fun W => rput_at lsn 6 6 rfl (by omega) W)
  have HP3 := Lib.hid (fun W => rput_at prev 6 6 rfl (by omega) W)
  have HP4 := Lib.hid (fun W => rput_at txn 6 6 rfl (by omega) W)
  have HB0 := Lib.hid (fun W => rput_at page 3 3 rfl (by omega) W)
  have HB2 := Lib.hid (fun W => rput_at 1 1 1 rfl (by omega) W)
  have HBO : Hid (S (bodyL (Rc.mk lsn prev txn 2 page next num ok os old new 1 root key rp rs txns dirty)) = S (putL (U 2) 1 ++ putL (U lsn) 6 ++ putL (U prev) 6 ++ putL (U txn) 6 ++ putL (U page) 3 ++ (putL (U ok) 1 ++ putL (U os) 2 ++ textL old ++ textL new) ++ putL (U 1) 1)) := by
    show _ = _
    refine congrArg S ?_
    show headL (Rc.mk lsn prev txn 2 page next num ok os old new 1 root key rp rs txns dirty) ++ chL (Rc.mk lsn prev txn 2 page next num ok os old new 1 root key rp rs txns dirty) ++ hoL (Rc.mk lsn prev txn 2 page next num ok os old new 1 root key rp rs txns dirty) ++ [] ++ [] = _
    
    simp only [headL, chL, neL, hoL, List.append_assoc, List.append_nil, List.nil_append, if_true]
  obtain ⟨F, hF⟩ : ∃ F, S (bodyL (Rc.mk lsn prev txn 2 page next num ok os old new 1 root key rp rs txns dirty)) = F := ⟨_, rfl⟩
  rw [hF] at HBO ⊢
  clear hF
  simp only [rcC]
  obtain ⟨s1, e1⟩ : ∃ x, S old = x := ⟨_, rfl⟩
  obtain ⟨s2, e2⟩ : ∃ x, S new = x := ⟨_, rfl⟩
  obtain ⟨s3, e3⟩ : ∃ x, S key = x := ⟨_, rfl⟩
  obtain ⟨n1, hn1⟩ : ∃ n, (txC txns).length = n := ⟨_, rfl⟩
  obtain ⟨n2, hn2⟩ : ∃ n, (dyC dirty).length = n := ⟨_, rfl⟩
  have HB1 := Lib.hid (fun W => rstr_op ok os old new s1 s2 e1 e2 hlo hln W)
  rw [e1, e2, e3, hn1, hn2]
  clear e1 e2 e3 hn1 hn2
  replace HBO := HBO.out
  simp only [← Oct.S_append] at HBO
  obtain ⟨a1, e1, z1⟩ := name_put 2 1
  obtain ⟨a2, e2, z2⟩ := name_put lsn 6
  obtain ⟨a3, e3, z3⟩ := name_put prev 6
  obtain ⟨a4, e4, z4⟩ := name_put txn 6
  rw [e1] at HBO HP1
  rw [e2] at HBO HP2
  rw [e3] at HBO HP3
  rw [e4] at HBO HP4
  obtain ⟨b0, g0, y0⟩ := name_put page 3
  rw [g0] at HBO HB0
  obtain ⟨b1, g1⟩ : ∃ b, S (putL (U ok) 1 ++ putL (U os) 2 ++ textL old ++ textL new) = b := ⟨_, rfl⟩
  have y1 : b1.size ≤ 140000 := by rw [← g1, S_size]; simp only [List.length_append, Oct.putL_length]; have := textL_z old; have := textL_z new; omega
  rw [g1] at HB1
  rw [show S (putL (U ok) 1) ++ S (putL (U os) 2) ++ S (textL old) ++ S (textL new) = b1 from by rw [← g1]; simp only [← Oct.S_append]] at HBO
  obtain ⟨b2, g2, y2⟩ := name_put 1 1
  rw [g2] at HBO HB2
  replace HBO := Lib.hid HBO
  clear e1 e2 e3 e4 hlo hln hlk g0 g1 g2
  have z12 : (a1 ++ a2).size ≤ 20 := by rw [ByteArray.size_append]; omega
  have z123 : (a1 ++ a2 ++ a3).size ≤ 40 := by rw [ByteArray.size_append]; omega
  have z1234 : (a1 ++ a2 ++ a3 ++ a4).size ≤ 60 := by rw [ByteArray.size_append]; omega
  have hN := Blk.new w #[.int .i64 lsn, .int .i64 prev, .int .i64 txn, .int .i64 2, .int .i64 page, .int .i64 next, .int .i64 num, .int .i64 ok, .int .i64 os, .string s1, .string s2, .int .i64 1, .int .i64 root, .string s3, .int .i64 rp, .int .i64 rs, .slice ao n1 cap, .slice bo n2 cap2] 31
  have hbb := (Below.refl w.heap.size w).alloc (Nat.le_refl _) (.cells #[.int .i64 lsn, .int .i64 prev, .int .i64 txn, .int .i64 2, .int .i64 page, .int .i64 next, .int .i64 num, .int .i64 ok, .int .i64 os, .string s1, .string s2, .int .i64 1, .int .i64 root, .string s3, .int .i64 rp, .int .i64 rs, .slice ao n1 cap, .slice bo n2 cap2] 31)
  go_enter Try.func20, Try.ntmps20
  go_upto_region 1 with fail
  obtain ⟨g, HG⟩ : ∃ x, w.heap.size = x := ⟨_, rfl⟩
  rw [HG] at hN hbb ⊢
  generalize (w.alloc (.cells #[.int .i64 lsn, .int .i64 prev, .int .i64 txn, .int .i64 2, .int .i64 page, .int .i64 next, .int .i64 num, .int .i64 ok, .int .i64 os, .string s1, .string s2, .int .i64 1, .int .i64 root, .string s3, .int .i64 rp, .int .i64 rs, .slice ao n1 cap, .slice bo n2 cap2] 31)) = W at hN hbb ⊢
  have f0 : ∀ p : Regrown, (grow (redrawn W p.d) p.os).cell? ⟨g, 0, none⟩ = some (.int .i64 lsn) := fun q => cell_regrown (hN.cell 0 (v := .int .i64 lsn) rfl) q.d q.os
  have f1 : ∀ p : Regrown, (grow (redrawn W p.d) p.os).cell? ⟨g, 1, none⟩ = some (.int .i64 prev) := fun q => cell_regrown (hN.cell 1 (v := .int .i64 prev) rfl) q.d q.os
  have f2 : ∀ p : Regrown, (grow (redrawn W p.d) p.os).cell? ⟨g, 2, none⟩ = some (.int .i64 txn) := fun q => cell_regrown (hN.cell 2 (v := .int .i64 txn) rfl) q.d q.os
  have f3 : ∀ p : Regrown, (grow (redrawn W p.d) p.os).cell? ⟨g, 3, none⟩ = some (.int .i64 2) := fun q => cell_regrown (hN.cell 3 (v := .int .i64 2) rfl) q.d q.os
  refine wp_region_quiet_below (by kernel_rfl) (by kernel_rfl) ?_
  repeat (go_big_quiet_step (first | (go_at_call 21; with_reducible exact Ret.regrown (HP1.out _)) | (go_at_call 21; with_reducible exact Ret.regrown (HP2.out _)) | (go_at_call 21; with_reducible exact Ret.regrown (HP3.out _)) | (go_at_call 21; with_reducible exact Ret.regrown (HP4.out _))))
  refine wpQuiet_nil ?_
  intro w5 hw5
  have hbx := below_of_regrown hw5
  replace hN := hN.below hbx
  replace hbb := Below.trans hbb (hbx.mono (by have := hbb.size; omega))
  clear hw5 hbx f0 f1 f2 f3
  generalize hhs : a1 ++ a2 ++ a3 ++ a4 = hs at z1234 HBO ⊢
  clear hhs z1 z2 z3 z4 HP1 HP2 HP3 HP4
  obtain ⟨c0, c1, c2, c3, c4, c5, c6, c7, c8, c9, c10, c11, c12, c13, c14, c15, c16, c17⟩ := Blk18 hN
  go_upto_region 4 with fail
  clear c0 c1 c2 c3 c4 c5 c6 c7 c8 c9 c10 c11 c12 c13 c14 c15 c16 c17
  have ta0 : (hs ++ b0).size ≤ 1000000 := by rw [ByteArray.size_append]; omega
  have ta1 : (hs ++ b0 ++ b1).size ≤ 2000000 := by rw [ByteArray.size_append]; omega
  have f4 : ∀ p : Regrown, (grow (redrawn w5 p.d) p.os).cell? ⟨g, 4, none⟩ = some (.int .i64 page) := fun q => cell_regrown (hN.cell 4 (v := .int .i64 page) rfl) q.d q.os
  have f7 : ∀ p : Regrown, (grow (redrawn w5 p.d) p.os).cell? ⟨g, 7, none⟩ = some (.int .i64 ok) := fun q => cell_regrown (hN.cell 7 (v := .int .i64 ok) rfl) q.d q.os
  have f8 : ∀ p : Regrown, (grow (redrawn w5 p.d) p.os).cell? ⟨g, 8, none⟩ = some (.int .i64 os) := fun q => cell_regrown (hN.cell 8 (v := .int .i64 os) rfl) q.d q.os
  have f9 : ∀ p : Regrown, (grow (redrawn w5 p.d) p.os).cell? ⟨g, 9, none⟩ = some (.string s1) := fun q => cell_regrown (hN.cell 9 (v := .string s1) rfl) q.d q.os
  have f10 : ∀ p : Regrown, (grow (redrawn w5 p.d) p.os).cell? ⟨g, 10, none⟩ = some (.string s2) := fun q => cell_regrown (hN.cell 10 (v := .string s2) rfl) q.d q.os
  have f11 : ∀ p : Regrown, (grow (redrawn w5 p.d) p.os).cell? ⟨g, 11, none⟩ = some (.int .i64 1) := fun q => cell_regrown (hN.cell 11 (v := .int .i64 1) rfl) q.d q.os
  refine wp_region_quiet_below (by kernel_rfl) (by kernel_rfl) ?_
  repeat (go_big_quiet_step (first | (go_at_call 21; with_reducible exact Ret.regrown (HB0.out _)) | (go_at_call 52; with_reducible exact Ret.regrown (HB1.out _)) | (go_at_call 21; with_reducible exact Ret.regrown (HB2.out _))))
  refine wpQuiet_nil ?_
  intro w6 hw5
  have hbx := below_of_regrown hw5
  replace hN := hN.below hbx
  replace hbb := Below.trans hbb (hbx.mono (by have := hbb.size; omega))
  clear hw5 hbx f4 f7 f8 f9 f10 f11
  have zf : (hs ++ b0 ++ b1 ++ b2).size ≤ 10000000 := by rw [ByteArray.size_append]; omega
  generalize hhs2 : hs ++ b0 ++ b1 ++ b2 = hs2 at zf HBO ⊢
  clear hhs2
  obtain ⟨c0, c1, c2, c3, c4, c5, c6, c7, c8, c9, c10, c11, c12, c13, c14, c15, c16, c17⟩ := Blk18 hN
  go_wp2_with fail
  go_ret
  exact ⟨ret_str (by rw [HBO.out]), by rw [← HG] at hbb; exact hbb⟩
set_option maxHeartbeats 4000000 in
set_option maxRecDepth 100000 in
theorem rbody_2b (lsn prev txn page next num ok os : Int) (old new : List UInt8) (how root : Int) (key : List UInt8) (rp rs : Int) (txns : List Tx) (dirty : List Dy) (vt vd : Value) (w : World) (hv : ElAt w 4 vt (txC txns)) (hd : ElAt w 2 vd (dyC dirty)) (hlo : old.length ≤ 65535) (hln : new.length ≤ 65535) (hlk : key.length ≤ 65535) (hh : how ≠ 1) :
    Calls Try.prog 20 #[.agg (rcC (Rc.mk lsn prev txn 2 page next num ok os old new how root key rp rs txns dirty) vt vd)] w (Ret (.string (S (bodyL (Rc.mk lsn prev txn 2 page next num ok os old new how root key rp rs txns dirty)))) w) := by
  obtain ⟨ao, cap, rfl⟩ := hv.nil
  obtain ⟨bo, cap2, rfl⟩ := hd.nil
  clear hv hd
  have HP1 := Lib.hid (fun W => rput_at 2 1 1 rfl (by omega) W)
  have HP2 := Lib.hid (fun W => rput_at lsn 6 6 rfl (by omega) W)
  have HP3 := Lib.hid (fun W => rput_at prev 6 6 rfl (by omega) W)
  have HP4 := Lib.hid (fun W => rput_at txn 6 6 rfl (by omega) W)
  have HB0 := Lib.hid (fun W => rput_at page 3 3 rfl (by omega) W)
  have HB2 := Lib.hid (fun W => rput_at how 1 1 rfl (by omega) W)
  have HB3 := Lib.hid (fun W => rput_at root 3 3 rfl (by omega) W)
  have HB4 := Lib.hid (fun W => rput_at rp 3 3 rfl (by omega) W)
  have HB5 := Lib.hid (fun W => rput_at rs 2 2 rfl (by omega) W)
  have HBO : Hid (S (bodyL (Rc.mk lsn prev txn 2 page next num ok os old new how root key rp rs txns dirty)) = S (putL (U 2) 1 ++ putL (U lsn) 6 ++ putL (U prev) 6 ++ putL (U txn) 6 ++ putL (U page) 3 ++ (putL (U ok) 1 ++ putL (U os) 2 ++ textL old ++ textL new) ++ putL (U how) 1 ++ putL (U root) 3 ++ putL (U rp) 3 ++ putL (U rs) 2 ++ textL key)) := by
    show _ = _
    refine congrArg S ?_
    show headL (Rc.mk lsn prev txn 2 page next num ok os old new how root key rp rs txns dirty) ++ chL (Rc.mk lsn prev txn 2 page next num ok os old new how root key rp rs txns dirty) ++ hoL (Rc.mk lsn prev txn 2 page next num ok os old new how root key rp rs txns dirty) ++ [] ++ [] = _
    rw [show hoL (Rc.mk lsn prev txn 2 page next num ok os old new how root key rp rs txns dirty) = putL (U how) 1 ++ (if how = 1 then [] else putL (U root) 3 ++ putL (U rp) 3 ++ putL (U rs) 2 ++ textL key) from rfl, if_neg hh]
    simp only [headL, chL, neL, hoL, List.append_assoc, List.append_nil, List.nil_append, if_true]
  obtain ⟨F, hF⟩ : ∃ F, S (bodyL (Rc.mk lsn prev txn 2 page next num ok os old new how root key rp rs txns dirty)) = F := ⟨_, rfl⟩
  rw [hF] at HBO ⊢
  clear hF
  simp only [rcC]
  obtain ⟨s1, e1⟩ : ∃ x, S old = x := ⟨_, rfl⟩
  obtain ⟨s2, e2⟩ : ∃ x, S new = x := ⟨_, rfl⟩
  obtain ⟨s3, e3⟩ : ∃ x, S key = x := ⟨_, rfl⟩
  obtain ⟨n1, hn1⟩ : ∃ n, (txC txns).length = n := ⟨_, rfl⟩
  obtain ⟨n2, hn2⟩ : ∃ n, (dyC dirty).length = n := ⟨_, rfl⟩
  have HB1 := Lib.hid (fun W => rstr_op ok os old new s1 s2 e1 e2 hlo hln W)
  have HB6 := Lib.hid (fun W => rtext_at key s3 e3 hlk W)
  rw [e1, e2, e3, hn1, hn2]
  clear e1 e2 e3 hn1 hn2
  replace HBO := HBO.out
  simp only [← Oct.S_append] at HBO
  obtain ⟨a1, e1, z1⟩ := name_put 2 1
  obtain ⟨a2, e2, z2⟩ := name_put lsn 6
  obtain ⟨a3, e3, z3⟩ := name_put prev 6
  obtain ⟨a4, e4, z4⟩ := name_put txn 6
  rw [e1] at HBO HP1
  rw [e2] at HBO HP2
  rw [e3] at HBO HP3
  rw [e4] at HBO HP4
  obtain ⟨b0, g0, y0⟩ := name_put page 3
  rw [g0] at HBO HB0
  obtain ⟨b1, g1⟩ : ∃ b, S (putL (U ok) 1 ++ putL (U os) 2 ++ textL old ++ textL new) = b := ⟨_, rfl⟩
  have y1 : b1.size ≤ 140000 := by rw [← g1, S_size]; simp only [List.length_append, Oct.putL_length]; have := textL_z old; have := textL_z new; omega
  rw [g1] at HB1
  rw [show S (putL (U ok) 1) ++ S (putL (U os) 2) ++ S (textL old) ++ S (textL new) = b1 from by rw [← g1]; simp only [← Oct.S_append]] at HBO
  obtain ⟨b2, g2, y2⟩ := name_put how 1
  rw [g2] at HBO HB2
  obtain ⟨b3, g3, y3⟩ := name_put root 3
  rw [g3] at HBO HB3
  obtain ⟨b4, g4, y4⟩ := name_put rp 3
  rw [g4] at HBO HB4
  obtain ⟨b5, g5, y5⟩ := name_put rs 2
  rw [g5] at HBO HB5
  obtain ⟨b6, g6, y6⟩ := name_text key
  rw [g6] at HBO HB6
  replace HBO := Lib.hid HBO
  clear e1 e2 e3 e4 hlo hln hlk g0 g1 g2 g3 g4 g5 g6
  have z12 : (a1 ++ a2).size ≤ 20 := by rw [ByteArray.size_append]; omega
  have z123 : (a1 ++ a2 ++ a3).size ≤ 40 := by rw [ByteArray.size_append]; omega
  have z1234 : (a1 ++ a2 ++ a3 ++ a4).size ≤ 60 := by rw [ByteArray.size_append]; omega
  have hN := Blk.new w #[.int .i64 lsn, .int .i64 prev, .int .i64 txn, .int .i64 2, .int .i64 page, .int .i64 next, .int .i64 num, .int .i64 ok, .int .i64 os, .string s1, .string s2, .int .i64 how, .int .i64 root, .string s3, .int .i64 rp, .int .i64 rs, .slice ao n1 cap, .slice bo n2 cap2] 31
  have hbb := (Below.refl w.heap.size w).alloc (Nat.le_refl _) (.cells #[.int .i64 lsn, .int .i64 prev, .int .i64 txn, .int .i64 2, .int .i64 page, .int .i64 next, .int .i64 num, .int .i64 ok, .int .i64 os, .string s1, .string s2, .int .i64 how, .int .i64 root, .string s3, .int .i64 rp, .int .i64 rs, .slice ao n1 cap, .slice bo n2 cap2] 31)
  go_enter Try.func20, Try.ntmps20
  go_upto_region 1 with fail
  obtain ⟨g, HG⟩ : ∃ x, w.heap.size = x := ⟨_, rfl⟩
  rw [HG] at hN hbb ⊢
  generalize (w.alloc (.cells #[.int .i64 lsn, .int .i64 prev, .int .i64 txn, .int .i64 2, .int .i64 page, .int .i64 next, .int .i64 num, .int .i64 ok, .int .i64 os, .string s1, .string s2, .int .i64 how, .int .i64 root, .string s3, .int .i64 rp, .int .i64 rs, .slice ao n1 cap, .slice bo n2 cap2] 31)) = W at hN hbb ⊢
  have f0 : ∀ p : Regrown, (grow (redrawn W p.d) p.os).cell? ⟨g, 0, none⟩ = some (.int .i64 lsn) := fun q => cell_regrown (hN.cell 0 (v := .int .i64 lsn) rfl) q.d q.os
  have f1 : ∀ p : Regrown, (grow (redrawn W p.d) p.os).cell? ⟨g, 1, none⟩ = some (.int .i64 prev) := fun q => cell_regrown (hN.cell 1 (v := .int .i64 prev) rfl) q.d q.os
  have f2 : ∀ p : Regrown, (grow (redrawn W p.d) p.os).cell? ⟨g, 2, none⟩ = some (.int .i64 txn) := fun q => cell_regrown (hN.cell 2 (v := .int .i64 txn) rfl) q.d q.os
  have f3 : ∀ p : Regrown, (grow (redrawn W p.d) p.os).cell? ⟨g, 3, none⟩ = some (.int .i64 2) := fun q => cell_regrown (hN.cell 3 (v := .int .i64 2) rfl) q.d q.os
  refine wp_region_quiet_below (by kernel_rfl) (by kernel_rfl) ?_
  repeat (go_big_quiet_step (first | (go_at_call 21; with_reducible exact Ret.regrown (HP1.out _)) | (go_at_call 21; with_reducible exact Ret.regrown (HP2.out _)) | (go_at_call 21; with_reducible exact Ret.regrown (HP3.out _)) | (go_at_call 21; with_reducible exact Ret.regrown (HP4.out _))))
  refine wpQuiet_nil ?_
  intro w5 hw5
  have hbx := below_of_regrown hw5
  replace hN := hN.below hbx
  replace hbb := Below.trans hbb (hbx.mono (by have := hbb.size; omega))
  clear hw5 hbx f0 f1 f2 f3
  generalize hhs : a1 ++ a2 ++ a3 ++ a4 = hs at z1234 HBO ⊢
  clear hhs z1 z2 z3 z4 HP1 HP2 HP3 HP4
  obtain ⟨c0, c1, c2, c3, c4, c5, c6, c7, c8, c9, c10, c11, c12, c13, c14, c15, c16, c17⟩ := Blk18 hN
  go_upto_region 4 with fail
  clear c0 c1 c2 c3 c4 c5 c6 c7 c8 c9 c10 c11 c12 c13 c14 c15 c16 c17
  have ta0 : (hs ++ b0).size ≤ 1000000 := by rw [ByteArray.size_append]; omega
  have ta1 : (hs ++ b0 ++ b1).size ≤ 2000000 := by rw [ByteArray.size_append]; omega
  have f4 : ∀ p : Regrown, (grow (redrawn w5 p.d) p.os).cell? ⟨g, 4, none⟩ = some (.int .i64 page) := fun q => cell_regrown (hN.cell 4 (v := .int .i64 page) rfl) q.d q.os
  have f7 : ∀ p : Regrown, (grow (redrawn w5 p.d) p.os).cell? ⟨g, 7, none⟩ = some (.int .i64 ok) := fun q => cell_regrown (hN.cell 7 (v := .int .i64 ok) rfl) q.d q.os
  have f8 : ∀ p : Regrown, (grow (redrawn w5 p.d) p.os).cell? ⟨g, 8, none⟩ = some (.int .i64 os) := fun q => cell_regrown (hN.cell 8 (v := .int .i64 os) rfl) q.d q.os
  have f9 : ∀ p : Regrown, (grow (redrawn w5 p.d) p.os).cell? ⟨g, 9, none⟩ = some (.string s1) := fun q => cell_regrown (hN.cell 9 (v := .string s1) rfl) q.d q.os
  have f10 : ∀ p : Regrown, (grow (redrawn w5 p.d) p.os).cell? ⟨g, 10, none⟩ = some (.string s2) := fun q => cell_regrown (hN.cell 10 (v := .string s2) rfl) q.d q.os
  have f11 : ∀ p : Regrown, (grow (redrawn w5 p.d) p.os).cell? ⟨g, 11, none⟩ = some (.int .i64 how) := fun q => cell_regrown (hN.cell 11 (v := .int .i64 how) rfl) q.d q.os
  refine wp_region_quiet_below (by kernel_rfl) (by kernel_rfl) ?_
  repeat (go_big_quiet_step (first | (go_at_call 21; with_reducible exact Ret.regrown (HB0.out _)) | (go_at_call 52; with_reducible exact Ret.regrown (HB1.out _)) | (go_at_call 21; with_reducible exact Ret.regrown (HB2.out _))))
  refine wpQuiet_nil ?_
  intro w6 hw5
  have hbx := below_of_regrown hw5
  replace hN := hN.below hbx
  replace hbb := Below.trans hbb (hbx.mono (by have := hbb.size; omega))
  clear hw5 hbx f4 f7 f8 f9 f10 f11
  have zf : (hs ++ b0 ++ b1 ++ b2).size ≤ 10000000 := by rw [ByteArray.size_append]; omega
  generalize hhs2 : hs ++ b0 ++ b1 ++ b2 = hs2 at zf HBO ⊢
  clear hhs2
  obtain ⟨c0, c1, c2, c3, c4, c5, c6, c7, c8, c9, c10, c11, c12, c13, c14, c15, c16, c17⟩ := Blk18 hN
  have dh : (how == 1) = false := by simpa using hh
  go_upto_region 7 with fail
  clear c0 c1 c2 c3 c4 c5 c6 c7 c8 c9 c10 c11 c12 c13 c14 c15 c16 c17
  have tb0 : (hs2 ++ b3).size ≤ 20000000 := by rw [ByteArray.size_append]; omega
  have tb1 : (hs2 ++ b3 ++ b4).size ≤ 40000000 := by rw [ByteArray.size_append]; omega
  have tb2 : (hs2 ++ b3 ++ b4 ++ b5).size ≤ 60000000 := by rw [ByteArray.size_append]; omega
  have f12 : ∀ p : Regrown, (grow (redrawn w6 p.d) p.os).cell? ⟨g, 12, none⟩ = some (.int .i64 root) := fun q => cell_regrown (hN.cell 12 (v := .int .i64 root) rfl) q.d q.os
  have f14 : ∀ p : Regrown, (grow (redrawn w6 p.d) p.os).cell? ⟨g, 14, none⟩ = some (.int .i64 rp) := fun q => cell_regrown (hN.cell 14 (v := .int .i64 rp) rfl) q.d q.os
  have f15 : ∀ p : Regrown, (grow (redrawn w6 p.d) p.os).cell? ⟨g, 15, none⟩ = some (.int .i64 rs) := fun q => cell_regrown (hN.cell 15 (v := .int .i64 rs) rfl) q.d q.os
  have f13 : ∀ p : Regrown, (grow (redrawn w6 p.d) p.os).cell? ⟨g, 13, none⟩ = some (.string s3) := fun q => cell_regrown (hN.cell 13 (v := .string s3) rfl) q.d q.os
  refine wp_region_quiet_below (by kernel_rfl) (by kernel_rfl) ?_
  repeat (go_big_quiet_step (first | (go_at_call 21; with_reducible exact Ret.regrown (HB3.out _)) | (go_at_call 21; with_reducible exact Ret.regrown (HB4.out _)) | (go_at_call 21; with_reducible exact Ret.regrown (HB5.out _)) | (go_at_call 53; with_reducible exact Ret.regrown (HB6.out _))))
  refine wpQuiet_nil ?_
  intro w7 hw5
  have hbx := below_of_regrown hw5
  replace hN := hN.below hbx
  replace hbb := Below.trans hbb (hbx.mono (by have := hbb.size; omega))
  clear hw5 hbx f12 f14 f15 f13
  go_wp2_with fail
  go_ret
  exact ⟨ret_str (by rw [HBO.out]), by rw [← HG] at hbb; exact hbb⟩
end Go.Proofs.Ytloengjcniefgaa.Rec
namespace Go.Proofs.Ytloengjcniefgaa
set_option linter.unusedVariables false
set_option linter.unusedSimpArgs false
open Go.RowKit
open Oct (S S_size S_data)
open Lib (strCells)
/-- The call's own bytes, whatever mark their block bears behind its last cell. -/
structure OwnC (w : World) (B : Nat) (v : Value) (l : List UInt8) : Prop where
  sh : ∃ g cap, v = .slice (some ⟨g, 0, none⟩) l.length cap ∧ B ≤ g ∧ g < w.heap.size ∧ l.length ≤ cap ∧ cap ≤ maxLen ∧ BytesAt w g l ∧ ∀ j, j < cap → (w.cell? ⟨g, j, none⟩).isSome = true ∧ w.frozen? ⟨g, j, none⟩ = false
theorem OwnC.below {w w1 : World} {B : Nat} {v : Value} {l : List UInt8} (h : OwnC w B v l) (hb : Below w.heap.size w w1) : OwnC w1 B v l := by
  obtain ⟨g, cap, hv, hB, hg, hl, hm, hb1, hc⟩ := h.sh
  refine ⟨g, cap, hv, hB, Nat.lt_of_lt_of_le hg hb.size, hl, hm, hb1.below hb hg, fun j hj => ?_⟩
  rw [hb.cell (p := ⟨g, j, none⟩) hg, hb.frozen (p := ⟨g, j, none⟩) hg]
  exact hc j hj
theorem OwnC.lt {w : World} {B : Nat} {v : Value} {l : List UInt8} (h : OwnC w B v l) : ∀ k, v.ownBlock = some k → B ≤ k ∧ k < w.heap.size := by
  obtain ⟨g, cap, rfl, hB, hg, _⟩ := h.sh
  intro k hk
  injection hk with hk
  subst hk
  exact ⟨hB, hg⟩
theorem grownBy_setCells (b : Nat) : ∀ (vs : List Value) (o : Nat) (w : World), w.grownBy (w.setCells b o vs) (some b)
  | [], _, w => ⟨rfl, rfl, rfl, Nat.le_refl _, fun _ _ _ => rfl⟩
  | v :: r, o, w => (grownBy_set w b o v).trans (grownBy_setCells b r (o + 1) _)
/-- '[]byte(s)'. -/
theorem wpList_bytesC {P : Program} {w : World} {ops : Array Oper} {rest : List Oper} {a : Act} {Q : Exit → Act → World → Prop} {d : Option Tmp} {x : Operand} {ty : TypeId} {p : String} {af : Array Edge}
    (src dst e : TypeId) (hs : P.underlying src = some .string) (hd : P.underlying dst = some (.slice e)) (he : P.underlying e = some (.int .u8))
    (hh : ∃ l : List UInt8, a.eval x = .string (S l) ∧ l.length ≤ 1000000 ∧ ∀ v w1, OwnC w1 w.heap.size v l → Below w.heap.size w w1 → wpList P ops Q rest (a.put d v) w1) :
    wpList P ops Q (⟨d, .convert src dst x, ty, p, af, none⟩ :: rest) a w := by
  obtain ⟨l, hx, hl, h⟩ := hh
  refine wpList_plain rfl fun K hK' => ?_
  have hrun := run_bytes_of_string w src dst e (S l) hs hd he
  have hcm := grownCap_le_maxLen w (S l).size 0 e (by rw [S_size]; unfold maxLen; omega)
  have hge := grownCap_ge w (S l).size 0 e
  unfold Oper.wp
  simp only [execOp, hx]
  simp [hrun, Result.andThen, Oper.upon]
  have hz : w.drew.heap.size = w.heap.size := rfl
  generalize grownCap w (S l).size 0 e = cap at *
  have hsz : (S l).size = l.length := S_size l
  have hrow : (bytesRow (S l) cap).size = cap := by
    unfold bytesRow
    simp only [Array.size_append, Array.size_map, Array.size_replicate]
    have h1 : (S l).data.size = l.length := S_size l
    have h2 : l.toArray.size = l.length := by simp
    omega
  refine hK' _ _ (h _ _ ?_ ?_)
  · refine ⟨w.heap.size, cap, by rw [hsz], Nat.le_refl _, by simp only [World.size_alloc, hz]; omega, by omega, hcm, fun j hj => ?_, fun j hj => ?_⟩
    · have hj' : j < (S l).data.size := by have : (S l).data.size = (S l).size := rfl; omega
      constructor
      · have := World.cell?_alloc_mark w.drew (bytesRow (S l) cap) e ((bytesRow (S l) cap).size, (bytesRow (S l) cap).size + 1) j
        rw [hz] at this
        rw [this, bytesRow_at (S l) cap j hj']
        simp [S]
      · have := World.frozen?_alloc_mark w.drew (bytesRow (S l) cap) e ((bytesRow (S l) cap).size) ((bytesRow (S l) cap).size + 1) j
        rw [hz] at this
        rw [this]
        simp; omega
    · constructor
      · have := World.cell?_alloc_mark w.drew (bytesRow (S l) cap) e ((bytesRow (S l) cap).size, (bytesRow (S l) cap).size + 1) j
        rw [hz] at this
        rw [this, Array.getElem?_eq_getElem (by omega)]
        rfl
      · have := World.frozen?_alloc_mark w.drew (bytesRow (S l) cap) e ((bytesRow (S l) cap).size) ((bytesRow (S l) cap).size + 1) j
        rw [hz] at this
        rw [this]
        simp; omega
  · exact ((Below.refl _ _).drew.alloc (by rw [hz]; exact Nat.le_refl _) _)
/-- 'append(b, s...)', s a text. -/
theorem wpList_appC {P : Program} {w : World} {ops : Array Oper} {rest : List Oper} {a : Act} {Q : Exit → Act → World → Prop} {d : Option Tmp} {s x : Operand} {ty : TypeId} {p : String} {af : Array Edge}
    (t u e : TypeId) (ht : P.underlying t = some (.slice e)) (hu : P.underlying u = some .string) (hi : (P.info? e).map (fun i => (i.zero, i.size, i.bytes)) = some (some (.int .u8 0), 1, 1))
    (hh : ∃ (B : Nat) (v : Value) (l m : List UInt8), a.eval s = v ∧ a.eval x = .string (S m) ∧ OwnC w B v l ∧ l.length + m.length ≤ 1000000000 ∧ B ≤ w.heap.size ∧
      ∀ v' w1, OwnC w1 B v' (l ++ m) → Below B w w1 → wpList P ops Q rest (a.put d v') w1) :
    wpList P ops Q (⟨d, .call { callee := .builtin .append, args := #[s, x], argTypes := #[t, u] }, ty, p, af, none⟩ :: rest) a w := by
  obtain ⟨B, v, l, m, hs, hx, hown, hl, hB, h⟩ := hh
  obtain ⟨i, hi0, hz, hsz1, hby1⟩ := info_parts hi
  obtain ⟨g, cap, rfl, hBg, hg, hlc, hcm, hb, hc⟩ := hown.sh
  have hms : (S m).size = m.length := S_size m
  have hcl : (strCells (S m)).length = m.length := by simp [strCells]
  have hcg : ∀ j (hj : j < m.length), (strCells (S m))[j]? = some (.int .u8 (m[j].toNat : Int)) := fun j hj => by simp [strCells, hj]
  suffices H : ∃ v' w1, (Builtin.append_ #[t, u] ty #[.slice (some ⟨g, 0, none⟩) l.length cap, .string (S m)]).run P w = .ok v' w1 ∧ OwnC w1 B v' (l ++ m) ∧ Below B w w1 by
    obtain ⟨v', w1, hr, h1, h2⟩ := H
    refine wpList_plain rfl fun K hK => ?_
    unfold Oper.wp execOp
    simp only [resolve, invoke, builtin, Sem.run_bind, Sem.run_pure, Result.andThen_ok, List.map_toArray, List.map_cons, List.map_nil, hs, hx, hr]
    exact hK _ _ (h v' w1 h1 h2)
  by_cases hroom : l.length + m.length ≤ cap
  · have hf := Lib.run_firstCells_string (P := P) w 1 (S m)
    have hst := run_storeCells_cells (P := P) g l.length (strCells (S m)) 0 w (fun j hj => by rw [Nat.add_zero]; exact (hc _ (by omega)).1) (fun j hj => by rw [Nat.add_zero]; exact (hc _ (by omega)).2) (Lib.strCells_oneCell (S m))
    rw [Nat.add_zero] at hst
    rw [hms] at hf
    have hgr := grownBy_setCells g (strCells (S m)) l.length w
    refine ⟨.slice (some ⟨g, 0, none⟩) (l.length + m.length) cap, w.setCells g l.length (strCells (S m)), ?_, ⟨g, cap, by rw [List.length_append], hBg, Nat.lt_of_lt_of_le hg hgr.size, by rw [List.length_append]; exact hroom, hcm, fun j hj => ⟨?_, ?_⟩, fun j hj => ⟨World.isSome_setCells _ _ _ _ _ (hc j hj).1, by rw [World.frozen?_setCells]; exact (hc j hj).2⟩⟩, (Below.refl B w).grown hgr hB (fun k hk => by injection hk with hk; omega)⟩
    · simp [Builtin.append_, run_underlying ht, run_underlying hu, sizeOf, typeInfo, hi0, hsz1, Builtin.lenOf, hms, hroom, hf, Addr.add_lit, hst]
    · rw [List.length_append] at hj
      by_cases hjl : j < l.length
      · rw [World.cell?_setCells_out g _ _ w ⟨g, j, none⟩ (fun _ _ => Or.inl hjl), (hb j hjl).1, List.getElem_append_left hjl]
      · obtain ⟨q, rfl⟩ : ∃ q, j = l.length + q := ⟨j - l.length, by omega⟩
        have hq : q < m.length := by omega
        rw [World.cell?_setCells_in g (strCells (S m)) l.length w (fun i hi => (hc _ (by omega)).1) q (by omega)]
        have := hcg q hq
        rw [List.getElem?_eq_getElem (by omega)] at this
        rw [this, List.getElem_append_right (by omega)]
        simp
    · rw [World.frozen?_setCells]
      rw [List.length_append] at hj
      exact (hc j (by omega)).2
  · have holds : ∀ j u, (strCells (S l))[j]? = some u → w.cell? ((⟨g, 0, none⟩ : Addr).add j) = some u := fun j u hj => by
      have hjl : j < l.length := by have := (List.getElem?_eq_some_iff.1 hj).1; simpa [strCells] using this
      have e : (strCells (S l))[j]? = some (.int .u8 (l[j].toNat : Int)) := by simp [strCells, hjl]
      rw [e] at hj
      injection hj with hj
      subst hj
      simpa [Addr.add_lit] using (hb j hjl).1
    have hr := Lib.run_append_grow_string (P := P) w t u ty e i (.int .u8 0) ht hu hi0 hz ⟨g, 0, none⟩ l.length cap (strCells (S l)) (by rw [hsz1]; simp [strCells]) holds (S m) (by omega) (by rw [hms]; omega) (by rw [hby1]; exact growslice_fits (by omega) (by rw [hms]; omega))
    rw [hms] at hr
    have hge := grownCap_ge w (l.length + m.length) cap e
    have hcm2 := grownCap_le_maxLen w (l.length + m.length) cap e (by unfold maxLen; omega)
    generalize grownCap w (l.length + m.length) cap e = c2 at hr hge hcm2
    have hz0 : w.drew.heap.size = w.heap.size := rfl
    have hall : ∀ j, (w.drew.alloc (.cells ((strCells (S l)).toArray ++ (strCells (S m)).toArray ++ Builtin.zeroCells (Value.int .u8 0).cells (c2 - (l.length + m.length))) e)).cell? ⟨w.heap.size, j, none⟩ = ((strCells (S l)).toArray ++ (strCells (S m)).toArray ++ Builtin.zeroCells (Value.int .u8 0).cells (c2 - (l.length + m.length)))[j]? := fun j => by
      have := World.cell?_alloc_mark w.drew ((strCells (S l)).toArray ++ (strCells (S m)).toArray ++ Builtin.zeroCells (Value.int .u8 0).cells (c2 - (l.length + m.length))) e (0, 0) j
      rwa [hz0] at this
    have hfz : ∀ j, (w.drew.alloc (.cells ((strCells (S l)).toArray ++ (strCells (S m)).toArray ++ Builtin.zeroCells (Value.int .u8 0).cells (c2 - (l.length + m.length))) e)).frozen? ⟨w.heap.size, j, none⟩ = false := fun j => by
      have := World.frozen?_alloc_mark w.drew ((strCells (S l)).toArray ++ (strCells (S m)).toArray ++ Builtin.zeroCells (Value.int .u8 0).cells (c2 - (l.length + m.length))) e 0 0 j
      rw [hz0] at this
      rw [this]
      simp
    have hzc : (Builtin.zeroCells (Value.int .u8 0).cells (c2 - (l.length + m.length))).size = c2 - (l.length + m.length) := by
      rw [size_zeroCells]
      show _ * 1 = _
      omega
    refine ⟨_, _, hr, ⟨w.heap.size, c2, by rw [List.length_append], hB, by simp only [World.size_alloc, hz0]; omega, by rw [List.length_append]; exact hge, hcm2, fun j hj => ⟨?_, hfz j⟩, fun j hj => ⟨?_, hfz j⟩⟩, (Below.refl B w).drew.alloc hB _⟩
    · rw [hall, Array.getElem?_append_left (by rw [List.length_append] at hj; simp [hcl]; simp [strCells]; omega)]
      have hj2 := hj
      rw [List.length_append] at hj2
      simp only [List.append_toArray, List.getElem?_toArray]
      simp [strCells]
      rw [← List.map_append, List.getElem?_map, List.getElem?_eq_getElem hj]
      rfl
    · rw [hall, Array.getElem?_eq_getElem (by simp only [Array.size_append, hzc, List.size_toArray, hcl]; simp [strCells]; omega)]
      rfl
end Go.Proofs.Ytloengjcniefgaa
namespace Go.Proofs.Ytloengjcniefgaa.Rec
set_option linter.unusedVariables false
set_option linter.unusedSimpArgs false
open Go.RowKit Go.Sort
open Oct (S beN putL U I getI sumN S_size S_data)
theorem info_u8c : (Try.prog.info? 5).map (fun i => (i.zero, i.size, i.bytes)) = some (some (.int .u8 0), 1, 1) := by kernel_rfl
theorem _root_.Go.Proofs.Ytloengjcniefgaa.OwnC.lower {w : World} {B B2 : Nat} {v : Value} {l : List UInt8} (h : OwnC w B v l) (hb : B2 ≤ B) : OwnC w B2 v l := by
  obtain ⟨g, cap, hv, hB, r⟩ := h.sh
  exact ⟨g, cap, hv, Nat.le_trans hb hB, r⟩
theorem flat_take {α : Type} (f : α → List UInt8) (k : Nat) (hf : ∀ a, (f a).length = k) (l : List α) (j : Nat) : ((l.take j).map f).flatten.length ≤ k * l.length := by
  rw [flat_len f k _ hf]
  exact Nat.mul_le_mul_left _ (by rw [List.length_take]; omega)
set_option maxHeartbeats 8000000 in
set_option maxRecDepth 100000 in
theorem rchkS_any (r : Rc) (vt vd : Value) (w : World) (hv : ElAt w 4 vt (txC r.txns)) (hd : ElAt w 2 vd (dyC r.dirty)) (hs : r.txns.length ≤ 1000) (hs2 : r.dirty.length ≤ 2000) :
    Calls Try.prog 54 #[.agg (rcC r vt vd)] w (Ret (.string (S (liL r))) w) := by
  have HV := Lib.hid hv
  have HDV := Lib.hid hd
  have HPU := Lib.hid (fun (n sz : Int) (k : Nat) (h : sz = (k : Int)) (h8 : k ≤ 8) W => rput_at n sz k h h8 W)
  have HLI : Hid (liL r = putL (U r.num) 6 ++ putL (U (r.txns.length : Int)) 2 ++ (r.txns.map txL).flatten ++ putL (U (r.dirty.length : Int)) 2 ++ (r.dirty.map dyL).flatten) := rfl
  obtain ⟨F, hF⟩ : ∃ F, liL r = F := ⟨_, rfl⟩
  rw [hF] at HLI ⊢
  clear hF
  obtain ⟨ao, cap, rfl⟩ := hv.nil
  obtain ⟨bo, cap2, rfl⟩ := hd.nil
  clear hv hd
  obtain ⟨lsn, prev, txn, kind, page, next, num, ok, os, old, new, how, root, key, rp, rs, txns, dirty⟩ := r
  simp only [rcC, txC_len, dyC_len] at *
  obtain ⟨s1, e1⟩ : ∃ x, S old = x := ⟨_, rfl⟩
  obtain ⟨s2, e2⟩ : ∃ x, S new = x := ⟨_, rfl⟩
  obtain ⟨s3, e3⟩ : ∃ x, S key = x := ⟨_, rfl⟩
  rw [e1, e2, e3]
  clear e1 e2 e3
  have HP1 := Lib.hid (fun W => HPU.out num 6 6 rfl (by omega) W)
  have HP2 := Lib.hid (fun W => HPU.out (txns.length : Int) 2 2 rfl (by omega) W)
  have HP3 := Lib.hid (fun W => HPU.out (dirty.length : Int) 2 2 rfl (by omega) W)
  obtain ⟨L0, HL0⟩ : ∃ L0, Hid (L0 = putL (U num) 6 ++ putL (U (txns.length : Int)) 2) := ⟨_, rfl⟩
  have hL0 : L0.length = 8 := by rw [HL0.out, List.length_append, Oct.putL_length, Oct.putL_length]
  obtain ⟨a1, e1, z1⟩ := name_put num 6
  obtain ⟨a2, e2, z2⟩ := name_put (txns.length : Int) 2
  have HS0 : Hid (a1 ++ a2 = S L0) := by show _ = _; rw [HL0.out, ← e1, ← e2, Oct.S_append]
  rw [e1] at HP1
  rw [e2] at HP2
  clear e1 e2
  have HLA : Hid (∀ j, j ≤ txns.length → (L0 ++ ((txns.take j).map txL).flatten).length ≤ 20000) := fun j _ => by
    have := flat_take txL 19 txL_len txns j
    rw [List.length_append]
    omega
  have hN := Blk.new w #[.int .i64 lsn, .int .i64 prev, .int .i64 txn, .int .i64 kind, .int .i64 page, .int .i64 next, .int .i64 num, .int .i64 ok, .int .i64 os, .string s1, .string s2, .int .i64 how, .int .i64 root, .string s3, .int .i64 rp, .int .i64 rs, .slice ao txns.length cap, .slice bo dirty.length cap2] 31
  have hbb := (Below.refl w.heap.size w).alloc (Nat.le_refl _) (.cells #[.int .i64 lsn, .int .i64 prev, .int .i64 txn, .int .i64 kind, .int .i64 page, .int .i64 next, .int .i64 num, .int .i64 ok, .int .i64 os, .string s1, .string s2, .int .i64 how, .int .i64 root, .string s3, .int .i64 rp, .int .i64 rs, .slice ao txns.length cap, .slice bo dirty.length cap2] 31)
  go_enter Try.func54, Try.ntmps54
  go_upto_region 1 with fail
  obtain ⟨B, hB⟩ : ∃ B, (w.alloc (.cells #[.int .i64 lsn, .int .i64 prev, .int .i64 txn, .int .i64 kind, .int .i64 page, .int .i64 next, .int .i64 num, .int .i64 ok, .int .i64 os, .string s1, .string s2, .int .i64 how, .int .i64 root, .string s3, .int .i64 rp, .int .i64 rs, .slice ao txns.length cap, .slice bo dirty.length cap2] 31)).heap.size = B := ⟨_, rfl⟩
  obtain ⟨g, HG⟩ : ∃ x, w.heap.size = x := ⟨_, rfl⟩
  have hgB : g < B := by rw [← hB, ← HG]; simp
  have HWB : Hid (w.heap.size ≤ B) := by show _ ≤ _; omega
  have HV2 := Lib.hid (HV.out.below hbb)
  have HDV2 := Lib.hid (HDV.out.below hbb)
  have hb0 : Below B (w.alloc (.cells #[.int .i64 lsn, .int .i64 prev, .int .i64 txn, .int .i64 kind, .int .i64 page, .int .i64 next, .int .i64 num, .int .i64 ok, .int .i64 os, .string s1, .string s2, .int .i64 how, .int .i64 root, .string s3, .int .i64 rp, .int .i64 rs, .slice ao txns.length cap, .slice bo dirty.length cap2] 31)) (w.alloc (.cells #[.int .i64 lsn, .int .i64 prev, .int .i64 txn, .int .i64 kind, .int .i64 page, .int .i64 next, .int .i64 num, .int .i64 ok, .int .i64 os, .string s1, .string s2, .int .i64 how, .int .i64 root, .string s3, .int .i64 rp, .int .i64 rs, .slice ao txns.length cap, .slice bo dirty.length cap2] 31)) := Below.refl _ _
  have HB0 := Lib.hid hbb
  have HGB := Lib.hid HG
  rw [HG] at hN ⊢
  generalize (w.alloc (.cells #[.int .i64 lsn, .int .i64 prev, .int .i64 txn, .int .i64 kind, .int .i64 page, .int .i64 next, .int .i64 num, .int .i64 ok, .int .i64 os, .string s1, .string s2, .int .i64 how, .int .i64 root, .string s3, .int .i64 rp, .int .i64 rs, .slice ao txns.length cap, .slice bo dirty.length cap2] 31)) = W0 at hN hbb hB hb0 HV2 HDV2 HB0 ⊢
  have HV3 : Hid (∀ W, Below B W0 W → ElAt W 4 (.slice ao txns.length cap) (txC txns)) := fun W h => HV2.out.below (by rw [hB]; exact h)
  have HDV3 : Hid (∀ W, Below B W0 W → ElAt W 2 (.slice bo dirty.length cap2) (dyC dirty)) := fun W h => HDV2.out.below (by rw [hB]; exact h)
  have HFIN : Hid (∀ W, Below B W0 W → Below w.heap.size w W) := fun W h => HB0.out.trans (h.mono HWB.out)
  clear HV HDV HV2 HDV2 HB0 hbb HGB HG
  have hbb := hb0
  clear hb0
  have f6 : ∀ p : Regrown, (grow (redrawn W0 p.d) p.os).cell? ⟨g, 6, none⟩ = some (.int .i64 num) := fun q => cell_regrown (hN.cell 6 (v := .int .i64 num) rfl) q.d q.os
  have f16 : ∀ p : Regrown, (grow (redrawn W0 p.d) p.os).cell? ⟨g, 16, none⟩ = some (.slice ao txns.length cap) := fun q => cell_regrown (hN.cell 16 (v := .slice ao txns.length cap) rfl) q.d q.os
  refine wp_region_quiet_tail 8 (by kernel_rfl) (by kernel_rfl) ?_
  simp only [List.take, List.drop]
  repeat (go_big_quiet_step (first | (go_at_call 21; with_reducible exact Ret.regrown (HP1.out _)) | (go_at_call 21; with_reducible exact Ret.regrown (HP2.out _))))
  refine wpQuiet_nil ?_
  intro w5 hw5
  have hbx := below_of_regrown hw5
  replace hN := hN.below hbx
  rw [hB] at hbx
  replace hbb := hbb.trans hbx
  clear hw5 hbx f6 f16 HP1 HP2
  rw [HS0.out]
  go_upto_region 3 with ((with_reducible refine wpList_bytesC 9 42 5 Try.underlying9 Try.underlying42 Try.underlying5 ?_); refine ⟨L0, rfl, by omega, ?_⟩; intro v6 w6 hown hb6)
  have hBw5 := hbb.size
  have hown := hown.lower (show B ≤ w5.heap.size by omega)
  replace hN := hN.below hb6
  replace hbb := hbb.trans (hb6.mono (by omega))
  clear hb6 hBw5 HS0 z1 z2
  go_loopw [3, 4] (fun bv iv wr => ∃ (j : Nat) (v : Value), j ≤ txns.length ∧ v = bv ∧ iv = .int .i64 (j : Int) ∧ OwnC wr B v (L0 ++ ((txns.take j).map txL).flatten) ∧ Below B W0 wr ∧ Blk wr g #[.int .i64 lsn, .int .i64 prev, .int .i64 txn, .int .i64 kind, .int .i64 page, .int .i64 next, .int .i64 num, .int .i64 ok, .int .i64 os, .string s1, .string s2, .int .i64 how, .int .i64 root, .string s3, .int .i64 rp, .int .i64 rs, .slice ao txns.length cap, .slice bo dirty.length cap2] 31) (fun _ iv _ => txns.length - (intOf iv).toNat)
  case atStart => exact ⟨0, v6, Nat.zero_le _, rfl, rfl, by simpa using hown, hbb, hN⟩
  case round =>
    clear hown hbb hN
    obtain ⟨j, v, hj, rfl, rfl, hown, hbb, hN⟩ := hrel
    have c16 := hN.cell 16 (v := .slice ao txns.length cap) rfl
    have hszb := hbb.size
    by_cases hlt : j < txns.length
    · obtain ⟨b, off, c1, hv1, _, hc⟩ := (HV3.out _ hbb).get j (by rw [txC_len]; exact hlt)
      rw [txC_len] at hv1
      injection hv1 with e1 _ e3
      subst e1 e3
      rw [txC_get txns j hlt] at hc
      have HST := Lib.hid (map_step txL txns j hlt)
      obtain ⟨n, hn⟩ : ∃ n, txns[j] = n := ⟨_, rfl⟩
      rw [hn] at hc HST
      obtain ⟨k1, k2, k3, k4⟩ := n
      simp only [Tx.cells] at hc
      have d0 : wr.cell? ⟨b, off + j * 4, none⟩ = some (.int .i64 k1) := hc 0 _ rfl
      have d1 : wr.cell? ⟨b, off + j * 4 + 1, none⟩ = some (.int .i64 k2) := hc 1 _ rfl
      have d2 : wr.cell? ⟨b, off + j * 4 + 2, none⟩ = some (.int .i64 k3) := hc 2 _ rfl
      have d3 : wr.cell? ⟨b, off + j * 4 + 3, none⟩ = some (.bool k4) := hc 3 _ rfl
      have hi0 : (0 : Int) ≤ j := by omega
      have hi1 : (j : Int) < txns.length := by omega
      have H1 := Lib.hid (fun W => HPU.out k1 6 6 rfl (by omega) W)
      have H2 := Lib.hid (fun W => HPU.out k2 6 6 rfl (by omega) W)
      have H3 := Lib.hid (fun W => HPU.out k3 6 6 rfl (by omega) W)
      obtain ⟨a1, e1, z1⟩ := name_put k1 6
      obtain ⟨a2, e2, z2⟩ := name_put k2 6
      obtain ⟨a3, e3, z3⟩ := name_put k3 6
      rw [e1] at H1
      rw [e2] at H2
      rw [e3] at H3
      have z12 : (a1 ++ a2).size ≤ 20 := by rw [ByteArray.size_append]; omega
      have z123 : (a1 ++ a2 ++ a3).size ≤ 40 := by rw [ByteArray.size_append]; omega
      clear hc hn
      cases k4 with
      | false =>
        have H4 := Lib.hid (fun W => HPU.out 0 1 1 rfl (by omega) W)
        obtain ⟨a4, e4, z4⟩ := name_put 0 1
        rw [e4] at H4
        have HAS : Hid (a1 ++ a2 ++ a3 ++ a4 = S (txL ⟨k1, k2, k3, false⟩)) := by show _ = _; rw [← e1, ← e2, ← e3, ← e4]; simp only [Oct.S_append]; rfl
        clear e1 e2 e3 e4
        have hT := Blk.new wr #[.int .i64 k1, .int .i64 k2, .int .i64 k3, .bool false] 67
        have hbx := (Below.refl wr.heap.size wr).alloc (Nat.le_refl _) (.cells #[.int .i64 k1, .int .i64 k2, .int .i64 k3, .bool false] 67)
        go_upto_region 7 with fail
        clear d0 d1 d2 d3 c16
        generalize HTI : wr.heap.size = gt at hT hbx ⊢
        generalize (wr.alloc (.cells #[.int .i64 k1, .int .i64 k2, .int .i64 k3, .bool false] 67)) = W5 at hT hbx ⊢
        rw [← HTI] at hbx
        replace hown := hown.below hbx
        replace hN := hN.belowB hbx (by omega)
        replace hbb := hbb.trans (hbx.mono (by have := hbb.size; omega))
        clear hbx HTI
        obtain ⟨⟨c0, c1, c2, c3⟩, _⟩ := Blk4 hT
        go_upto_region 9 with fail
        have f0 : ∀ p : Regrown, (grow (redrawn W5 p.d) p.os).cell? ⟨gt, 0, none⟩ = some (.int .i64 k1) := fun q => cell_regrown c0 q.d q.os
        have f1 : ∀ p : Regrown, (grow (redrawn W5 p.d) p.os).cell? ⟨gt, 1, none⟩ = some (.int .i64 k2) := fun q => cell_regrown c1 q.d q.os
        have f2 : ∀ p : Regrown, (grow (redrawn W5 p.d) p.os).cell? ⟨gt, 2, none⟩ = some (.int .i64 k3) := fun q => cell_regrown c2 q.d q.os
        clear c0 c1 c2 c3 hT
        refine wp_region_quiet_tail 15 (by kernel_rfl) (by kernel_rfl) ?_
        simp only [List.take, List.drop]
        repeat (go_big_quiet_step (first | (go_at_call 21; with_reducible exact Ret.regrown (H1.out _)) | (go_at_call 21; with_reducible exact Ret.regrown (H2.out _)) | (go_at_call 21; with_reducible exact Ret.regrown (H3.out _)) | (go_at_call 21; with_reducible exact Ret.regrown (H4.out _))))
        refine wpQuiet_nil ?_
        intro w5 hw5
        have hbx := below_of_regrown hw5
        replace hown := hown.below hbx
        replace hN := hN.below hbx
        replace hbb := hbb.trans (hbx.mono (by have := hbb.size; omega))
        clear hw5 hbx f0 f1 f2
        have hBw := hbb.size
        rw [HAS.out]
        go_wp2_with ((with_reducible refine wpList_appC 42 9 5 Try.underlying42 Try.underlying9 info_u8c ?_); refine ⟨B, _, _, txL ⟨k1, k2, k3, false⟩, rfl, rfl, hown, ?_, by omega, ?_⟩; (rw [txL_len]; have := HLA.out j hj; omega); intro v6 w6 hown6 hb6)
        replace hN := hN.belowB hb6 hgB
        replace hbb := hbb.trans hb6
        have HX : OwnC w6 B v6 (L0 ++ ((txns.take (j + 1)).map txL).flatten) := by rw [HST.out, ← List.append_assoc]; exact hown6
        clear hown hown6 hb6
        go_roundw
        case rel => exact ⟨j + 1, v6, by omega, rfl, by go_num, HX, hbb, hN⟩
        case measure => simp [intOf]; omega
      | true =>
        have H4 := Lib.hid (fun W => HPU.out 1 1 1 rfl (by omega) W)
        obtain ⟨a4, e4, z4⟩ := name_put 1 1
        rw [e4] at H4
        have HAS : Hid (a1 ++ a2 ++ a3 ++ a4 = S (txL ⟨k1, k2, k3, true⟩)) := by show _ = _; rw [← e1, ← e2, ← e3, ← e4]; simp only [Oct.S_append]; rfl
        clear e1 e2 e3 e4
        have hT := Blk.new wr #[.int .i64 k1, .int .i64 k2, .int .i64 k3, .bool true] 67
        have hbx := (Below.refl wr.heap.size wr).alloc (Nat.le_refl _) (.cells #[.int .i64 k1, .int .i64 k2, .int .i64 k3, .bool true] 67)
        go_upto_region 7 with fail
        clear d0 d1 d2 d3 c16
        generalize HTI : wr.heap.size = gt at hT hbx ⊢
        generalize (wr.alloc (.cells #[.int .i64 k1, .int .i64 k2, .int .i64 k3, .bool true] 67)) = W5 at hT hbx ⊢
        rw [← HTI] at hbx
        replace hown := hown.below hbx
        replace hN := hN.belowB hbx (by omega)
        replace hbb := hbb.trans (hbx.mono (by have := hbb.size; omega))
        clear hbx HTI
        obtain ⟨⟨c0, c1, c2, c3⟩, _⟩ := Blk4 hT
        go_upto_region 9 with fail
        have f0 : ∀ p : Regrown, (grow (redrawn W5 p.d) p.os).cell? ⟨gt, 0, none⟩ = some (.int .i64 k1) := fun q => cell_regrown c0 q.d q.os
        have f1 : ∀ p : Regrown, (grow (redrawn W5 p.d) p.os).cell? ⟨gt, 1, none⟩ = some (.int .i64 k2) := fun q => cell_regrown c1 q.d q.os
        have f2 : ∀ p : Regrown, (grow (redrawn W5 p.d) p.os).cell? ⟨gt, 2, none⟩ = some (.int .i64 k3) := fun q => cell_regrown c2 q.d q.os
        clear c0 c1 c2 c3 hT
        refine wp_region_quiet_tail 15 (by kernel_rfl) (by kernel_rfl) ?_
        simp only [List.take, List.drop]
        repeat (go_big_quiet_step (first | (go_at_call 21; with_reducible exact Ret.regrown (H1.out _)) | (go_at_call 21; with_reducible exact Ret.regrown (H2.out _)) | (go_at_call 21; with_reducible exact Ret.regrown (H3.out _)) | (go_at_call 21; with_reducible exact Ret.regrown (H4.out _))))
        refine wpQuiet_nil ?_
        intro w5 hw5
        have hbx := below_of_regrown hw5
        replace hown := hown.below hbx
        replace hN := hN.below hbx
        replace hbb := hbb.trans (hbx.mono (by have := hbb.size; omega))
        clear hw5 hbx f0 f1 f2
        have hBw := hbb.size
        rw [HAS.out]
        go_wp2_with ((with_reducible refine wpList_appC 42 9 5 Try.underlying42 Try.underlying9 info_u8c ?_); refine ⟨B, _, _, txL ⟨k1, k2, k3, true⟩, rfl, rfl, hown, ?_, by omega, ?_⟩; (rw [txL_len]; have := HLA.out j hj; omega); intro v6 w6 hown6 hb6)
        replace hN := hN.belowB hb6 hgB
        replace hbb := hbb.trans hb6
        have HX : OwnC w6 B v6 (L0 ++ ((txns.take (j + 1)).map txL).flatten) := by rw [HST.out, ← List.append_assoc]; exact hown6
        clear hown hown6 hb6
        go_roundw
        case rel => exact ⟨j + 1, v6, by omega, rfl, by go_num, HX, hbb, hN⟩
        case measure => simp [intOf]; omega
    · have hjn : ¬ (j : Int) < txns.length := by omega
      have hle := HLA.out j hj
      rw [List.take_of_length_le (by omega)] at hown hle
      obtain ⟨L1, HL1⟩ : ∃ L1, Hid (L1 = L0 ++ (txns.map txL).flatten) := ⟨_, rfl⟩
      rw [← HL1.out] at hown hle
      clear hlt hj HLA
      have c17 := hN.cell 17 (v := .slice bo dirty.length cap2) rfl
      go_wp2_with fail
      refine (HP3.out _).mono ?_
      rintro e w6 ⟨rfl, hb6⟩
      replace hown := hown.below hb6
      replace hN := hN.below hb6
      replace hbb := hbb.trans (hb6.mono (by omega))
      clear hb6 c16 c17 hszb HP3
      have hszb := hbb.size
      have hpl : (putL (U (dirty.length : Int)) 2).length = 2 := Oct.putL_length _ _
      go_upto_region 12 with ((with_reducible refine wpList_appC 42 9 5 Try.underlying42 Try.underlying9 info_u8c ?_); refine ⟨B, _, _, putL (U (dirty.length : Int)) 2, rfl, rfl, hown, ?_, by omega, ?_⟩; omega; intro v7 w7 hown7 hb7)
      replace hN := hN.belowB hb7 hgB
      replace hbb := hbb.trans hb7
      clear hown hb7 hszb hpl hjn
      obtain ⟨L2, HL2⟩ : ∃ L2, Hid (L2 = L1 ++ putL (U (dirty.length : Int)) 2) := ⟨_, rfl⟩
      rw [← HL2.out] at hown7
      have HLB : Hid (∀ q, q ≤ dirty.length → (L2 ++ ((dirty.take q).map dyL).flatten).length ≤ 50000) := fun q _ => by
        have := flat_take dyL 9 dyL_len dirty q
        rw [List.length_append, HL2.out, List.length_append, Oct.putL_length]
        omega
      clear hle
      go_loopw [3, 7] (fun bv iv wr => ∃ (j : Nat) (v : Value), j ≤ dirty.length ∧ v = bv ∧ iv = .int .i64 (j : Int) ∧ OwnC wr B v (L2 ++ ((dirty.take j).map dyL).flatten) ∧ Below B W0 wr ∧ Blk wr g #[.int .i64 lsn, .int .i64 prev, .int .i64 txn, .int .i64 kind, .int .i64 page, .int .i64 next, .int .i64 num, .int .i64 ok, .int .i64 os, .string s1, .string s2, .int .i64 how, .int .i64 root, .string s3, .int .i64 rp, .int .i64 rs, .slice ao txns.length cap, .slice bo dirty.length cap2] 31) (fun _ iv _ => dirty.length - (intOf iv).toNat)
      case atStart => exact ⟨0, v7, Nat.zero_le _, rfl, rfl, by simpa using hown7, hbb, hN⟩
      case round =>
        clear hown7 hbb hN
        obtain ⟨q, v, hq, rfl, rfl, hown, hbb, hN⟩ := hrel
        have c17 := hN.cell 17 (v := .slice bo dirty.length cap2) rfl
        have hszb := hbb.size
        by_cases hlt : q < dirty.length
        · obtain ⟨b, off, c1, hv1, hblt, hc⟩ := (HDV3.out _ hbb).get q (by rw [dyC_len]; exact hlt)
          rw [dyC_len] at hv1
          injection hv1 with e1 _ e3
          subst e1 e3
          rw [dyC_get dirty q hlt] at hc
          have HST := Lib.hid (map_step dyL dirty q hlt)
          obtain ⟨n, hn⟩ : ∃ n, dirty[q] = n := ⟨_, rfl⟩
          rw [hn] at hc HST
          obtain ⟨k1, k2⟩ := n
          simp only [Dy.cells] at hc
          have d0 : wr.cell? ⟨b, off + q * 2, none⟩ = some (.int .i64 k1) := hc 0 _ rfl
          have d1 : wr.cell? ⟨b, off + q * 2 + 1, none⟩ = some (.int .i64 k2) := hc 1 _ rfl
          have hi0 : (0 : Int) ≤ q := by omega
          have hi1 : (q : Int) < dirty.length := by omega
          have H1 := Lib.hid (fun W => HPU.out k1 3 3 rfl (by omega) W)
          have H2 := Lib.hid (fun W => HPU.out k2 6 6 rfl (by omega) W)
          obtain ⟨a1, e1, z1⟩ := name_put k1 3
          obtain ⟨a2, e2, z2⟩ := name_put k2 6
          rw [e1] at H1
          rw [e2] at H2
          have HAS : Hid (a1 ++ a2 = S (dyL ⟨k1, k2⟩)) := by show _ = _; rw [← e1, ← e2]; simp only [Oct.S_append]; rfl
          clear e1 e2 hc hn
          have f17 : ∀ p : Regrown, (grow (redrawn wr p.d) p.os).cell? ⟨g, 17, none⟩ = some (.slice (some ⟨b, off, none⟩) dirty.length cap2) := fun q => cell_regrown c17 q.d q.os
          have f0 : ∀ p : Regrown, (grow (redrawn wr p.d) p.os).cell? ⟨b, off + q * 2, none⟩ = some (.int .i64 k1) := fun q => cell_regrown d0 q.d q.os
          have f1 : ∀ p : Regrown, (grow (redrawn wr p.d) p.os).cell? ⟨b, off + q * 2 + 1, none⟩ = some (.int .i64 k2) := fun q => cell_regrown d1 q.d q.os
          clear d0 d1
          go_upto_region 14 with fail
          clear c17
          refine wp_region_quiet_tail 16 (by kernel_rfl) (by kernel_rfl) ?_
          simp only [List.take, List.drop]
          repeat (go_big_quiet_step (first | (go_at_call 21; with_reducible exact Ret.regrown (H1.out _)) | (go_at_call 21; with_reducible exact Ret.regrown (H2.out _))))
          refine wpQuiet_nil ?_
          intro w8 hw8
          have hbx := below_of_regrown hw8
          replace hown := hown.below hbx
          replace hN := hN.below hbx
          replace hbb := hbb.trans (hbx.mono (by omega))
          clear hw8 hbx f17 f0 f1
          have hBw := hbb.size
          rw [HAS.out]
          go_wp2_with ((with_reducible refine wpList_appC 42 9 5 Try.underlying42 Try.underlying9 info_u8c ?_); refine ⟨B, _, _, dyL ⟨k1, k2⟩, rfl, rfl, hown, ?_, by omega, ?_⟩; (rw [dyL_len]; have := HLB.out q hq; omega); intro v9 w9 hown9 hb9)
          replace hN := hN.belowB hb9 hgB
          replace hbb := hbb.trans hb9
          have HX : OwnC w9 B v9 (L2 ++ ((dirty.take (q + 1)).map dyL).flatten) := by rw [HST.out, ← List.append_assoc]; exact hown9
          clear hown hown9 hb9
          go_roundw
          case rel => exact ⟨q + 1, v9, by omega, rfl, by go_num, HX, hbb, hN⟩
          case measure => simp [intOf]; omega
        · have hqn : ¬ (q : Int) < dirty.length := by omega
          rw [List.take_of_length_le (by omega)] at hown
          have HFF : Hid (S F = S (L2 ++ (dirty.map dyL).flatten)) := by show _ = _; rw [HLI.out, HL2.out, HL1.out, HL0.out]
          clear hlt hq HLB
          obtain ⟨gg, cc, rfl, _, _, _, _, hba, _⟩ := hown.sh
          go_wp2_with ((with_reducible refine wpList_stringOf 42 9 5 Try.underlying42 Try.underlying5 Try.underlying9 (L2 ++ (dirty.map dyL).flatten) ?_); refine ⟨gg, _, _, rfl, rfl, hba, ?_⟩)
          go_ret
          exact ⟨ret_str HFF.out.symm, HFIN.out _ hbb⟩
end Go.Proofs.Ytloengjcniefgaa.Rec
namespace Go.Proofs.Ytloengjcniefgaa.Rec
set_option linter.unusedVariables false
set_option linter.unusedSimpArgs false
open Go.RowKit Go.Sort
open Oct (S beN putL U I getI sumN S_size S_data)
set_option maxHeartbeats 4000000 in
set_option maxRecDepth 100000 in
theorem rbody_9 (lsn prev txn page next num ok os : Int) (old new : List UInt8) (how root : Int) (key : List UInt8) (rp rs : Int) (txns : List Tx) (dirty : List Dy) (vt vd : Value) (w : World) (hv : ElAt w 4 vt (txC txns)) (hd : ElAt w 2 vd (dyC dirty)) (hs : txns.length ≤ 1000) (hs2 : dirty.length ≤ 2000) :
    Calls Try.prog 20 #[.agg (rcC (Rc.mk lsn prev txn 9 page next num ok os old new how root key rp rs txns dirty) vt vd)] w (Ret (.string (S (bodyL (Rc.mk lsn prev txn 9 page next num ok os old new how root key rp rs txns dirty)))) w) := by
  have HV := Lib.hid hv
  have HDV := Lib.hid hd
  have HCK := fun W (h1 : ElAt W 4 vt (txC txns)) (h2 : ElAt W 2 vd (dyC dirty)) => rchkS_any (Rc.mk lsn prev txn 9 page next num ok os old new how root key rp rs txns dirty) vt vd W h1 h2 hs hs2
  have hll : (liL (Rc.mk lsn prev txn 9 page next num ok os old new how root key rp rs txns dirty)).length ≤ 50000 := by
    simp only [liL, List.length_append, Oct.putL_length, flat_len txL 19 _ txL_len, flat_len dyL 9 _ dyL_len]
    omega
  have HBO : Hid (S (bodyL (Rc.mk lsn prev txn 9 page next num ok os old new how root key rp rs txns dirty)) = S (headL (Rc.mk lsn prev txn 9 page next num ok os old new how root key rp rs txns dirty)) ++ S (liL (Rc.mk lsn prev txn 9 page next num ok os old new how root key rp rs txns dirty))) := by
    show _ = _
    rw [Oct.S_append]
    refine congrArg S ?_
    show headL (Rc.mk lsn prev txn 9 page next num ok os old new how root key rp rs txns dirty) ++ [] ++ [] ++ [] ++ liL (Rc.mk lsn prev txn 9 page next num ok os old new how root key rp rs txns dirty) = _
    simp only [List.append_nil]
  have HH : Hid (S (headL (Rc.mk lsn prev txn 9 page next num ok os old new how root key rp rs txns dirty)) = S (putL (U 9) 1) ++ S (putL (U lsn) 6) ++ S (putL (U prev) 6) ++ S (putL (U txn) 6)) := by
    show _ = _
    simp only [Oct.S_append]
    rfl
  obtain ⟨F, hF⟩ : ∃ F, S (bodyL (Rc.mk lsn prev txn 9 page next num ok os old new how root key rp rs txns dirty)) = F := ⟨_, rfl⟩
  obtain ⟨hs0, hhd⟩ : ∃ x, S (headL (Rc.mk lsn prev txn 9 page next num ok os old new how root key rp rs txns dirty)) = x := ⟨_, rfl⟩
  obtain ⟨LI, hLI⟩ : ∃ x, liL (Rc.mk lsn prev txn 9 page next num ok os old new how root key rp rs txns dirty) = x := ⟨_, rfl⟩
  rw [hLI] at HCK HBO hll
  have zli : (S LI).size ≤ 50000 := by rw [S_size]; exact hll
  obtain ⟨sl, hsl⟩ : ∃ x, S LI = x := ⟨_, rfl⟩
  rw [hsl] at HCK HBO zli
  rw [hF, hhd] at HBO
  rw [hhd] at HH
  rw [hF]
  clear hF hhd hLI hsl hll hs hs2
  obtain ⟨ao, cap, hva⟩ := hv.nil
  obtain ⟨bo, cap2, hvb⟩ := hd.nil
  obtain ⟨n1, hn1⟩ : ∃ n, (txC txns).length = n := ⟨_, rfl⟩
  obtain ⟨n2, hn2⟩ : ∃ n, (dyC dirty).length = n := ⟨_, rfl⟩
  rw [hn1] at hva
  rw [hn2] at hvb
  subst hva hvb
  clear hv hd hn1 hn2
  simp only [rcC] at HCK ⊢
  obtain ⟨s1, e1⟩ : ∃ x, S old = x := ⟨_, rfl⟩
  obtain ⟨s2, e2⟩ : ∃ x, S new = x := ⟨_, rfl⟩
  obtain ⟨s3, e3⟩ : ∃ x, S key = x := ⟨_, rfl⟩
  rw [e1, e2, e3]
  simp only [e1, e2, e3] at HCK
  replace HCK := Lib.hid HCK
  clear e1 e2 e3
  have HP1 := Lib.hid (fun W => rput_at 9 1 1 rfl (by omega) W)
  have HP2 := Lib.hid (fun W => rput_at lsn 6 6 rfl (by omega) W)
  have HP3 := Lib.hid (fun W => rput_at prev 6 6 rfl (by omega) W)
  have HP4 := Lib.hid (fun W => rput_at txn 6 6 rfl (by omega) W)
  obtain ⟨a1, e1, z1⟩ := name_put 9 1
  obtain ⟨a2, e2, z2⟩ := name_put lsn 6
  obtain ⟨a3, e3, z3⟩ := name_put prev 6
  obtain ⟨a4, e4, z4⟩ := name_put txn 6
  rw [e1, e2, e3, e4] at HH
  rw [e1] at HP1
  rw [e2] at HP2
  rw [e3] at HP3
  rw [e4] at HP4
  clear e1 e2 e3 e4
  have z12 : (a1 ++ a2).size ≤ 20 := by rw [ByteArray.size_append]; omega
  have z123 : (a1 ++ a2 ++ a3).size ≤ 40 := by rw [ByteArray.size_append]; omega
  have z1234 : (a1 ++ a2 ++ a3 ++ a4).size ≤ 60 := by rw [ByteArray.size_append]; omega
  have hN := Blk.new w #[.int .i64 lsn, .int .i64 prev, .int .i64 txn, .int .i64 9, .int .i64 page, .int .i64 next, .int .i64 num, .int .i64 ok, .int .i64 os, .string s1, .string s2, .int .i64 how, .int .i64 root, .string s3, .int .i64 rp, .int .i64 rs, .slice ao n1 cap, .slice bo n2 cap2] 31
  have hbb := (Below.refl w.heap.size w).alloc (Nat.le_refl _) (.cells #[.int .i64 lsn, .int .i64 prev, .int .i64 txn, .int .i64 9, .int .i64 page, .int .i64 next, .int .i64 num, .int .i64 ok, .int .i64 os, .string s1, .string s2, .int .i64 how, .int .i64 root, .string s3, .int .i64 rp, .int .i64 rs, .slice ao n1 cap, .slice bo n2 cap2] 31)
  go_enter Try.func20, Try.ntmps20
  go_upto_region 1 with fail
  obtain ⟨g, HG⟩ : ∃ x, w.heap.size = x := ⟨_, rfl⟩
  have HGH := Lib.hid HG
  rw [HG] at hN ⊢
  clear HG
  generalize (w.alloc (.cells #[.int .i64 lsn, .int .i64 prev, .int .i64 txn, .int .i64 9, .int .i64 page, .int .i64 next, .int .i64 num, .int .i64 ok, .int .i64 os, .string s1, .string s2, .int .i64 how, .int .i64 root, .string s3, .int .i64 rp, .int .i64 rs, .slice ao n1 cap, .slice bo n2 cap2] 31)) = W at hN hbb ⊢
  have f0 : ∀ p : Regrown, (grow (redrawn W p.d) p.os).cell? ⟨g, 0, none⟩ = some (.int .i64 lsn) := fun q => cell_regrown (hN.cell 0 (v := .int .i64 lsn) rfl) q.d q.os
  have f1 : ∀ p : Regrown, (grow (redrawn W p.d) p.os).cell? ⟨g, 1, none⟩ = some (.int .i64 prev) := fun q => cell_regrown (hN.cell 1 (v := .int .i64 prev) rfl) q.d q.os
  have f2 : ∀ p : Regrown, (grow (redrawn W p.d) p.os).cell? ⟨g, 2, none⟩ = some (.int .i64 txn) := fun q => cell_regrown (hN.cell 2 (v := .int .i64 txn) rfl) q.d q.os
  have f3 : ∀ p : Regrown, (grow (redrawn W p.d) p.os).cell? ⟨g, 3, none⟩ = some (.int .i64 9) := fun q => cell_regrown (hN.cell 3 (v := .int .i64 9) rfl) q.d q.os
  refine wp_region_quiet_below (by kernel_rfl) (by kernel_rfl) ?_
  repeat (go_big_quiet_step (first | (go_at_call 21; with_reducible exact Ret.regrown (HP1.out _)) | (go_at_call 21; with_reducible exact Ret.regrown (HP2.out _)) | (go_at_call 21; with_reducible exact Ret.regrown (HP3.out _)) | (go_at_call 21; with_reducible exact Ret.regrown (HP4.out _))))
  refine wpQuiet_nil ?_
  intro w5 hw5
  have hbx := below_of_regrown hw5
  replace hN := hN.below hbx
  replace hbb := hbb.next hbx
  clear hw5 hbx f0 f1 f2 f3
  generalize hhs : a1 ++ a2 ++ a3 ++ a4 = hs at z1234 HH ⊢
  clear hhs z1 z2 z3 z4 HP1 HP2 HP3 HP4
  have c3 := hN.cell 3 (v := .int .i64 9) rfl
  go_wp2_with (first | (with_reducible refine wpList_load18 hN (by kernel_rfl) _ rfl rfl ?_))
  refine (HCK.out _ (HV.out.below hbb) (HDV.out.below hbb)).mono ?_
  rintro e w6 ⟨rfl, hb6⟩
  replace hbb := hbb.next hb6
  clear hb6 hN c3
  go_wp2_with ((with_reducible refine wpList_concat _ ?_); refine ⟨_, _, rfl, rfl, ?_, ?_⟩; omega)
  go_ret
  exact ⟨ret_str (by rw [HBO.out, HH.out]), hbb⟩
/-- What body answers of a right record. -/
theorem rbody_any (r : Rc) (vt vd : Value) (w : World) (hv : ElAt w 4 vt (txC r.txns)) (hd : ElAt w 2 vd (dyC r.dirty)) (hr : rightR r = true) :
    Calls Try.prog 20 #[.agg (rcC r vt vd)] w (Ret (.string (S (bodyL r))) w) := by
  obtain ⟨hk, ht, hd2, ho, hn, hky⟩ := right_sizes hr
  obtain ⟨lsn, prev, txn, kind, page, next, num, ok, os, old, new, how, root, key, rp, rs, txns, dirty⟩ := r
  simp only at hk ht hd2 ho hn hky hv hd
  have h : 1 ≤ kind ∧ kind ≤ 9 := by simpa [isF] using hk
  have h9 : kind = 1 ∨ kind = 2 ∨ kind = 3 ∨ kind = 4 ∨ kind = 5 ∨ kind = 6 ∨ kind = 7 ∨ kind = 8 ∨ kind = 9 := by omega
  clear hr
  rcases h9 with rfl | rfl | rfl | rfl | rfl | rfl | rfl | rfl | rfl
  · exact rbody_1 lsn prev txn page next num ok os old new how root key rp rs txns dirty vt vd w hv hd (by omega) (by omega) (by omega)
  · by_cases hh : how = 1
    · subst hh
      exact rbody_2a lsn prev txn page next num ok os old new 0 root key rp rs txns dirty vt vd w hv hd (by omega) (by omega) (by omega)
    · exact rbody_2b lsn prev txn page next num ok os old new how root key rp rs txns dirty vt vd w hv hd (by omega) (by omega) (by omega) hh
  · exact rbody_3 lsn prev txn page next num ok os old new how root key rp rs txns dirty vt vd w hv hd (by omega) (by omega) (by omega)
  · exact rbody_4 lsn prev txn page next num ok os old new how root key rp rs txns dirty vt vd w hv hd (by omega) (by omega) (by omega)
  · exact rbody_5 lsn prev txn page next num ok os old new how root key rp rs txns dirty vt vd w hv hd (by omega) (by omega) (by omega)
  · exact rbody_6 lsn prev txn page next num ok os old new how root key rp rs txns dirty vt vd w hv hd (by omega) (by omega) (by omega)
  · exact rbody_7 lsn prev txn page next num ok os old new how root key rp rs txns dirty vt vd w hv hd (by omega) (by omega) (by omega)
  · exact rbody_8 lsn prev txn page next num ok os old new how root key rp rs txns dirty vt vd w hv hd (by omega) (by omega) (by omega)
  · exact rbody_9 lsn prev txn page next num ok os old new how root key rp rs txns dirty vt vd w hv hd ht hd2
set_option maxHeartbeats 4000000 in
set_option maxRecDepth 100000 in
theorem rrecput_any (r : Rc) (vt vd : Value) (w : World) (hv : ElAt w 4 vt (txC r.txns)) (hd : ElAt w 2 vd (dyC r.dirty)) (hs : r.txns.length ≤ 100000) (hs2 : r.dirty.length ≤ 100000) :
    Calls Try.prog 10 #[.agg (rcC r vt vd)] w (Ret (.tuple #[.string (S (putF r).1), .int .i64 (putF r).2]) w) := by
  have HP : Hid (putF r = if rightR r then (recL r, 0) else ([], 1)) := rfl
  have HRL : Hid (S (recL r) = S (putL (bodyL r).length 4) ++ S (putL (sumN (bodyL r)) 4) ++ S (bodyL r)) := by
    show _ = _
    rw [Oct.S_append, Oct.S_append, recL, sealL, List.append_assoc]
  have HR := fun W h1 h2 => rright_any r vt vd W h1 h2 hs hs2
  have HB := fun W h1 h2 h3 => rbody_any r vt vd W h1 h2 h3
  have HLN := Lib.hid (fun h => right_len (r := r) h)
  obtain ⟨P, hP⟩ : ∃ P, putF r = P := ⟨_, rfl⟩
  rw [hP] at HP ⊢
  obtain ⟨RL, hRL⟩ : ∃ RL, recL r = RL := ⟨_, rfl⟩
  rw [hRL] at HP HRL
  obtain ⟨rb, hrb⟩ : ∃ rb, rightR r = rb := ⟨_, rfl⟩
  rw [hrb] at HP HR HB HLN
  have HSU := Lib.hid (fun W h => rsum_any (S (bodyL r)) W h)
  simp only [S_data] at HSU
  obtain ⟨BL, hBL⟩ : ∃ BL, bodyL r = BL := ⟨_, rfl⟩
  rw [hBL] at HRL HB HLN HSU
  have HV := Lib.hid hv
  have HDV := Lib.hid hd
  obtain ⟨x0, x1, x2, x3, x4, x5, x6, x7, x8, x9, x10, x11, x12, x13, x14, x15, x16, x17, hX⟩ := nm18 r vt vd
  rw [hX] at HR HB ⊢
  replace HR := Lib.hid HR
  replace HB := Lib.hid HB
  clear hX hP hRL hrb hBL hv hd hs hs2
  have hN := Blk.new w #[x0, x1, x2, x3, x4, x5, x6, x7, x8, x9, x10, x11, x12, x13, x14, x15, x16, x17] 31
  have hbb := (Below.refl w.heap.size w).alloc (Nat.le_refl _) (.cells #[x0, x1, x2, x3, x4, x5, x6, x7, x8, x9, x10, x11, x12, x13, x14, x15, x16, x17] 31)
  go_enter Try.func10, Try.ntmps10
  go_upto_region 1 with fail
  generalize (w.alloc (.cells #[x0, x1, x2, x3, x4, x5, x6, x7, x8, x9, x10, x11, x12, x13, x14, x15, x16, x17] 31)) = W0 at hN hbb ⊢
  go_wp2_with (first | (with_reducible refine wpList_load18 hN (by kernel_rfl) _ rfl rfl ?_))
  refine (HR.out _ (HV.out.below hbb) (HDV.out.below hbb)).mono ?_
  rintro e w1 ⟨rfl, hb1⟩
  replace hN := hN.below hb1
  replace hbb := hbb.next hb1
  clear hb1 HR
  cases rb with
  | false =>
    go_wp2_with fail
    go_ret2
    exact ⟨by rw [HP.out, if_neg (by simp)]; rfl, hbb⟩
  | true =>
    obtain ⟨hl1, hl2⟩ := HLN.out rfl
    go_wp2_with (first | (with_reducible refine wpList_load18 hN (by kernel_rfl) _ rfl rfl ?_))
    refine (HB.out _ (HV.out.below hbb) (HDV.out.below hbb) (by first | rfl | trivial)).mono ?_
    rintro e w2 ⟨rfl, hb1⟩
    replace hbb := hbb.next hb1
    clear hb1 HB hN HLN
    have zb : (S BL).size = BL.length := S_size BL
    obtain ⟨sb, hsb⟩ : ∃ x, S BL = x := ⟨_, rfl⟩
    have HP1 := Lib.hid (fun W => rput_at (sb.size : Int) 4 4 rfl (by omega) W)
    have HP2 := Lib.hid (fun W => rput_at (sumN BL : Nat) 4 4 rfl (by omega) W)
    rw [hsb] at HSU HRL zb ⊢
    rw [show U (sb.size : Int) = BL.length from by rw [Oct.U_nat _ (by omega)]; exact zb] at HP1
    rw [show U ((sumN BL : Nat) : Int) = sumN BL from by have := Oct.sumN_lt BL; rw [Oct.U_nat _ (by omega)]] at HP2
    obtain ⟨p1, e1, q1⟩ : ∃ a, S (putL BL.length 4) = a ∧ a.size = 4 := ⟨_, rfl, by rw [S_size, Oct.putL_length]⟩
    obtain ⟨p2, e2, q2⟩ : ∃ a, S (putL (sumN BL) 4) = a ∧ a.size = 4 := ⟨_, rfl, by rw [S_size, Oct.putL_length]⟩
    rw [e1, e2] at HRL
    rw [e1] at HP1
    rw [e2] at HP2
    clear e1 e2
    have q12 : (p1 ++ p2).size ≤ 10 := by rw [ByteArray.size_append]; omega
    have hzs : sb.size ≤ 40000 := by omega
    clear hsb zb hl1 hl2
    go_wp2_with fail
    refine (HP1.out _).mono ?_
    rintro e w3 ⟨rfl, hb1⟩
    replace hbb := hbb.next hb1
    clear hb1 HP1
    go_wp2_with fail
    refine (HSU.out _ (by unfold maxLen; omega)).mono ?_
    rintro e w4 ⟨rfl, rfl⟩
    go_wp2_with fail
    refine (HP2.out _).mono ?_
    rintro e w4 ⟨rfl, hb1⟩
    replace hbb := hbb.next hb1
    clear hb1 HP2 HSU
    go_wp2_with ((with_reducible refine wpList_concat _ ?_); refine ⟨_, _, rfl, rfl, ?_, ?_⟩; omega)
    go_ret2
    exact ⟨by rw [HP.out, if_pos trivial]; show _ = Ending.returned (.tuple #[.string (S RL), .int .i64 0]); rw [HRL.out]; rfl, hbb⟩
end Go.Proofs.Ytloengjcniefgaa.Rec
namespace Go.Proofs.Ytloengjcniefgaa.Rec
set_option linter.unusedVariables false
set_option linter.unusedSimpArgs false
open Go.RowKit Go.Sort
open Oct (S beN putL U I getI sumN S_size S_data)
/-- What both readers make of bytes that are a right record's is one. -/
theorem rrec_of (b : List UInt8) (h : rightR (rrecF b) = true ∧ bodyL (rrecF b) = b) : rrecF b = recF b := by
  have h2 := rec_back (rrecF b) h.1 (numF (bodyL (rrecF b))) (textF (bodyL (rrecF b))) (good_prog _)
  rw [h.2] at h2
  exact h2.symm
theorem rec_of (b : List UInt8) (h : rightR (recF b) = true ∧ bodyL (recF b) = b) : rrecF b = recF b := by
  have h2 := rec_back (recF b) h.1 (rnumF (bodyL (recF b))) (textF (bodyL (recF b))) (good_ref _)
  rw [h.2] at h2
  exact h2
theorem rliG_len (l : List UInt8) (s : Rd) : (liG (rnumF l) s).2.1.length ≤ 100000 ∧ (liG (rnumF l) s).2.2.length ≤ 100000 := by
  simp only [liG]
  constructor
  · refine Nat.le_trans (txsG_len _ _ _ _) ?_
    obtain ⟨r, h1, h2⟩ := rnumF_two l (rnumF l s 6).2
    rw [h1]
    simp
    omega
  · refine Nat.le_trans (dysG_len _ _ _ _) ?_
    obtain ⟨r, h1, h2⟩ := rnumF_two l (txsG (rnumF l) (rnumF l (rnumF l s 6).2 2).1.toNat (rnumF l (rnumF l s 6).2 2).2 []).2
    rw [h1]
    simp
    omega
theorem rrec_sizes (l : List UInt8) : (rrecF l).txns.length ≤ 100000 ∧ (rrecF l).dirty.length ≤ 100000 := by
  unfold rrecF recG tailG
  simp only
  split
  · exact rliG_len _ _
  · simp
theorem getR_a (l : List UInt8) (a : Nat) (ha : a ≤ l.length) : getR l (a : Int) 4 = getR (l.drop a) 0 4 := by
  unfold getR
  rw [List.length_drop]
  by_cases h : a + 4 ≤ l.length
  · rw [if_pos (by omega), if_pos (by omega)]
    simp
  · rw [if_neg (by omega), if_neg (by omega)]
theorem getR_b (l : List UInt8) (a : Nat) (h : 8 ≤ (l.drop a).length) (ha : a ≤ l.length) : getR l ((a : Int) + 4) 4 = (((beN (((l.drop a).drop 4).take 4) : Nat) : Int), true) := by
  rw [List.length_drop] at h
  have h1 := Oct.beN_lt (((l.drop a).drop 4).take 4)
  have h2 : (((l.drop a).drop 4).take 4).length = 4 := by simp; omega
  rw [h2] at h1
  have h5 : (256 : Nat) ^ 4 = 4294967296 := by decide
  unfold getR
  rw [if_pos (by omega), show ((a : Int) + 4).toNat = a + 4 by omega, show (4 : Int).toNat = 4 from rfl, ← List.drop_drop]
  simp only [getI]
  rw [Oct.I_small _ (by omega)]
theorem getR_c (l : List UInt8) (a : Nat) (h : (l.drop a).length < 8) (ha : a ≤ l.length) : getR l ((a : Int) + 4) 4 = (0, false) := by
  rw [List.length_drop] at h
  unfold getR
  rw [if_neg (by omega)]
theorem mid_S (l : List UInt8) (a n : Nat) : (S l).extract (a + 8) (a + 8 + n) = S (((l.drop a).drop 8).take n) := by
  apply ByteArray.ext
  apply Array.toList_inj.1
  simp [S, List.extract_eq_take_drop]
set_option maxHeartbeats 4000000 in
set_option maxRecDepth 100000 in
theorem rrecget_out (l : List UInt8) (at_ : Int) (w : World) (hl : l.length ≤ 1000000) (h : at_ < 0 ∨ (l.length : Int) < at_) :
    Calls Try.prog 12 #[.string (S l), .int .i64 at_] w (GetA (getF l at_) w) := by
  rw [getF_out l at_ h]
  have hz := S_size l
  obtain ⟨s, hs⟩ : ∃ s, S l = s := ⟨_, rfl⟩
  rw [hs] at hz ⊢
  have hres := Blk.new w zs18 31
  have hb0 := (Below.refl w.heap.size w).alloc (Nat.le_refl _) (.cells zs18 31)
  have hsz0 : w.heap.size ≤ (w.alloc (.cells zs18 31)).heap.size := by simp
  unfold zs18 at hres hb0 hsz0
  clear hs
  by_cases h0 : at_ < 0
  · clear h
    go_enter Try.func12, Try.ntmps12
    go_wp2_with (first | (with_reducible refine wpList_buildC rfl 31 _ rfl #[.int .i64 0, .int .i64 0, .int .i64 0, .int .i64 0, .int .i64 0, .int .i64 0, .int .i64 0, .int .i64 0, .int .i64 0, .string ⟨#[]⟩, .string ⟨#[]⟩, .int .i64 0, .int .i64 0, .string ⟨#[]⟩, .int .i64 0, .int .i64 0, .slice none 0 0, .slice none 0 0] (by kernel_rfl) ?_) | ((with_reducible refine wpList_store18 hres (by kernel_rfl) (by kernel_rfl) (by kernel_rfl) rfl _ _ rfl rfl rfl ?_); intro W9 hW9 hgr9))
    have HV := rec_val hW9 rfl
    refine bodyPost_ret (v := .tuple #[.agg zs18, .int .i64 0, .int .i64 1]) ?_ rfl (getA_zero 0 1 (Below.ofGrown hb0 hgr9 (Nat.le_refl _) hsz0))
    simp [results, Try.results12, asAddr, Act.put, HV]
    rfl
  · have h1 : (s.size : Int) < at_ := by omega
    have h2 : (at_ < 0) = False := by simp; omega
    clear h
    go_enter Try.func12, Try.ntmps12
    go_wp2_with (first | (with_reducible refine wpList_buildC rfl 31 _ rfl #[.int .i64 0, .int .i64 0, .int .i64 0, .int .i64 0, .int .i64 0, .int .i64 0, .int .i64 0, .int .i64 0, .int .i64 0, .string ⟨#[]⟩, .string ⟨#[]⟩, .int .i64 0, .int .i64 0, .string ⟨#[]⟩, .int .i64 0, .int .i64 0, .slice none 0 0, .slice none 0 0] (by kernel_rfl) ?_) | ((with_reducible refine wpList_store18 hres (by kernel_rfl) (by kernel_rfl) (by kernel_rfl) rfl _ _ rfl rfl rfl ?_); intro W9 hW9 hgr9))
    have HV := rec_val hW9 rfl
    refine bodyPost_ret (v := .tuple #[.agg zs18, .int .i64 0, .int .i64 1]) ?_ rfl (getA_zero 0 1 (Below.ofGrown hb0 hgr9 (Nat.le_refl _) hsz0))
    simp [results, Try.results12, asAddr, Act.put, HV]
    rfl
set_option maxHeartbeats 8000000 in
set_option maxRecDepth 100000 in
theorem rrecget_in (l : List UInt8) (a : Nat) (w : World) (hl : l.length ≤ 1000000) (ha : a ≤ l.length) :
    Calls Try.prog 12 #[.string (S l), .int .i64 (a : Int)] w (GetA (getB (l.drop a) (a : Int)) w) := by
  have hz := S_size l
  have HX := Lib.hid (fun n => mid_S l a n)
  have HG1 := Lib.hid (fun W => rget_any (S l) (a : Int) 4 W (by rw [hz]; unfold maxLen; omega) (WalkArith.wf_i64 (by omega)) wf4)
  have HG2 := Lib.hid (fun W => rget_any (S l) ((a : Int) + 4) 4 W (by rw [hz]; unfold maxLen; omega) (WalkArith.wf_i64 (by omega)) wf4)
  simp only [S_data] at HG1 HG2
  rw [getR_a l a ha] at HG1
  have hyes := getR_b l a
  have hno := getR_c l a
  have hl2 : (l.drop a).length ≤ 1000000 := by rw [List.length_drop]; omega
  have hl2a : (l.drop a).length + a = l.length := by rw [List.length_drop]; omega
  obtain ⟨s, hs⟩ : ∃ s, S l = s := ⟨_, rfl⟩
  obtain ⟨r2, hr2⟩ : ∃ r, getR l ((a : Int) + 4) 4 = r := ⟨_, rfl⟩
  rw [hs] at hz HX HG1 HG2 ⊢
  rw [hr2] at HG2 hyes hno
  obtain ⟨l2, hl2e⟩ : ∃ l2, l.drop a = l2 := ⟨_, rfl⟩
  rw [hl2e] at hl2 hl2a HX HG1 hyes hno ⊢
  have ha2 : a ≤ s.size := by omega
  have hss : s.size ≤ 1000000 := by omega
  have hzz : (s.size : Int) = (l2.length : Int) + (a : Int) := by omega
  have hyes := fun h => hyes h ha
  have hno := fun h => hno h ha
  clear hs hr2 hl2e hz hl ha
  have hn4 := beN4_lt l2
  obtain ⟨n, hn⟩ : ∃ n, beN (l2.take 4) = n := ⟨_, rfl⟩
  rw [hn] at hn4
  have HB : Hid (getB l2 (a : Int) = if l2.length < 8 ∨ l2.length - 8 < n then (zeroR, 0, 3) else
    if ¬ beN ((l2.drop 4).take 4) = sumN ((l2.drop 8).take n) then (zeroR, 0, 19) else
    if rightR (rrecF ((l2.drop 8).take n)) = true ∧ bodyL (rrecF ((l2.drop 8).take n)) = (l2.drop 8).take n then
      (rrecF ((l2.drop 8).take n), (a : Int) + 8 + (n : Nat), 0) else (zeroR, 0, 2)) := by
    show _ = _
    unfold getB
    rw [hn]
    by_cases h1 : rightR (recF ((l2.drop 8).take n)) = true ∧ bodyL (recF ((l2.drop 8).take n)) = (l2.drop 8).take n
    · rw [if_pos h1, rec_of _ h1, if_pos h1]
    · by_cases h2 : rightR (rrecF ((l2.drop 8).take n)) = true ∧ bodyL (rrecF ((l2.drop 8).take n)) = (l2.drop 8).take n
      · exact absurd (rrec_of _ h2 ▸ h2) h1
      · rw [if_neg h1, if_neg h2]
  obtain ⟨q, hq⟩ : ∃ q, getB l2 (a : Int) = q := ⟨_, rfl⟩
  rw [hq] at HB ⊢
  clear hq
  have hres := Blk.new w zs18 31
  have hb0 := (Below.refl w.heap.size w).alloc (Nat.le_refl _) (.cells zs18 31)
  have hsz0 : w.heap.size ≤ (w.alloc (.cells zs18 31)).heap.size := by simp
  unfold zs18 at hres hb0 hsz0
  have h1 : ¬ (s.size : Int) < (a : Int) := by omega
  have h0 : ¬ (a : Int) < 0 := by omega
  go_enter Try.func12, Try.ntmps12
  go_upto_region 3 with fail
  generalize HW0 : (w.alloc (.cells #[.int .i64 0, .int .i64 0, .int .i64 0, .int .i64 0, .int .i64 0, .int .i64 0, .int .i64 0, .int .i64 0, .int .i64 0, .string ⟨#[]⟩, .string ⟨#[]⟩, .int .i64 0, .int .i64 0, .string ⟨#[]⟩, .int .i64 0, .int .i64 0, .slice none 0 0, .slice none 0 0] 31)) = W0 at hres hb0 hsz0 ⊢
  clear HW0 h1 h0
  by_cases h8 : l2.length < 8 ∨ l2.length - 8 < n
  · obtain rfl : (zeroR, 0, 3) = q := by rw [HB.out, if_pos h8]
    clear HB
    by_cases h4 : l2.length < 4
    · rw [getR_no4 l2 h4] at HG1
      obtain ⟨m2, o2⟩ := r2
      clear hn h4 h8 hyes hno
      go_wp2_with fail
      refine (HG1.out _).mono ?_
      rintro e w1 ⟨rfl, rfl⟩
      go_wp2_with fail
      refine (HG2.out _).mono ?_
      rintro e w1 ⟨rfl, rfl⟩
      go_wp2_with (first | (with_reducible refine wpList_buildC rfl 31 _ rfl #[.int .i64 0, .int .i64 0, .int .i64 0, .int .i64 0, .int .i64 0, .int .i64 0, .int .i64 0, .int .i64 0, .int .i64 0, .string ⟨#[]⟩, .string ⟨#[]⟩, .int .i64 0, .int .i64 0, .string ⟨#[]⟩, .int .i64 0, .int .i64 0, .slice none 0 0, .slice none 0 0] (by kernel_rfl) ?_) | ((with_reducible refine wpList_store18 hres (by kernel_rfl) (by kernel_rfl) (by kernel_rfl) rfl _ _ rfl rfl rfl ?_); intro W9 hW9 hgr9))
      have HV := rec_val hW9 rfl
      refine bodyPost_ret (v := .tuple #[.agg zs18, .int .i64 0, .int .i64 3]) ?_ rfl (getA_zero 0 3 (Below.ofGrown hb0 hgr9 (Nat.le_refl _) hb0.size))
      simp [results, Try.results12, asAddr, Act.put, HV]
      rfl
    · rw [getR_yes4 l2 (by omega), hn] at HG1
      by_cases h7 : l2.length < 8
      · rw [hno h7] at HG2
        clear hn h4 h8 h7 hyes hno
        go_wp2_with fail
        refine (HG1.out _).mono ?_
        rintro e w1 ⟨rfl, rfl⟩
        go_wp2_with fail
        refine (HG2.out _).mono ?_
        rintro e w1 ⟨rfl, rfl⟩
        go_wp2_with (first | (with_reducible refine wpList_buildC rfl 31 _ rfl #[.int .i64 0, .int .i64 0, .int .i64 0, .int .i64 0, .int .i64 0, .int .i64 0, .int .i64 0, .int .i64 0, .int .i64 0, .string ⟨#[]⟩, .string ⟨#[]⟩, .int .i64 0, .int .i64 0, .string ⟨#[]⟩, .int .i64 0, .int .i64 0, .slice none 0 0, .slice none 0 0] (by kernel_rfl) ?_) | ((with_reducible refine wpList_store18 hres (by kernel_rfl) (by kernel_rfl) (by kernel_rfl) rfl _ _ rfl rfl rfl ?_); intro W9 hW9 hgr9))
        have HV := rec_val hW9 rfl
        refine bodyPost_ret (v := .tuple #[.agg zs18, .int .i64 0, .int .i64 3]) ?_ rfl (getA_zero 0 3 (Below.ofGrown hb0 hgr9 (Nat.le_refl _) hb0.size))
        simp [results, Try.results12, asAddr, Act.put, HV]
        rfl
      · rw [hyes (by omega)] at HG2
        have h7t : (s.size : Int) - (a : Int) - 8 < (n : Int) := by omega
        clear hn h4 h8 h7 hyes hno hzz
        go_wp2_with fail
        refine (HG1.out _).mono ?_
        rintro e w1 ⟨rfl, rfl⟩
        go_wp2_with fail
        refine (HG2.out _).mono ?_
        rintro e w1 ⟨rfl, rfl⟩
        go_wp2_with (first | (with_reducible refine wpList_buildC rfl 31 _ rfl #[.int .i64 0, .int .i64 0, .int .i64 0, .int .i64 0, .int .i64 0, .int .i64 0, .int .i64 0, .int .i64 0, .int .i64 0, .string ⟨#[]⟩, .string ⟨#[]⟩, .int .i64 0, .int .i64 0, .string ⟨#[]⟩, .int .i64 0, .int .i64 0, .slice none 0 0, .slice none 0 0] (by kernel_rfl) ?_) | ((with_reducible refine wpList_store18 hres (by kernel_rfl) (by kernel_rfl) (by kernel_rfl) rfl _ _ rfl rfl rfl ?_); intro W9 hW9 hgr9))
        have HV := rec_val hW9 rfl
        refine bodyPost_ret (v := .tuple #[.agg zs18, .int .i64 0, .int .i64 3]) ?_ rfl (getA_zero 0 3 (Below.ofGrown hb0 hgr9 (Nat.le_refl _) hb0.size))
        simp [results, Try.results12, asAddr, Act.put, HV]
        rfl
  · rw [if_neg h8] at HB
    rw [getR_yes4 l2 (by omega), hn] at HG1
    rw [hyes (by omega)] at HG2
    have h7t : ¬ (s.size : Int) - (a : Int) - 8 < (n : Int) := by omega
    have hn8 : (a : Int) + 8 + (n : Int) ≤ (s.size : Int) := by omega
    have hn9 : a + 8 + n ≤ s.size := by omega
    have hbl : ((l2.drop 8).take n).length ≤ 1000000 := by rw [List.length_take, List.length_drop]; omega
    have HXN := Lib.hid (HX.out n)
    obtain ⟨bl, hbe⟩ : ∃ b, (l2.drop 8).take n = b := ⟨_, rfl⟩
    rw [hbe] at HXN HB hbl
    have HSU := Lib.hid (fun W h => rsum_any (S bl) W h)
    simp only [S_data] at HSU
    obtain ⟨sm, hsm⟩ : ∃ m, beN ((l2.drop 4).take 4) = m := ⟨_, rfl⟩
    rw [hsm] at HB HG2
    have hbs := S_size bl
    obtain ⟨sb, hsb⟩ : ∃ s, S bl = s := ⟨_, rfl⟩
    rw [hsb] at HXN HSU hbs
    have HSB := Lib.hid hsb
    have hsbz : sb.size ≤ 1000000 := by omega
    have HREC := Lib.hid (fun W => rread_any bl sb hsb hbl W)
    clear h8 hn hbe hyes hno hzz hl2a HX hsm hsb hbs hbl
    go_wp2_with fail
    refine (HG1.out _).mono ?_
    rintro e w1 ⟨rfl, rfl⟩
    go_wp2_with fail
    refine (HG2.out _).mono ?_
    rintro e w1 ⟨rfl, rfl⟩
    clear HG1 HG2
    go_upto_region 8 with fail
    rw [HXN.out]
    clear HXN
    go_wp2_with fail
    refine (HSU.out _ (by unfold maxLen; omega)).mono ?_
    rintro e w1 ⟨rfl, rfl⟩
    clear HSU
    by_cases hsum : sm = sumN bl
    · rw [if_neg (by simpa using hsum)] at HB
      subst hsum
      obtain ⟨x, hxr⟩ : ∃ x, rrecF bl = x := ⟨_, rfl⟩
      rw [hxr] at HREC HB
      have HRGT := Lib.hid (fun W vt vd h1 h2 h3 h4 => rright_any x vt vd W h1 h2 h3 h4)
      have HBDY := Lib.hid (fun W vt vd h1 h2 h3 => rbody_any x vt vd W h1 h2 h3)
      have hxt : x.txns.length ≤ 100000 ∧ x.dirty.length ≤ 100000 := by rw [← hxr]; exact rrec_sizes bl
      clear hxr
      go_wp2_with fail
      refine (HREC.out _).mono ?_
      rintro e w4 ⟨vt, vd, rfl, ⟨hrt, htl⟩, ⟨hrd2, hdl⟩, hg4⟩
      have hres4 := hres.below hg4
      have hw4 := hb0.next hg4
      have hlt2 := hres.lt
      have hown1 : w4.ownsRow (w.heap.size + 1) 67 4 vt x.txns.length (txC x.txns).flatten := row_lower hrt (by omega)
      have hown2 : w4.ownsRow (w.heap.size + 1) 71 2 vd x.dirty.length (dyC x.dirty).flatten := row_lower hrd2 (by omega)
      clear hres hb0 hg4 HREC hrt hrd2 hsz0
      have hvt : ElAt w4 4 vt (txC x.txns) := ElAt.owned (txC_each _) (by rw [txC_len]; exact hown1) (by rw [txC_len]; omega)
      have hvd : ElAt w4 2 vd (dyC x.dirty) := ElAt.owned (dyC_each _) (by rw [dyC_len]; exact hown2) (by rw [dyC_len]; omega)
      have HR2 := HRGT.out
      have HB2 := HBDY.out
      clear HRGT HBDY
      obtain ⟨xa, xcap, hva⟩ := hvt.nil
      obtain ⟨xb, xcap2, hvb⟩ := hvd.nil
      rw [txC_len] at hva
      rw [dyC_len] at hvb
      subst hva hvb
      replace HR2 := fun W h1 h2 => HR2 W (.slice xa x.txns.length xcap) (.slice xb x.dirty.length xcap2) h1 h2 hxt.1 hxt.2
      replace HB2 := fun W h1 h2 h3 => HB2 W (.slice xa x.txns.length xcap) (.slice xb x.dirty.length xcap2) h1 h2 h3
      have HFX : Hid (∀ (w' W9 : World) (n : Int), w.heap.size ≤ w'.heap.size → w'.ownsRow (w.heap.size + 1) 67 4 (.slice xa x.txns.length xcap) x.txns.length (txC x.txns).flatten → w'.ownsRow (w.heap.size + 1) 71 2 (.slice xb x.dirty.length xcap2) x.dirty.length (dyC x.dirty).flatten → w'.grownBy W9 (some w.heap.size) → Below w.heap.size w W9 → GetA (x, n, 0) w (.returned (.tuple #[.agg (rcC x (.slice xa x.txns.length xcap) (.slice xb x.dirty.length xcap2)), .int .i64 n, .int .i64 0])) W9) := by
        show ∀ _, _
        intro w' W9 n _ h1 h2 h3 h4
        have k1 := h1.kept h3 (.inr fun e => by have := (h1.lt _ e).1; omega)
        have k2 := h2.kept h3 (.inr fun e => by have := (h2.lt _ e).1; omega)
        exact ⟨_, _, rfl, ElAt.owned (txC_each _) (by rw [txC_len]; exact k1) (by rw [txC_len]; exact Nat.le_trans htl (by omega)), ElAt.owned (dyC_each _) (by rw [dyC_len]; exact k2) (by rw [dyC_len]; exact Nat.le_trans hdl (by omega)), h4⟩
      have HLN := Lib.hid (fun h => (right_len (r := x) h).2)
      obtain ⟨rb, hrb⟩ : ∃ b, rightR x = b := ⟨_, rfl⟩
      rw [hrb] at HB HR2 HB2 HLN
      obtain ⟨bx, hbx⟩ : ∃ b, bodyL x = b := ⟨_, rfl⟩
      rw [hbx] at HB HB2 HLN
      have HVT := Lib.hid hvt
      have HVD := Lib.hid hvd
      have HO1 := Lib.hid hown1
      have HO2 := Lib.hid hown2
      obtain ⟨n1, hn1⟩ : ∃ n, x.txns.length = n := ⟨_, rfl⟩
      obtain ⟨n2, hn2⟩ : ∃ n, x.dirty.length = n := ⟨_, rfl⟩
      rw [hn1] at HR2 HB2 HFX HVT HO1
      rw [hn2] at HR2 HB2 HFX HVD HO2
      rw [hn1, hn2]
      clear hrb hbx hvt hvd hown1 hown2 hxt htl hdl hn1 hn2
      obtain ⟨X, hX⟩ : ∃ X, X = x := ⟨_, rfl⟩
      rw [← hX] at HB
      rw [← hX] at HVT HVD HO1 HO2
      have HXX : Hid ((X, (a : Int) + 8 + (n : Nat), (0 : Int)) = (x, (a : Int) + 8 + (n : Nat), 0)) := by show _ = _; rw [hX]
      have HVT2 : Hid (∀ W, Below w4.heap.size w4 W → ElAt W 4 (.slice xa n1 xcap) (txC x.txns)) := fun W h => hX ▸ HVT.out.below h
      have HVD2 : Hid (∀ W, Below w4.heap.size w4 W → ElAt W 2 (.slice xb n2 xcap2) (dyC x.dirty)) := fun W h => hX ▸ HVD.out.below h
      have HO : Hid (∀ W, Below w4.heap.size w4 W → W.ownsRow (w.heap.size + 1) 67 4 (.slice xa n1 xcap) n1 (txC x.txns).flatten ∧ W.ownsRow (w.heap.size + 1) 71 2 (.slice xb n2 xcap2) n2 (dyC x.dirty).flatten) := fun W h => hX ▸ ⟨ownsRow_below HO1.out h, ownsRow_below HO2.out h⟩
      clear hX HVT HVD HO1 HO2
      obtain ⟨lsn, prev, txn, kind, page, next, num, ok, os, old, new, how, root, key, rp, rs, txns, dirty⟩ := x
      simp only [rcC] at HR2 HB2 HFX ⊢
      obtain ⟨s1, e1⟩ : ∃ x, S old = x := ⟨_, rfl⟩
      obtain ⟨s2', e2⟩ : ∃ x, S new = x := ⟨_, rfl⟩
      obtain ⟨s3, e3⟩ : ∃ x, S key = x := ⟨_, rfl⟩
      simp only [e1, e2, e3] at HR2 HB2 HFX ⊢
      clear e1 e2 e3
      replace HR2 := Lib.hid HR2
      replace HB2 := Lib.hid HB2
      have hXC := Blk.new w4 #[.int .i64 lsn, .int .i64 prev, .int .i64 txn, .int .i64 kind, .int .i64 page, .int .i64 next, .int .i64 num, .int .i64 ok, .int .i64 os, .string s1, .string s2', .int .i64 how, .int .i64 root, .string s3, .int .i64 rp, .int .i64 rs, .slice xa n1 xcap, .slice xb n2 xcap2] 31
      have hb5 := (Below.refl w4.heap.size w4).alloc (Nat.le_refl _) (.cells #[.int .i64 lsn, .int .i64 prev, .int .i64 txn, .int .i64 kind, .int .i64 page, .int .i64 next, .int .i64 num, .int .i64 ok, .int .i64 os, .string s1, .string s2', .int .i64 how, .int .i64 root, .string s3, .int .i64 rp, .int .i64 rs, .slice xa n1 xcap, .slice xb n2 xcap2] 31)
      have hres5 := hres4.alloc (.cells #[.int .i64 lsn, .int .i64 prev, .int .i64 txn, .int .i64 kind, .int .i64 page, .int .i64 next, .int .i64 num, .int .i64 ok, .int .i64 os, .string s1, .string s2', .int .i64 how, .int .i64 root, .string s3, .int .i64 rp, .int .i64 rs, .slice xa n1 xcap, .slice xb n2 xcap2] 31)
      have hw5 := hw4.alloc hw4.size (.cells #[.int .i64 lsn, .int .i64 prev, .int .i64 txn, .int .i64 kind, .int .i64 page, .int .i64 next, .int .i64 num, .int .i64 ok, .int .i64 os, .string s1, .string s2', .int .i64 how, .int .i64 root, .string s3, .int .i64 rp, .int .i64 rs, .slice xa n1 xcap, .slice xb n2 xcap2] 31)
      have hne : w.heap.size < w4.heap.size := hres4.lt
      clear hres4 hw4
      go_wp2_with (first | (with_reducible refine wpList_load18 hXC (by kernel_rfl) _ rfl rfl ?_))
      refine (HR2.out _ (HVT2.out _ hb5) (HVD2.out _ hb5)).mono ?_
      rintro e w6 ⟨rfl, hb6⟩
      have hXC6 := hXC.below hb6
      have hres6 := hres5.below hb6
      have hw6 := hw5.next hb6
      have hbb6 := hb5.next hb6
      clear hXC hres5 hw5 hb5 hb6 HR2
      cases rb with
      | false =>
        have hqv : (zeroR, 0, 2) = q := by rw [HB.out]; simp
        subst hqv
        go_wp2_with (first | (with_reducible refine wpList_buildC rfl 31 _ rfl #[.int .i64 0, .int .i64 0, .int .i64 0, .int .i64 0, .int .i64 0, .int .i64 0, .int .i64 0, .int .i64 0, .int .i64 0, .string ⟨#[]⟩, .string ⟨#[]⟩, .int .i64 0, .int .i64 0, .string ⟨#[]⟩, .int .i64 0, .int .i64 0, .slice none 0 0, .slice none 0 0] (by kernel_rfl) ?_) | ((with_reducible refine wpList_store18 hres6 (by kernel_rfl) (by kernel_rfl) (by kernel_rfl) rfl _ _ rfl rfl rfl ?_); intro W9 hW9 hgr9))
        have HV := rec_val hW9 rfl
        refine bodyPost_ret (v := .tuple #[.agg zs18, .int .i64 0, .int .i64 2]) ?_ rfl (getA_zero 0 2 (Below.ofGrown hw6 hgr9 (Nat.le_refl _) hw6.size))
        simp [results, Try.results12, asAddr, Act.put, HV]
        rfl
      | true =>
        go_wp2_with (first | (with_reducible refine wpList_load18 hXC6 (by kernel_rfl) _ rfl rfl ?_))
        refine (HB2.out _ (HVT2.out _ hbb6) (HVD2.out _ hbb6) (by first | rfl | trivial)).mono ?_
        rintro e w7 ⟨rfl, hb7⟩
        have hXC7 := hXC6.below hb7
        have hres7 := hres6.below hb7
        have hw7 := hw6.next hb7
        have hbb7 := hbb6.next hb7
        clear hXC6 hres6 hw6 hbb6 hb7 HB2
        by_cases hcmp : bx = bl
        · have hqv : (X, (a : Int) + 8 + (n : Nat), (0 : Int)) = q := by rw [HB.out]; simp [hcmp]
          have hsx : S bx = sb := by rw [hcmp]; exact HSB.out
          rw [hsx]
          clear HB hcmp hsx
          have HOO := Lib.hid (HO.out _ hbb7)
          clear HO HVT2 HVD2
          go_wp2_with (first | (with_reducible refine wpList_load18 hXC7 (by kernel_rfl) _ rfl rfl ?_) | ((with_reducible refine wpList_store18 hres7 (by kernel_rfl) (by kernel_rfl) (by kernel_rfl) rfl _ _ rfl rfl rfl ?_); intro W9 hW9 hgr9))
          have HV := rec_val hW9 rfl
          have hfin := HFX.out _ _ ((a : Int) + 8 + (n : Nat)) hw7.size HOO.out.1 HOO.out.2 hgr9 (Below.ofGrown hw7 hgr9 (Nat.le_refl _) hw7.size)
          rw [← HXX.out, hqv] at hfin
          refine bodyPost_ret (v := .tuple #[.agg #[.int .i64 lsn, .int .i64 prev, .int .i64 txn, .int .i64 kind, .int .i64 page, .int .i64 next, .int .i64 num, .int .i64 ok, .int .i64 os, .string s1, .string s2', .int .i64 how, .int .i64 root, .string s3, .int .i64 rp, .int .i64 rs, .slice xa n1 xcap, .slice xb n2 xcap2], .int .i64 ((a : Int) + 8 + (n : Nat)), .int .i64 0]) ?_ rfl hfin
          simp [results, Try.results12, asAddr, Act.put, HV]
        · have hqv : (zeroR, 0, 2) = q := by rw [HB.out]; simp [hcmp]
          subst hqv
          have hns : ¬ (S bx).toList = sb.toList := by
            intro e
            rw [ByteArray.toList_eq, ByteArray.toList_eq, ← HSB.out, S_data, S_data] at e
            exact hcmp e
          obtain ⟨sx, hsx⟩ : ∃ s, S bx = s := ⟨_, rfl⟩
          rw [hsx] at hns ⊢
          have hns2 : (sx.toList != sb.toList) = true := by simp [hns]
          have hns3 : (sx.toList == sb.toList) = false := by simp [hns]
          have hns4 : ¬ sx = sb := fun e => hns (by rw [e])
          have hns7 : decide (sx = sb) = false := by simp [hns4]
          clear hsx hcmp HB
          go_wp2_with (first | (with_reducible refine wpList_buildC rfl 31 _ rfl #[.int .i64 0, .int .i64 0, .int .i64 0, .int .i64 0, .int .i64 0, .int .i64 0, .int .i64 0, .int .i64 0, .int .i64 0, .string ⟨#[]⟩, .string ⟨#[]⟩, .int .i64 0, .int .i64 0, .string ⟨#[]⟩, .int .i64 0, .int .i64 0, .slice none 0 0, .slice none 0 0] (by kernel_rfl) ?_) | ((with_reducible refine wpList_store18 hres7 (by kernel_rfl) (by kernel_rfl) (by kernel_rfl) rfl _ _ rfl rfl rfl ?_); intro W9 hW9 hgr9))
          have HV := rec_val hW9 rfl
          refine bodyPost_ret (v := .tuple #[.agg zs18, .int .i64 0, .int .i64 2]) ?_ rfl (getA_zero 0 2 (Below.ofGrown hw7 hgr9 (Nat.le_refl _) hw7.size))
          simp [results, Try.results12, asAddr, Act.put, HV]
          rfl
    · obtain rfl : (zeroR, 0, 19) = q := by rw [HB.out, if_pos (by simpa using hsum)]
      have hs1 : (((sumN bl : Nat) : Int) != (sm : Int)) = true := by simp; omega
      have hs2 : (((sumN bl : Nat) : Int) == (sm : Int)) = false := by simp; omega
      have hs3 : ¬ ((sumN bl : Nat) : Int) = (sm : Int) := by omega
      clear hsum HB HREC HSB
      go_wp2_with (first | (with_reducible refine wpList_buildC rfl 31 _ rfl #[.int .i64 0, .int .i64 0, .int .i64 0, .int .i64 0, .int .i64 0, .int .i64 0, .int .i64 0, .int .i64 0, .int .i64 0, .string ⟨#[]⟩, .string ⟨#[]⟩, .int .i64 0, .int .i64 0, .string ⟨#[]⟩, .int .i64 0, .int .i64 0, .slice none 0 0, .slice none 0 0] (by kernel_rfl) ?_) | ((with_reducible refine wpList_store18 hres (by kernel_rfl) (by kernel_rfl) (by kernel_rfl) rfl _ _ rfl rfl rfl ?_); intro W9 hW9 hgr9))
      have HV := rec_val hW9 rfl
      refine bodyPost_ret (v := .tuple #[.agg zs18, .int .i64 0, .int .i64 19]) ?_ rfl (getA_zero 0 19 (Below.ofGrown hb0 hgr9 (Nat.le_refl _) hb0.size))
      simp [results, Try.results12, asAddr, Act.put, HV]
      rfl
theorem rrecget_any (l : List UInt8) (at_ : Int) (w : World) (hl : l.length ≤ 1000000) : Calls Try.prog 12 #[.string (S l), .int .i64 at_] w (GetA (getF l at_) w) := by
  by_cases h : at_ < 0 ∨ (l.length : Int) < at_
  · exact rrecget_out l at_ w hl h
  · obtain ⟨a, rfl⟩ := Int.eq_ofNat_of_zero_le (show 0 ≤ at_ by omega)
    show Calls _ _ _ _ (GetA (getF l ((a : Nat) : Int)) w)
    rw [getF_in l a (by omega)]
    exact rrecget_in l a w hl (by omega)
end Go.Proofs.Ytloengjcniefgaa.Rec
