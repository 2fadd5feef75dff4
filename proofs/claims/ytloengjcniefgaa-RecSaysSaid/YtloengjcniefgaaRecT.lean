/- rec: op, tree: what they answer. -/
import Derived.Test.YtloengjcniefgaaRecV
namespace Go.Proofs.Ytloengjcniefgaa.Rec
set_option linter.unusedVariables false
set_option linter.unusedSimpArgs false
open Go.RowKit
open Oct (S beN putL U I getI sumN S_size S_data)
theorem in1 (w : World) (n : Int) : ElAt (w.alloc (.cells #[.int .i64 n] 3)) 1 (.slice (some ⟨w.heap.size, 0, none⟩) 1 1) (inC [n]) :=
  ElAt.blk (ls := inC [n]) (fun c hc => by obtain rfl : c = [.int .i64 n] := by simpa [inC] using hc
                                           rfl) (Blk.new w #[.int .i64 n] 3) (by simp [inC])
theorem in2 (w : World) (n m : Int) : ElAt (w.alloc (.cells #[.int .i64 n, .int .i64 m] 3)) 1 (.slice (some ⟨w.heap.size, 0, none⟩) 2 2) (inC [n, m]) :=
  ElAt.blk (ls := inC [n, m]) (fun c hc => by simp [inC] at hc; rcases hc with rfl | rfl <;> rfl) (Blk.new w #[.int .i64 n, .int .i64 m] 3) (by simp [inC])
theorem in3 (w : World) (n m k : Int) : ElAt (w.alloc (.cells #[.int .i64 n, .int .i64 m, .int .i64 k] 3)) 1 (.slice (some ⟨w.heap.size, 0, none⟩) 3 3) (inC [n, m, k]) :=
  ElAt.blk (ls := inC [n, m, k]) (fun c hc => by simp [inC] at hc; rcases hc with rfl | rfl | rfl <;> rfl) (Blk.new w #[.int .i64 n, .int .i64 m, .int .i64 k] 3) (by simp [inC])
theorem ret_alloc {v : Value} {w : World} {o : Obj} {e : Ending} {w' : World} (h : Ret v (w.alloc o) e w') : Ret v w e w' := ⟨h.1, ((Below.refl w.heap.size w).alloc (Nat.le_refl _) o).next h.2⟩
theorem number1 (n : Int) (w : World) (g : Nat) (hg : g = w.heap.size) : Calls Try.prog 29 #[.slice (some ⟨g, 0, none⟩) 1 1] (w.alloc (.cells #[.int .i64 n] 3)) (Ret (.bool (numB n)) w) := hg ▸
  (number_any [n] _ _ (in1 w n) (by simp)).mono fun e w' h => by
    have := ret_alloc h
    simpa using this
theorem number3 (n m k : Int) (w : World) (g : Nat) (hg : g = w.heap.size) : Calls Try.prog 29 #[.slice (some ⟨g, 0, none⟩) 3 3] (w.alloc (.cells #[.int .i64 n, .int .i64 m, .int .i64 k] 3)) (Ret (.bool (numB n && numB m && numB k)) w) := hg ▸
  (number_any [n, m, k] _ _ (in3 w n m k) (by simp)).mono fun e w' h => by
    have := ret_alloc h
    simpa [Bool.and_assoc] using this
theorem paged1 (n : Int) (w : World) (g : Nat) (hg : g = w.heap.size) : Calls Try.prog 30 #[.slice (some ⟨g, 0, none⟩) 1 1] (w.alloc (.cells #[.int .i64 n] 3)) (Ret (.bool (pageB n)) w) := hg ▸
  (paged_any [n] _ _ (in1 w n) (by simp)).mono fun e w' h => by
    have := ret_alloc h
    simpa using this
theorem paged2 (n m : Int) (w : World) (g : Nat) (hg : g = w.heap.size) : Calls Try.prog 30 #[.slice (some ⟨g, 0, none⟩) 2 2] (w.alloc (.cells #[.int .i64 n, .int .i64 m] 3)) (Ret (.bool (pageB n && pageB m)) w) := hg ▸
  (paged_any [n, m] _ _ (in2 w n m) (by simp)).mono fun e w' h => by
    have := ret_alloc h
    simpa using this
theorem slot1 (n : Int) (w : World) (g : Nat) (hg : g = w.heap.size) : Calls Try.prog 65 #[.slice (some ⟨g, 0, none⟩) 1 1] (w.alloc (.cells #[.int .i64 n] 3)) (Ret (.bool (slotB n)) w) := hg ▸
  (slot_any [n] _ _ (in1 w n) (by simp)).mono fun e w' h => by
    have := ret_alloc h
    simpa using this
set_option maxHeartbeats 2000000 in
set_option maxRecDepth 100000 in
theorem op_any (k s : Int) (old new : List UInt8) (w : World) :
    Calls Try.prog 31 #[.agg #[.int .i64 k, .int .i64 s, .string (S old), .string (S new)]] w (Ret (.bool (opB k s old new)) w) := by
  have HB : Hid (opB k s old new = (decide (1 ≤ k) && decide (k ≤ 7) && slotB s && decide (old.length ≤ 512) && decide (new.length ≤ 512))) := rfl
  have hb := (Below.refl w.heap.size w).alloc (Nat.le_refl _) (.cells #[.int .i64 k, .int .i64 s, .string (S old), .string (S new)] 23)
  have HS := Lib.hid (fun W g h => slot1 s W g h)
  have e1 := S_size old
  have e2 := S_size new
  go_enter Try.func31, Try.ntmps31
  go_wp2_with fail
  · refine (HS.out _ _ (by simp)).mono ?_
    rintro e w1 ⟨rfl, hb1⟩
    have hb2 := hb.next hb1
    have hN := (Blk.new w #[.int .i64 k, .int .i64 s, .string (S old), .string (S new)] 23).below hb1
    have c2 := hN.cell 2 (v := .string (S old)) rfl
    have c3 := hN.cell 3 (v := .string (S new)) rfl
    cases hsl : slotB s with
    | false =>
      go_wp2_with fail
      go_ret
      exact ⟨ret_bool (by rw [HB.out, hsl]; simp), hb2⟩
    | true =>
      go_wp2_with fail
      all_goals (try go_wp2_with fail)
      all_goals go_ret
      all_goals exact ⟨ret_bool (by rw [HB.out, hsl]; first | (simp; omega) | (rw [Bool.eq_iff_iff]; simp; omega)), hb2⟩
  all_goals go_ret
  all_goals exact ⟨ret_bool (by rw [HB.out]; simp; omega), hb⟩
set_option maxHeartbeats 2000000 in
set_option maxRecDepth 100000 in
theorem tree_any (r : Rc) (vt vd : Value) (w : World) (hv : ElAt w 4 vt (txC r.txns)) (hd : ElAt w 2 vd (dyC r.dirty)) :
    Calls Try.prog 32 #[.agg (rcC r vt vd)] w (Ret (.bool (treeB r.how r.root r.key r.rp r.rs)) w) := by
  obtain ⟨ao, cap, rfl⟩ := hv.nil
  obtain ⟨bo, cap2, rfl⟩ := hd.nil
  clear hv hd
  obtain ⟨lsn, prev, txn, kind, page, next, num, ok, os, old, new, how, root, key, rp, rs, txns, dirty⟩ := r
  simp only [rcC]
  have HB : Hid (treeB how root key rp rs = if how = 1 then decide (root = 0) && (decide (key = []) && decide (rp = 0) && decide (rs = 0)) else (decide (how = 2) || decide (how = 3)) && (pageB root && pageB rp) && slotB rs && decide (key.length ≤ 100)) := rfl
  obtain ⟨sa, hsa⟩ : ∃ x, S old = x := ⟨_, rfl⟩
  obtain ⟨sb, hsb⟩ : ∃ x, S new = x := ⟨_, rfl⟩
  obtain ⟨nt, hnt⟩ : ∃ x, (txC txns).length = x := ⟨_, rfl⟩
  obtain ⟨nd, hnd⟩ : ∃ x, (dyC dirty).length = x := ⟨_, rfl⟩
  have hek : (S key).toList = [] ↔ key = [] := by rw [ByteArray.toList_eq, S_data]
  have HEK := Lib.hid hek
  have hks := S_size key
  obtain ⟨sk, hsk⟩ : ∃ x, S key = x := ⟨_, rfl⟩
  rw [hsa, hsb, hsk, hnt, hnd]
  rw [hsk] at HEK hks
  clear hsa hsb hnt hnd hsk hek
  obtain ⟨C, hC⟩ : ∃ C : Array Value, C = #[.int .i64 lsn, .int .i64 prev, .int .i64 txn, .int .i64 kind, .int .i64 page, .int .i64 next, .int .i64 num, .int .i64 ok, .int .i64 os, .string sa, .string sb, .int .i64 how, .int .i64 root, .string sk, .int .i64 rp, .int .i64 rs, .slice ao nt cap, .slice bo nd cap2] := ⟨_, rfl⟩
  have hb := (Below.refl w.heap.size w).alloc (Nat.le_refl _) (.cells C 31)
  have hN := Blk.new w C 31
  rw [hC] at hb hN
  have HN := Lib.hid hN
  have HS := Lib.hid (fun W g h => slot1 rs W g h)
  have HP := Lib.hid (fun W g h => paged2 root rp W g h)
  clear hC hN C
  by_cases h1 : how = 1
  · have HB1 : Hid (treeB how root key rp rs = (decide (root = 0) && (decide (key = []) && decide (rp = 0) && decide (rs = 0)))) := by show _ = _; rw [HB.out, if_pos h1]
    obtain ⟨B, hB⟩ : ∃ B, treeB how root key rp rs = B := ⟨_, rfl⟩
    rw [hB] at HB1 ⊢
    subst h1
    clear hB HB
    go_enter Try.func32, Try.ntmps32
    go_wp2_with fail
    all_goals go_ret
    all_goals exact ⟨ret_bool (by rw [HB1.out]; have hk := HEK.out; simp only [← hk]; simp [*]), (Below.refl w.heap.size w).alloc (Nat.le_refl _) _⟩
  · have HB1 : Hid (treeB how root key rp rs = ((decide (how = 2) || decide (how = 3)) && (pageB root && pageB rp) && slotB rs && decide (key.length ≤ 100))) := by show _ = _; rw [HB.out, if_neg h1]
    have h1b : (how == 1) = false := by simpa using h1
    clear HB
    by_cases h23 : how = 2 ∨ how = 3
    · have HB2 : Hid (treeB how root key rp rs = ((pageB root && pageB rp) && slotB rs && decide (key.length ≤ 100))) := by
        show _ = _
        rw [HB1.out]
        rcases h23 with rfl | rfl <;> simp
      clear HB1 h1
      rcases h23 with rfl | rfl
      · go_enter Try.func32, Try.ntmps32
        go_wp2_with fail
        refine (HP.out _ _ (by simp)).mono ?_
        rintro e w1 ⟨rfl, hb1⟩
        have hb2 := hb.next hb1
        have hN1 := HN.out.below hb1
        have c15 := hN1.cell 15 (v := .int .i64 rs) rfl
        have c13 := hN1.cell 13 (v := .string sk) rfl
        have HN2 := Lib.hid hN1
        cases hpp : (pageB root && pageB rp) with
        | false =>
          go_wp2_with fail
          go_ret
          exact ⟨ret_bool (by rw [HB2.out, hpp]; simp), hb2⟩
        | true =>
          go_wp2_with fail
          refine (HS.out _ _ (by simp)).mono ?_
          rintro e w2 ⟨rfl, hb3⟩
          have hb4 := hb2.next hb3
          have c13b := (HN2.out.below hb3).cell 13 (v := .string sk) rfl
          cases hsl : slotB rs with
          | false =>
            go_wp2_with fail
            go_ret
            exact ⟨ret_bool (by rw [HB2.out, hpp, hsl]; simp), hb4⟩
          | true =>
            go_wp2_with fail
            all_goals go_ret
            all_goals exact ⟨ret_bool (by rw [HB2.out, hpp, hsl]; first | (simp; omega) | (rw [Bool.eq_iff_iff]; simp; omega)), hb4⟩
      · go_enter Try.func32, Try.ntmps32
        go_wp2_with fail
        refine (HP.out _ _ (by simp)).mono ?_
        rintro e w1 ⟨rfl, hb1⟩
        have hb2 := hb.next hb1
        have hN1 := HN.out.below hb1
        have c15 := hN1.cell 15 (v := .int .i64 rs) rfl
        have c13 := hN1.cell 13 (v := .string sk) rfl
        have HN2 := Lib.hid hN1
        cases hpp : (pageB root && pageB rp) with
        | false =>
          go_wp2_with fail
          go_ret
          exact ⟨ret_bool (by rw [HB2.out, hpp]; simp), hb2⟩
        | true =>
          go_wp2_with fail
          refine (HS.out _ _ (by simp)).mono ?_
          rintro e w2 ⟨rfl, hb3⟩
          have hb4 := hb2.next hb3
          have c13b := (HN2.out.below hb3).cell 13 (v := .string sk) rfl
          cases hsl : slotB rs with
          | false =>
            go_wp2_with fail
            go_ret
            exact ⟨ret_bool (by rw [HB2.out, hpp, hsl]; simp), hb4⟩
          | true =>
            go_wp2_with fail
            all_goals go_ret
            all_goals exact ⟨ret_bool (by rw [HB2.out, hpp, hsl]; first | (simp; omega) | (rw [Bool.eq_iff_iff]; simp; omega)), hb4⟩
    · have h2 : (how == 2) = false := by simp; omega
      have h3 : (how == 3) = false := by simp; omega
      clear h1 h23
      go_enter Try.func32, Try.ntmps32
      go_wp2_with fail
      all_goals go_ret
      all_goals exact ⟨ret_bool (by rw [HB1.out]; simp at h2 h3; simp [h2, h3]), hb⟩
end Go.Proofs.Ytloengjcniefgaa.Rec
