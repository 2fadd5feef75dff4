/- rowcode's reader: the next value. -/
import Derived.Test.YtcboeggfincakaaRd06
namespace Go.Proofs.Ytcboeggfincakaa
set_option linter.unusedVariables false
set_option linter.unusedSimpArgs false
open Go.RowKit Go.Sort
open Oct (S beN putL U I getI)
/-- What value leaves. -/
def TakeP (s : ByteArray) (a : Nat) (v : Vl) (b : Nat) (e : Int) : Prop := (takeR s a = .ok (v, b) ∧ e = 0) ∨ (takeR s a = .error e ∧ e ≠ 0)
def ValP (w : World) (g : Nat) (s : ByteArray) (a : Nat) (x : Ending) (w' : World) : Prop := ∃ v b e, x = .returned v.val ∧ Rd w' g s b e ∧ w.grownBy w' (some g) ∧ TakeP s a v b e
theorem value_none (w : World) (g : Nat) (s : ByteArray) (a : Nat) (h : Rd w g s a 0) (hs : s.size ≤ 1000) (ha : a ≤ 2000) (hn : ¬ a < s.size) :
    Calls Try.prog 42 #[.pointer (some ⟨g, 0, none⟩)] w (ValP w g s a) := by
  have HT : Hid (TakeP s a noVl a 3) := .inr ⟨by rw [takeR, if_neg hn], by decide⟩
  have hb0 : Below w.heap.size w (w.alloc (.cells #[.int .i64 0, .int .i64 0, .string ⟨#[]⟩] 49)) := (Below.refl _ _).alloc (Nat.le_refl _) _
  have hR := Blk.new w #[.int .i64 0, .int .i64 0, .string ⟨#[]⟩] 49
  have H1 := one_no _ g s a (h.below hb0) hs ha hn
  have hlt := h.lt
  go_enter Try.func42, Try.ntmps42
  go_wp2_with fail
  refine H1.mono ?_
  rintro x w1 ⟨rfl, hr1, hg1⟩
  replace hR := hR.grown hg1 (by intro e; injection e with e; omega)
  replace hg1 := (grownBy_below hb0 (some g)).trans hg1
  have hR2 := hR.alloc (.cells #[.int .i64 0, .int .i64 0, .string ⟨#[]⟩] 49)
  have hr2 := hr1.below ((Below.refl _ _).alloc (Nat.le_refl _) (.cells #[.int .i64 0, .int .i64 0, .string ⟨#[]⟩] 49))
  obtain ⟨c0, c1, c2, f0, f1, f2⟩ := hR2.val
  go_wp2_with fail
  refine bodyPost_ret (v := .agg #[.int .i64 0, .int .i64 0, .string ⟨#[]⟩]) (by simp [results, Try.results42, go_sem, c0, c1, c2]) rfl ?_
  exact ⟨noVl, _, _, rfl, ((hr2.other (by simp; omega) _).other (by simp; omega) _).other (by simp; omega) _, grownBy_setNew (grownBy_setNew (grownBy_setNew (grownBy_new hg1 _) (Nat.le_refl _) _) (Nat.le_refl _) _) (Nat.le_refl _) _, HT⟩
theorem one_at (w : World) (g : Nat) (s : ByteArray) (a : Nat) (k : Int) (hk : (byteAt s a : Int) = k) (h : Rd w g s a 0) (hs : s.size ≤ 1000) (hn : a < s.size) :
    Calls Try.prog 40 #[.pointer (some ⟨g, 0, none⟩)] w (RdP w g s (.int .i64 k) (a + 1) 0) := by
  subst hk; exact one_yes w g s a h hs hn
theorem ne_some {a b : Nat} (h : a ≠ b) : some a ≠ some b := fun e => h (by injection e)
theorem value_0 (w : World) (g : Nat) (s : ByteArray) (a : Nat) (h : Rd w g s a 0) (hs : s.size ≤ 1000) (ha : a ≤ 2000) (hn : a < s.size) (hk : (byteAt s a : Int) = 0) :
    Calls Try.prog 42 #[.pointer (some ⟨g, 0, none⟩)] w (ValP w g s a) := by
  have HT : Hid (TakeP s a noVl (a + 1) 0) := .inl ⟨by rw [takeR, if_pos hn, if_pos (by omega)], rfl⟩
  have hb0 : Below w.heap.size w (w.alloc (.cells #[.int .i64 0, .int .i64 0, .string ⟨#[]⟩] 49)) := (Below.refl _ _).alloc (Nat.le_refl _) _
  have hR := Blk.new w #[.int .i64 0, .int .i64 0, .string ⟨#[]⟩] 49
  have H1 := one_at _ g s a 0 hk (h.below hb0) hs hn
  have hlt := h.lt
  clear hk
  go_enter Try.func42, Try.ntmps42
  go_wp2_with fail
  refine H1.mono ?_
  rintro x w1 ⟨rfl, hr1, hg1⟩
  replace hR := hR.grown hg1 (ne_some (by omega))
  replace hg1 := (grownBy_below hb0 (some g)).trans hg1
  have HZ : Hid (g < w1.heap.size ∧ w.heap.size < w1.heap.size) := ⟨hr1.lt, hR.lt⟩
  replace hR := hR.alloc (.cells #[.int .i64 0, .int .i64 0, .string ⟨#[]⟩] 49)
  have hV := Blk.new w1 #[.int .i64 0, .int .i64 0, .string ⟨#[]⟩] 49
  have hr := hr1.below ((Below.refl _ _).alloc (Nat.le_refl _) (.cells #[.int .i64 0, .int .i64 0, .string ⟨#[]⟩] 49))
  have hg := grownBy_new hg1 (.cells #[.int .i64 0, .int .i64 0, .string ⟨#[]⟩] 49)
  clear hr1 hg1 H1
  obtain ⟨c0, c1, c2, f0, f1, f2⟩ := hR.val
  go_wp2_with fail
  have hF : Blk _ _ #[.int .i64 0, .int .i64 0, .string ⟨#[]⟩] 49 := ((hR.set 0 (.int .i64 0)).set 1 (.int .i64 0)).set 2 (.string ⟨#[]⟩)
  obtain ⟨z0, z1, z2, _, _, _⟩ := hF.val
  refine bodyPost_ret (v := .agg #[.int .i64 0, .int .i64 0, .string ⟨#[]⟩]) (by simp [results, Try.results42, go_sem, z0, z1, z2]) rfl ?_
  exact ⟨noVl, _, _, rfl, ((hr.other (by simp; omega) _).other (by simp; omega) _).other (by simp; omega) _, grownBy_setNew (grownBy_setNew (grownBy_setNew hg (Nat.le_refl _) _) (Nat.le_refl _) _) (Nat.le_refl _) _, HT⟩
theorem value_4 (w : World) (g : Nat) (s : ByteArray) (a : Nat) (h : Rd w g s a 0) (hs : s.size ≤ 1000) (ha : a ≤ 2000) (hn : a < s.size) (k : Int) (hk : (byteAt s a : Int) = k) (hk4 : 3 < k) :
    Calls Try.prog 42 #[.pointer (some ⟨g, 0, none⟩)] w (ValP w g s a) := by
  have HT : Hid (TakeP s a ⟨k, 0, ⟨#[]⟩⟩ (a + 1) 2) := .inr ⟨by rw [takeR, if_pos hn, if_neg (by omega), if_neg (by omega), if_neg (by omega), if_neg (by omega)], by decide⟩
  have hb0 : Below w.heap.size w (w.alloc (.cells #[.int .i64 0, .int .i64 0, .string ⟨#[]⟩] 49)) := (Below.refl _ _).alloc (Nat.le_refl _) _
  have hR := Blk.new w #[.int .i64 0, .int .i64 0, .string ⟨#[]⟩] 49
  have H1 := one_at _ g s a k hk (h.below hb0) hs hn
  have hlt := h.lt
  clear hk
  go_enter Try.func42, Try.ntmps42
  go_wp2_with fail
  refine H1.mono ?_
  rintro x w1 ⟨rfl, hr1, hg1⟩
  replace hR := hR.grown hg1 (ne_some (by omega))
  replace hg1 := (grownBy_below hb0 (some g)).trans hg1
  have HZ : Hid (g < w1.heap.size ∧ w.heap.size < w1.heap.size) := ⟨hr1.lt, hR.lt⟩
  replace hR := hR.alloc (.cells #[.int .i64 k, .int .i64 0, .string ⟨#[]⟩] 49)
  have hV := Blk.new w1 #[.int .i64 k, .int .i64 0, .string ⟨#[]⟩] 49
  have hr := hr1.below ((Below.refl _ _).alloc (Nat.le_refl _) (.cells #[.int .i64 k, .int .i64 0, .string ⟨#[]⟩] 49))
  have hg := grownBy_new hg1 (.cells #[.int .i64 k, .int .i64 0, .string ⟨#[]⟩] 49)
  clear hr1 hg1 H1
  obtain ⟨c0, c1, c2, f0, f1, f2⟩ := hR.val
  have t0 : (k == 0) = false := by simp; omega
  have t1 : (k == 1) = false := by simp; omega
  have t2 : (k == 2) = false := by simp; omega
  have t3 : (k == 3) = false := by simp; omega
  go_wp2_with fail
  refine (fault_any _ g s _ 2 hr).mono ?_
  rintro x w2 ⟨rfl, hr5, hg5⟩
  replace hR := hR.grown hg5 (ne_some (by omega))
  replace hV := hV.grown hg5 (ne_some (by have := HZ.out; omega))
  replace hg := hg.trans hg5
  replace hr := hr5
  clear hr5 hg5 c0 c1 c2 f0 f1 f2
  obtain ⟨c0, c1, c2, f0, f1, f2⟩ := hR.val
  obtain ⟨d0, d1, d2, e0, e1, e2⟩ := hV.val
  go_wp2_with fail
  have hF : Blk _ _ #[.int .i64 k, .int .i64 0, .string ⟨#[]⟩] 49 := ((hR.set 0 (.int .i64 k)).set 1 (.int .i64 0)).set 2 (.string ⟨#[]⟩)
  obtain ⟨z0, z1, z2, _, _, _⟩ := hF.val
  refine bodyPost_ret (v := .agg #[.int .i64 k, .int .i64 0, .string ⟨#[]⟩]) (by simp [results, Try.results42, go_sem, z0, z1, z2]) rfl ?_
  exact ⟨⟨k, 0, ⟨#[]⟩⟩, _, _, rfl, ((hr.other (by simp; omega) _).other (by simp; omega) _).other (by simp; omega) _, grownBy_setNew (grownBy_setNew (grownBy_setNew hg (Nat.le_refl _) _) (Nat.le_refl _) _) (Nat.le_refl _) _, HT⟩
theorem value_1no (w : World) (g : Nat) (s : ByteArray) (a : Nat) (h : Rd w g s a 0) (hs : s.size ≤ 1000) (ha : a ≤ 2000) (hn : a < s.size) (hk : (byteAt s a : Int) = 1) (h1 : ¬ a + 1 < s.size) :
    Calls Try.prog 42 #[.pointer (some ⟨g, 0, none⟩)] w (ValP w g s a) := by
  have HT : Hid (TakeP s a ⟨1, 0, ⟨#[]⟩⟩ (a + 1) 3) := .inr ⟨by rw [takeR, if_pos hn, if_neg (by omega), if_pos (by omega), if_neg h1], by decide⟩
  have hb0 : Below w.heap.size w (w.alloc (.cells #[.int .i64 0, .int .i64 0, .string ⟨#[]⟩] 49)) := (Below.refl _ _).alloc (Nat.le_refl _) _
  have hR := Blk.new w #[.int .i64 0, .int .i64 0, .string ⟨#[]⟩] 49
  have H1 := one_at _ g s a 1 hk (h.below hb0) hs hn
  have hlt := h.lt
  clear hk
  go_enter Try.func42, Try.ntmps42
  go_wp2_with fail
  refine H1.mono ?_
  rintro x w1 ⟨rfl, hr1, hg1⟩
  replace hR := hR.grown hg1 (ne_some (by omega))
  replace hg1 := (grownBy_below hb0 (some g)).trans hg1
  have HZ : Hid (g < w1.heap.size ∧ w.heap.size < w1.heap.size) := ⟨hr1.lt, hR.lt⟩
  replace hR := hR.alloc (.cells #[.int .i64 1, .int .i64 0, .string ⟨#[]⟩] 49)
  have hV := Blk.new w1 #[.int .i64 1, .int .i64 0, .string ⟨#[]⟩] 49
  have hr := hr1.below ((Below.refl _ _).alloc (Nat.le_refl _) (.cells #[.int .i64 1, .int .i64 0, .string ⟨#[]⟩] 49))
  have hg := grownBy_new hg1 (.cells #[.int .i64 1, .int .i64 0, .string ⟨#[]⟩] 49)
  clear hr1 hg1 H1
  obtain ⟨c0, c1, c2, f0, f1, f2⟩ := hR.val
  go_wp2_with fail
  refine (one_no _ g s (a + 1) hr hs (by omega) h1).mono ?_
  rintro x w2 ⟨rfl, hr5, hg5⟩
  replace hR := hR.grown hg5 (ne_some (by omega))
  replace hV := hV.grown hg5 (ne_some (by have := HZ.out; omega))
  replace hg := hg.trans hg5
  replace hr := hr5
  clear hr5 hg5 c0 c1 c2 f0 f1 f2
  obtain ⟨c0, c1, c2, f0, f1, f2⟩ := hR.val
  obtain ⟨d0, d1, d2, e0, e1, e2⟩ := hV.val
  replace hV := hV.set 1 (.int .i64 0)
  replace hR := hR.other (a := ⟨w1.heap.size, 1, none⟩) (by have := HZ.out; simp; omega) (.int .i64 0)
  replace hr := hr.other (p := ⟨w1.heap.size, 1, none⟩) (by have := HZ.out; simp; omega) (.int .i64 0)
  replace hg := grownBy_setNew hg (a := ⟨w1.heap.size, 1, none⟩) (by have := HZ.out; simp; omega) (.int .i64 0)
  obtain ⟨q0, q1, q2, _, _, _⟩ := hR.val
  go_wp2_with fail
  have hF : Blk _ _ #[.int .i64 1, .int .i64 0, .string ⟨#[]⟩] 49 := ((hR.set 0 (.int .i64 1)).set 1 (.int .i64 0)).set 2 (.string ⟨#[]⟩)
  obtain ⟨z0, z1, z2, _, _, _⟩ := hF.val
  refine bodyPost_ret (v := .agg #[.int .i64 1, .int .i64 0, .string ⟨#[]⟩]) (by simp [results, Try.results42, go_sem, z0, z1, z2]) rfl ?_
  exact ⟨⟨1, 0, ⟨#[]⟩⟩, _, _, rfl, ((hr.other (by simp; omega) _).other (by simp; omega) _).other (by simp; omega) _, grownBy_setNew (grownBy_setNew (grownBy_setNew hg (Nat.le_refl _) _) (Nat.le_refl _) _) (Nat.le_refl _) _, HT⟩
theorem value_1good (w : World) (g : Nat) (s : ByteArray) (a : Nat) (h : Rd w g s a 0) (hs : s.size ≤ 1000) (ha : a ≤ 2000) (hn : a < s.size) (hk : (byteAt s a : Int) = 1) (h1 : a + 1 < s.size) (m : Int) (hm : (byteAt s (a + 1) : Int) = m) (hm1 : m ≤ 1) :
    Calls Try.prog 42 #[.pointer (some ⟨g, 0, none⟩)] w (ValP w g s a) := by
  have HT : Hid (TakeP s a ⟨1, m, ⟨#[]⟩⟩ (a + 1 + 1) 0) := .inl ⟨by rw [takeR, if_pos hn, if_neg (by omega), if_pos (by omega), if_pos h1, if_pos (by omega), hm], rfl⟩
  have hb0 : Below w.heap.size w (w.alloc (.cells #[.int .i64 0, .int .i64 0, .string ⟨#[]⟩] 49)) := (Below.refl _ _).alloc (Nat.le_refl _) _
  have hR := Blk.new w #[.int .i64 0, .int .i64 0, .string ⟨#[]⟩] 49
  have H1 := one_at _ g s a 1 hk (h.below hb0) hs hn
  have hlt := h.lt
  clear hk
  go_enter Try.func42, Try.ntmps42
  go_wp2_with fail
  refine H1.mono ?_
  rintro x w1 ⟨rfl, hr1, hg1⟩
  replace hR := hR.grown hg1 (ne_some (by omega))
  replace hg1 := (grownBy_below hb0 (some g)).trans hg1
  have HZ : Hid (g < w1.heap.size ∧ w.heap.size < w1.heap.size) := ⟨hr1.lt, hR.lt⟩
  replace hR := hR.alloc (.cells #[.int .i64 1, .int .i64 0, .string ⟨#[]⟩] 49)
  have hV := Blk.new w1 #[.int .i64 1, .int .i64 0, .string ⟨#[]⟩] 49
  have hr := hr1.below ((Below.refl _ _).alloc (Nat.le_refl _) (.cells #[.int .i64 1, .int .i64 0, .string ⟨#[]⟩] 49))
  have hg := grownBy_new hg1 (.cells #[.int .i64 1, .int .i64 0, .string ⟨#[]⟩] 49)
  clear hr1 hg1 H1
  obtain ⟨c0, c1, c2, f0, f1, f2⟩ := hR.val
  have hgt : decide ((1 : Int) < m) = false := decide_eq_false (by omega)
  have H2 := fun W hr => one_at W g s (a + 1) m hm hr hs h1
  clear hm
  go_wp2_with fail
  refine (H2 _ hr).mono ?_
  rintro x w2 ⟨rfl, hr5, hg5⟩
  replace hR := hR.grown hg5 (ne_some (by omega))
  replace hV := hV.grown hg5 (ne_some (by have := HZ.out; omega))
  replace hg := hg.trans hg5
  replace hr := hr5
  clear hr5 hg5 c0 c1 c2 f0 f1 f2
  obtain ⟨c0, c1, c2, f0, f1, f2⟩ := hR.val
  obtain ⟨d0, d1, d2, e0, e1, e2⟩ := hV.val
  replace hV := hV.set 1 (.int .i64 m)
  replace hR := hR.other (a := ⟨w1.heap.size, 1, none⟩) (by have := HZ.out; simp; omega) (.int .i64 m)
  replace hr := hr.other (p := ⟨w1.heap.size, 1, none⟩) (by have := HZ.out; simp; omega) (.int .i64 m)
  replace hg := grownBy_setNew hg (a := ⟨w1.heap.size, 1, none⟩) (by have := HZ.out; simp; omega) (.int .i64 m)
  obtain ⟨q0, q1, q2, _, _, _⟩ := hR.val
  go_wp2_with fail
  have hF : Blk _ _ #[.int .i64 1, .int .i64 m, .string ⟨#[]⟩] 49 := ((hR.set 0 (.int .i64 1)).set 1 (.int .i64 m)).set 2 (.string ⟨#[]⟩)
  obtain ⟨z0, z1, z2, _, _, _⟩ := hF.val
  refine bodyPost_ret (v := .agg #[.int .i64 1, .int .i64 m, .string ⟨#[]⟩]) (by simp [results, Try.results42, go_sem, z0, z1, z2]) rfl ?_
  exact ⟨⟨1, m, ⟨#[]⟩⟩, _, _, rfl, ((hr.other (by simp; omega) _).other (by simp; omega) _).other (by simp; omega) _, grownBy_setNew (grownBy_setNew (grownBy_setNew hg (Nat.le_refl _) _) (Nat.le_refl _) _) (Nat.le_refl _) _, HT⟩
theorem value_1bad (w : World) (g : Nat) (s : ByteArray) (a : Nat) (h : Rd w g s a 0) (hs : s.size ≤ 1000) (ha : a ≤ 2000) (hn : a < s.size) (hk : (byteAt s a : Int) = 1) (h1 : a + 1 < s.size) (m : Int) (hm : (byteAt s (a + 1) : Int) = m) (hm1 : 1 < m) :
    Calls Try.prog 42 #[.pointer (some ⟨g, 0, none⟩)] w (ValP w g s a) := by
  have HT : Hid (TakeP s a ⟨1, m, ⟨#[]⟩⟩ (a + 1 + 1) 2) := .inr ⟨by rw [takeR, if_pos hn, if_neg (by omega), if_pos (by omega), if_pos h1, if_neg (by omega)], by decide⟩
  have hb0 : Below w.heap.size w (w.alloc (.cells #[.int .i64 0, .int .i64 0, .string ⟨#[]⟩] 49)) := (Below.refl _ _).alloc (Nat.le_refl _) _
  have hR := Blk.new w #[.int .i64 0, .int .i64 0, .string ⟨#[]⟩] 49
  have H1 := one_at _ g s a 1 hk (h.below hb0) hs hn
  have hlt := h.lt
  clear hk
  go_enter Try.func42, Try.ntmps42
  go_wp2_with fail
  refine H1.mono ?_
  rintro x w1 ⟨rfl, hr1, hg1⟩
  replace hR := hR.grown hg1 (ne_some (by omega))
  replace hg1 := (grownBy_below hb0 (some g)).trans hg1
  have HZ : Hid (g < w1.heap.size ∧ w.heap.size < w1.heap.size) := ⟨hr1.lt, hR.lt⟩
  replace hR := hR.alloc (.cells #[.int .i64 1, .int .i64 0, .string ⟨#[]⟩] 49)
  have hV := Blk.new w1 #[.int .i64 1, .int .i64 0, .string ⟨#[]⟩] 49
  have hr := hr1.below ((Below.refl _ _).alloc (Nat.le_refl _) (.cells #[.int .i64 1, .int .i64 0, .string ⟨#[]⟩] 49))
  have hg := grownBy_new hg1 (.cells #[.int .i64 1, .int .i64 0, .string ⟨#[]⟩] 49)
  clear hr1 hg1 H1
  obtain ⟨c0, c1, c2, f0, f1, f2⟩ := hR.val
  have hgt : decide ((1 : Int) < m) = true := decide_eq_true (by omega)
  have H2 := fun W hr => one_at W g s (a + 1) m hm hr hs h1
  clear hm
  go_wp2_with fail
  refine (H2 _ hr).mono ?_
  rintro x w2 ⟨rfl, hr5, hg5⟩
  replace hR := hR.grown hg5 (ne_some (by omega))
  replace hV := hV.grown hg5 (ne_some (by have := HZ.out; omega))
  replace hg := hg.trans hg5
  replace hr := hr5
  clear hr5 hg5 c0 c1 c2 f0 f1 f2
  obtain ⟨c0, c1, c2, f0, f1, f2⟩ := hR.val
  obtain ⟨d0, d1, d2, e0, e1, e2⟩ := hV.val
  replace hV := hV.set 1 (.int .i64 m)
  replace hR := hR.other (a := ⟨w1.heap.size, 1, none⟩) (by have := HZ.out; simp; omega) (.int .i64 m)
  replace hr := hr.other (p := ⟨w1.heap.size, 1, none⟩) (by have := HZ.out; simp; omega) (.int .i64 m)
  replace hg := grownBy_setNew hg (a := ⟨w1.heap.size, 1, none⟩) (by have := HZ.out; simp; omega) (.int .i64 m)
  obtain ⟨q0, q1, q2, _, _, _⟩ := hR.val
  go_wp2_with fail
  refine (fault_any _ g s _ 2 hr).mono ?_
  rintro x w3 ⟨rfl, hr5, hg5⟩
  replace hR := hR.grown hg5 (ne_some (by omega))
  replace hV := hV.grown hg5 (ne_some (by have := HZ.out; omega))
  replace hg := hg.trans hg5
  replace hr := hr5
  clear hr5 hg5 c0 c1 c2 f0 f1 f2 q0 q1 q2 d0 d1 d2 e0 e1 e2
  obtain ⟨c0, c1, c2, f0, f1, f2⟩ := hR.val
  obtain ⟨d0, d1, d2, e0, e1, e2⟩ := hV.val
  go_wp2_with fail
  have hF : Blk _ _ #[.int .i64 1, .int .i64 m, .string ⟨#[]⟩] 49 := ((hR.set 0 (.int .i64 1)).set 1 (.int .i64 m)).set 2 (.string ⟨#[]⟩)
  obtain ⟨z0, z1, z2, _, _, _⟩ := hF.val
  refine bodyPost_ret (v := .agg #[.int .i64 1, .int .i64 m, .string ⟨#[]⟩]) (by simp [results, Try.results42, go_sem, z0, z1, z2]) rfl ?_
  exact ⟨⟨1, m, ⟨#[]⟩⟩, _, _, rfl, ((hr.other (by simp; omega) _).other (by simp; omega) _).other (by simp; omega) _, grownBy_setNew (grownBy_setNew (grownBy_setNew hg (Nat.le_refl _) _) (Nat.le_refl _) _) (Nat.le_refl _) _, HT⟩
theorem value_2no (w : World) (g : Nat) (s : ByteArray) (a : Nat) (h : Rd w g s a 0) (hs : s.size ≤ 1000) (ha : a ≤ 2000) (hn : a < s.size) (hk : (byteAt s a : Int) = 2) (h1 : ¬ a + 1 + 8 ≤ s.size) :
    Calls Try.prog 42 #[.pointer (some ⟨g, 0, none⟩)] w (ValP w g s a) := by
  have HT : Hid (TakeP s a ⟨2, 0, ⟨#[]⟩⟩ (a + 1) 3) := .inr ⟨by rw [takeR, if_pos hn, if_neg (by omega), if_neg (by omega), if_pos (by omega), if_neg (by omega)], by decide⟩
  have hb0 : Below w.heap.size w (w.alloc (.cells #[.int .i64 0, .int .i64 0, .string ⟨#[]⟩] 49)) := (Below.refl _ _).alloc (Nat.le_refl _) _
  have hR := Blk.new w #[.int .i64 0, .int .i64 0, .string ⟨#[]⟩] 49
  have H1 := one_at _ g s a 2 hk (h.below hb0) hs hn
  have hlt := h.lt
  clear hk
  go_enter Try.func42, Try.ntmps42
  go_wp2_with fail
  refine H1.mono ?_
  rintro x w1 ⟨rfl, hr1, hg1⟩
  replace hR := hR.grown hg1 (ne_some (by omega))
  replace hg1 := (grownBy_below hb0 (some g)).trans hg1
  have HZ : Hid (g < w1.heap.size ∧ w.heap.size < w1.heap.size) := ⟨hr1.lt, hR.lt⟩
  replace hR := hR.alloc (.cells #[.int .i64 2, .int .i64 0, .string ⟨#[]⟩] 49)
  have hV := Blk.new w1 #[.int .i64 2, .int .i64 0, .string ⟨#[]⟩] 49
  have hr := hr1.below ((Below.refl _ _).alloc (Nat.le_refl _) (.cells #[.int .i64 2, .int .i64 0, .string ⟨#[]⟩] 49))
  have hg := grownBy_new hg1 (.cells #[.int .i64 2, .int .i64 0, .string ⟨#[]⟩] 49)
  clear hr1 hg1 H1
  obtain ⟨c0, c1, c2, f0, f1, f2⟩ := hR.val
  go_wp2_with fail
  refine (number_no _ g s (a + 1) hr hs (by omega) h1).mono ?_
  rintro x w2 ⟨rfl, hr5, hg5⟩
  replace hR := hR.grown hg5 (ne_some (by omega))
  replace hV := hV.grown hg5 (ne_some (by have := HZ.out; omega))
  replace hg := hg.trans hg5
  replace hr := hr5
  clear hr5 hg5 c0 c1 c2 f0 f1 f2
  obtain ⟨c0, c1, c2, f0, f1, f2⟩ := hR.val
  obtain ⟨d0, d1, d2, e0, e1, e2⟩ := hV.val
  replace hV := hV.set 1 (.int .i64 0)
  replace hR := hR.other (a := ⟨w1.heap.size, 1, none⟩) (by have := HZ.out; simp; omega) (.int .i64 0)
  replace hr := hr.other (p := ⟨w1.heap.size, 1, none⟩) (by have := HZ.out; simp; omega) (.int .i64 0)
  replace hg := grownBy_setNew hg (a := ⟨w1.heap.size, 1, none⟩) (by have := HZ.out; simp; omega) (.int .i64 0)
  obtain ⟨q0, q1, q2, _, _, _⟩ := hR.val
  go_wp2_with fail
  have hF : Blk _ _ #[.int .i64 2, .int .i64 0, .string ⟨#[]⟩] 49 := ((hR.set 0 (.int .i64 2)).set 1 (.int .i64 0)).set 2 (.string ⟨#[]⟩)
  obtain ⟨z0, z1, z2, _, _, _⟩ := hF.val
  refine bodyPost_ret (v := .agg #[.int .i64 2, .int .i64 0, .string ⟨#[]⟩]) (by simp [results, Try.results42, go_sem, z0, z1, z2]) rfl ?_
  exact ⟨⟨2, 0, ⟨#[]⟩⟩, _, _, rfl, ((hr.other (by simp; omega) _).other (by simp; omega) _).other (by simp; omega) _, grownBy_setNew (grownBy_setNew (grownBy_setNew hg (Nat.le_refl _) _) (Nat.le_refl _) _) (Nat.le_refl _) _, HT⟩
theorem value_2yes (w : World) (g : Nat) (s : ByteArray) (a : Nat) (h : Rd w g s a 0) (hs : s.size ≤ 1000) (ha : a ≤ 2000) (hn : a < s.size) (hk : (byteAt s a : Int) = 2) (h1 : a + 1 + 8 ≤ s.size) :
    Calls Try.prog 42 #[.pointer (some ⟨g, 0, none⟩)] w (ValP w g s a) := by
  have HT : Hid (TakeP s a ⟨2, num8 s (a + 1), ⟨#[]⟩⟩ (a + 1 + 8) (if inB (num8 s (a + 1)) = true then 0 else 2)) := by
    cases hi : inB (num8 s (a + 1)) with
    | true => exact .inl ⟨by rw [takeR, if_pos hn, if_neg (by omega), if_neg (by omega), if_pos (by omega), if_pos (by omega), if_pos hi], rfl⟩
    | false => exact .inr ⟨by rw [takeR, if_pos hn, if_neg (by omega), if_neg (by omega), if_pos (by omega), if_pos (by omega), if_neg (by rw [hi]; decide)]; rfl, by decide⟩
  have H2 := fun W hr => number_yes W g s (a + 1) hr hs h1
  obtain ⟨m, hm⟩ : ∃ m, num8 s (a + 1) = m := ⟨_, rfl⟩
  rw [hm] at HT H2
  clear hm
  obtain ⟨E, hE⟩ : ∃ E : Int, (if inB m = true then 0 else 2) = E := ⟨_, rfl⟩
  rw [hE] at HT H2
  clear hE
  have hb0 : Below w.heap.size w (w.alloc (.cells #[.int .i64 0, .int .i64 0, .string ⟨#[]⟩] 49)) := (Below.refl _ _).alloc (Nat.le_refl _) _
  have hR := Blk.new w #[.int .i64 0, .int .i64 0, .string ⟨#[]⟩] 49
  have H1 := one_at _ g s a 2 hk (h.below hb0) hs hn
  have hlt := h.lt
  clear hk
  go_enter Try.func42, Try.ntmps42
  go_wp2_with fail
  refine H1.mono ?_
  rintro x w1 ⟨rfl, hr1, hg1⟩
  replace hR := hR.grown hg1 (ne_some (by omega))
  replace hg1 := (grownBy_below hb0 (some g)).trans hg1
  have HZ : Hid (g < w1.heap.size ∧ w.heap.size < w1.heap.size) := ⟨hr1.lt, hR.lt⟩
  replace hR := hR.alloc (.cells #[.int .i64 2, .int .i64 0, .string ⟨#[]⟩] 49)
  have hV := Blk.new w1 #[.int .i64 2, .int .i64 0, .string ⟨#[]⟩] 49
  have hr := hr1.below ((Below.refl _ _).alloc (Nat.le_refl _) (.cells #[.int .i64 2, .int .i64 0, .string ⟨#[]⟩] 49))
  have hg := grownBy_new hg1 (.cells #[.int .i64 2, .int .i64 0, .string ⟨#[]⟩] 49)
  clear hr1 hg1 H1
  obtain ⟨c0, c1, c2, f0, f1, f2⟩ := hR.val
  go_wp2_with fail
  refine (H2 _ hr).mono ?_
  rintro x w2 ⟨rfl, hr5, hg5⟩
  replace hR := hR.grown hg5 (ne_some (by omega))
  replace hV := hV.grown hg5 (ne_some (by have := HZ.out; omega))
  replace hg := hg.trans hg5
  replace hr := hr5
  clear hr5 hg5 c0 c1 c2 f0 f1 f2
  obtain ⟨c0, c1, c2, f0, f1, f2⟩ := hR.val
  obtain ⟨d0, d1, d2, e0, e1, e2⟩ := hV.val
  replace hV := hV.set 1 (.int .i64 m)
  replace hR := hR.other (a := ⟨w1.heap.size, 1, none⟩) (by have := HZ.out; simp; omega) (.int .i64 m)
  replace hr := hr.other (p := ⟨w1.heap.size, 1, none⟩) (by have := HZ.out; simp; omega) (.int .i64 m)
  replace hg := grownBy_setNew hg (a := ⟨w1.heap.size, 1, none⟩) (by have := HZ.out; simp; omega) (.int .i64 m)
  obtain ⟨q0, q1, q2, _, _, _⟩ := hR.val
  go_wp2_with fail
  have hF : Blk _ _ #[.int .i64 2, .int .i64 m, .string ⟨#[]⟩] 49 := ((hR.set 0 (.int .i64 2)).set 1 (.int .i64 m)).set 2 (.string ⟨#[]⟩)
  obtain ⟨z0, z1, z2, _, _, _⟩ := hF.val
  refine bodyPost_ret (v := .agg #[.int .i64 2, .int .i64 m, .string ⟨#[]⟩]) (by simp [results, Try.results42, go_sem, z0, z1, z2]) rfl ?_
  exact ⟨⟨2, m, ⟨#[]⟩⟩, _, _, rfl, ((hr.other (by simp; omega) _).other (by simp; omega) _).other (by simp; omega) _, grownBy_setNew (grownBy_setNew (grownBy_setNew hg (Nat.le_refl _) _) (Nat.le_refl _) _) (Nat.le_refl _) _, HT⟩
theorem value_3 (w : World) (g : Nat) (s : ByteArray) (a : Nat) (h : Rd w g s a 0) (hs : s.size ≤ 1000) (ha : a ≤ 2000) (hn : a < s.size) (hk : (byteAt s a : Int) = 3) :
    Calls Try.prog 42 #[.pointer (some ⟨g, 0, none⟩)] w (ValP w g s a) := by
  have HTT : Hid (∀ t b e, TextP s (a + 1) t b e → TakeP s a ⟨3, 0, t⟩ b e) := by
    intro t b e h3
    have h4 : takeR s a = textR s (a + 1) := by rw [takeR, if_pos hn, if_neg (by omega), if_neg (by omega), if_neg (by omega), if_pos (by omega)]
    rcases h3 with ⟨h5, h6⟩ | ⟨h5, h6⟩
    · exact .inl ⟨by rw [h4, h5], h6⟩
    · exact .inr ⟨by rw [h4, h5], h6⟩
  have hb0 : Below w.heap.size w (w.alloc (.cells #[.int .i64 0, .int .i64 0, .string ⟨#[]⟩] 49)) := (Below.refl _ _).alloc (Nat.le_refl _) _
  have hR := Blk.new w #[.int .i64 0, .int .i64 0, .string ⟨#[]⟩] 49
  have H1 := one_at _ g s a 3 hk (h.below hb0) hs hn
  have hlt := h.lt
  clear hk
  go_enter Try.func42, Try.ntmps42
  go_wp2_with fail
  refine H1.mono ?_
  rintro x w1 ⟨rfl, hr1, hg1⟩
  replace hR := hR.grown hg1 (ne_some (by omega))
  replace hg1 := (grownBy_below hb0 (some g)).trans hg1
  have HZ : Hid (g < w1.heap.size ∧ w.heap.size < w1.heap.size) := ⟨hr1.lt, hR.lt⟩
  replace hR := hR.alloc (.cells #[.int .i64 3, .int .i64 0, .string ⟨#[]⟩] 49)
  have hV := Blk.new w1 #[.int .i64 3, .int .i64 0, .string ⟨#[]⟩] 49
  have hr := hr1.below ((Below.refl _ _).alloc (Nat.le_refl _) (.cells #[.int .i64 3, .int .i64 0, .string ⟨#[]⟩] 49))
  have hg := grownBy_new hg1 (.cells #[.int .i64 3, .int .i64 0, .string ⟨#[]⟩] 49)
  clear hr1 hg1 H1
  obtain ⟨c0, c1, c2, f0, f1, f2⟩ := hR.val
  go_wp2_with fail
  refine (text_any _ g s (a + 1) hr hs (by omega)).mono ?_
  rintro x w2 ⟨t, b, E, rfl, hr5, hg5, HT2⟩
  replace hR := hR.grown hg5 (ne_some (by omega))
  replace hV := hV.grown hg5 (ne_some (by have := HZ.out; omega))
  replace hg := hg.trans hg5
  replace hr := hr5
  clear hr5 hg5 c0 c1 c2 f0 f1 f2
  obtain ⟨c0, c1, c2, f0, f1, f2⟩ := hR.val
  obtain ⟨d0, d1, d2, e0, e1, e2⟩ := hV.val
  replace hR := hR.other (a := ⟨w1.heap.size, 2, none⟩) (by have := HZ.out; simp; omega) (.string t)
  replace hr := hr.other (p := ⟨w1.heap.size, 2, none⟩) (by have := HZ.out; simp; omega) (.string t)
  replace hg := grownBy_setNew hg (a := ⟨w1.heap.size, 2, none⟩) (by have := HZ.out; simp; omega) (.string t)
  obtain ⟨q0, q1, q2, _, _, _⟩ := hR.val
  go_wp2_with fail
  have hF : Blk _ _ #[.int .i64 3, .int .i64 0, .string t] 49 := ((hR.set 0 (.int .i64 3)).set 1 (.int .i64 0)).set 2 (.string t)
  obtain ⟨z0, z1, z2, _, _, _⟩ := hF.val
  refine bodyPost_ret (v := .agg #[.int .i64 3, .int .i64 0, .string t]) (by simp [results, Try.results42, go_sem, z0, z1, z2]) rfl ?_
  exact ⟨⟨3, 0, t⟩, _, _, rfl, ((hr.other (by simp; omega) _).other (by simp; omega) _).other (by simp; omega) _, grownBy_setNew (grownBy_setNew (grownBy_setNew hg (Nat.le_refl _) _) (Nat.le_refl _) _) (Nat.le_refl _) _, HTT.out _ _ _ HT2.out⟩
theorem value_any (w : World) (g : Nat) (s : ByteArray) (a : Nat) (h : Rd w g s a 0) (hs : s.size ≤ 1000) (ha : a ≤ 2000) :
    Calls Try.prog 42 #[.pointer (some ⟨g, 0, none⟩)] w (ValP w g s a) := by
  by_cases hn : a < s.size
  · have hlt := byteAt_lt s a
    by_cases k0 : byteAt s a = 0
    · exact value_0 w g s a h hs ha hn (by omega)
    · by_cases k1 : byteAt s a = 1
      · by_cases h1 : a + 1 < s.size
        · by_cases h2 : byteAt s (a + 1) ≤ 1
          · exact value_1good w g s a h hs ha hn (by omega) h1 _ rfl (by omega)
          · exact value_1bad w g s a h hs ha hn (by omega) h1 _ rfl (by omega)
        · exact value_1no w g s a h hs ha hn (by omega) h1
      · by_cases k2 : byteAt s a = 2
        · by_cases h1 : a + 1 + 8 ≤ s.size
          · exact value_2yes w g s a h hs ha hn (by omega) h1
          · exact value_2no w g s a h hs ha hn (by omega) h1
        · by_cases k3 : byteAt s a = 3
          · exact value_3 w g s a h hs ha hn (by omega)
          · exact value_4 w g s a h hs ha hn _ rfl (by omega)
  · exact value_none w g s a h hs ha hn
end Go.Proofs.Ytcboeggfincakaa
