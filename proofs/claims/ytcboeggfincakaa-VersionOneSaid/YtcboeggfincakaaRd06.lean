/- rowcode's reader: its methods, at a reader without a fault. -/
import Derived.Test.YtcboeggfincakaaGetP
import Derived.Test.YtcboeggfincakaaOctG
import Derived.Test.YtcboeggfincakaaKitW
import Derived.BigQuiet
import Derived.Test.YtcboeggfincakaaKitQ
import Derived.WalkArith
namespace Go.Proofs.Ytcboeggfincakaa
set_option linter.unusedVariables false
set_option linter.unusedSimpArgs false
open Go.RowKit Go.Sort
open Oct (S beN putL U I getI)
/-- Block g is a reader: its bytes, its place, its fault. -/
def Rd (w : World) (g : Nat) (s : ByteArray) (a : Nat) (e : Int) : Prop :=
  w.heap[g]? = some (.cells #[.string s, .int .i64 a, .int .i64 e] 76 (0, 0))
theorem Rd.cells {w : World} {g : Nat} {s : ByteArray} {a : Nat} {e : Int} (h : Rd w g s a e) :
    w.cell? ⟨g, 0, none⟩ = some (.string s) ∧ w.cell? ⟨g, 1, none⟩ = some (.int .i64 a) ∧ w.cell? ⟨g, 2, none⟩ = some (.int .i64 e) ∧ w.frozen? ⟨g, 1, none⟩ = false ∧ w.frozen? ⟨g, 2, none⟩ = false :=
  ⟨by rw [Lib.cell_of_heap h]; rfl, by rw [Lib.cell_of_heap h]; rfl, by rw [Lib.cell_of_heap h]; rfl, Lib.frozen_of_heap h 1, Lib.frozen_of_heap h 2⟩
theorem heap_setCell_at {w : World} {g o : Nat} {cs : Array Value} {T : TypeId} {fz : Nat × Nat} (h : w.heap[g]? = some (.cells cs T fz)) (v : Value) :
    (w.setCell ⟨g, o, none⟩ v).heap[g]? = some (.cells (cs.setIfInBounds o v) T fz) := by
  simp [World.setCell, Array.getElem?_modify, h]
theorem Rd.at {w : World} {g : Nat} {s : ByteArray} {a : Nat} {e : Int} (h : Rd w g s a e) (b : Nat) : Rd (w.setCell ⟨g, 1, none⟩ (.int .i64 b)) g s b e := by
  unfold Rd; rw [heap_setCell_at h]; rfl
theorem Rd.err {w : World} {g : Nat} {s : ByteArray} {a : Nat} {e : Int} (h : Rd w g s a e) (f : Int) : Rd (w.setCell ⟨g, 2, none⟩ (.int .i64 f)) g s a f := by
  unfold Rd; rw [heap_setCell_at h]; rfl
theorem Rd.drewN {w : World} {g : Nat} {s : ByteArray} {a : Nat} {e : Int} (h : Rd w g s a e) (n : Nat) : Rd (w.drewN n) g s a e := h
theorem Rd.below {w w1 : World} {g : Nat} {s : ByteArray} {a : Nat} {e : Int} (h : Rd w g s a e) (hb : Below w.heap.size w w1) : Rd w1 g s a e :=
  (hb.block g (Array.getElem?_eq_some_iff.1 h).1).trans h
theorem Rd.lt {w : World} {g : Nat} {s : ByteArray} {a : Nat} {e : Int} (h : Rd w g s a e) : g < w.heap.size := (Array.getElem?_eq_some_iff.1 h).1
theorem Rd.other {w : World} {g : Nat} {s : ByteArray} {a : Nat} {e : Int} (h : Rd w g s a e) {p : Addr} (hp : g ≠ p.block) (v : Value) : Rd (w.setCell p v) g s a e := Blk.other h hp v
/-- What a method leaves. -/
def RdP (w : World) (g : Nat) (s : ByteArray) (v : Value) (a : Nat) (e : Int) (x : Ending) (w' : World) : Prop := x = .returned v ∧ Rd w' g s a e ∧ w.grownBy w' (some g)
theorem fault_any (w : World) (g : Nat) (s : ByteArray) (a : Nat) (f : Int) (h : Rd w g s a 0) :
    Calls Try.prog 41 #[.pointer (some ⟨g, 0, none⟩), .int .i64 f] w (RdP w g s (.tuple #[]) a f) := by
  obtain ⟨c0, c1, c2, f1, f2⟩ := h.cells
  go_enter Try.func41, Try.ntmps41
  go_wp2
  go_end0
  exact ⟨rfl, h.err f, grownBy_set _ _ _ _⟩
theorem one_no (w : World) (g : Nat) (s : ByteArray) (a : Nat) (h : Rd w g s a 0) (hs : s.size ≤ 1000) (ha : a ≤ 2000) (hn : ¬ a < s.size) :
    Calls Try.prog 40 #[.pointer (some ⟨g, 0, none⟩)] w (RdP w g s (.int .i64 0) a 3) := by
  obtain ⟨c0, c1, c2, f1, f2⟩ := h.cells
  have hd : decide ((s.size : Int) ≤ (a : Int)) = true := decide_eq_true (by omega)
  have hd2 : decide (s.size ≤ a) = true := decide_eq_true (by omega)
  go_enter Try.func40, Try.ntmps40
  go_wp2
  go_quiet (fail)
  go_wp2_with fail
  refine (fault_any _ g s a 3 (h.drewN _)).mono ?_
  rintro e w1 ⟨rfl, h1, hg⟩
  go_wp2_with fail
  go_ret
  exact ⟨rfl, h1, (grownBy_drewN _ _ _).trans hg⟩
theorem one_yes (w : World) (g : Nat) (s : ByteArray) (a : Nat) (h : Rd w g s a 0) (hs : s.size ≤ 1000) (hn : a < s.size) :
    Calls Try.prog 40 #[.pointer (some ⟨g, 0, none⟩)] w (RdP w g s (.int .i64 (byteAt s a)) (a + 1) 0) := by
  obtain ⟨c0, c1, c2, f1, f2⟩ := h.cells
  have hd : decide ((s.size : Int) ≤ (a : Int)) = false := decide_eq_false (by omega)
  have hd2 : decide (s.size ≤ a) = false := decide_eq_false (by omega)
  have hlt : (s[a]'hn).toNat < 256 := UInt8.toNat_lt _
  have HB := Lib.hid (byteAt_eq s a hn)
  go_enter Try.func40, Try.ntmps40
  go_wp2
  go_quiet (fail)
  go_wp2_with fail
  go_quiet (fail)
  go_wp2_with fail
  go_ret
  exact ⟨ret_int (by rw [HB.out]), (h.drewN _).at _, ((grownBy_drewN _ _ _).trans (grownBy_set _ _ _ _)).trans (grownBy_drewN _ _ _)⟩
theorem number_no (w : World) (g : Nat) (s : ByteArray) (a : Nat) (h : Rd w g s a 0) (hs : s.size ≤ 1000) (ha : a ≤ 2000) (hn : ¬ a + 8 ≤ s.size) :
    Calls Try.prog 53 #[.pointer (some ⟨g, 0, none⟩)] w (RdP w g s (.int .i64 0) a 3) := by
  obtain ⟨c0, c1, c2, f1, f2⟩ := h.cells
  have HG := Lib.hid (fun W => get_no s a 8 W (by unfold maxLen; omega) (Go.WalkArith.wf_i64 (by omega)) (by decide) (by omega))
  have g0 : ∀ p : Regrown, (grow (redrawn w p.d) p.os).cell? ⟨g, 0, none⟩ = some (.string s) := fun p => cell_regrown c0 p.d p.os
  have g1 : ∀ p : Regrown, (grow (redrawn w p.d) p.os).cell? ⟨g, 1, none⟩ = some (.int .i64 a) := fun p => cell_regrown c1 p.d p.os
  go_enter Try.func53, Try.ntmps53
  go_wp2
  refine wp_region_quiet_below (by kernel_rfl) (by kernel_rfl) ?_
  repeat (go_big_quiet_step ((go_at_call 27; exact Eq1.regrown (HG.out _))))
  refine wpQuiet_nil ?_
  intro w2 hw2
  have hb := below_of_regrown hw2
  clear hw2 g0 g1 c0 c1 c2 f1 f2
  have h2 := h.below hb
  go_wp2_with fail
  refine (fault_any _ g s a 3 h2).mono ?_
  rintro e w1 ⟨rfl, h1, hg⟩
  go_wp2_with fail
  go_ret
  exact ⟨rfl, h1, (grownBy_below hb _).trans hg⟩
theorem number_yes (w : World) (g : Nat) (s : ByteArray) (a : Nat) (h : Rd w g s a 0) (hs : s.size ≤ 1000) (hn : a + 8 ≤ s.size) :
    Calls Try.prog 53 #[.pointer (some ⟨g, 0, none⟩)] w (RdP w g s (.int .i64 (num8 s a)) (a + 8) (if inB (num8 s a) = true then 0 else 2)) := by
  obtain ⟨c0, c1, c2, f1, f2⟩ := h.cells
  have HG := Lib.hid (fun W => get_yes s a 8 W (by unfold maxLen; omega) (by decide) (by decide) hn)
  have HN : Hid (getI ((s.data.toList.drop a).take 8) = num8 s a) := rfl
  rw [HN.out] at HG
  clear HN
  obtain ⟨n, hnn⟩ : ∃ n, num8 s a = n := ⟨_, rfl⟩
  rw [hnn] at HG ⊢
  clear hnn
  have g0 : ∀ p : Regrown, (grow (redrawn w p.d) p.os).cell? ⟨g, 0, none⟩ = some (.string s) := fun p => cell_regrown c0 p.d p.os
  have g1 : ∀ p : Regrown, (grow (redrawn w p.d) p.os).cell? ⟨g, 1, none⟩ = some (.int .i64 a) := fun p => cell_regrown c1 p.d p.os
  cases hi : inB n with
  | true =>
    have HI := fun W => in_any n true hi W
    clear hi
    rw [if_pos rfl]
    go_enter Try.func53, Try.ntmps53
    go_wp2
    refine wp_region_quiet_below (by kernel_rfl) (by kernel_rfl) ?_
    repeat (go_big_quiet_step ((go_at_call 27; exact Ret.regrown (HG.out _))))
    refine wpQuiet_nil ?_
    intro w2 hw2
    have hb := below_of_regrown hw2
    clear hw2 g0 g1 c0 c1 c2 f1 f2
    have h2 := h.below hb
    obtain ⟨c0, c1, c2, f1, f2⟩ := h2.cells
    go_wp2_with fail
    refine (HI _).mono ?_
    rintro e w1 ⟨rfl, rfl⟩
    go_wp2_with fail
    go_ret
    exact ⟨rfl, h2.at (a + 8), (grownBy_below hb _).trans (grownBy_set _ _ _ _)⟩
  | false =>
    have HI := fun W => in_any n false hi W
    clear hi
    rw [if_neg (by decide)]
    go_enter Try.func53, Try.ntmps53
    go_wp2
    refine wp_region_quiet_below (by kernel_rfl) (by kernel_rfl) ?_
    repeat (go_big_quiet_step ((go_at_call 27; exact Ret.regrown (HG.out _))))
    refine wpQuiet_nil ?_
    intro w2 hw2
    have hb := below_of_regrown hw2
    clear hw2 g0 g1 c0 c1 c2 f1 f2
    have h2 := h.below hb
    obtain ⟨c0, c1, c2, f1, f2⟩ := h2.cells
    go_wp2_with fail
    refine (HI _).mono ?_
    rintro e w1 ⟨rfl, rfl⟩
    go_wp2_with fail
    refine (fault_any _ g s (a + 8) 2 (h2.at (a + 8))).mono ?_
    rintro e w3 ⟨rfl, h1, hg⟩
    go_wp2_with fail
    go_ret
    exact ⟨rfl, h1, ((grownBy_below hb _).trans (grownBy_set _ _ _ _)).trans hg⟩
/-- What text leaves. -/
def TextP (s : ByteArray) (a : Nat) (t : ByteArray) (b : Nat) (e : Int) : Prop := (textR s a = .ok (⟨3, 0, t⟩, b) ∧ e = 0) ∨ (textR s a = .error e ∧ e ≠ 0)
theorem BldAt.grown {w w1 : World} {B b g : Nat} {l : List UInt8} (h : BldAt w B b l) (hg : w.grownBy w1 (some g)) (hlt : g < B) : BldAt w1 B b l := by
  have one : ∀ p, Lib.BuilderAtF 66 5 B b p (Lib.byteCells l) w → Lib.BuilderAtF 66 5 B b p (Lib.byteCells l) w1 := by
    rintro p ⟨hB, v, hbk, hown, hne⟩
    refine ⟨hB, v, (hg.block b (Array.getElem?_eq_some_iff.1 hbk).1 (by intro e; injection e with e; omega)).trans hbk, hown.kept hg ?_, hne⟩
    cases hv : v.ownBlock with
    | none => exact .inl rfl
    | some k => right; intro e; injection e with e; have := (hown.lt k hv).1; omega
  rcases h with h | h
  · exact .inl (one _ h)
  · exact .inr (one _ h)
theorem textR_no {s : ByteArray} {a : Nat} (h : ¬ a < s.size) : textR s a = .error 3 := by rw [textR, if_neg h]
theorem textR_big {s : ByteArray} {a : Nat} (h : a < s.size) (h2 : 100 < byteAt s a) : textR s a = .error 2 := by rw [textR, if_pos h, if_pos h2]
theorem textR_scan {s : ByteArray} {a : Nat} (h : a < s.size) (h2 : byteAt s a ≤ 100) (e : Int) (he : e ≠ 0) (h3 : scan s (byteAt s a) (a + 1) = e) : textR s a = .error e := by
  rw [textR, if_pos h, if_neg (by omega), if_neg (by rw [h3]; exact he), h3]
/-- Where the reading of a text stands: N bytes in all, k of them read. -/
def TextQ (s : ByteArray) (a N k b : Nat) (e : Int) (l : List UInt8) : Prop :=
  (e = 0 ∧ a < s.size ∧ N = byteAt s a ∧ N ≤ 100 ∧ b = a + 1 + k ∧ b ≤ s.size ∧ l = (s.data.toList.drop (a + 1)).take k ∧ scan s N (a + 1) = scan s (N - k) b) ∨ (e ≠ 0 ∧ textR s a = .error e)
theorem TextQ.start {s : ByteArray} {a : Nat} (h : a < s.size) (h2 : byteAt s a ≤ 100) : TextQ s a (byteAt s a) 0 (a + 1) 0 [] :=
  .inl ⟨rfl, h, rfl, h2, rfl, by omega, rfl, rfl⟩
theorem TextQ.good {s : ByteArray} {a N k b : Nat} {l : List UInt8} (h : TextQ s a N k b 0 l) (hk : k < N) (hb : b < s.size) (h1 : 32 ≤ byteAt s b) (h2 : byteAt s b ≤ 126) (c : UInt8) (hc : c.toNat = byteAt s b) : TextQ s a N (k + 1) (b + 1) 0 (l ++ [c]) := by
  rcases h with ⟨_, ha, hN, hN2, hb1, hb2, hl, hs⟩ | ⟨h, _⟩
  · refine .inl ⟨rfl, ha, hN, hN2, by omega, by omega, ?_, ?_⟩
    · have hlen : s.data.toList.length = s.size := by simp
      have hk2 : k < (s.data.toList.drop (a + 1)).length := by rw [List.length_drop]; omega
      rw [List.take_succ_eq_append_getElem hk2, hl]
      congr 2
      apply UInt8.toNat_inj.1
      have hbl : b < s.data.toList.length := by omega
      rw [hc, byteAt, List.getD_eq_getElem?_getD, List.getElem?_eq_getElem hbl, List.getElem_drop]
      subst hb1; rfl
    · rw [hs, show N - k = (N - (k + 1)) + 1 from by omega, scan, if_pos hb, if_pos ⟨h1, h2⟩]
  · exact (h rfl).elim
theorem TextQ.bad {s : ByteArray} {a N k b : Nat} {l : List UInt8} (h : TextQ s a N k b 0 l) (hk : k < N) (hb : b < s.size) (h1 : byteAt s b < 32 ∨ 126 < byteAt s b) (k' b' : Nat) (l' : List UInt8) : TextQ s a N k' b' 2 l' := by
  rcases h with ⟨_, ha, hN, hN2, hb1, hb2, hl, hs⟩ | ⟨h, _⟩
  · refine .inr ⟨by decide, textR_scan ha (by omega) 2 (by decide) ?_⟩
    rw [← hN, hs, show N - k = (N - (k + 1)) + 1 from by omega, scan, if_pos hb, if_neg (by omega)]
  · exact (h rfl).elim
theorem TextQ.short {s : ByteArray} {a N k b : Nat} {l : List UInt8} (h : TextQ s a N k b 0 l) (hk : k < N) (hb : ¬ b < s.size) (k' b' : Nat) (l' : List UInt8) : TextQ s a N k' b' 3 l' := by
  rcases h with ⟨_, ha, hN, hN2, hb1, hb2, hl, hs⟩ | ⟨h, _⟩
  · refine .inr ⟨by decide, textR_scan ha (by omega) 3 (by decide) ?_⟩
    rw [← hN, hs, show N - k = (N - (k + 1)) + 1 from by omega, scan, if_neg hb]
  · exact (h rfl).elim
theorem TextQ.done {s : ByteArray} {a N k b : Nat} {e : Int} {l : List UInt8} (h : TextQ s a N k b e l) (hk : k ≤ N) (hx : e ≠ 0 ∨ ¬ k < N) : TextP s a ⟨l.toArray⟩ b e := by
  rcases h with ⟨he, ha, hN, hN2, hb1, hb2, hl, hs⟩ | ⟨h, h2⟩
  · subst he
    have hkN : k = N := by rcases hx with h | h; exact (h rfl).elim; omega
    subst hkN
    rw [Nat.sub_self] at hs
    have h0 : scan s (byteAt s a) (a + 1) = 0 := by rw [← hN, hs]; rfl
    refine .inl ⟨?_, rfl⟩
    rw [textR, if_pos ha, if_neg (by omega), if_pos h0, ← hN, hl, hb1]
    congr 3
    apply ByteArray.ext
    apply Array.toList_inj.1
    simp [List.extract_eq_take_drop]
  · exact .inr ⟨h2, h⟩
theorem TextQ.noE {s : ByteArray} {a N k b : Nat} {l : List UInt8} (h : TextQ s a N k b 0 l) : b ≤ s.size := by
  rcases h with ⟨_, ha, hN, hN2, hb1, hb2, hl, hs⟩ | ⟨h, _⟩
  · exact hb2
  · exact (h rfl).elim
/-- What one answers. -/
def OneP (s : ByteArray) (a n b : Nat) (e : Int) : Prop := (a < s.size ∧ n = byteAt s a ∧ b = a + 1 ∧ e = 0) ∨ (¬ a < s.size ∧ n = 0 ∧ b = a ∧ e = 3)
theorem one_all (w : World) (g : Nat) (s : ByteArray) (a : Nat) (h : Rd w g s a 0) (hs : s.size ≤ 1000) (ha : a ≤ 2000) :
    Calls Try.prog 40 #[.pointer (some ⟨g, 0, none⟩)] w fun x w' => ∃ (n b : Nat) (e : Int), RdP w g s (.int .i64 n) b e x w' ∧ OneP s a n b e := by
  by_cases h1 : a < s.size
  · exact (one_yes w g s a h hs h1).mono fun x w' hp => ⟨_, _, _, hp, .inl ⟨h1, rfl, rfl, rfl⟩⟩
  · exact (one_no w g s a h hs ha h1).mono fun x w' hp => ⟨0, _, _, hp, .inr ⟨h1, rfl, rfl, rfl⟩⟩
set_option maxHeartbeats 1000000 in
theorem text_any (w : World) (g : Nat) (s : ByteArray) (a : Nat) (h : Rd w g s a 0) (hs : s.size ≤ 1000) (ha : a ≤ 2000) :
    Calls Try.prog 54 #[.pointer (some ⟨g, 0, none⟩)] w fun x w' => ∃ t b e, x = .returned (.string t) ∧ Rd w' g s b e ∧ w.grownBy w' (some g) ∧ Hid (TextP s a t b e) := by
  have hlt := h.lt
  go_enter Try.func54, Try.ntmps54
  go_wp2_with fail
  refine (one_all w g s a h hs ha).mono ?_
  rintro e w1 ⟨N, a1, e1, ⟨rfl, hr1, hg1⟩, ho⟩
  have hN : N < 256 := by rcases ho with ⟨_, h2, _⟩ | ⟨_, h2, _⟩ <;> rw [h2]; exact byteAt_lt _ _; decide
  by_cases hbig : 100 < N
  · obtain ⟨HQ, he1⟩ : Hid (TextQ s a N 0 a1 2 []) ∧ e1 = 0 := by
      rcases ho with ⟨h1, h2, h3, h4⟩ | ⟨_, h2, _⟩
      · exact ⟨.inr ⟨by decide, textR_big h1 (by omega)⟩, h4⟩
      · omega
    subst he1
    clear ho
    go_wp2_with fail
    refine (fault_any _ g s a1 2 hr1).mono ?_
    rintro e w2 ⟨rfl, hr2, hg2⟩
    replace hg1 := hg1.trans hg2
    obtain ⟨e2, he2⟩ : ∃ e : Int, e = 2 := ⟨_, rfl⟩
    rw [← he2] at hr2 HQ
    clear he2 hg2 hr1 hbig h
    have hs2 := hg1.size
    have hfr := BldAt.fresh w2
    have hr3 := hr2.below ((Below.refl _ _).alloc (Nat.le_refl _) (.cells #[.pointer none, .slice none 0 0] 66))
    have hg3 := grownBy_next hg1 ((Below.refl _ _).alloc (Nat.le_refl _) (.cells #[.pointer none, .slice none 0 0] 66)) hs2
    have hB3 : w2.heap.size ≤ (w2.alloc (.cells #[.pointer none, .slice none 0 0] 66)).heap.size := by simp
    obtain ⟨B, HB⟩ : ∃ B, Hid (w2.heap.size = B) := ⟨_, rfl⟩
    rw [HB.out] at hfr hs2 hB3
    clear hr2 hg1
    go_wp2_with fail
    rw [HB.out]
    go_loopw [3] (fun n wr => ∃ (k b : Nat) (e : Int) (l : List UInt8), k ≤ N ∧ n = .int .i64 ((N - k : Nat) : Int) ∧ Rd wr g s b e ∧ BldAt wr B B l ∧ w.grownBy wr (some g) ∧ B ≤ wr.heap.size ∧ l.length ≤ k ∧ Hid (TextQ s a N k b e l)) (fun n _ => (intOf n).toNat)
    case atStart => exact ⟨0, _, _, [], Nat.zero_le _, rfl, hr3, hfr, hg3, hB3, Nat.le_refl _, HQ⟩
    case round =>
      clear hfr hr3 hg3 hB3 HQ
      obtain ⟨k, b, e, l, hk, rfl, hr, hbl, hg, hBw, hll, HQ⟩ := hrel
      obtain ⟨c0, c1, c2, f1, f2⟩ := hr.cells
      by_cases hkN : k < N
      · by_cases he : e = 0
        · subst he
          have hb0 := TextQ.noE HQ.out
          have hpos : 0 < N - k := by omega
          have hsub : ((N - k : Nat) : Int) - 1 = ((N - (k + 1) : Nat) : Int) := by omega
          have HSub := Lib.hid hsub
          clear hsub
          by_cases hbs : b < s.size
          · have H1 := one_yes wr g s b hr hs hbs
            have hlt2 := byteAt_lt s b
            have HC : Hid ((UInt8.ofNat (byteAt s b)).toNat = byteAt s b) := by show _ = _; rw [Oct.ofNat_toNat]; omega
            by_cases hp : 32 ≤ byteAt s b ∧ byteAt s b ≤ 126
            · have HQ2 := Lib.hid (TextQ.good HQ.out hkN hbs hp.1 hp.2 _ HC.out)
              obtain ⟨n, hnn⟩ : ∃ n, byteAt s b = n := ⟨_, rfl⟩
              rw [hnn] at H1 HC hp hlt2 HQ2
              clear hnn
              obtain ⟨hp1, hp2⟩ := hp
              have HCn : Hid ((n : Int) = ((UInt8.ofNat n).toNat : Int)) := by show _ = _; rw [HC.out]
              have hd1 : decide ((n : Int) < 32) = false := decide_eq_false (by omega)
              have hd2 : decide ((126 : Int) < (n : Int)) = false := decide_eq_false (by omega)
              go_wp2_with fail
              refine H1.mono ?_
              rintro x w5 ⟨rfl, hr5, hg5⟩
              have hbl5 := hbl.grown hg5 (by omega)
              obtain ⟨d0, d1, d2, f1, f2⟩ := hr5.cells
              go_wp2_with fail
              refine (writeByte_any B B _ (UInt8.ofNat n) _ HCn.out _ hbl5 (by omega) (by have := hg5.size; omega)).mono ?_
              rintro x w6 ⟨rfl, hbl6, hb6, ho6⟩
              have hr6 := block_others hbl5 ho6 (by decide) (by decide) hr5
              have hg6 := grownBy_next (hg.trans hg5) hb6 hs2
              have hB6 := hb6.size
              have hB5 := hg5.size
              clear ho6
              go_wp2_with fail
              go_roundw
              case rel => exact ⟨k + 1, _, _, _, by omega, by go_num, hr6, hbl6, hg6, by omega, by simp; omega, HQ2⟩
              case measure => simp [intOf]; omega
            · have HQ2 := fun k' b' l' => Lib.hid (TextQ.bad HQ.out hkN hbs (by omega) k' b' l')
              obtain ⟨n, hnn⟩ : ∃ n, byteAt s b = n := ⟨_, rfl⟩
              rw [hnn] at H1 HC hp hlt2
              clear hnn
              have HCn : Hid ((n : Int) = ((UInt8.ofNat n).toNat : Int)) := by show _ = _; rw [HC.out]
              have HQ3 := Lib.hid HQ2
              clear HQ2
              by_cases hp1 : 32 ≤ n
              · have hp2 : 126 < n := by omega
                clear hp
                go_wp2_with fail
                refine H1.mono ?_
                rintro x w5 ⟨rfl, hr5, hg5⟩
                have hbl5 := hbl.grown hg5 (by omega)
                obtain ⟨d0, d1, d2, f1, f2⟩ := hr5.cells
                go_wp2_with fail
                refine (fault_any _ g s (b + 1) 2 hr5).mono ?_
                rintro x w7 ⟨rfl, hr7, hg7⟩
                have hbl7 := hbl5.grown hg7 (by omega)
                replace hg7 := hg5.trans hg7
                obtain ⟨d0, d1, d2, f1, f2⟩ := hr7.cells
                go_wp2_with fail
                refine (writeByte_any B B _ (UInt8.ofNat n) _ HCn.out _ hbl7 (by omega) (by have := hg7.size; omega)).mono ?_
                rintro x w6 ⟨rfl, hbl6, hb6, ho6⟩
                have hr6 := block_others hbl7 ho6 (by decide) (by decide) hr7
                have hg6 := grownBy_next (hg.trans hg7) hb6 hs2
                have hB6 := hb6.size
                have hB5 := hg7.size
                clear ho6
                go_wp2_with fail
                go_roundw
                case rel => exact ⟨k + 1, _, _, _, by omega, by go_num, hr6, hbl6, hg6, by omega, by simp; omega, HQ3.out _ _ _⟩
                case measure => simp [intOf]; omega
              · clear hp
                go_wp2_with fail
                refine H1.mono ?_
                rintro x w5 ⟨rfl, hr5, hg5⟩
                have hbl5 := hbl.grown hg5 (by omega)
                obtain ⟨d0, d1, d2, f1, f2⟩ := hr5.cells
                go_wp2_with fail
                refine (fault_any _ g s (b + 1) 2 hr5).mono ?_
                rintro x w7 ⟨rfl, hr7, hg7⟩
                have hbl7 := hbl5.grown hg7 (by omega)
                replace hg7 := hg5.trans hg7
                obtain ⟨d0, d1, d2, f1, f2⟩ := hr7.cells
                go_wp2_with fail
                refine (writeByte_any B B _ (UInt8.ofNat n) _ HCn.out _ hbl7 (by omega) (by have := hg7.size; omega)).mono ?_
                rintro x w6 ⟨rfl, hbl6, hb6, ho6⟩
                have hr6 := block_others hbl7 ho6 (by decide) (by decide) hr7
                have hg6 := grownBy_next (hg.trans hg7) hb6 hs2
                have hB6 := hb6.size
                have hB5 := hg7.size
                clear ho6
                go_wp2_with fail
                go_roundw
                case rel => exact ⟨k + 1, _, _, _, by omega, by go_num, hr6, hbl6, hg6, by omega, by simp; omega, HQ3.out _ _ _⟩
                case measure => simp [intOf]; omega
          · have H1 := one_no wr g s b hr hs (by omega) hbs
            have HQ2 := Lib.hid (fun k' b' l' => Lib.hid (TextQ.short HQ.out hkN hbs k' b' l'))
            go_wp2_with fail
            refine H1.mono ?_
            rintro x w5 ⟨rfl, hr5, hg5⟩
            have hbl5 := hbl.grown hg5 (by omega)
            obtain ⟨d0, d1, d2, f1, f2⟩ := hr5.cells
            go_wp2_with fail
            refine (writeByte_any B B _ (UInt8.ofNat 0) _ rfl _ hbl5 (by omega) (by have := hg5.size; omega)).mono ?_
            rintro x w6 ⟨rfl, hbl6, hb6, ho6⟩
            have hr6 := block_others hbl5 ho6 (by decide) (by decide) hr5
            have hg6 := grownBy_next (hg.trans hg5) hb6 hs2
            have hB6 := hb6.size
            have hB5 := hg5.size
            clear ho6
            go_wp2_with fail
            go_roundw
            case rel => exact ⟨k + 1, _, _, _, by omega, by go_num, hr6, hbl6, hg6, by omega, by simp; omega, HQ2.out _ _ _⟩
            case measure => simp [intOf]; omega
        · have he0 : (e == 0) = false := by simpa using he
          have hpos : 0 < N - k := by omega
          have HD := Lib.hid (TextQ.done HQ.out hk (.inl he))
          clear HQ he
          go_wp2_with fail
          refine (bldString_any B B _ _ hbl hBw).mono ?_
          rintro x w4 ⟨rfl, _, hb5, ho5⟩
          have hr4 := block_others hbl ho5 (by decide) (by decide) hr
          clear ho5
          go_wp2_with fail
          go_ret
          exact ⟨_, _, _, rfl, hr4, grownBy_next hg hb5 hs2, HD⟩
      · have h0 : N - k = 0 := by omega
        rw [h0]
        have HD := Lib.hid (TextQ.done HQ.out hk (.inr hkN))
        clear HQ h0
        go_wp2_with fail
        refine (bldString_any B B _ _ hbl hBw).mono ?_
        rintro x w4 ⟨rfl, _, hb5, ho5⟩
        have hr4 := block_others hbl ho5 (by decide) (by decide) hr
        clear ho5
        go_wp2_with fail
        go_ret
        exact ⟨_, _, _, rfl, hr4, grownBy_next hg hb5 hs2, HD⟩
  · have HQ : Hid (TextQ s a N 0 a1 e1 []) := by
      rcases ho with ⟨h1, h2, h3, h4⟩ | ⟨h1, h2, h3, h4⟩
      · subst h2 h3 h4; exact TextQ.start h1 (by omega)
      · subst h2 h3 h4; exact .inr ⟨by decide, textR_no h1⟩
    clear ho
    have hr2 := hr1
    clear hr1 h
    have hs2 := hg1.size
    have hfr := BldAt.fresh w1
    have hr3 := hr2.below ((Below.refl _ _).alloc (Nat.le_refl _) (.cells #[.pointer none, .slice none 0 0] 66))
    have hg3 := grownBy_next hg1 ((Below.refl _ _).alloc (Nat.le_refl _) (.cells #[.pointer none, .slice none 0 0] 66)) hs2
    have hB3 : w1.heap.size ≤ (w1.alloc (.cells #[.pointer none, .slice none 0 0] 66)).heap.size := by simp
    obtain ⟨B, HB⟩ : ∃ B, Hid (w1.heap.size = B) := ⟨_, rfl⟩
    rw [HB.out] at hfr hs2 hB3
    clear hr2 hg1
    go_wp2_with fail
    rw [HB.out]
    go_loopw [3] (fun n wr => ∃ (k b : Nat) (e : Int) (l : List UInt8), k ≤ N ∧ n = .int .i64 ((N - k : Nat) : Int) ∧ Rd wr g s b e ∧ BldAt wr B B l ∧ w.grownBy wr (some g) ∧ B ≤ wr.heap.size ∧ l.length ≤ k ∧ Hid (TextQ s a N k b e l)) (fun n _ => (intOf n).toNat)
    case atStart => exact ⟨0, _, _, [], Nat.zero_le _, rfl, hr3, hfr, hg3, hB3, Nat.le_refl _, HQ⟩
    case round =>
      clear hfr hr3 hg3 hB3 HQ
      obtain ⟨k, b, e, l, hk, rfl, hr, hbl, hg, hBw, hll, HQ⟩ := hrel
      obtain ⟨c0, c1, c2, f1, f2⟩ := hr.cells
      by_cases hkN : k < N
      · by_cases he : e = 0
        · subst he
          have hb0 := TextQ.noE HQ.out
          have hpos : 0 < N - k := by omega
          have hsub : ((N - k : Nat) : Int) - 1 = ((N - (k + 1) : Nat) : Int) := by omega
          have HSub := Lib.hid hsub
          clear hsub
          by_cases hbs : b < s.size
          · have H1 := one_yes wr g s b hr hs hbs
            have hlt2 := byteAt_lt s b
            have HC : Hid ((UInt8.ofNat (byteAt s b)).toNat = byteAt s b) := by show _ = _; rw [Oct.ofNat_toNat]; omega
            by_cases hp : 32 ≤ byteAt s b ∧ byteAt s b ≤ 126
            · have HQ2 := Lib.hid (TextQ.good HQ.out hkN hbs hp.1 hp.2 _ HC.out)
              obtain ⟨n, hnn⟩ : ∃ n, byteAt s b = n := ⟨_, rfl⟩
              rw [hnn] at H1 HC hp hlt2 HQ2
              clear hnn
              obtain ⟨hp1, hp2⟩ := hp
              have HCn : Hid ((n : Int) = ((UInt8.ofNat n).toNat : Int)) := by show _ = _; rw [HC.out]
              have hd1 : decide ((n : Int) < 32) = false := decide_eq_false (by omega)
              have hd2 : decide ((126 : Int) < (n : Int)) = false := decide_eq_false (by omega)
              go_wp2_with fail
              refine H1.mono ?_
              rintro x w5 ⟨rfl, hr5, hg5⟩
              have hbl5 := hbl.grown hg5 (by omega)
              obtain ⟨d0, d1, d2, f1, f2⟩ := hr5.cells
              go_wp2_with fail
              refine (writeByte_any B B _ (UInt8.ofNat n) _ HCn.out _ hbl5 (by omega) (by have := hg5.size; omega)).mono ?_
              rintro x w6 ⟨rfl, hbl6, hb6, ho6⟩
              have hr6 := block_others hbl5 ho6 (by decide) (by decide) hr5
              have hg6 := grownBy_next (hg.trans hg5) hb6 hs2
              have hB6 := hb6.size
              have hB5 := hg5.size
              clear ho6
              go_wp2_with fail
              go_roundw
              case rel => exact ⟨k + 1, _, _, _, by omega, by go_num, hr6, hbl6, hg6, by omega, by simp; omega, HQ2⟩
              case measure => simp [intOf]; omega
            · have HQ2 := fun k' b' l' => Lib.hid (TextQ.bad HQ.out hkN hbs (by omega) k' b' l')
              obtain ⟨n, hnn⟩ : ∃ n, byteAt s b = n := ⟨_, rfl⟩
              rw [hnn] at H1 HC hp hlt2
              clear hnn
              have HCn : Hid ((n : Int) = ((UInt8.ofNat n).toNat : Int)) := by show _ = _; rw [HC.out]
              have HQ3 := Lib.hid HQ2
              clear HQ2
              by_cases hp1 : 32 ≤ n
              · have hp2 : 126 < n := by omega
                clear hp
                go_wp2_with fail
                refine H1.mono ?_
                rintro x w5 ⟨rfl, hr5, hg5⟩
                have hbl5 := hbl.grown hg5 (by omega)
                obtain ⟨d0, d1, d2, f1, f2⟩ := hr5.cells
                go_wp2_with fail
                refine (fault_any _ g s (b + 1) 2 hr5).mono ?_
                rintro x w7 ⟨rfl, hr7, hg7⟩
                have hbl7 := hbl5.grown hg7 (by omega)
                replace hg7 := hg5.trans hg7
                obtain ⟨d0, d1, d2, f1, f2⟩ := hr7.cells
                go_wp2_with fail
                refine (writeByte_any B B _ (UInt8.ofNat n) _ HCn.out _ hbl7 (by omega) (by have := hg7.size; omega)).mono ?_
                rintro x w6 ⟨rfl, hbl6, hb6, ho6⟩
                have hr6 := block_others hbl7 ho6 (by decide) (by decide) hr7
                have hg6 := grownBy_next (hg.trans hg7) hb6 hs2
                have hB6 := hb6.size
                have hB5 := hg7.size
                clear ho6
                go_wp2_with fail
                go_roundw
                case rel => exact ⟨k + 1, _, _, _, by omega, by go_num, hr6, hbl6, hg6, by omega, by simp; omega, HQ3.out _ _ _⟩
                case measure => simp [intOf]; omega
              · clear hp
                go_wp2_with fail
                refine H1.mono ?_
                rintro x w5 ⟨rfl, hr5, hg5⟩
                have hbl5 := hbl.grown hg5 (by omega)
                obtain ⟨d0, d1, d2, f1, f2⟩ := hr5.cells
                go_wp2_with fail
                refine (fault_any _ g s (b + 1) 2 hr5).mono ?_
                rintro x w7 ⟨rfl, hr7, hg7⟩
                have hbl7 := hbl5.grown hg7 (by omega)
                replace hg7 := hg5.trans hg7
                obtain ⟨d0, d1, d2, f1, f2⟩ := hr7.cells
                go_wp2_with fail
                refine (writeByte_any B B _ (UInt8.ofNat n) _ HCn.out _ hbl7 (by omega) (by have := hg7.size; omega)).mono ?_
                rintro x w6 ⟨rfl, hbl6, hb6, ho6⟩
                have hr6 := block_others hbl7 ho6 (by decide) (by decide) hr7
                have hg6 := grownBy_next (hg.trans hg7) hb6 hs2
                have hB6 := hb6.size
                have hB5 := hg7.size
                clear ho6
                go_wp2_with fail
                go_roundw
                case rel => exact ⟨k + 1, _, _, _, by omega, by go_num, hr6, hbl6, hg6, by omega, by simp; omega, HQ3.out _ _ _⟩
                case measure => simp [intOf]; omega
          · have H1 := one_no wr g s b hr hs (by omega) hbs
            have HQ2 := Lib.hid (fun k' b' l' => Lib.hid (TextQ.short HQ.out hkN hbs k' b' l'))
            go_wp2_with fail
            refine H1.mono ?_
            rintro x w5 ⟨rfl, hr5, hg5⟩
            have hbl5 := hbl.grown hg5 (by omega)
            obtain ⟨d0, d1, d2, f1, f2⟩ := hr5.cells
            go_wp2_with fail
            refine (writeByte_any B B _ (UInt8.ofNat 0) _ rfl _ hbl5 (by omega) (by have := hg5.size; omega)).mono ?_
            rintro x w6 ⟨rfl, hbl6, hb6, ho6⟩
            have hr6 := block_others hbl5 ho6 (by decide) (by decide) hr5
            have hg6 := grownBy_next (hg.trans hg5) hb6 hs2
            have hB6 := hb6.size
            have hB5 := hg5.size
            clear ho6
            go_wp2_with fail
            go_roundw
            case rel => exact ⟨k + 1, _, _, _, by omega, by go_num, hr6, hbl6, hg6, by omega, by simp; omega, HQ2.out _ _ _⟩
            case measure => simp [intOf]; omega
        · have he0 : (e == 0) = false := by simpa using he
          have hpos : 0 < N - k := by omega
          have HD := Lib.hid (TextQ.done HQ.out hk (.inl he))
          clear HQ he
          go_wp2_with fail
          refine (bldString_any B B _ _ hbl hBw).mono ?_
          rintro x w4 ⟨rfl, _, hb5, ho5⟩
          have hr4 := block_others hbl ho5 (by decide) (by decide) hr
          clear ho5
          go_wp2_with fail
          go_ret
          exact ⟨_, _, _, rfl, hr4, grownBy_next hg hb5 hs2, HD⟩
      · have h0 : N - k = 0 := by omega
        rw [h0]
        have HD := Lib.hid (TextQ.done HQ.out hk (.inr hkN))
        clear HQ h0
        go_wp2_with fail
        refine (bldString_any B B _ _ hbl hBw).mono ?_
        rintro x w4 ⟨rfl, _, hb5, ho5⟩
        have hr4 := block_others hbl ho5 (by decide) (by decide) hr
        clear ho5
        go_wp2_with fail
        go_ret
        exact ⟨_, _, _, rfl, hr4, grownBy_next hg hb5 hs2, HD⟩
end Go.Proofs.Ytcboeggfincakaa
