/- rowcode.Get: what it answers. -/
import Derived.Test.YtcboeggfincakaaRdV06
import Derived.Test.YtcboeggfincakaaOut
import Derived.Test.YtcboeggfincakaaGetL
namespace Go.Proofs.Ytcboeggfincakaa
set_option linter.unusedVariables false
set_option linter.unusedSimpArgs false
open Go.RowKit Go.Sort
open Oct (S beN putL U I getI)
/-- Where the reading of a row stands: N values in all, those of l read. -/
def GetQ (s : ByteArray) (N k b : Nat) (e : Int) (l : List Vl) : Prop :=
  l.length = k ∧ ((e = 0 ∧ 0 < s.size ∧ s.size ≤ 400 ∧ N = byteAt s 0 ∧ N ≤ 32 ∧ b ≤ s.size ∧ rowsR s N 1 = ahead l (rowsR s (N - k) b)) ∨ (e ≠ 0 ∧ getRow s = .error e))
theorem GetQ.start {s : ByteArray} (h : 0 < s.size) (h4 : s.size ≤ 400) (h2 : byteAt s 0 ≤ 32) : GetQ s (byteAt s 0) 0 1 0 [] :=
  ⟨rfl, .inl ⟨rfl, h, h4, rfl, h2, by omega, (ahead_nil _).symm⟩⟩
theorem GetQ.big {s : ByteArray} (h : 0 < s.size) (h4 : s.size ≤ 400) (h2 : 32 < byteAt s 0) (N b : Nat) : GetQ s N 0 b 4 [] :=
  ⟨rfl, .inr ⟨by decide, by rw [getRow, if_neg (by omega), if_neg (by omega), if_pos h2]⟩⟩
theorem GetQ.none {s : ByteArray} (h : ¬ 0 < s.size) (N b : Nat) : GetQ s N 0 b 3 [] :=
  ⟨rfl, .inr ⟨by decide, by rw [getRow, if_neg (by omega), if_pos (by omega)]⟩⟩
theorem GetQ.next {s : ByteArray} {N k b b' : Nat} {e : Int} {l : List Vl} {v : Vl} (h : GetQ s N k b 0 l) (hk : k < N) (ht : TakeP s b v b' e) : GetQ s N (k + 1) b' e (l ++ [v]) := by
  obtain ⟨hl, h⟩ := h
  refine ⟨by simp [hl], ?_⟩
  rcases h with ⟨_, h0, h4, hN, hN2, hb, hr⟩ | ⟨h, _⟩
  · rw [show N - k = (N - (k + 1)) + 1 from by omega] at hr
    rcases ht with ⟨ht, rfl⟩ | ⟨ht, he⟩
    · exact .inl ⟨rfl, h0, h4, hN, hN2, (take_next ht).2, by rw [hr, rows_ok ht]⟩
    · rw [rows_error ht] at hr
      exact .inr ⟨he, by rw [getRow, if_neg (by omega), if_neg (by omega), if_neg (by omega), ← hN, hr]⟩
  · exact (h rfl).elim
theorem GetQ.bad {s : ByteArray} {N k b : Nat} {e : Int} {l : List Vl} (h : GetQ s N k b e l) (he : e ≠ 0) : getRow s = .error e := by
  rcases h.2 with ⟨h1, _⟩ | ⟨_, h2⟩
  · exact (he h1).elim
  · exact h2
theorem GetQ.less {s : ByteArray} {N k b : Nat} {l : List Vl} (h : GetQ s N k b 0 l) (hk : k = N) (hb : b < s.size) : getRow s = .error 2 := by
  rcases h.2 with ⟨_, h0, h4, hN, hN2, hb2, hr⟩ | ⟨h, _⟩
  · subst hk
    rw [Nat.sub_self, rowsR] at hr
    rw [getRow, if_neg (by omega), if_neg (by omega), if_neg (by omega), ← hN, hr]
    simp only [ahead]
    rw [if_pos hb]
  · exact (h rfl).elim
theorem GetQ.full {s : ByteArray} {N k b : Nat} {l : List Vl} (h : GetQ s N k b 0 l) (hk : k = N) (hb : ¬ b < s.size) : getRow s = .ok l := by
  rcases h.2 with ⟨_, h0, h4, hN, hN2, hb2, hr⟩ | ⟨h, _⟩
  · subst hk
    rw [Nat.sub_self, rowsR] at hr
    rw [getRow, if_neg (by omega), if_neg (by omega), if_neg (by omega), ← hN, hr]
    simp only [ahead]
    rw [if_neg hb, List.append_nil]
  · exact (h rfl).elim
theorem GetQ.noE {s : ByteArray} {N k b : Nat} {l : List Vl} (h : GetQ s N k b 0 l) : b ≤ s.size ∧ N ≤ 32 ∧ s.size ≤ 400 := by
  rcases h.2 with ⟨_, h0, h4, hN, hN2, hb2, hr⟩ | ⟨h, _⟩
  · exact ⟨hb2, hN2, h4⟩
  · exact (h rfl).elim
/-- What Get answers. -/
def GetP (s : ByteArray) (w : World) (x : Ending) (w' : World) : Prop :=
  Below w.heap.size w w' ∧ ((∃ e, getRow s = .error e ∧ x = .returned (.tuple #[.slice none 0 0, .int .i64 e])) ∨ (∃ l v, getRow s = .ok l ∧ x = .returned (.tuple #[v, .int .i64 0]) ∧ RowAt w' v l))
theorem get_long (s : ByteArray) (w : World) (h : 400 < s.size) (hs : s.size ≤ maxLen) : Calls Try.prog 28 #[.string s] w (GetP s w) := by
  unfold maxLen at hs
  have HG : Hid (getRow s = .error 4) := by show _ = _; rw [getRow, if_pos h]
  go_enter Try.func28, Try.ntmps28
  go_wp2_with fail
  go_ret2
  exact ⟨Below.refl _ _, .inl ⟨4, HG.out, rfl⟩⟩
set_option maxHeartbeats 4000000 in
theorem get_short (s : ByteArray) (w : World) (h : s.size ≤ 400) : Calls Try.prog 28 #[.string s] w (GetP s w) := by
  have hr0 : Rd (w.alloc (.cells #[.string s, .int .i64 0, .int .i64 0] 76)) w.heap.size s 0 0 := Blk.new w _ _
  have hb0 : Below w.heap.size w (w.alloc (.cells #[.string s, .int .i64 0, .int .i64 0] 76)) := (Below.refl _ _).alloc (Nat.le_refl _) _
  have HZ : Hid ((w.alloc (.cells #[.string s, .int .i64 0, .int .i64 0] 76)).heap.size = w.heap.size + 1) := by show _ = _; simp
  obtain ⟨g, HG⟩ : ∃ g, Hid (w.heap.size = g) := ⟨_, rfl⟩
  rw [HG.out] at hr0
  go_enter Try.func28, Try.ntmps28
  go_wp2_with fail
  rw [HG.out]
  refine (one_all _ g s 0 hr0 (by omega) (by omega)).mono ?_
  rintro x w1 ⟨N, b1, e1, ⟨rfl, hr1, hg1⟩, ho⟩
  have hsz1 := hg1.size
  rw [HZ.out] at hsz1
  have hb1 := Below.ofGrown hb0 hg1 (by rw [HG.out]; exact Nat.le_refl _) hb0.size
  clear hr0 hb0 hg1
  have hN : N < 256 := by rcases ho with ⟨_, h2, _⟩ | ⟨_, h2, _⟩ <;> rw [h2]; exact byteAt_lt _ _; decide
  have hg0 : g < w1.heap.size := by rw [← HG.out]; omega
  by_cases hbig : 32 < N
  · obtain ⟨HQ, he1⟩ : Hid (GetQ s N 0 b1 4 []) ∧ e1 = 0 := by
      rcases ho with ⟨h1, h2, h3, h4⟩ | ⟨_, h2, _⟩
      · exact ⟨GetQ.big h1 h (by omega) _ _, h4⟩
      · omega
    subst he1
    clear ho hsz1
    go_wp2_with fail
    refine (fault_any _ g s b1 4 hr1).mono ?_
    rintro x w2 ⟨rfl, hr2, hg2⟩
    replace hb1 := Below.ofGrown hb1 hg2 (by rw [HG.out]; exact Nat.le_refl _) hb1.size
    replace hg0 : g < w2.heap.size := hr2.lt
    replace hr1 := hr2
    clear hr2 hg2
    go_wp2_with fail
    go_loopw [5, 6] (fun n o wr => ∃ (k b : Nat) (e : Int) (l : List Vl) (ov : Value), ov = o ∧ k ≤ N ∧ n = .int .i64 ((N - k : Nat) : Int) ∧ Rd wr g s b e ∧ wr.ownsRow (g + 1) 49 3 ov k (rowCells l) ∧ Below w.heap.size w wr ∧ g < wr.heap.size ∧ Hid (GetQ s N k b e l)) (fun n _ _ => (intOf n).toNat)
    case atStart => exact ⟨0, _, _, [], _, rfl, Nat.zero_le _, rfl, hr1, World.ownsRow_nil _ _ _ _, hb1, hg0, HQ⟩
    case round =>
      clear hr1 hb1 hg0 HQ
      obtain ⟨k, b, e, l, o, rfl, hk, rfl, hr, hown, hb, hgl, HQ⟩ := hrel
      obtain ⟨c0, c1, c2, f1, f2⟩ := hr.cells
      by_cases he : e = 0
      · exfalso; subst he; have := GetQ.noE HQ.out; omega
      · have he0 : (e == 0) = false := by simpa using he
        have HE := Lib.hid (GetQ.bad HQ.out he)
        clear hown HQ
        by_cases hkN : k < N
        · have hpos : 0 < N - k := by omega
          go_wp2_with fail
          go_quiet (fail)
          go_wp2_with fail
          go_ret2
          exact ⟨hb.drewN _, .inl ⟨e, HE.out, rfl⟩⟩
        · have h0 : N - k = 0 := by omega
          rw [h0]
          go_wp2_with fail
          go_quiet (fail)
          go_wp2_with fail
          go_ret2
          exact ⟨hb.drewN _, .inl ⟨e, HE.out, rfl⟩⟩
  · have HQ : Hid (GetQ s N 0 b1 e1 []) := by
      rcases ho with ⟨h1, h2, h3, h4⟩ | ⟨h1, h2, h3, h4⟩
      · subst h2 h3 h4; exact GetQ.start h1 h (by omega)
      · subst h2 h3 h4; exact GetQ.none h1 _ _
    clear ho hsz1
    go_wp2_with fail
    go_loopw [5, 6] (fun n o wr => ∃ (k b : Nat) (e : Int) (l : List Vl) (ov : Value), ov = o ∧ k ≤ N ∧ n = .int .i64 ((N - k : Nat) : Int) ∧ Rd wr g s b e ∧ wr.ownsRow (g + 1) 49 3 ov k (rowCells l) ∧ Below w.heap.size w wr ∧ g < wr.heap.size ∧ Hid (GetQ s N k b e l)) (fun n _ _ => (intOf n).toNat)
    case atStart => exact ⟨0, _, _, [], _, rfl, Nat.zero_le _, rfl, hr1, World.ownsRow_nil _ _ _ _, hb1, hg0, HQ⟩
    case round =>
      clear hr1 hb1 hg0 HQ
      obtain ⟨k, b, e, l, o, rfl, hk, rfl, hr, hown, hb, hgl, HQ⟩ := hrel
      obtain ⟨c0, c1, c2, f1, f2⟩ := hr.cells
      by_cases he : e = 0
      · subst he
        by_cases hkN : k < N
        · have hpos : 0 < N - k := by omega
          have HSub : Hid (((N - k : Nat) : Int) - 1 = ((N - (k + 1) : Nat) : Int)) := by show _ = _; omega
          have hno := GetQ.noE HQ.out
          have HV := value_any wr g s b hr (by omega) (by omega)
          go_wp2_with fail
          refine HV.mono ?_
          rintro x w5 ⟨v, b5, e5, rfl, hr5, hg5, ht⟩
          have ev : v.val = .agg #[.int .i64 v.k, .int .i64 v.n, .string v.s] := rfl
          rw [ev]
          clear ev
          have HQ2 := Lib.hid (GetQ.next HQ.out hkN ht)
          have hll : l.length = k := HQ.out.1
          have hown5 := hown.kept hg5 (by cases ho : o.ownBlock with | none => exact .inl rfl | some q => right; intro e; injection e with e; have := (hown.lt q ho).1; omega)
          have hsz := hg5.size
          have hb5 := Below.ofGrown hb hg5 (by rw [HG.out]; exact Nat.le_refl _) hb.size
          have HSZ := Lib.hid hsz
          clear ht hown hb hr hsz HV c0 c1 c2 f1 f2 hll
          go_wp2_with ((with_reducible refine wpList_append1 23 49 (.agg #[.int .i64 0, .int .i64 0, .string ⟨#[]⟩]) 3 32 Try.underlying23 info_value rfl (by decide) (by decide) ?_); refine ⟨g + 1, o, k, rowCells l, _, _, v.cells, rfl, rfl, hown5.alloc _, rfl, new_cells _ _ v.cells, ?_, ?_, ?_, ?_⟩; (intro u hu; simp only [Vl.cells, List.mem_cons, List.not_mem_nil, or_false] at hu; rcases hu with rfl | rfl | rfl <;> rfl); omega; (simp; have := HSZ.out; omega); intro v' w6 hown6 hb6 _)
          have hr6 : Rd w6 g s b5 e5 := Blk.belowB (hr5.below ((Below.refl _ _).alloc (Nat.le_refl _) _)) hb6 (Nat.lt_succ_self g)
          have hsz6 := hb6.size
          simp only [World.size_alloc] at hsz6
          have hsz5 := HSZ.out
          have hb7 := (hb5.alloc hb5.size _).trans (hb6.mono (by rw [HG.out]; omega))
          clear hown5 hr5 hg5
          go_roundw
          case rel => exact ⟨k + 1, b5, e5, l ++ [v], v', rfl, by omega, by rw [HSub.out], hr6, by rw [rowCells_snoc]; exact hown6, hb7, by omega, HQ2⟩
          case measure => simp [intOf]; omega
        · have h0 : N - k = 0 := by omega
          rw [h0]
          have hno := GetQ.noE HQ.out
          by_cases hbs : b < s.size
          · have hdl : decide ((b : Int) < (s.size : Int)) = true := decide_eq_true (by omega)
            have HE := Lib.hid (GetQ.less HQ.out (by omega) hbs)
            clear hown HQ h0
            go_wp2_with fail
            refine (fault_any _ g s b 2 hr).mono ?_
            rintro x w5 ⟨rfl, hr5, hg5⟩
            have hb5 := Below.ofGrown hb hg5 (by rw [HG.out]; exact Nat.le_refl _) hb.size
            obtain ⟨c0, c1, c2, f1, f2⟩ := hr5.cells
            go_wp2_with fail
            go_quiet (fail)
            go_wp2_with fail
            go_ret2
            exact ⟨hb5.drewN _, .inl ⟨2, HE.out, rfl⟩⟩
          · have hdl : decide ((b : Int) < (s.size : Int)) = false := decide_eq_false (by omega)
            have HE := Lib.hid (GetQ.full HQ.out (by omega) hbs)
            have hll : l.length = k := HQ.out.1
            have HR := Lib.hid (RowAt.owned (w := wr) (v := o) (l := l) (B := g + 1) (by rw [hll]; exact hown) (by omega))
            clear hown HQ h0 hll
            go_wp2_with fail
            go_ret2
            exact ⟨hb, .inr ⟨l, _, HE.out, rfl, HR.out⟩⟩
      · have he0 : (e == 0) = false := by simpa using he
        have HE := Lib.hid (GetQ.bad HQ.out he)
        clear hown HQ
        by_cases hkN : k < N
        · have hpos : 0 < N - k := by omega
          go_wp2_with fail
          go_quiet (fail)
          go_wp2_with fail
          go_ret2
          exact ⟨hb.drewN _, .inl ⟨e, HE.out, rfl⟩⟩
        · have h0 : N - k = 0 := by omega
          rw [h0]
          go_wp2_with fail
          go_quiet (fail)
          go_wp2_with fail
          go_ret2
          exact ⟨hb.drewN _, .inl ⟨e, HE.out, rfl⟩⟩
theorem get_any (s : ByteArray) (w : World) (hs : s.size ≤ maxLen) : Calls Try.prog 28 #[.string s] w (GetP s w) := by
  by_cases h : 400 < s.size
  · exact get_long s w h hs
  · exact get_short s w (by omega)
end Go.Proofs.Ytcboeggfincakaa
