/- Versions of rows: what the reference's Get answers; Seen, Old; which are the same. -/
import Derived.Test.YtcboeggfincakaaVerG
namespace Go.Proofs.Ytcboeggfincakaa
set_option linter.unusedVariables false
set_option linter.unusedSimpArgs false
open Go.RowKit Go.Sort
open Oct (S beN putL U I getI)
theorem rvget_long (s : ByteArray) (w : World) (h : 400 < s.size) (hs : s.size ≤ maxLen) : Calls Try.prog 12 #[.string s] w (GetVP s w) := by
  unfold maxLen at hs
  have HG : Hid (getV s = .error 4) := by show _ = _; rw [getV, if_pos h]
  go_enter Try.func12, Try.ntmps12
  go_wp2_with fail
  exact bodyPost_ret (v := .tuple #[zeroVn, .int .i64 4]) (by simp [results, Try.results12, go_sem, zeroVn]) rfl ⟨(Below.refl _ _).alloc (Nat.le_refl _) _, .inl ⟨4, HG.out, rfl⟩⟩
theorem rvget_short (s : ByteArray) (w : World) (h : s.size < 18) : Calls Try.prog 12 #[.string s] w (GetVP s w) := by
  have HG := Lib.hid (getV_short (s := s) (by omega) h)
  go_enter Try.func12, Try.ntmps12
  go_wp2_with fail
  exact bodyPost_ret (v := .tuple #[zeroVn, .int .i64 3]) (by simp [results, Try.results12, go_sem, zeroVn]) rfl ⟨(Below.refl _ _).alloc (Nat.le_refl _) _, .inl ⟨3, HG.out, rfl⟩⟩
theorem roct_at (s : ByteArray) (k : Nat) (a : Int) (ha : a = ((6 * k : Nat) : Int)) (w : World) (hs : s.size ≤ 1000) (hc : 6 * k + 6 ≤ s.size) :
    Calls Try.prog 30 #[.string s, .int .i64 a, .int .i64 6] w (Eq1 (.tuple #[.int .i64 (numV s k), .bool true]) w) := by
  subst ha
  exact rget_yes s (6 * k) 6 w (by unfold maxLen; omega) (by decide) (by decide) hc
set_option maxHeartbeats 1000000 in
theorem rvget_full (s : ByteArray) (w : World) (h : s.size ≤ 400) (h18 : 18 ≤ s.size) : Calls Try.prog 12 #[.string s] w (GetVP s w) := by
  have hb : Below w.heap.size w (w.alloc (.cells #[.int .i64 0, .int .i64 0, .int .i64 0, .slice none 0 0] 25)) := (Below.refl _ _).alloc (Nat.le_refl _) _
  have hR := Blk.new w #[.int .i64 0, .int .i64 0, .int .i64 0, .slice none 0 0] 25
  have HZ : Hid ((s.extract 18 s.size).size ≤ maxLen) := by show _ ≤ _; unfold maxLen; simp; omega
  have hd4 : decide ((400 : Int) < (s.size : Int)) = false := decide_eq_false (by omega)
  cases hr : getRow (s.extract 18 s.size) with
  | error e =>
    have HG := Lib.hid (fun W => rget_error_at hr W HZ.out)
    have HE := Lib.hid (getV_e h (by omega) hr)
    have he0 : (e == 0) = false := by rw [beq_eq_false_iff_ne]; have := getRow_error hr; omega
    have he1 : (e != 0) = true := by rw [bne_iff_ne]; have := getRow_error hr; omega
    clear hr
    go_enter Try.func12, Try.ntmps12
    go_wp2_with fail
    refine (HG.out _).mono ?_
    rintro e1 w2 ⟨rfl, hb2⟩
    replace hR := hR.below hb2
    replace hb := hb.next hb2
    obtain ⟨c0, c1, c2, c3⟩ := hR.four
    have f0 := hR.free 0
    have f1 := hR.free 1
    have f2 := hR.free 2
    have f3 := hR.free 3
    go_wp2_with fail
    have hF : Blk _ _ #[.int .i64 0, .int .i64 0, .int .i64 0, .slice none 0 0] 25 := (((hR.set 0 (.int .i64 0)).set 1 (.int .i64 0)).set 2 (.int .i64 0)).set 3 (.slice none 0 0)
    obtain ⟨z0, z1, z2, z3⟩ := hF.four
    exact bodyPost_ret (v := .tuple #[zeroVn, .int .i64 e]) (by simp [results, Try.results12, go_sem, zeroVn, z0, z1, z2, z3]) rfl ⟨(((hb.setCell (Nat.le_refl _) _).setCell (Nat.le_refl _) _).setCell (Nat.le_refl _) _).setCell (Nat.le_refl _) _, .inl ⟨e, HE.out, rfl⟩⟩
  | ok l =>
    have HG := Lib.hid (fun W => rget_ok_at hr W HZ.out)
    have HE := Lib.hid (getV_o h (by omega) hr)
    have N0 := Lib.hid (fun a ha W => roct_at s 0 a ha W (by omega) (by omega))
    have N1 := Lib.hid (fun a ha W => roct_at s 1 a ha W (by omega) (by omega))
    have N2 := Lib.hid (fun a ha W => roct_at s 2 a ha W (by omega) (by omega))
    obtain ⟨x, hx⟩ : ∃ x, numV s 0 = x := ⟨_, rfl⟩
    obtain ⟨y, hy⟩ : ∃ x, numV s 1 = x := ⟨_, rfl⟩
    obtain ⟨z, hz⟩ : ∃ x, numV s 2 = x := ⟨_, rfl⟩
    rw [hx, hy, hz] at HE
    rw [hx] at N0
    rw [hy] at N1
    rw [hz] at N2
    clear hr hx hy hz
    go_enter Try.func12, Try.ntmps12
    go_wp2_with fail
    refine (HG.out _).mono ?_
    rintro e1 w2 ⟨v, rfl, hb2, hv⟩
    obtain ⟨vo, vc, rfl⟩ := hv.nil
    have HVV := Lib.hid hv
    clear hv
    replace hR := hR.below hb2
    replace hb := hb.next hb2
    obtain ⟨c0, c1, c2, c3⟩ := hR.four
    have f0 := hR.free 0
    have f1 := hR.free 1
    have f2 := hR.free 2
    have f3 := hR.free 3
    go_wp2_with fail
    refine (N0.out _ (by rfl) _).mono ?_
    rintro e1 w' ⟨rfl, rfl⟩
    go_wp2_with fail
    refine (N1.out _ (by rfl) _).mono ?_
    rintro e1 w' ⟨rfl, rfl⟩
    go_wp2_with fail
    refine (N2.out _ (by rfl) _).mono ?_
    rintro e1 w' ⟨rfl, rfl⟩
    go_wp2_with fail
    have hF : Blk _ _ #[.int .i64 x, .int .i64 y, .int .i64 z, .slice vo l.length vc] 25 := (((hR.set 0 (.int .i64 x)).set 1 (.int .i64 y)).set 2 (.int .i64 z)).set 3 (.slice vo l.length vc)
    obtain ⟨z0, z1, z2, z3⟩ := hF.four
    refine bodyPost_ret (v := .tuple #[.agg #[.int .i64 x, .int .i64 y, .int .i64 z, .slice vo l.length vc], .int .i64 0]) (by simp [results, Try.results12, go_sem, z0, z1, z2, z3]) rfl ⟨(((hb.setCell (Nat.le_refl _) _).setCell (Nat.le_refl _) _).setCell (Nat.le_refl _) _).setCell (Nat.le_refl _) _, .inr ⟨⟨x, y, z, l⟩, .slice vo l.length vc, HE.out, rfl, ?_⟩⟩
    exact RowAt.keep HVV.out (fun q hq => four_sets _ w.heap.size _ _ _ _ q hq) hR no_string (by simp)
theorem rvget_any (s : ByteArray) (w : World) (hs : s.size ≤ maxLen) : Calls Try.prog 12 #[.string s] w (GetVP s w) := by
  by_cases h : 400 < s.size
  · exact rvget_long s w h hs
  · by_cases h18 : 18 ≤ s.size
    · exact rvget_full s w (by omega) h18
    · exact rvget_short s w (by omega)
/-- Does a snapshot see it? Is it old? -/
def seenB (f u n : Int) : Bool := decide (f ≤ n) && (u == 0 || decide (n < u))
def oldB (u n : Int) : Bool := decide (0 < u) && decide (u ≤ n)
theorem seen_any (r f u n : Int) (v : Value) (hs : ∃ ao m c, v = .slice ao m c) (B : Bool) (hB : Hid (seenB f u n = B)) (w : World) : Calls Try.prog 14 #[.agg #[.int .i64 r, .int .i64 f, .int .i64 u, v], .int .i64 n] w (Ret (.bool B) w) := by
  obtain ⟨ao, m, c, rfl⟩ := hs
  have hb : Below w.heap.size w (w.alloc (.cells #[.int .i64 r, .int .i64 f, .int .i64 u, .slice ao m c] 25)) := (Below.refl _ _).alloc (Nat.le_refl _) _
  by_cases h1 : f ≤ n
  · by_cases h2 : u = 0
    · subst h2
      go_enter Try.func14, Try.ntmps14
      go_wp2_with fail
      go_ret
      exact ⟨ret_bool (by rw [← hB.out, seenB]; simp [h1]), hb⟩
    · have t2 : (u == 0) = false := by rw [beq_eq_false_iff_ne]; exact h2
      by_cases h3 : n < u
      · have h2' := Lib.hid h2
        clear h2
        go_enter Try.func14, Try.ntmps14
        go_wp2_with fail
        go_ret
        exact ⟨ret_bool (by rw [← hB.out, seenB]; simp [h1, h2'.out, h3]), hb⟩
      · have h2' := Lib.hid h2
        clear h2
        go_enter Try.func14, Try.ntmps14
        go_wp2_with fail
        go_ret
        exact ⟨ret_bool (by rw [← hB.out, seenB]; simp [h1, h2'.out, h3]), hb⟩
  · have hd : decide (f ≤ n) = false := decide_eq_false h1
    go_enter Try.func14, Try.ntmps14
    go_wp2_with fail
    go_ret
    exact ⟨ret_bool (by rw [← hB.out, seenB]; simp [hd]), hb⟩
theorem rseen_any (r f u n : Int) (v : Value) (hs : ∃ ao m c, v = .slice ao m c) (B : Bool) (hB : Hid (seenB f u n = B)) (w : World) : Calls Try.prog 15 #[.agg #[.int .i64 r, .int .i64 f, .int .i64 u, v], .int .i64 n] w (Ret (.bool B) w) := by
  obtain ⟨ao, m, c, rfl⟩ := hs
  have hb : Below w.heap.size w (w.alloc (.cells #[.int .i64 r, .int .i64 f, .int .i64 u, .slice ao m c] 25)) := (Below.refl _ _).alloc (Nat.le_refl _) _
  by_cases h1 : f ≤ n
  · by_cases h2 : u = 0
    · subst h2
      go_enter Try.func15, Try.ntmps15
      go_wp2_with fail
      go_ret
      exact ⟨ret_bool (by rw [← hB.out, seenB]; simp [h1]), hb⟩
    · have t2 : (u == 0) = false := by rw [beq_eq_false_iff_ne]; exact h2
      by_cases h3 : n < u
      · have h2' := Lib.hid h2
        clear h2
        go_enter Try.func15, Try.ntmps15
        go_wp2_with fail
        go_ret
        exact ⟨ret_bool (by rw [← hB.out, seenB]; simp [h1, h2'.out, h3]), hb⟩
      · have h2' := Lib.hid h2
        clear h2
        go_enter Try.func15, Try.ntmps15
        go_wp2_with fail
        go_ret
        exact ⟨ret_bool (by rw [← hB.out, seenB]; simp [h1, h2'.out, h3]), hb⟩
  · have hd : decide (f ≤ n) = false := decide_eq_false h1
    go_enter Try.func15, Try.ntmps15
    go_wp2_with fail
    go_ret
    exact ⟨ret_bool (by rw [← hB.out, seenB]; simp [hd]), hb⟩
theorem old_any (r f u n : Int) (v : Value) (hs : ∃ ao m c, v = .slice ao m c) (B : Bool) (hB : Hid (oldB u n = B)) (w : World) : Calls Try.prog 16 #[.agg #[.int .i64 r, .int .i64 f, .int .i64 u, v], .int .i64 n] w (Ret (.bool B) w) := by
  obtain ⟨ao, m, c, rfl⟩ := hs
  have hb : Below w.heap.size w (w.alloc (.cells #[.int .i64 r, .int .i64 f, .int .i64 u, .slice ao m c] 25)) := (Below.refl _ _).alloc (Nat.le_refl _) _
  by_cases h1 : 0 < u
  · by_cases h2 : u ≤ n
    · skip
      go_enter Try.func16, Try.ntmps16
      go_wp2_with fail
      go_ret
      exact ⟨ret_bool (by rw [← hB.out, oldB]; simp [h1, h2]), hb⟩
    · skip
      go_enter Try.func16, Try.ntmps16
      go_wp2_with fail
      go_ret
      exact ⟨ret_bool (by rw [← hB.out, oldB]; simp [h1, h2]), hb⟩
  · have hd : decide (0 < u) = false := decide_eq_false h1
    go_enter Try.func16, Try.ntmps16
    go_wp2_with fail
    go_ret
    exact ⟨ret_bool (by rw [← hB.out, oldB]; simp [hd]), hb⟩
theorem rold_any (r f u n : Int) (v : Value) (hs : ∃ ao m c, v = .slice ao m c) (B : Bool) (hB : Hid (oldB u n = B)) (w : World) : Calls Try.prog 17 #[.agg #[.int .i64 r, .int .i64 f, .int .i64 u, v], .int .i64 n] w (Ret (.bool B) w) := by
  obtain ⟨ao, m, c, rfl⟩ := hs
  have hb : Below w.heap.size w (w.alloc (.cells #[.int .i64 r, .int .i64 f, .int .i64 u, .slice ao m c] 25)) := (Below.refl _ _).alloc (Nat.le_refl _) _
  by_cases h1 : 0 < u
  · by_cases h2 : u ≤ n
    · skip
      go_enter Try.func17, Try.ntmps17
      go_wp2_with fail
      go_ret
      exact ⟨ret_bool (by rw [← hB.out, oldB]; simp [h1, h2]), hb⟩
    · skip
      go_enter Try.func17, Try.ntmps17
      go_wp2_with fail
      go_ret
      exact ⟨ret_bool (by rw [← hB.out, oldB]; simp [h1, h2]), hb⟩
  · have hd : decide (0 < u) = false := decide_eq_false h1
    go_enter Try.func17, Try.ntmps17
    go_wp2_with fail
    go_ret
    exact ⟨ret_bool (by rw [← hB.out, oldB]; simp [hd]), hb⟩
end Go.Proofs.Ytcboeggfincakaa
