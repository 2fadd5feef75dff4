/- value.Order, value.Orders: the order of values and of rows. -/
import Derived.Test.YtljdiakodpjkpaaOrdP
import Derived.Test.YtljdiakodpjkpaaShelf
import Derived.Test.YtljdiakodpjkpaaKitW
import Derived.StillTailTactics
import Derived.BigQuiet
namespace Go.Proofs.Ytljdiakodpjkpaa
set_option linter.unusedVariables false
set_option linter.unusedSimpArgs false
open Go.RowKit
theorem isNaN_any (n : Int) (w : World) : Calls Try.prog 51 #[.int .i64 n] w (Eq1 (.bool false) w) := by
  go_enter Try.func51, Try.ntmps51
  go_wp2
  go_ret
  exact ⟨ret_bool (by simp), rfl⟩
theorem compareInt_any (a b : Int) (w : World) : Calls Try.prog 35 #[.int .i64 a, .int .i64 b] w fun e w' => e = .returned (.int .i64 (cmpI a b)) ∧ w' = w := by
  have HN := isNaN_any
  by_cases h1 : a < b
  · have HC : Hid (cmpI a b = -1) := by show _ = _; rw [cmpI, if_pos h1]
    go_enter Try.func35, Try.ntmps35
    go_wp2_with (go_at_call 51; refine (HN _ _).mono ?_; rintro e w' ⟨rfl, rfl⟩)
    go_ret
    exact ⟨ret_int (by rw [HC.out]), rfl⟩
  · by_cases h2 : b < a
    · have HC : Hid (cmpI a b = 1) := by show _ = _; rw [cmpI, if_neg h1, if_pos h2]
      go_enter Try.func35, Try.ntmps35
      go_wp2_with (go_at_call 51; refine (HN _ _).mono ?_; rintro e w' ⟨rfl, rfl⟩)
      go_ret
      exact ⟨ret_int (by rw [HC.out]), rfl⟩
    · have HC : Hid (cmpI a b = 0) := by show _ = _; rw [cmpI, if_neg h1, if_neg h2]
      go_enter Try.func35, Try.ntmps35
      go_wp2_with (go_at_call 51; refine (HN _ _).mono ?_; rintro e w' ⟨rfl, rfl⟩)
      go_ret
      exact ⟨ret_int (by rw [HC.out]), rfl⟩
theorem orInt_any (a b c : Int) (g cap : Nat) (w : World) (h0 : w.cell? ⟨g, 0, none⟩ = some (.int .i64 a)) (h1 : w.cell? ⟨g, 1, none⟩ = some (.int .i64 b)) (h2 : w.cell? ⟨g, 2, none⟩ = some (.int .i64 c)) :
    Calls Try.prog 34 #[.slice (some ⟨g, 0, none⟩) 3 cap] w (Eq1 (.int .i64 (orI a b c)) w) := by
  obtain ⟨f, HF⟩ : ∃ f : Nat → Int, Hid (f 0 = a ∧ f 1 = b ∧ f 2 = c) := ⟨fun k => if k = 0 then a else if k = 1 then b else c, by exact ⟨rfl, rfl, rfl⟩⟩
  have HX : Hid (∀ k, k < 3 → w.cell? ⟨g, k, none⟩ = some (.int .i64 (f k))) := by
    intro k hk
    have : k = 0 ∨ k = 1 ∨ k = 2 := by omega
    rcases this with rfl | rfl | rfl
    · rw [HF.out.1]; exact h0
    · rw [HF.out.2.1]; exact h1
    · rw [HF.out.2.2]; exact h2
  clear h0 h1 h2
  go_enter Try.func34, Try.ntmps34
  go_wp2
  go_loop [8] (fun i => ∃ k : Nat, k ≤ 3 ∧ i = .int .i64 k ∧ Hid (∀ j, j < k → f j = 0)) (fun i => 3 - (intOf i).toNat)
  case atStart => exact ⟨0, by omega, rfl, fun j hj => by omega⟩
  case round =>
    obtain ⟨k, hk, rfl, HZ⟩ := hrel
    by_cases hlt : k < 3
    · have hc := HX.out k hlt
      by_cases hz : f k = 0
      · have HZ2 : Hid (∀ j, j < k + 1 → f j = 0) := fun j hj => by
          by_cases e : j = k
          · subst e; exact hz
          · exact HZ.out j (by omega)
        rw [hz] at hc
        clear hz
        go_wp2
        go_round
        case rel => exact ⟨k + 1, by omega, by go_num, HZ2⟩
        case measure => simp [intOf]; omega
      · have HO : Hid (f k = orI a b c) := by
          show _ = _
          obtain ⟨f0, f1, f2⟩ := HF.out
          have : k = 0 ∨ k = 1 ∨ k = 2 := by omega
          rcases this with rfl | rfl | rfl
          · rw [f0] at hz ⊢; rw [orI, if_neg hz]
          · have := HZ.out 0 (by omega); rw [f0] at this; rw [f1] at hz ⊢; rw [orI, if_pos this, if_neg hz]
          · have h0 := HZ.out 0 (by omega); have h1 := HZ.out 1 (by omega); rw [f0] at h0; rw [f1] at h1; rw [f2]; rw [orI, if_pos h0, if_pos h1]
        rw [HO.out] at hc hz
        have hzb : (orI a b c == 0) = false := by rw [beq_eq_false_iff_ne]; exact hz
        clear hz
        go_wp2
        go_ret
        exact ⟨rfl, rfl⟩
    · have HO : Hid (0 = orI a b c) := by
        show _ = _
        obtain ⟨f0, f1, f2⟩ := HF.out
        have h0 := HZ.out 0 (by omega); have h1 := HZ.out 1 (by omega); have h2 := HZ.out 2 (by omega)
        rw [f0] at h0; rw [f1] at h1; rw [f2] at h2
        rw [orI, if_pos h0, if_pos h1, h2]
      go_wp2
      go_ret
      exact ⟨ret_int HO.out, rfl⟩
theorem order_any (u v : Vl) (w : World) : Calls Try.prog 18 #[.agg u.cells.toArray, .agg v.cells.toArray] w (Ret (.int .i64 (ordV u v)) w) := by
  obtain ⟨uk, un, us⟩ := u
  obtain ⟨vk, vn, vs⟩ := v
  show Calls Try.prog 18 #[.agg #[.int .i64 uk, .int .i64 un, .string us], .agg #[.int .i64 vk, .int .i64 vn, .string vs]] w (Ret (.int .i64 (orI (cmpI uk vk) (cmpI un vn) (Lib.compareBytes us.data.toList vs.data.toList))) w)
  have C1 := Lib.hid (fun W => compareInt_any uk vk W)
  have C2 := Lib.hid (fun W => compareInt_any un vn W)
  have C3 := Lib.hid (fun W => Try.strings_Compare us vs W)
  obtain ⟨x, hx⟩ : ∃ x, cmpI uk vk = x := ⟨_, rfl⟩
  obtain ⟨y, hy⟩ : ∃ x, cmpI un vn = x := ⟨_, rfl⟩
  obtain ⟨z, hz⟩ : ∃ x, Lib.compareBytes us.data.toList vs.data.toList = x := ⟨_, rfl⟩
  rw [hx] at C1; rw [hy] at C2; rw [hz] at C3
  rw [hx, hy, hz]
  clear hx hy hz
  have hU := (Blk.new w #[.int .i64 uk, .int .i64 un, .string us] 41).alloc (.cells #[.int .i64 vk, .int .i64 vn, .string vs] 41)
  have hV := Blk.new (w.alloc (.cells #[.int .i64 uk, .int .i64 un, .string us] 41)) #[.int .i64 vk, .int .i64 vn, .string vs] 41
  have hb : Below w.heap.size w ((w.alloc (.cells #[.int .i64 uk, .int .i64 un, .string us] 41)).alloc (.cells #[.int .i64 vk, .int .i64 vn, .string vs] 41)) := ((Below.refl _ _).alloc (Nat.le_refl _) _).alloc (by simp) _
  simp only [World.size_alloc] at hV
  go_enter Try.func18, Try.ntmps18
  go_wp2
  obtain ⟨W, hW⟩ : ∃ W, ((w.alloc (.cells #[.int .i64 uk, .int .i64 un, .string us] 41)).alloc (.cells #[.int .i64 vk, .int .i64 vn, .string vs] 41)) = W := ⟨_, rfl⟩
  rw [hW] at hU hV hb ⊢
  clear hW
  obtain ⟨c0, c1, c2, _, _, _⟩ := hU.val
  obtain ⟨d0, d1, d2, _, _, _⟩ := hV.val
  refine wp_region_still_tail 15 (by kernel_rfl) (by kernel_rfl) ?_
  simp only [List.take_succ_cons, List.take_zero, List.drop_succ_cons, List.drop_zero]
  change wpStill _ _ W.drew _ _ _
  still_step
  still_step
  still_step
  still_step
  still_call (C1.out _)
  still_step
  still_step
  still_step
  still_step
  still_call (C2.out _)
  still_step
  still_step
  still_step
  still_step
  still_call (C3.out _)
  refine wpStill_nil ?_
  change wpList _ _ _ _ _ W.drew
  have hN := Blk.new W.drew #[.int .i64 x, .int .i64 y, .int .i64 z] 3
  go_wp2_with fail
  refine (orInt_any x y z _ _ _ (hN.cell 0 rfl) (hN.cell 1 rfl) (hN.cell 2 rfl)).mono ?_
  rintro e w1 ⟨rfl, rfl⟩
  go_wp2_with fail
  go_ret
  exact ⟨rfl, hb.drew.alloc hb.size _⟩
set_option maxHeartbeats 1000000 in
theorem compareFunc_any (a b : List Vl) (va vb : Value) (w : World) (ha : RowAt w va a) (hb : RowAt w vb b) :
    Calls Try.prog 31 #[va, vb, .func (.func 18) #[] #[]] w (Ret (.int .i64 (ordL a b)) w) := by
  obtain ⟨ao, cap, rfl⟩ := ha.nil
  obtain ⟨bo, cap2, rfl⟩ := hb.nil
  have hsa := ha.small
  have hsb := hb.small
  go_enter Try.func31, Try.ntmps31
  go_wp2_with fail
  go_loopw [13] (fun i wr => ∃ k : Nat, k ≤ a.length ∧ k ≤ b.length ∧ i = .int .i64 k ∧ Below w.heap.size w wr ∧ Hid (ordL a b = ordL (a.drop k) (b.drop k))) (fun i _ => a.length - (intOf i).toNat)
  case atStart => exact ⟨0, Nat.zero_le _, Nat.zero_le _, rfl, Below.refl _ _, rfl⟩
  case round =>
    obtain ⟨k, hk, hkb, rfl, hbw, HQ⟩ := hrel
    by_cases hlt : k < a.length
    · obtain ⟨p, off, cap', hv2, c0, c1, c2⟩ := (ha.below hbw).get k hlt
      injection hv2 with h1 h2 h3
      subst h1
      subst h3
      obtain ⟨u, hu⟩ : ∃ u, a[k] = u := ⟨_, rfl⟩
      by_cases hlb : k < b.length
      · obtain ⟨p2, off2, cap2', hv3, d0, d1, d2⟩ := (hb.below hbw).get k hlb
        injection hv3 with h1 h2 h3
        subst h1
        subst h3
        obtain ⟨v, hv⟩ : ∃ v, b[k] = v := ⟨_, rfl⟩
        have HO := Lib.hid (fun W => order_any u v W)
        by_cases hz : ordV u v = 0
        · have HQ2 : Hid (ordL a b = ordL (a.drop (k + 1)) (b.drop (k + 1))) := by show _ = _; rw [HQ.out, ordL_skip hlt hlb (by rw [hu, hv]; exact hz)]
          rw [hu] at c0 c1 c2
          rw [hv] at d0 d1 d2
          rw [hz] at HO
          have AL : Obj := .cells #[.int .i64 u.k, .int .i64 u.n, .string u.s] 41
          have d0' := cell_alloc d0 (.cells #[.int .i64 u.k, .int .i64 u.n, .string u.s] 41)
          have d1' := cell_alloc d1 (.cells #[.int .i64 u.k, .int .i64 u.n, .string u.s] 41)
          have d2' := cell_alloc d2 (.cells #[.int .i64 u.k, .int .i64 u.n, .string u.s] 41)
          clear AL
          have hbw2 := (hbw.alloc hbw.size (.cells #[.int .i64 u.k, .int .i64 u.n, .string u.s] 41)).alloc (by have := hbw.size; simp; omega) (.cells #[.int .i64 v.k, .int .i64 v.n, .string v.s] 41)
          clear hz hu hv ha hb
          go_wp2_with fail
          refine (HO.out _).mono ?_
          rintro e w5 ⟨rfl, hb5⟩
          go_wp2_with fail
          go_roundw
          case rel => exact ⟨k + 1, by omega, by omega, by go_num, hbw2.next hb5, HQ2⟩
          case measure => simp [intOf]; omega
        · have HR : Hid (ordV u v = ordL a b) := by show _ = _; rw [HQ.out, ordL_here hlt hlb (by rw [hu, hv]; exact hz), hu, hv]
          rw [hu] at c0 c1 c2
          rw [hv] at d0 d1 d2
          rw [HR.out] at HO hz
          have hzb : (ordL a b == 0) = false := by rw [beq_eq_false_iff_ne]; exact hz
          have AL : Obj := .cells #[.int .i64 u.k, .int .i64 u.n, .string u.s] 41
          have d0' := cell_alloc d0 (.cells #[.int .i64 u.k, .int .i64 u.n, .string u.s] 41)
          have d1' := cell_alloc d1 (.cells #[.int .i64 u.k, .int .i64 u.n, .string u.s] 41)
          have d2' := cell_alloc d2 (.cells #[.int .i64 u.k, .int .i64 u.n, .string u.s] 41)
          clear AL
          have hbw2 := (hbw.alloc hbw.size (.cells #[.int .i64 u.k, .int .i64 u.n, .string u.s] 41)).alloc (by have := hbw.size; simp; omega) (.cells #[.int .i64 v.k, .int .i64 v.n, .string v.s] 41)
          clear hz hu hv ha hb
          go_wp2_with fail
          refine (HO.out _).mono ?_
          rintro e w5 ⟨rfl, hb5⟩
          go_wp2_with fail
          go_ret
          exact ⟨rfl, hbw2.next hb5⟩
      · have HR : Hid (ordL a b = 1) := by show _ = _; rw [HQ.out, ordL_more hlt hlb]
        have hge : decide ((b.length : Int) ≤ (k : Int)) = true := decide_eq_true (by omega)
        rw [hu] at c0 c1 c2
        rw [HR.out]
        clear ha hb
        go_wp2_with fail
        go_ret
        exact ⟨rfl, hbw.alloc hbw.size _⟩
    · by_cases hlb : k < b.length
      · have HR : Hid (ordL a b = -1) := by show _ = _; rw [HQ.out, ordL_less hlt hlb]
        have hll : decide ((a.length : Int) < (b.length : Int)) = true := decide_eq_true (by omega)
        clear ha hb
        go_wp2_with fail
        go_ret
        exact ⟨ret_int HR.out.symm, hbw⟩
      · have HR : Hid (ordL a b = 0) := by show _ = _; rw [HQ.out, ordL_both hlt hlb]
        have hll : decide ((a.length : Int) < (b.length : Int)) = false := decide_eq_false (by omega)
        clear ha hb
        go_wp2_with fail
        go_ret
        exact ⟨ret_int HR.out.symm, hbw⟩
theorem orders_any (a b : List Vl) (va vb : Value) (w : World) (ha : RowAt w va a) (hb : RowAt w vb b) :
    Calls Try.prog 16 #[va, vb] w (Ret (.int .i64 (ordL a b)) w) := by
  have HC := Lib.hid (compareFunc_any a b va vb w ha hb)
  obtain ⟨ao, cap, rfl⟩ := ha.nil
  obtain ⟨bo, cap2, rfl⟩ := hb.nil
  clear ha hb
  go_enter Try.func16, Try.ntmps16
  go_wp2_with fail
  refine HC.out.mono ?_
  rintro e w1 ⟨rfl, hb1⟩
  go_wp2_with fail
  go_ret
  exact ⟨rfl, hb1⟩
end Go.Proofs.Ytljdiakodpjkpaa
