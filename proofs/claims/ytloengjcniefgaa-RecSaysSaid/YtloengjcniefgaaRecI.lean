/- rec: the reader's num and text: what they answer. -/
import Derived.Test.YtloengjcniefgaaRecQ
import Derived.Test.YtloengjcniefgaaKitT
import Derived.Deep.CutRange
import Derived.Test.YtloengjcniefgaaKitW
namespace Go.Proofs.Ytloengjcniefgaa.Rec
set_option linter.unusedVariables false
set_option linter.unusedSimpArgs false
open Go.RowKit Go.Sort
open Oct (S beN putL U I getI sumN S_size S_data)
/-- A reader's cells. -/
abbrev rdC (s : ByteArray) (r : Rd) : Array Value := #[.string s, .int .i64 (r.1 : Nat), .bool r.2]
theorem Blk3 {W : World} {g : Nat} {T : TypeId} {x0 x1 x2 : Value} (h : Blk W g #[x0, x1, x2] T) :
    (W.cell? ⟨g, 0, none⟩ = some x0 ∧ W.cell? ⟨g, 1, none⟩ = some x1 ∧ W.cell? ⟨g, 2, none⟩ = some x2) ∧ W.frozen? ⟨g, 0, none⟩ = false ∧ W.frozen? ⟨g, 1, none⟩ = false ∧ W.frozen? ⟨g, 2, none⟩ = false :=
  ⟨⟨h.cell 0 rfl, h.cell 1 rfl, h.cell 2 rfl⟩, h.free 0, h.free 1, h.free 2⟩
set_option maxHeartbeats 2000000 in
set_option maxRecDepth 100000 in
theorem num_any (l : List UInt8) (s : ByteArray) (hsl : S l = s) (p : Rd) (k : Nat) (sz : Int) (hk : sz = k) (g : Nat) (w : World) (hR : Blk w g (rdC s p) 56) (hk6 : k ≤ 8) (hl : l.length ≤ 1000000) (ha : p.1 ≤ 4000000) :
    Calls Try.prog 56 #[.pointer (some ⟨g, 0, none⟩), .int .i64 sz] w fun e w' => e = .returned (.int .i64 (numF l p k).1) ∧ Blk w' g (rdC s (numF l p k).2) 56 ∧ w.grownBy w' (some g) := by
  obtain ⟨a, b⟩ := p
  subst hk
  have HF : Hid (numF l (a, b) k = ((getR l (a : Nat) (k : Nat)).1, (a + k, (b || !(getR l (a : Nat) (k : Nat)).2)))) := rfl
  have HG := Lib.hid (fun W => get_any s (a : Nat) (k : Nat) W (by rw [← hsl, S_size]; unfold maxLen; omega) (WalkArith.wf_i64 (by omega)) (WalkArith.wf_i64 (by omega)))
  rw [← hsl] at HG
  simp only [S_data] at HG
  rw [hsl] at HG
  obtain ⟨q, hq⟩ : ∃ q, numF l (a, b) k = q := ⟨_, rfl⟩
  obtain ⟨⟨n, o⟩, hr⟩ : ∃ r, getR l (a : Nat) (k : Nat) = r := ⟨_, rfl⟩
  rw [hq] at HF ⊢
  rw [hr] at HF HG
  simp only at HG ha
  clear hq hr hsl
  obtain ⟨⟨c0, c1, c2⟩, f0, f1, f2⟩ := Blk3 hR
  have e0 : ∀ p : Regrown, (grow (redrawn w p.d) p.os).cell? ⟨g, 0, none⟩ = some (.string s) := fun q => cell_regrown c0 q.d q.os
  have e1 : ∀ p : Regrown, (grow (redrawn w p.d) p.os).cell? ⟨g, 1, none⟩ = some (.int .i64 (a : Nat)) := fun q => cell_regrown c1 q.d q.os
  clear c0 c1 c2 f0 f1 f2
  replace hR := Lib.hid hR
  go_enter Try.func56, Try.ntmps56
  go_upto_region 1 with fail
  refine wp_region_quiet_below (by kernel_rfl) (by kernel_rfl) ?_
  repeat (go_big_quiet_step (first | (go_at_call 23; with_reducible exact Ret.regrown (HG.out _))))
  refine wpQuiet_nil ?_
  intro w5 hw5
  have hb5 := below_of_regrown hw5
  have hR5 := hR.out.below hb5
  clear hw5 e0 e1 hR HG
  obtain ⟨⟨c0, c1, c2⟩, f0, f1, f2⟩ := Blk3 hR5
  have hgr : w.grownBy w5 (some g) := grownBy_below hb5 _
  have hfin : ∀ v, Blk ((w5.setCell ⟨g, 1, none⟩ (.int .i64 ((a : Int) + (k : Int)))).setCell ⟨g, 2, none⟩ (.bool v)) g #[.string s, .int .i64 ((a : Int) + (k : Int)), .bool v] 56 ∧ w.grownBy ((w5.setCell ⟨g, 1, none⟩ (.int .i64 ((a : Int) + (k : Int)))).setCell ⟨g, 2, none⟩ (.bool v)) (some g) := fun v =>
    ⟨by have := (hR5.set 1 (.int .i64 ((a : Int) + (k : Int)))).set 2 (.bool v); simpa using this, (hgr.trans (grownBy_set w5 g 1 _)).trans (grownBy_set _ g 2 _)⟩
  have HFIN := Lib.hid hfin
  clear hfin hgr hb5 hR5
  cases b with
  | true =>
    go_wp2_with fail
    go_ret
    obtain ⟨h1, h2⟩ := HFIN.out true
    have hc : ((a + k : Nat) : Int) = (a : Int) + k := by omega
    exact ⟨by rw [HF.out]; rfl, by rw [HF.out]; show Blk _ _ #[.string s, .int .i64 ((a + k : Nat) : Int), .bool _] _; rw [hc]; exact h1, h2⟩
  | false =>
    cases o with
    | true =>
      go_wp2_with fail
      go_ret
      obtain ⟨h1, h2⟩ := HFIN.out false
      have hc : ((a + k : Nat) : Int) = (a : Int) + k := by omega
      exact ⟨by rw [HF.out]; rfl, by rw [HF.out]; show Blk _ _ #[.string s, .int .i64 ((a + k : Nat) : Int), .bool _] _; rw [hc]; exact h1, h2⟩
    | false =>
      go_wp2_with fail
      go_ret
      obtain ⟨h1, h2⟩ := HFIN.out true
      have hc : ((a + k : Nat) : Int) = (a : Int) + k := by omega
      exact ⟨by rw [HF.out]; rfl, by rw [HF.out]; show Blk _ _ #[.string s, .int .i64 ((a + k : Nat) : Int), .bool _] _; rw [hc]; exact h1, h2⟩
set_option maxHeartbeats 2000000 in
set_option maxRecDepth 100000 in
theorem text_any (l : List UInt8) (s : ByteArray) (hsl : S l = s) (p : Rd) (g : Nat) (w : World) (hR : Blk w g (rdC s p) 56) (hl : l.length ≤ 1000000) (ha : p.1 ≤ 4000000) :
    Calls Try.prog 57 #[.pointer (some ⟨g, 0, none⟩)] w fun e w' => e = .returned (.string (S (textF l p).1)) ∧ Blk w' g (rdC s (textF l p).2) 56 ∧ w.grownBy w' (some g) := by
  obtain ⟨a, b⟩ := p
  have HF : Hid (textF l (a, b) = if (textR l (a : Nat)).2.2 then ((textR l (a : Nat)).1, ((textR l (a : Nat)).2.1.toNat, b)) else ([], (a, true))) := rfl
  have HG := Lib.hid (fun W => gettext_any s (a : Nat) W (by rw [← hsl, S_size]; unfold maxLen; omega) (WalkArith.wf_i64 (by omega)))
  rw [← hsl] at HG
  simp only [S_data] at HG
  rw [hsl] at HG
  obtain ⟨q, hq⟩ : ∃ q, textF l (a, b) = q := ⟨_, rfl⟩
  have hnn : 0 ≤ (textR l (a : Nat)).2.1 := by unfold textR; split <;> simp <;> omega
  obtain ⟨⟨t, m, o⟩, hr⟩ : ∃ r, textR l (a : Nat) = r := ⟨_, rfl⟩
  rw [hq] at HF ⊢
  rw [hr] at HF HG hnn
  simp only at HG ha hnn
  obtain ⟨m, rfl⟩ := Int.eq_ofNat_of_zero_le hnn
  obtain ⟨st, hst⟩ : ∃ st, S t = st := ⟨_, rfl⟩
  rw [hst] at HG
  have HST := Lib.hid hst
  clear hq hr hsl hst hnn
  obtain ⟨⟨c0, c1, c2⟩, f0, f1, f2⟩ := Blk3 hR
  have e0 : ∀ p : Regrown, (grow (redrawn w p.d) p.os).cell? ⟨g, 0, none⟩ = some (.string s) := fun q => cell_regrown c0 q.d q.os
  have e1 : ∀ p : Regrown, (grow (redrawn w p.d) p.os).cell? ⟨g, 1, none⟩ = some (.int .i64 (a : Nat)) := fun q => cell_regrown c1 q.d q.os
  clear c0 c1 c2 f0 f1 f2
  replace hR := Lib.hid hR
  go_enter Try.func57, Try.ntmps57
  go_upto_region 1 with fail
  refine wp_region_quiet_below (by kernel_rfl) (by kernel_rfl) ?_
  repeat (go_big_quiet_step (first | (go_at_call 73; with_reducible exact Ret.regrown (HG.out _))))
  refine wpQuiet_nil ?_
  intro w5 hw5
  have hb5 := below_of_regrown hw5
  have hR5 := hR.out.below hb5
  clear hw5 e0 e1 hR HG
  obtain ⟨⟨c0, c1, c2⟩, f0, f1, f2⟩ := Blk3 hR5
  have hgr : w.grownBy w5 (some g) := grownBy_below hb5 _
  have hfin1 : Blk (w5.setCell ⟨g, 1, none⟩ (.int .i64 (m : Int))) g #[.string s, .int .i64 (m : Int), .bool b] 56 ∧ w.grownBy (w5.setCell ⟨g, 1, none⟩ (.int .i64 (m : Int))) (some g) :=
    ⟨by have := hR5.set 1 (.int .i64 (m : Int)); simpa using this, hgr.trans (grownBy_set w5 g 1 _)⟩
  have hfin2 : Blk (w5.setCell ⟨g, 2, none⟩ (.bool true)) g #[.string s, .int .i64 (a : Int), .bool true] 56 ∧ w.grownBy (w5.setCell ⟨g, 2, none⟩ (.bool true)) (some g) :=
    ⟨by have := hR5.set 2 (.bool true); simpa using this, hgr.trans (grownBy_set w5 g 2 _)⟩
  have HFIN1 := Lib.hid hfin1
  have HFIN2 := Lib.hid hfin2
  clear hfin1 hfin2 hgr hb5 hR5
  cases o with
  | true =>
    go_wp2_with fail
    go_ret
    exact ⟨ret_str (by rw [HF.out, if_pos trivial, HST.out]), by rw [HF.out, if_pos trivial]; exact HFIN1.out.1, HFIN1.out.2⟩
  | false =>
    go_wp2_with fail
    go_ret
    exact ⟨ret_str (by rw [HF.out, if_neg (by simp)]; try rfl), by rw [HF.out, if_neg (by simp)]; exact HFIN2.out.1, HFIN2.out.2⟩
end Go.Proofs.Ytloengjcniefgaa.Rec
