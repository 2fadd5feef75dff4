/- The reference's reader: num, text, op: what they answer. The reference's reader: whole rows stored and loaded in one step; op. The reference's reader: change. The reference's reader: its lists: the loops' states. The reference's reader: check. The reference: read: the record that a body may be. -/
import Derived.Test.YtloengjcniefgaaRecI
import Derived.Test.YtloengjcniefgaaRecJ
import Derived.Test.YtloengjcniefgaaRecLt
import Derived.Deep.RegionLaw
namespace Go.Proofs.Ytloengjcniefgaa.Rec
set_option linter.unusedVariables false
set_option linter.unusedSimpArgs false
open Go.RowKit Go.Sort
open Oct (S beN putL U I getI sumN S_size S_data)
set_option maxHeartbeats 2000000 in
set_option maxRecDepth 100000 in
theorem rnum_any (l : List UInt8) (s : ByteArray) (hsl : S l = s) (p : Rd) (k : Nat) (sz : Int) (hk : sz = k) (g : Nat) (w : World) (hR : Blk w g (rdC s p) 95) (hk6 : k ≤ 8) (hl : l.length ≤ 1000000) (ha : p.1 ≤ 4000000) :
    Calls Try.prog 59 #[.pointer (some ⟨g, 0, none⟩), .int .i64 sz] w fun e w' => e = .returned (.int .i64 (rnumF l p k).1) ∧ Blk w' g (rdC s (rnumF l p k).2) 95 ∧ w.grownBy w' (some g) := by
  obtain ⟨a, b⟩ := p
  subst hk
  have HF : Hid (rnumF l (a, b) k = if (getR l (a : Nat) (k : Nat)).2 then ((getR l (a : Nat) (k : Nat)).1, (a + k, b)) else (0, (a, true))) := rfl
  have HG := Lib.hid (fun W => (rget_any s (a : Nat) (k : Nat) W (by rw [← hsl, S_size]; unfold maxLen; omega) (WalkArith.wf_i64 (by omega)) (WalkArith.wf_i64 (by omega))).mono fun e w' h => (⟨h.1, h.2 ▸ Below.refl _ _⟩ : Ret _ W e w'))
  rw [← hsl] at HG
  simp only [S_data] at HG
  rw [hsl] at HG
  obtain ⟨q, hq⟩ : ∃ q, rnumF l (a, b) k = q := ⟨_, rfl⟩
  obtain ⟨⟨n, o⟩, hr⟩ : ∃ r, getR l (a : Nat) (k : Nat) = r := ⟨_, rfl⟩
  rw [hq] at HF ⊢
  rw [hr] at HF HG
  simp only at HG ha
  clear hq hr hsl
  obtain ⟨⟨c0, c1, c2⟩, f0, f1, f2⟩ := Blk3 hR
  have e0 : ∀ p : Regrown, (grow (redrawn w p.d) p.os).cell? ⟨g, 0, none⟩ = some (.string s) := fun q => cell_regrown c0 q.d q.os
  have e1 : ∀ p : Regrown, (grow (redrawn w p.d) p.os).cell? ⟨g, 1, none⟩ = some (.int .i64 (a : Nat)) := fun q => cell_regrown c1 q.d q.os
  clear c0 c1 c2 f0 f1 f2
  replace hR := Lib.hid hR
  go_enter Try.func59, Try.ntmps59
  go_upto_region 1 with fail
  refine wp_region_quiet_below (by kernel_rfl) (by kernel_rfl) ?_
  repeat (go_big_quiet_step (first | (go_at_call 26; with_reducible exact Ret.regrown (HG.out _))))
  refine wpQuiet_nil ?_
  intro w5 hw5
  have hb5 := below_of_regrown hw5
  have hR5 := hR.out.below hb5
  clear hw5 e0 e1 hR HG
  obtain ⟨⟨c0, c1, c2⟩, f0, f1, f2⟩ := Blk3 hR5
  have hgr : w.grownBy w5 (some g) := grownBy_below hb5 _
  have hfin1 : Blk (w5.setCell ⟨g, 1, none⟩ (.int .i64 ((a : Int) + (k : Int)))) g #[.string s, .int .i64 ((a : Int) + (k : Int)), .bool b] 95 ∧ w.grownBy (w5.setCell ⟨g, 1, none⟩ (.int .i64 ((a : Int) + (k : Int)))) (some g) :=
    ⟨by have := hR5.set 1 (.int .i64 ((a : Int) + (k : Int))); simpa using this, hgr.trans (grownBy_set w5 g 1 _)⟩
  have hfin2 : Blk (w5.setCell ⟨g, 2, none⟩ (.bool true)) g #[.string s, .int .i64 (a : Int), .bool true] 95 ∧ w.grownBy (w5.setCell ⟨g, 2, none⟩ (.bool true)) (some g) :=
    ⟨by have := hR5.set 2 (.bool true); simpa using this, hgr.trans (grownBy_set w5 g 2 _)⟩
  have HFIN1 := Lib.hid hfin1
  have HFIN2 := Lib.hid hfin2
  clear hfin1 hfin2 hgr hb5 hR5
  cases o with
  | true =>
    go_wp2_with fail
    go_ret
    obtain ⟨h1, h2⟩ := HFIN1.out
    have hc : ((a + k : Nat) : Int) = (a : Int) + k := by omega
    exact ⟨by rw [HF.out, if_pos trivial]; rfl, by rw [HF.out, if_pos trivial]; show Blk _ _ #[.string s, .int .i64 ((a + k : Nat) : Int), .bool _] _; rw [hc]; exact h1, h2⟩
  | false =>
    go_wp2_with fail
    go_ret
    exact ⟨by rw [HF.out, if_neg (by simp)]; rfl, by rw [HF.out, if_neg (by simp)]; exact HFIN2.out.1, HFIN2.out.2⟩
set_option maxHeartbeats 2000000 in
set_option maxRecDepth 100000 in
theorem rtext_any (l : List UInt8) (s : ByteArray) (hsl : S l = s) (p : Rd) (g : Nat) (w : World) (hR : Blk w g (rdC s p) 95) (hl : l.length ≤ 1000000) (ha : p.1 ≤ 4000000) :
    Calls Try.prog 74 #[.pointer (some ⟨g, 0, none⟩)] w fun e w' => e = .returned (.string (S (textF l p).1)) ∧ Blk w' g (rdC s (textF l p).2) 95 ∧ w.grownBy w' (some g) := by
  obtain ⟨a, b⟩ := p
  have HF : Hid (textF l (a, b) = if (textR l (a : Nat)).2.2 then ((textR l (a : Nat)).1, ((textR l (a : Nat)).2.1.toNat, b)) else ([], (a, true))) := rfl
  have HG := Lib.hid (fun W => rgettext_any s (a : Nat) W (by rw [← hsl, S_size]; unfold maxLen; omega) (WalkArith.wf_i64 (by omega)))
  rw [← hsl] at HG
  simp only [S_data] at HG
  rw [hsl] at HG
  obtain ⟨q, hq⟩ : ∃ q, textF l (a, b) = q := ⟨_, rfl⟩
  have hnn : 0 ≤ (textR l (a : Nat)).2.1 := by unfold textR; split <;> simp <;> omega
  obtain ⟨⟨t, m, o⟩, hr⟩ : ∃ r, textR l (a : Nat) = r := ⟨_, rfl⟩
  rw [hq] at HF ⊢
  rw [hr] at HF HG hnn
  simp only at HG ha hnn
  obtain ⟨m, rfl⟩ := Int.eq_ofNat_of_zero_le hnn
  obtain ⟨st, hst⟩ : ∃ st, S t = st := ⟨_, rfl⟩
  rw [hst] at HG
  have HST := Lib.hid hst
  clear hq hr hsl hst hnn
  obtain ⟨⟨c0, c1, c2⟩, f0, f1, f2⟩ := Blk3 hR
  have e0 : ∀ p : Regrown, (grow (redrawn w p.d) p.os).cell? ⟨g, 0, none⟩ = some (.string s) := fun q => cell_regrown c0 q.d q.os
  have e1 : ∀ p : Regrown, (grow (redrawn w p.d) p.os).cell? ⟨g, 1, none⟩ = some (.int .i64 (a : Nat)) := fun q => cell_regrown c1 q.d q.os
  clear c0 c1 c2 f0 f1 f2
  replace hR := Lib.hid hR
  go_enter Try.func74, Try.ntmps74
  go_upto_region 1 with fail
  refine wp_region_quiet_below (by kernel_rfl) (by kernel_rfl) ?_
  repeat (go_big_quiet_step (first | (go_at_call 78; with_reducible exact Ret.regrown (HG.out _))))
  refine wpQuiet_nil ?_
  intro w5 hw5
  have hb5 := below_of_regrown hw5
  have hR5 := hR.out.below hb5
  clear hw5 e0 e1 hR HG
  obtain ⟨⟨c0, c1, c2⟩, f0, f1, f2⟩ := Blk3 hR5
  have hgr : w.grownBy w5 (some g) := grownBy_below hb5 _
  have hfin1 : Blk (w5.setCell ⟨g, 1, none⟩ (.int .i64 (m : Int))) g #[.string s, .int .i64 (m : Int), .bool b] 95 ∧ w.grownBy (w5.setCell ⟨g, 1, none⟩ (.int .i64 (m : Int))) (some g) :=
    ⟨by have := hR5.set 1 (.int .i64 (m : Int)); simpa using this, hgr.trans (grownBy_set w5 g 1 _)⟩
  have hfin2 : Blk (w5.setCell ⟨g, 2, none⟩ (.bool true)) g #[.string s, .int .i64 (a : Int), .bool true] 95 ∧ w.grownBy (w5.setCell ⟨g, 2, none⟩ (.bool true)) (some g) :=
    ⟨by have := hR5.set 2 (.bool true); simpa using this, hgr.trans (grownBy_set w5 g 2 _)⟩
  have HFIN1 := Lib.hid hfin1
  have HFIN2 := Lib.hid hfin2
  clear hfin1 hfin2 hgr hb5 hR5
  cases o with
  | true =>
    go_wp2_with fail
    go_ret
    exact ⟨ret_str (by rw [HF.out, if_pos trivial, HST.out]), by rw [HF.out, if_pos trivial]; exact HFIN1.out.1, HFIN1.out.2⟩
  | false =>
    go_wp2_with fail
    go_ret
    exact ⟨ret_str (by rw [HF.out, if_neg (by simp)]; try rfl), by rw [HF.out, if_neg (by simp)]; exact HFIN2.out.1, HFIN2.out.2⟩
end Go.Proofs.Ytloengjcniefgaa.Rec
namespace Go.Proofs.Ytloengjcniefgaa.Rec
set_option linter.unusedVariables false
set_option linter.unusedSimpArgs false
open Go.RowKit Go.Sort
open Oct (S beN putL U I getI sumN S_size S_data)
/-- A whole row of type T is stored, in one step. -/
theorem wpList_storeB {ops : Array Oper} {rest : List Oper} {op : Oper} {a : Act} {W : World} {Q : Exit → Act → World → Prop} {g : Nat} {zs cs : Array Value} {T : TypeId} {n : Nat} (h : Blk W g zs T) (hz : zs.size = n) (hc : cs.size = n)
    (hT : (Try.prog.info? T).map (·.size) = some n) (h1 : cs.all (·.oneCell') = true) (hgd : op.guard = none) (x y : Operand) (ho : op.op = .store T x y) (hx : a.eval x = .pointer (some ⟨g, 0, none⟩)) (hy : a.eval y = .agg cs)
    (hn : ∀ W', Blk W' g cs T → W.grownBy W' (some g) → wpList Try.prog ops Q rest (a.put op.dst undef) W') : wpList Try.prog ops Q (op :: rest) a W := by
  refine wpList_store_row hgd T x y ho g cs hx hy T zs h (by rw [hc]; exact hT) (by rw [hz, hc]) h1 (hn _ ?_ ?_)
  · exact setRow_heap _ _ zs _ _ _ h
  · refine ⟨rfl, rfl, rfl, by simp, fun k hk hne => ?_⟩
    exact setRow_other _ _ _ _ (fun e => hne (by rw [e]))
/-- A whole row of type T is loaded, in one step. -/
theorem wpList_loadB {ops : Array Oper} {rest : List Oper} {op : Oper} {a : Act} {W : World} {Q : Exit → Act → World → Prop} {g : Nat} {T T2 : TypeId} {cs : Array Value} {d : TypeDesc} {n : Nat} (h : Blk W g cs T2)
    (hu : Try.prog.underlying T = some d) (hd : d.isRow = true) (hc : cs.size = n) (hT : (Try.prog.info? T).map (·.size) = some n)
    (hw : Region.wanted op (yielded ops a.tmps) = true) (x : Operand) (ho : op.op = .load T x) (hx : a.eval x = .pointer (some ⟨g, 0, none⟩))
    (hn : wpList Try.prog ops Q rest (a.put op.dst (.agg cs)) W) : wpList Try.prog ops Q (op :: rest) a W := by
  refine wpList_step fun K hK => ?_
  rw [if_pos hw]
  exact wp_load_mid T x ho g 0 hx cs.toList _ (fun j v hj => by
    rw [Nat.zero_add]
    exact h.cell j (by simpa using hj)) hu hd (by simpa [hc] using hT) (hK _ _ hn)
theorem blk_val {W : World} {g : Nat} {T T2 : TypeId} {cs : Array Value} {d : TypeDesc} {n : Nat} (h : Blk W g cs T2) (hu : Try.prog.underlying T = some d) (hd : d.isRow = true) (hc : cs.size = n) (hT : (Try.prog.info? T).map (·.size) = some n) : (loadVar T ⟨g, 0, none⟩).run Try.prog W = .ok (.agg cs) W := by
  have := run_loadVar_mid (P := Try.prog) W g 0 T cs.toList _ (fun j v hj => by
    rw [Nat.zero_add]
    exact h.cell j (by simpa using hj)) hu hd (by simpa [hc] using hT)
  simpa using this
theorem size_op : (Try.prog.info? 23).map (·.size) = some 4 := by kernel_rfl
theorem rnumF_le (l : List UInt8) (p : Rd) (k m : Nat) (hp : p.1 ≤ m) (hk : k ≤ 8) : (rnumF l p k).2.1 ≤ m + 8 := by
  unfold rnumF
  split
  · show p.1 + k ≤ _
    omega
  · show p.1 ≤ _
    omega
/-- The reference's reading call's state: the reader (block g), the result's variable, the record so far. -/
structure RJ (w W : World) (g gr gx : Nat) (l : List UInt8) (s : ByteArray) (p : Rd) (m : Nat) (T : TypeId) (zs xs : Array Value) : Prop where
  rd : Blk W g (rdC s p) 95
  res : Blk W gr zs T
  x : Blk W gx xs T
  fr : w.grownBy W (some g)
  h1 : w.heap.size ≤ gr
  h2 : w.heap.size ≤ gx
  n1 : g ≠ gr
  n2 : g ≠ gx
  n3 : gr ≠ gx
  le : p.1 ≤ m
  hsl : S l = s
  hl : l.length ≤ 1000000
variable {w W : World} {g gr gx m : Nat} {l : List UInt8} {s : ByteArray} {p : Rd} {T : TypeId} {zs xs : Array Value}
theorem RJ.grown (h : RJ w W g gr gx l s p m T zs xs) {w' : World} {q : Rd} {m2 : Nat} (h1 : Blk w' g (rdC s q) 95) (h2 : W.grownBy w' (some g)) (h3 : q.1 ≤ m2) : RJ w w' g gr gx l s q m2 T zs xs :=
  ⟨h1, h.res.grown h2 (by intro e; injection e with e; exact h.n1 e.symm), h.x.grown h2 (by intro e; injection e with e; exact h.n2 e.symm), h.fr.trans h2, h.h1, h.h2, h.n1, h.n2, h.n3, h3, h.hsl, h.hl⟩
theorem RJ.num (h : RJ w W g gr gx l s p m T zs xs) (hm : m ≤ 4000000) (k : Nat) (sz : Int) (hk : sz = k) (h8 : k ≤ 8) (q : Int × Rd) (hq : rnumF l p k = q) :
    Calls Try.prog 59 #[.pointer (some ⟨g, 0, none⟩), .int .i64 sz] W fun e w' => e = .returned (.int .i64 q.1) ∧ RJ w w' g gr gx l s q.2 (m + 8) T zs xs ∧ W.grownBy w' (some g) := by
  subst hq
  have hle := h.le
  refine (rnum_any l s h.hsl p k sz hk g W h.rd h8 h.hl (by omega)).mono ?_
  rintro e w' ⟨he, h1, h2⟩
  exact ⟨he, h.grown h1 h2 (rnumF_le l p k m hle h8), h2⟩
theorem RJ.text (h : RJ w W g gr gx l s p m T zs xs) (hm : m ≤ 4000000) (q : List UInt8 × Rd) (hq : textF l p = q) (t : ByteArray) (ht : S q.1 = t) :
    Calls Try.prog 74 #[.pointer (some ⟨g, 0, none⟩)] W fun e w' => e = .returned (.string t) ∧ RJ w w' g gr gx l s q.2 (m + 1000000) T zs xs ∧ W.grownBy w' (some g) := by
  subst hq
  have hle := h.le
  refine (rtext_any l s h.hsl p g W h.rd h.hl (by omega)).mono ?_
  rintro e w' ⟨he, h1, h2⟩
  exact ⟨by rw [← ht]; exact he, h.grown h1 h2 (textF_le l p m hle h.hl), h2⟩
theorem RJ.setX (h : RJ w W g gr gx l s p m T zs xs) (o : Nat) (v : Value) : RJ w (W.setCell ⟨gx, o, none⟩ v) g gr gx l s p m T zs (xs.setIfInBounds o v) :=
  ⟨h.rd.other (a := ⟨gx, o, none⟩) (by show g ≠ gx; exact h.n2) v, h.res.other (a := ⟨gx, o, none⟩) (by show gr ≠ gx; exact h.n3) v, h.x.set o v,
    grownBy_setNew h.fr (by show w.heap.size ≤ gx; exact h.h2) v, h.h1, h.h2, h.n1, h.n2, h.n3, h.le, h.hsl, h.hl⟩
theorem RJ.alloc (h : RJ w W g gr gx l s p m T zs xs) (o : Obj) : RJ w (W.alloc o) g gr gx l s p m T zs xs :=
  ⟨h.rd.alloc o, h.res.alloc o, h.x.alloc o, grownBy_new h.fr o, h.h1, h.h2, h.n1, h.n2, h.n3, h.le, h.hsl, h.hl⟩
theorem RJ.drew (h : RJ w W g gr gx l s p m T zs xs) : RJ w W.drew g gr gx l s p m T zs xs :=
  ⟨h.rd, h.res, h.x, h.fr.trans (grownBy_drewN W 1 _), h.h1, h.h2, h.n1, h.n2, h.n3, h.le, h.hsl, h.hl⟩
theorem RJ.lower (h : RJ w W g gr gx l s p m T zs xs) {m2 : Nat} (hm : p.1 ≤ m2) : RJ w W g gr gx l s p m2 T zs xs :=
  ⟨h.rd, h.res, h.x, h.fr, h.h1, h.h2, h.n1, h.n2, h.n3, hm, h.hsl, h.hl⟩
theorem RJ.start {w W : World} {g gr gx : Nat} {l : List UInt8} {s : ByteArray} {p : Rd} {T : TypeId} {zs xs : Array Value} (m : Nat) (rd : Blk W g (rdC s p) 95) (res : Blk W gr zs T) (x : Blk W gx xs T) (fr : w.grownBy W (some g)) (h1 : w.heap.size ≤ gr) (h2 : w.heap.size ≤ gx) (n1 : g ≠ gr) (n2 : g ≠ gx) (n3 : gr ≠ gx) (le : p.1 ≤ m) (hsl : S l = s) (hl : l.length ≤ 1000000) : RJ w W g gr gx l s p m T zs xs := ⟨rd, res, x, fr, h1, h2, n1, n2, n3, le, hsl, hl⟩
theorem Blk4 {W : World} {g : Nat} {T : TypeId} {x0 x1 x2 x3 : Value} (h : Blk W g #[x0, x1, x2, x3] T) :
    (W.cell? ⟨g, 0, none⟩ = some x0 ∧ W.cell? ⟨g, 1, none⟩ = some x1 ∧ W.cell? ⟨g, 2, none⟩ = some x2 ∧ W.cell? ⟨g, 3, none⟩ = some x3) ∧ W.frozen? ⟨g, 0, none⟩ = false ∧ W.frozen? ⟨g, 1, none⟩ = false ∧ W.frozen? ⟨g, 2, none⟩ = false ∧ W.frozen? ⟨g, 3, none⟩ = false :=
  ⟨⟨h.cell 0 rfl, h.cell 1 rfl, h.cell 2 rfl, h.cell 3 rfl⟩, h.free 0, h.free 1, h.free 2, h.free 3⟩
theorem grownBy_own {w w1 w2 : World} {r : Option Nat} {gr : Nat} (h : w.grownBy w1 r) (h2 : w1.grownBy w2 (some gr)) (hg : w.heap.size ≤ gr) : w.grownBy w2 r :=
  ⟨h2.os.trans h.os, h2.tape.trans h.tape, h2.output.trans h.output, Nat.le_trans h.size h2.size, fun k hk hne => (h2.block k (Nat.lt_of_lt_of_le hk h.size) (by intro e; injection e with e; omega)).trans (h.block k hk hne)⟩
/-- What op reads. -/
def ropF (l : List UInt8) (p : Rd) : Int × Int × List UInt8 × List UInt8 × Rd :=
  ((rnumF l p 1).1, (rnumF l (rnumF l p 1).2 2).1, (textF l (rnumF l (rnumF l p 1).2 2).2).1, (textF l (textF l (rnumF l (rnumF l p 1).2 2).2).2).1, (textF l (textF l (rnumF l (rnumF l p 1).2 2).2).2).2)
set_option maxHeartbeats 4000000 in
set_option maxRecDepth 100000 in
theorem rop_any (l : List UInt8) (s : ByteArray) (hsl : S l = s) (p : Rd) (g : Nat) (w : World) (hR : Blk w g (rdC s p) 95) (hl : l.length ≤ 1000000) (ha : p.1 ≤ 1000000) (q : Int × Int × List UInt8 × List UInt8 × Rd) (hq : ropF l p = q) :
    Calls Try.prog 61 #[.pointer (some ⟨g, 0, none⟩)] w fun e w' => e = .returned (.agg #[.int .i64 q.1, .int .i64 q.2.1, .string (S q.2.2.1), .string (S q.2.2.2.1)]) ∧ Blk w' g (rdC s q.2.2.2.2) 95 ∧ w.grownBy w' (some g) ∧ q.2.2.2.2.1 ≤ 3000016 := by
  subst hq
  have HF : Hid (ropF l p = ((rnumF l p 1).1, (rnumF l (rnumF l p 1).2 2).1, (textF l (rnumF l (rnumF l p 1).2 2).2).1, (textF l (textF l (rnumF l (rnumF l p 1).2 2).2).2).1, (textF l (textF l (rnumF l (rnumF l p 1).2 2).2).2).2)) := rfl
  obtain ⟨R, hRR⟩ : ∃ R, ropF l p = R := ⟨_, rfl⟩
  rw [hRR] at HF ⊢
  clear hRR
  have hlt := hR.lt
  have hRa := hR.alloc (.cells #[.int .i64 0, .int .i64 0, .string ⟨#[]⟩, .string ⟨#[]⟩] 23)
  have hRes := Blk.new w #[.int .i64 0, .int .i64 0, .string ⟨#[]⟩, .string ⟨#[]⟩] 23
  have hfr := grownBy_new (show w.grownBy w (some g) from ⟨rfl, rfl, rfl, Nat.le_refl _, fun _ _ _ => rfl⟩) (.cells #[.int .i64 0, .int .i64 0, .string ⟨#[]⟩, .string ⟨#[]⟩] 23)
  obtain ⟨gr, HGR⟩ : ∃ x, Hid (w.heap.size = x) := ⟨_, rfl⟩
  have hrw : w.heap.size ≤ gr := by rw [← HGR.out]; omega
  have hgw : w.heap.size = gr := HGR.out
  have hngr : g ≠ gr := by omega
  rw [HGR.out] at hRes
  obtain ⟨⟨n1, p1⟩, hq1⟩ : ∃ q, rnumF l p 1 = q := ⟨_, rfl⟩
  rw [hq1] at HF
  obtain ⟨⟨n2, p2⟩, hq2⟩ : ∃ q, rnumF l p1 2 = q := ⟨_, rfl⟩
  rw [hq2] at HF
  obtain ⟨⟨t3, p3⟩, hq3⟩ : ∃ q, textF l p2 = q := ⟨_, rfl⟩
  rw [hq3] at HF
  obtain ⟨⟨t4, p4⟩, hq4⟩ : ∃ q, textF l p3 = q := ⟨_, rfl⟩
  rw [hq4] at HF
  simp only at HF
  have hp1 : p1.1 ≤ 1000008 := by have := rnumF_le l p 1 1000000 ha (by omega); rwa [hq1] at this
  have hp2 : p2.1 ≤ 1000016 := by have := rnumF_le l p1 2 1000008 hp1 (by omega); rwa [hq2] at this
  obtain ⟨s3, hs3⟩ : ∃ x, S t3 = x := ⟨_, rfl⟩
  obtain ⟨s4, hs4⟩ : ∃ x, S t4 = x := ⟨_, rfl⟩
  have HN1 := Lib.hid (fun W hW => rnum_any l s hsl p 1 1 rfl g W hW (by omega) hl (by omega))
  have HN2 := Lib.hid (fun W hW => rnum_any l s hsl p1 2 2 rfl g W hW (by omega) hl (by omega))
  rw [hq1] at HN1
  rw [hq2] at HN2
  have HH := Lib.hid (And.intro hs3 hs4)
  have HQ3 := Lib.hid hq3
  have HQ4 := Lib.hid hq4
  clear hq1 hq2 hq3 hq4 hs3 hs4 hgw
  go_enter Try.func61, Try.ntmps61
  go_upto_region 1 with fail
  rw [HGR.out]
  generalize (w.alloc (.cells #[.int .i64 0, .int .i64 0, .string ⟨#[]⟩, .string ⟨#[]⟩] 23)) = W0 at hRa hRes hfr ⊢
  replace hRa := Lib.hid hRa
  replace hRes := Lib.hid hRes
  replace hfr := Lib.hid hfr
  clear HGR hR
  go_wp2_with fail
  refine (HN1.out _ hRa.out).mono ?_
  rintro e w1 ⟨rfl, hR1, hg1⟩
  have hRes1 := hRes.out.grown hg1 (by intro e; injection e with e; exact hngr e.symm)
  have hfr1 := hfr.out.trans hg1
  clear hRa hRes hfr hg1 HN1
  replace hR1 := Lib.hid hR1
  replace hRes1 := Lib.hid hRes1
  replace hfr1 := Lib.hid hfr1
  go_wp2_with fail
  refine (HN2.out _ hR1.out).mono ?_
  rintro e w2 ⟨rfl, hR2, hg2⟩
  have hRes2 := hRes1.out.grown hg2 (by intro e; injection e with e; exact hngr e.symm)
  have hfr2 := hfr1.out.trans hg2
  clear hR1 hRes1 hfr1 hg2 HN2
  have hlt2 := hR2.lt
  have hsz2 := hfr2.size
  obtain ⟨gx, HGX⟩ : ∃ x, Hid (w2.heap.size = x) := ⟨_, rfl⟩
  have hlr := hRes2.lt
  have hgx1 : g ≠ gx := by rw [← HGX.out]; omega
  have hgx2 : gr ≠ gx := by rw [← HGX.out]; omega
  have hgx3 : w.heap.size ≤ gx := by rw [← HGX.out]; exact hsz2
  have hS := RJ.start (l := l) (s := s) (p := p2) 1000016 (hR2.alloc (.cells #[.int .i64 n1, .int .i64 n2, .string ⟨#[]⟩, .string ⟨#[]⟩] 23)) (hRes2.alloc _) (by have := Blk.new w2 #[.int .i64 n1, .int .i64 n2, .string ⟨#[]⟩, .string ⟨#[]⟩] 23; rw [HGX.out] at this; exact this) (grownBy_new hfr2 _) hrw hgx3 hngr hgx1 hgx2 hp2 hsl hl
  clear hR2 hRes2 hfr2 hlt2 hsz2 hlr hgx3
  replace hS := Lib.hid hS
  go_upto_region 2 with fail
  rw [HGX.out]
  generalize (w2.alloc (.cells #[.int .i64 n1, .int .i64 n2, .string ⟨#[]⟩, .string ⟨#[]⟩] 23)) = W2 at hS ⊢
  clear HGX
  obtain ⟨⟨c0, c1, c2, c3⟩, f0, f1, f2, f3⟩ := Blk4 hS.out.x
  go_wp2_with fail
  refine (hS.out.text (by omega) _ HQ3.out _ HH.out.1).mono ?_
  rintro e w3 ⟨rfl, hS3, _⟩
  clear hS c0 c1 c2 c3 f0 f1 f2 f3
  simp only at hS3
  obtain ⟨⟨c0, c1, c2, c3⟩, f0, f1, f2, f3⟩ := Blk4 hS3.x
  have hS4 : RJ w (w3.setCell ⟨gx, 2, none⟩ (.string s3)) g gr gx l s p3 _ 23 _ #[.int .i64 n1, .int .i64 n2, .string s3, .string ⟨#[]⟩] := hS3.setX 2 (.string s3)
  replace hS4 := Lib.hid hS4
  clear hS3
  go_upto_region 3 with fail
  generalize w3.setCell ⟨gx, 2, none⟩ (.string s3) = W3 at hS4 ⊢
  clear c0 c1 c2 c3 f0 f1 f2 f3
  obtain ⟨⟨c0, c1, c2, c3⟩, f0, f1, f2, f3⟩ := Blk4 hS4.out.x
  go_wp2_with fail
  refine (hS4.out.text (by omega) _ HQ4.out _ HH.out.2).mono ?_
  rintro e w4 ⟨rfl, hS5, _⟩
  clear hS4 c0 c1 c2 c3 f0 f1 f2 f3
  simp only at hS5
  obtain ⟨⟨c0, c1, c2, c3⟩, f0, f1, f2, f3⟩ := Blk4 hS5.x
  have hS6 : RJ w (w4.setCell ⟨gx, 3, none⟩ (.string s4)) g gr gx l s p4 _ 23 _ #[.int .i64 n1, .int .i64 n2, .string s3, .string s4] := hS5.setX 3 (.string s4)
  replace hS6 := Lib.hid hS6
  clear hS5
  go_upto_region 4 with fail
  generalize w4.setCell ⟨gx, 3, none⟩ (.string s4) = W4 at hS6 ⊢
  clear c0 c1 c2 c3 f0 f1 f2 f3
  go_wp2_with (first | (with_reducible refine wpList_loadB hS6.out.x Try.underlying23 rfl (by kernel_rfl) size_op (by kernel_rfl) _ rfl rfl ?_) | ((with_reducible refine wpList_storeB hS6.out.res (by kernel_rfl) (by kernel_rfl) size_op (by kernel_rfl) rfl _ _ rfl rfl rfl ?_); intro W9 hW9 hgr9))
  have HV := blk_val (T := 23) hW9 Try.underlying23 rfl rfl size_op
  refine bodyPost_ret (v := .agg #[.int .i64 n1, .int .i64 n2, .string s3, .string s4]) ?_ rfl ⟨?_, ?_, ?_, ?_⟩
  · simp [results, Try.results61, asAddr, Act.put, HV]
  · rw [HF.out, HH.out.1, HH.out.2]
  · rw [HF.out]; exact hS6.out.rd.grown hgr9 (by intro e; injection e with e; exact hngr e)
  · exact grownBy_own hS6.out.fr hgr9 hS6.out.h1
  · have := hS6.out.le
    rw [HF.out]
    show p4.1 ≤ _
    omega
end Go.Proofs.Ytloengjcniefgaa.Rec
namespace Go.Proofs.Ytloengjcniefgaa.Rec
set_option linter.unusedVariables false
set_option linter.unusedSimpArgs false
open Go.RowKit Go.Sort
open Oct (S beN putL U I getI sumN S_size S_data)
theorem S_nil : S [] = ⟨#[]⟩ := rfl
theorem rtail_change (l : List UInt8) (lsn prev txn : Int) (p : Rd) : tailG (rnumF l) (textF l) 2 lsn prev txn p =
    (let o := ropF l (rnumF l p 3).2
     let h := hoG (rnumF l) (textF l) o.2.2.2.2
     { lsn := lsn, prev := prev, txn := txn, kind := 2, page := (rnumF l p 3).1, next := 0, num := 0, ok := o.1, os := o.2.1, old := o.2.2.1, new := o.2.2.2.1
       how := h.1, root := h.2.1, key := h.2.2.1, rp := h.2.2.2.1, rs := h.2.2.2.2.1, txns := [], dirty := [] }) := rfl
set_option maxHeartbeats 8000000 in
set_option maxRecDepth 100000 in
theorem rchange_any (l : List UInt8) (s : ByteArray) (hsl : S l = s) (hl : l.length ≤ 1000000) (lsn prev txn : Int) (p0 : Rd) (ha : p0.1 ≤ 100) (g : Nat) (w : World) (hR : Blk w g (rdC s p0) 95) :
    Calls Try.prog 60 #[.pointer (some ⟨g, 0, none⟩), .agg #[.int .i64 lsn, .int .i64 prev, .int .i64 txn, .int .i64 2, .int .i64 0, .int .i64 0, .int .i64 0, .int .i64 0, .int .i64 0, .string ⟨#[]⟩, .string ⟨#[]⟩, .int .i64 0, .int .i64 0, .string ⟨#[]⟩, .int .i64 0, .int .i64 0, .slice none 0 0, .slice none 0 0]] w fun e w' => e = .returned (.agg (rcC (tailG (rnumF l) (textF l) 2 lsn prev txn p0) (.slice none 0 0) (.slice none 0 0))) ∧ w.grownBy w' (some g) := by
  have HT := rtail_change l lsn prev txn p0
  obtain ⟨R, hRR⟩ : ∃ R, tailG (rnumF l) (textF l) 2 lsn prev txn p0 = R := ⟨_, rfl⟩
  rw [hRR] at HT ⊢
  simp only [hoG] at HT
  replace HT := Lib.hid HT
  clear hRR
  have hlt := hR.lt
  have hRa := (hR.alloc (.cells #[.int .i64 lsn, .int .i64 prev, .int .i64 txn, .int .i64 2, .int .i64 0, .int .i64 0, .int .i64 0, .int .i64 0, .int .i64 0, .string ⟨#[]⟩, .string ⟨#[]⟩, .int .i64 0, .int .i64 0, .string ⟨#[]⟩, .int .i64 0, .int .i64 0, .slice none 0 0, .slice none 0 0] 31)).alloc (.cells zs18 31)
  have hX := (Blk.new w #[.int .i64 lsn, .int .i64 prev, .int .i64 txn, .int .i64 2, .int .i64 0, .int .i64 0, .int .i64 0, .int .i64 0, .int .i64 0, .string ⟨#[]⟩, .string ⟨#[]⟩, .int .i64 0, .int .i64 0, .string ⟨#[]⟩, .int .i64 0, .int .i64 0, .slice none 0 0, .slice none 0 0] 31).alloc (.cells zs18 31)
  have hRes := Blk.new (w.alloc (.cells #[.int .i64 lsn, .int .i64 prev, .int .i64 txn, .int .i64 2, .int .i64 0, .int .i64 0, .int .i64 0, .int .i64 0, .int .i64 0, .string ⟨#[]⟩, .string ⟨#[]⟩, .int .i64 0, .int .i64 0, .string ⟨#[]⟩, .int .i64 0, .int .i64 0, .slice none 0 0, .slice none 0 0] 31)) zs18 31
  have hfr := grownBy_new (grownBy_new (show w.grownBy w (some g) from ⟨rfl, rfl, rfl, Nat.le_refl _, fun _ _ _ => rfl⟩) (.cells #[.int .i64 lsn, .int .i64 prev, .int .i64 txn, .int .i64 2, .int .i64 0, .int .i64 0, .int .i64 0, .int .i64 0, .int .i64 0, .string ⟨#[]⟩, .string ⟨#[]⟩, .int .i64 0, .int .i64 0, .string ⟨#[]⟩, .int .i64 0, .int .i64 0, .slice none 0 0, .slice none 0 0] 31)) (.cells zs18 31)
  simp only [World.size_alloc] at hRes
  obtain ⟨gx, HGX⟩ : ∃ x, Hid (w.heap.size = x) := ⟨_, rfl⟩
  obtain ⟨gr, HGR⟩ : ∃ x, Hid (w.heap.size + 1 = x) := ⟨_, rfl⟩
  have h1 : w.heap.size ≤ gr := by rw [← HGR.out]; omega
  have h2 : w.heap.size ≤ gx := by rw [← HGX.out]; omega
  have n1 : g ≠ gr := by omega
  have n2 : g ≠ gx := by omega
  have n3 : gr ≠ gx := by rw [← HGR.out, ← HGX.out]; omega
  rw [HGX.out] at hX
  rw [HGR.out] at hRes
  have hS := RJ.start 100 hRa hRes hX hfr h1 h2 n1 n2 n3 ha hsl hl
  unfold zs18 at hS
  clear hR hRa hRes hX hfr h1 h2 n3 hlt
  replace hS := Lib.hid hS
  go_enter Try.func60, Try.ntmps60
  go_upto_region 1 with fail
  rw [HGR.out, HGX.out]
  generalize ((w.alloc (.cells #[.int .i64 lsn, .int .i64 prev, .int .i64 txn, .int .i64 2, .int .i64 0, .int .i64 0, .int .i64 0, .int .i64 0, .int .i64 0, .string ⟨#[]⟩, .string ⟨#[]⟩, .int .i64 0, .int .i64 0, .string ⟨#[]⟩, .int .i64 0, .int .i64 0, .slice none 0 0, .slice none 0 0] 31)).alloc (.cells #[.int .i64 0, .int .i64 0, .int .i64 0, .int .i64 0, .int .i64 0, .int .i64 0, .int .i64 0, .int .i64 0, .int .i64 0, .string ⟨#[]⟩, .string ⟨#[]⟩, .int .i64 0, .int .i64 0, .string ⟨#[]⟩, .int .i64 0, .int .i64 0, .slice none 0 0, .slice none 0 0] 31)) = W0 at hS ⊢
  clear HGR HGX
  have hS2 := hS.out
  rw [show #[.int .i64 0, .int .i64 0, .int .i64 0, .int .i64 0, .int .i64 0, .int .i64 0, .int .i64 0, .int .i64 0, .int .i64 0, .string ⟨#[]⟩, .string ⟨#[]⟩, .int .i64 0, .int .i64 0, .string ⟨#[]⟩, .int .i64 0, .int .i64 0, .slice none 0 0, .slice none 0 0] = zs18 from rfl] at hS2
  clear hS
  have hS := Lib.hid hS2
  clear hS2
  obtain ⟨c0, c1, c2, c3, c4, c5, c6, c7, c8, c9, c10, c11, c12, c13, c14, c15, c16, c17⟩ := Blk18 hS.out.x
  obtain ⟨y0, y1, y2, y3, y4, y5, y6, y7, y8, y9, y10, y11, y12, y13, y14, y15, y16, y17⟩ := Free18 hS.out.x
  obtain ⟨⟨n1, p1⟩, hq⟩ : ∃ q, rnumF l p0 3 = q := ⟨_, rfl⟩
  have HQ1 := Lib.hid hq
  go_wp2_with fail
  refine (hS.out.num (by omega) 3 3 rfl (by omega) _ hq).mono ?_
  rintro e w1 ⟨rfl, hS2, _⟩
  clear hq
  clear c0 c1 c2 c3 c4 c5 c6 c7 c8 c9 c10 c11 c12 c13 c14 c15 c16 c17 y0 y1 y2 y3 y4 y5 y6 y7 y8 y9 y10 y11 y12 y13 y14 y15 y16 y17
  clear hS
  have hS := Lib.hid hS2
  clear hS2
  try simp only at hS
  obtain ⟨c0, c1, c2, c3, c4, c5, c6, c7, c8, c9, c10, c11, c12, c13, c14, c15, c16, c17⟩ := Blk18 hS.out.x
  obtain ⟨y0, y1, y2, y3, y4, y5, y6, y7, y8, y9, y10, y11, y12, y13, y14, y15, y16, y17⟩ := Free18 hS.out.x
  have hS2 : RJ w (w1.setCell ⟨gx, 4, none⟩ (.int .i64 n1)) g gr gx l s p1 _ 31 zs18 #[.int .i64 lsn, .int .i64 prev, .int .i64 txn, .int .i64 2, .int .i64 n1, .int .i64 0, .int .i64 0, .int .i64 0, .int .i64 0, .string ⟨#[]⟩, .string ⟨#[]⟩, .int .i64 0, .int .i64 0, .string ⟨#[]⟩, .int .i64 0, .int .i64 0, .slice none 0 0, .slice none 0 0] := (hS.out.setX 4 (.int .i64 n1))
  go_upto_region 2 with fail
  clear c0 c1 c2 c3 c4 c5 c6 c7 c8 c9 c10 c11 c12 c13 c14 c15 c16 c17 y0 y1 y2 y3 y4 y5 y6 y7 y8 y9 y10 y11 y12 y13 y14 y15 y16 y17
  generalize (w1.setCell ⟨gx, 4, none⟩ (.int .i64 n1)) = v1 at hS2 ⊢
  clear hS
  have hS := Lib.hid hS2
  clear hS2
  obtain ⟨c0, c1, c2, c3, c4, c5, c6, c7, c8, c9, c10, c11, c12, c13, c14, c15, c16, c17⟩ := Blk18 hS.out.x
  obtain ⟨y0, y1, y2, y3, y4, y5, y6, y7, y8, y9, y10, y11, y12, y13, y14, y15, y16, y17⟩ := Free18 hS.out.x
  obtain ⟨⟨a2, b2, ol2, nw2, p2⟩, hq⟩ : ∃ q, ropF l p1 = q := ⟨_, rfl⟩
  have HQ2 := Lib.hid hq
  go_wp2_with fail
  refine (rop_any l s hsl p1 g _ hS.out.rd hl (Nat.le_trans hS.out.le (by omega)) _ hq).mono ?_
  rintro e w2 ⟨rfl, hr2, hg2, hle2⟩
  try dsimp only at hr2
  try dsimp only at hle2
  try dsimp only
  have hS2 := hS.out.grown hr2 hg2 hle2
  clear hr2 hg2 hle2
  obtain ⟨so2, hso2⟩ : ∃ x, S ol2 = x := ⟨_, rfl⟩
  obtain ⟨sn2, hsn2⟩ : ∃ x, S nw2 = x := ⟨_, rfl⟩
  rw [hso2, hsn2]
  have HSO2 := Lib.hid hso2
  have HSN2 := Lib.hid hsn2
  clear hq hso2 hsn2
  clear c0 c1 c2 c3 c4 c5 c6 c7 c8 c9 c10 c11 c12 c13 c14 c15 c16 c17 y0 y1 y2 y3 y4 y5 y6 y7 y8 y9 y10 y11 y12 y13 y14 y15 y16 y17
  clear hS
  have hS := Lib.hid hS2
  clear hS2
  try simp only at hS
  obtain ⟨c0, c1, c2, c3, c4, c5, c6, c7, c8, c9, c10, c11, c12, c13, c14, c15, c16, c17⟩ := Blk18 hS.out.x
  obtain ⟨y0, y1, y2, y3, y4, y5, y6, y7, y8, y9, y10, y11, y12, y13, y14, y15, y16, y17⟩ := Free18 hS.out.x
  have hS2 : RJ w ((((w2.setCell ⟨gx, 7, none⟩ (.int .i64 a2)).setCell ⟨gx, 8, none⟩ (.int .i64 b2)).setCell ⟨gx, 9, none⟩ (.string so2)).setCell ⟨gx, 10, none⟩ (.string sn2)) g gr gx l s p2 _ 31 zs18 #[.int .i64 lsn, .int .i64 prev, .int .i64 txn, .int .i64 2, .int .i64 n1, .int .i64 0, .int .i64 0, .int .i64 a2, .int .i64 b2, .string so2, .string sn2, .int .i64 0, .int .i64 0, .string ⟨#[]⟩, .int .i64 0, .int .i64 0, .slice none 0 0, .slice none 0 0] := ((((hS.out.setX 7 (.int .i64 a2)).setX 8 (.int .i64 b2)).setX 9 (.string so2)).setX 10 (.string sn2))
  go_upto_region 3 with fail
  clear c0 c1 c2 c3 c4 c5 c6 c7 c8 c9 c10 c11 c12 c13 c14 c15 c16 c17 y0 y1 y2 y3 y4 y5 y6 y7 y8 y9 y10 y11 y12 y13 y14 y15 y16 y17
  generalize ((((w2.setCell ⟨gx, 7, none⟩ (.int .i64 a2)).setCell ⟨gx, 8, none⟩ (.int .i64 b2)).setCell ⟨gx, 9, none⟩ (.string so2)).setCell ⟨gx, 10, none⟩ (.string sn2)) = v2 at hS2 ⊢
  clear hS
  have hS := Lib.hid hS2
  clear hS2
  obtain ⟨c0, c1, c2, c3, c4, c5, c6, c7, c8, c9, c10, c11, c12, c13, c14, c15, c16, c17⟩ := Blk18 hS.out.x
  obtain ⟨y0, y1, y2, y3, y4, y5, y6, y7, y8, y9, y10, y11, y12, y13, y14, y15, y16, y17⟩ := Free18 hS.out.x
  obtain ⟨⟨n3, p3⟩, hq⟩ : ∃ q, rnumF l p2 1 = q := ⟨_, rfl⟩
  have HQ3 := Lib.hid hq
  go_wp2_with fail
  refine (hS.out.num (by omega) 1 1 rfl (by omega) _ hq).mono ?_
  rintro e w3 ⟨rfl, hS2, _⟩
  clear hq
  clear c0 c1 c2 c3 c4 c5 c6 c7 c8 c9 c10 c11 c12 c13 c14 c15 c16 c17 y0 y1 y2 y3 y4 y5 y6 y7 y8 y9 y10 y11 y12 y13 y14 y15 y16 y17
  clear hS
  have hS := Lib.hid hS2
  clear hS2
  try simp only at hS
  obtain ⟨c0, c1, c2, c3, c4, c5, c6, c7, c8, c9, c10, c11, c12, c13, c14, c15, c16, c17⟩ := Blk18 hS.out.x
  obtain ⟨y0, y1, y2, y3, y4, y5, y6, y7, y8, y9, y10, y11, y12, y13, y14, y15, y16, y17⟩ := Free18 hS.out.x
  have hS2 : RJ w (w3.setCell ⟨gx, 11, none⟩ (.int .i64 n3)) g gr gx l s p3 _ 31 zs18 #[.int .i64 lsn, .int .i64 prev, .int .i64 txn, .int .i64 2, .int .i64 n1, .int .i64 0, .int .i64 0, .int .i64 a2, .int .i64 b2, .string so2, .string sn2, .int .i64 n3, .int .i64 0, .string ⟨#[]⟩, .int .i64 0, .int .i64 0, .slice none 0 0, .slice none 0 0] := (hS.out.setX 11 (.int .i64 n3))
  go_upto_region 4 with fail
  clear c0 c1 c2 c3 c4 c5 c6 c7 c8 c9 c10 c11 c12 c13 c14 c15 c16 c17 y0 y1 y2 y3 y4 y5 y6 y7 y8 y9 y10 y11 y12 y13 y14 y15 y16 y17
  generalize (w3.setCell ⟨gx, 11, none⟩ (.int .i64 n3)) = v3 at hS2 ⊢
  clear hS
  have hS := Lib.hid hS2
  clear hS2
  obtain ⟨c0, c1, c2, c3, c4, c5, c6, c7, c8, c9, c10, c11, c12, c13, c14, c15, c16, c17⟩ := Blk18 hS.out.x
  obtain ⟨y0, y1, y2, y3, y4, y5, y6, y7, y8, y9, y10, y11, y12, y13, y14, y15, y16, y17⟩ := Free18 hS.out.x
  by_cases hh : n3 = 1
  · subst hh
    go_upto_region 9 with fail
    clear c0 c1 c2 c3 c4 c5 c6 c7 c8 c9 c10 c11 c12 c13 c14 c15 c16 c17 y0 y1 y2 y3 y4 y5 y6 y7 y8 y9 y10 y11 y12 y13 y14 y15 y16 y17
    have HTT : Hid (R = { lsn := lsn, prev := prev, txn := txn, kind := 2, page := n1, next := 0, num := 0, ok := a2, os := b2, old := ol2, new := nw2, how := 1, root := 0, key := [], rp := 0, rs := 0, txns := [], dirty := [] }) := by
      show _ = _
      rw [HT.out]
      simp only [HQ1.out, HQ2.out, HQ3.out]
      simp only [if_true]
    go_wp2_with (first | (with_reducible refine wpList_load18 hS.out.x (by kernel_rfl) _ rfl rfl ?_) | ((with_reducible refine wpList_store18 hS.out.res (by kernel_rfl) (by kernel_rfl) (by kernel_rfl) rfl _ _ rfl rfl rfl ?_); intro W9 hW9 hgr9))
    have HV := rec_val hW9 rfl
    refine bodyPost_ret (v := .agg #[.int .i64 lsn, .int .i64 prev, .int .i64 txn, .int .i64 2, .int .i64 n1, .int .i64 0, .int .i64 0, .int .i64 a2, .int .i64 b2, .string so2, .string sn2, .int .i64 1, .int .i64 0, .string ⟨#[]⟩, .int .i64 0, .int .i64 0, .slice none 0 0, .slice none 0 0]) ?_ rfl ⟨?_, grownBy_own hS.out.fr hgr9 hS.out.h1⟩
    · simp [results, Try.results60, asAddr, Act.put, HV]
    · rw [HTT.out]
      simp only [rcC, S_nil, HSO2.out, HSN2.out]
  · go_upto_region 5 with fail
    obtain ⟨⟨n4, p4⟩, hq⟩ : ∃ q, rnumF l p3 3 = q := ⟨_, rfl⟩
    have HQ4 := Lib.hid hq
    go_wp2_with fail
    refine (hS.out.num (by omega) 3 3 rfl (by omega) _ hq).mono ?_
    rintro e w4 ⟨rfl, hS2, _⟩
    clear hq
    clear c0 c1 c2 c3 c4 c5 c6 c7 c8 c9 c10 c11 c12 c13 c14 c15 c16 c17 y0 y1 y2 y3 y4 y5 y6 y7 y8 y9 y10 y11 y12 y13 y14 y15 y16 y17
    clear hS
    have hS := Lib.hid hS2
    clear hS2
    try simp only at hS
    obtain ⟨c0, c1, c2, c3, c4, c5, c6, c7, c8, c9, c10, c11, c12, c13, c14, c15, c16, c17⟩ := Blk18 hS.out.x
    obtain ⟨y0, y1, y2, y3, y4, y5, y6, y7, y8, y9, y10, y11, y12, y13, y14, y15, y16, y17⟩ := Free18 hS.out.x
    have hS2 : RJ w (w4.setCell ⟨gx, 12, none⟩ (.int .i64 n4)) g gr gx l s p4 _ 31 zs18 #[.int .i64 lsn, .int .i64 prev, .int .i64 txn, .int .i64 2, .int .i64 n1, .int .i64 0, .int .i64 0, .int .i64 a2, .int .i64 b2, .string so2, .string sn2, .int .i64 n3, .int .i64 n4, .string ⟨#[]⟩, .int .i64 0, .int .i64 0, .slice none 0 0, .slice none 0 0] := (hS.out.setX 12 (.int .i64 n4))
    go_upto_region 6 with fail
    clear c0 c1 c2 c3 c4 c5 c6 c7 c8 c9 c10 c11 c12 c13 c14 c15 c16 c17 y0 y1 y2 y3 y4 y5 y6 y7 y8 y9 y10 y11 y12 y13 y14 y15 y16 y17
    generalize (w4.setCell ⟨gx, 12, none⟩ (.int .i64 n4)) = v4 at hS2 ⊢
    clear hS
    have hS := Lib.hid hS2
    clear hS2
    obtain ⟨c0, c1, c2, c3, c4, c5, c6, c7, c8, c9, c10, c11, c12, c13, c14, c15, c16, c17⟩ := Blk18 hS.out.x
    obtain ⟨y0, y1, y2, y3, y4, y5, y6, y7, y8, y9, y10, y11, y12, y13, y14, y15, y16, y17⟩ := Free18 hS.out.x
    obtain ⟨⟨n5, p5⟩, hq⟩ : ∃ q, rnumF l p4 3 = q := ⟨_, rfl⟩
    have HQ5 := Lib.hid hq
    go_wp2_with fail
    refine (hS.out.num (by omega) 3 3 rfl (by omega) _ hq).mono ?_
    rintro e w5 ⟨rfl, hS2, _⟩
    clear hq
    clear c0 c1 c2 c3 c4 c5 c6 c7 c8 c9 c10 c11 c12 c13 c14 c15 c16 c17 y0 y1 y2 y3 y4 y5 y6 y7 y8 y9 y10 y11 y12 y13 y14 y15 y16 y17
    clear hS
    have hS := Lib.hid hS2
    clear hS2
    try simp only at hS
    obtain ⟨c0, c1, c2, c3, c4, c5, c6, c7, c8, c9, c10, c11, c12, c13, c14, c15, c16, c17⟩ := Blk18 hS.out.x
    obtain ⟨y0, y1, y2, y3, y4, y5, y6, y7, y8, y9, y10, y11, y12, y13, y14, y15, y16, y17⟩ := Free18 hS.out.x
    have hS2 : RJ w (w5.setCell ⟨gx, 14, none⟩ (.int .i64 n5)) g gr gx l s p5 _ 31 zs18 #[.int .i64 lsn, .int .i64 prev, .int .i64 txn, .int .i64 2, .int .i64 n1, .int .i64 0, .int .i64 0, .int .i64 a2, .int .i64 b2, .string so2, .string sn2, .int .i64 n3, .int .i64 n4, .string ⟨#[]⟩, .int .i64 n5, .int .i64 0, .slice none 0 0, .slice none 0 0] := (hS.out.setX 14 (.int .i64 n5))
    go_upto_region 7 with fail
    clear c0 c1 c2 c3 c4 c5 c6 c7 c8 c9 c10 c11 c12 c13 c14 c15 c16 c17 y0 y1 y2 y3 y4 y5 y6 y7 y8 y9 y10 y11 y12 y13 y14 y15 y16 y17
    generalize (w5.setCell ⟨gx, 14, none⟩ (.int .i64 n5)) = v5 at hS2 ⊢
    clear hS
    have hS := Lib.hid hS2
    clear hS2
    obtain ⟨c0, c1, c2, c3, c4, c5, c6, c7, c8, c9, c10, c11, c12, c13, c14, c15, c16, c17⟩ := Blk18 hS.out.x
    obtain ⟨y0, y1, y2, y3, y4, y5, y6, y7, y8, y9, y10, y11, y12, y13, y14, y15, y16, y17⟩ := Free18 hS.out.x
    obtain ⟨⟨n6, p6⟩, hq⟩ : ∃ q, rnumF l p5 2 = q := ⟨_, rfl⟩
    have HQ6 := Lib.hid hq
    go_wp2_with fail
    refine (hS.out.num (by omega) 2 2 rfl (by omega) _ hq).mono ?_
    rintro e w6 ⟨rfl, hS2, _⟩
    clear hq
    clear c0 c1 c2 c3 c4 c5 c6 c7 c8 c9 c10 c11 c12 c13 c14 c15 c16 c17 y0 y1 y2 y3 y4 y5 y6 y7 y8 y9 y10 y11 y12 y13 y14 y15 y16 y17
    clear hS
    have hS := Lib.hid hS2
    clear hS2
    try simp only at hS
    obtain ⟨c0, c1, c2, c3, c4, c5, c6, c7, c8, c9, c10, c11, c12, c13, c14, c15, c16, c17⟩ := Blk18 hS.out.x
    obtain ⟨y0, y1, y2, y3, y4, y5, y6, y7, y8, y9, y10, y11, y12, y13, y14, y15, y16, y17⟩ := Free18 hS.out.x
    have hS2 : RJ w (w6.setCell ⟨gx, 15, none⟩ (.int .i64 n6)) g gr gx l s p6 _ 31 zs18 #[.int .i64 lsn, .int .i64 prev, .int .i64 txn, .int .i64 2, .int .i64 n1, .int .i64 0, .int .i64 0, .int .i64 a2, .int .i64 b2, .string so2, .string sn2, .int .i64 n3, .int .i64 n4, .string ⟨#[]⟩, .int .i64 n5, .int .i64 n6, .slice none 0 0, .slice none 0 0] := (hS.out.setX 15 (.int .i64 n6))
    go_upto_region 8 with fail
    clear c0 c1 c2 c3 c4 c5 c6 c7 c8 c9 c10 c11 c12 c13 c14 c15 c16 c17 y0 y1 y2 y3 y4 y5 y6 y7 y8 y9 y10 y11 y12 y13 y14 y15 y16 y17
    generalize (w6.setCell ⟨gx, 15, none⟩ (.int .i64 n6)) = v6 at hS2 ⊢
    clear hS
    have hS := Lib.hid hS2
    clear hS2
    obtain ⟨c0, c1, c2, c3, c4, c5, c6, c7, c8, c9, c10, c11, c12, c13, c14, c15, c16, c17⟩ := Blk18 hS.out.x
    obtain ⟨y0, y1, y2, y3, y4, y5, y6, y7, y8, y9, y10, y11, y12, y13, y14, y15, y16, y17⟩ := Free18 hS.out.x
    obtain ⟨⟨t7, p7⟩, hq⟩ : ∃ q, textF l p6 = q := ⟨_, rfl⟩
    obtain ⟨s7, hs7⟩ : ∃ x, S t7 = x := ⟨_, rfl⟩
    have HQ7 := Lib.hid hq
    go_wp2_with fail
    refine (hS.out.text (by omega) _ hq _ hs7).mono ?_
    rintro e w7 ⟨rfl, hS2, _⟩
    have HS7 := Lib.hid hs7
    clear hq hs7
    clear c0 c1 c2 c3 c4 c5 c6 c7 c8 c9 c10 c11 c12 c13 c14 c15 c16 c17 y0 y1 y2 y3 y4 y5 y6 y7 y8 y9 y10 y11 y12 y13 y14 y15 y16 y17
    clear hS
    have hS := Lib.hid hS2
    clear hS2
    try simp only at hS
    obtain ⟨c0, c1, c2, c3, c4, c5, c6, c7, c8, c9, c10, c11, c12, c13, c14, c15, c16, c17⟩ := Blk18 hS.out.x
    obtain ⟨y0, y1, y2, y3, y4, y5, y6, y7, y8, y9, y10, y11, y12, y13, y14, y15, y16, y17⟩ := Free18 hS.out.x
    have hS2 : RJ w (w7.setCell ⟨gx, 13, none⟩ (.string s7)) g gr gx l s p7 _ 31 zs18 #[.int .i64 lsn, .int .i64 prev, .int .i64 txn, .int .i64 2, .int .i64 n1, .int .i64 0, .int .i64 0, .int .i64 a2, .int .i64 b2, .string so2, .string sn2, .int .i64 n3, .int .i64 n4, .string s7, .int .i64 n5, .int .i64 n6, .slice none 0 0, .slice none 0 0] := (hS.out.setX 13 (.string s7))
    go_upto_region 9 with fail
    clear c0 c1 c2 c3 c4 c5 c6 c7 c8 c9 c10 c11 c12 c13 c14 c15 c16 c17 y0 y1 y2 y3 y4 y5 y6 y7 y8 y9 y10 y11 y12 y13 y14 y15 y16 y17
    generalize (w7.setCell ⟨gx, 13, none⟩ (.string s7)) = v7 at hS2 ⊢
    clear hS
    have hS := Lib.hid hS2
    clear hS2
    obtain ⟨c0, c1, c2, c3, c4, c5, c6, c7, c8, c9, c10, c11, c12, c13, c14, c15, c16, c17⟩ := Blk18 hS.out.x
    obtain ⟨y0, y1, y2, y3, y4, y5, y6, y7, y8, y9, y10, y11, y12, y13, y14, y15, y16, y17⟩ := Free18 hS.out.x
    clear c0 c1 c2 c3 c4 c5 c6 c7 c8 c9 c10 c11 c12 c13 c14 c15 c16 c17 y0 y1 y2 y3 y4 y5 y6 y7 y8 y9 y10 y11 y12 y13 y14 y15 y16 y17
    have HTT : Hid (R = { lsn := lsn, prev := prev, txn := txn, kind := 2, page := n1, next := 0, num := 0, ok := a2, os := b2, old := ol2, new := nw2, how := n3, root := n4, key := t7, rp := n5, rs := n6, txns := [], dirty := [] }) := by
      show _ = _
      rw [HT.out]
      simp only [HQ1.out, HQ2.out, HQ3.out]
      simp only [HQ4.out, HQ5.out, HQ6.out, HQ7.out, if_neg hh]
    go_wp2_with (first | (with_reducible refine wpList_load18 hS.out.x (by kernel_rfl) _ rfl rfl ?_) | ((with_reducible refine wpList_store18 hS.out.res (by kernel_rfl) (by kernel_rfl) (by kernel_rfl) rfl _ _ rfl rfl rfl ?_); intro W9 hW9 hgr9))
    have HV := rec_val hW9 rfl
    refine bodyPost_ret (v := .agg #[.int .i64 lsn, .int .i64 prev, .int .i64 txn, .int .i64 2, .int .i64 n1, .int .i64 0, .int .i64 0, .int .i64 a2, .int .i64 b2, .string so2, .string sn2, .int .i64 n3, .int .i64 n4, .string s7, .int .i64 n5, .int .i64 n6, .slice none 0 0, .slice none 0 0]) ?_ rfl ⟨?_, grownBy_own hS.out.fr hgr9 hS.out.h1⟩
    · simp [results, Try.results60, asAddr, Act.put, HV]
    · rw [HTT.out]
      simp only [rcC, S_nil, HSO2.out, HSN2.out, HS7.out]
end Go.Proofs.Ytloengjcniefgaa.Rec
namespace Go.Proofs.Ytloengjcniefgaa.Rec
set_option linter.unusedVariables false
set_option linter.unusedSimpArgs false
open Go.RowKit Go.Sort
open Oct (S beN putL U I getI sumN S_size S_data)
theorem rnumF_two (l : List UInt8) (p : Rd) : ∃ r : Nat, (rnumF l p 2).1 = (r : Int) ∧ r < 65536 := by
  obtain ⟨r, h1, h2⟩ := numF_two l p
  unfold rnumF
  split
  · exact ⟨r, h1, h2⟩
  · exact ⟨0, rfl, by omega⟩
theorem rnumF_M (l : List UInt8) (p : Rd) (k : Nat) (hl : l.length ≤ 1000000) (hp : p.1 ≤ 1000000) : (rnumF l p k).2.1 ≤ 1000000 := by
  unfold rnumF
  split
  · rename_i h
    unfold getR at h
    split at h
    · show p.1 + k ≤ _
      omega
    · cases h
  · exact hp
variable {w W : World} {g gr gx m : Nat} {l : List UInt8} {s : ByteArray} {p : Rd} {zs xs : Array Value} {T : TypeId}
theorem RJ.numM (h : RJ w W g gr gx l s p 1000000 T zs xs) (k : Nat) (sz : Int) (hk : sz = k) (h8 : k ≤ 8) (q : Int × Rd) (hq : rnumF l p k = q) :
    Calls Try.prog 59 #[.pointer (some ⟨g, 0, none⟩), .int .i64 sz] W fun e w' => e = .returned (.int .i64 q.1) ∧ RJ w w' g gr gx l s q.2 1000000 T zs xs ∧ W.grownBy w' (some g) := by
  refine (h.num (by omega) k sz hk h8 q hq).mono ?_
  rintro e w' ⟨he, h1, h2⟩
  exact ⟨he, h1.lower (by rw [← hq]; exact rnumF_M l p k h.hl h.le), h2⟩
theorem RJ.far (h : RJ w W g gr gx l s p m T zs xs) {w' : World} {r : Option Nat} (h2 : W.grownBy w' r) (h3 : ∀ k, r = some k → g < k ∧ gr < k ∧ gx < k ∧ w.heap.size ≤ k) : RJ w w' g gr gx l s p m T zs xs := by
  refine ⟨h.rd.grown h2 (fun e => by have := h3 _ e.symm; omega), h.res.grown h2 (fun e => by have := h3 _ e.symm; omega), h.x.grown h2 (fun e => by have := h3 _ e.symm; omega), ?_, h.h1, h.h2, h.n1, h.n2, h.n3, h.le, h.hsl, h.hl⟩
  refine ⟨h2.os.trans h.fr.os, h2.tape.trans h.fr.tape, h2.output.trans h.fr.output, Nat.le_trans h.fr.size h2.size, fun k hk hne => ?_⟩
  rw [h2.block k (Nat.lt_of_lt_of_le hk h.fr.size) (fun e => by have := h3 _ e.symm; omega)]
  exact h.fr.block k hk hne
structure KT (w W : World) (g gr gx : Nat) (l : List UInt8) (s : ByteArray) (p : Rd) (zs xs : Array Value) (B : Nat) (v : Value) (acc : List Tx) : Prop where
  r : RJ w W g gr gx l s p 1000000 31 zs xs
  own : W.ownsRow B 67 4 v acc.length (txC acc).flatten
  qg : g < B
  qr : gr < B
  qx : gx < B
  qw : w.heap.size ≤ B
  hB : B ≤ W.heap.size
theorem KT.num {B : Nat} {v : Value} {acc : List Tx} (h : KT w W g gr gx l s p zs xs B v acc) (k : Nat) (sz : Int) (hk : sz = k) (h8 : k ≤ 8) (q : Int × Rd) (hq : rnumF l p k = q) :
    Calls Try.prog 59 #[.pointer (some ⟨g, 0, none⟩), .int .i64 sz] W fun e w' => e = .returned (.int .i64 q.1) ∧ KT w w' g gr gx l s q.2 zs xs B v acc ∧ W.grownBy w' (some g) := by
  refine (h.r.numM k sz hk h8 q hq).mono ?_
  rintro e w' ⟨he, h1, h2⟩
  have a1 := h.qg
  refine ⟨he, ⟨h1, h.own.kept h2 (.inr fun e => ?_), h.qg, h.qr, h.qx, h.qw, Nat.le_trans h.hB h2.size⟩, h2⟩
  have := (h.own.lt _ e).1
  omega
theorem KT.drew {B : Nat} {v : Value} {acc : List Tx} (h : KT w W g gr gx l s p zs xs B v acc) : KT w W.drew g gr gx l s p zs xs B v acc :=
  ⟨h.r.drew, h.own.kept (row := none) (grownBy_drewN W 1 none) (by cases v.ownBlock <;> simp), h.qg, h.qr, h.qx, h.qw, h.hB⟩
theorem KT.alloc {B : Nat} {v : Value} {acc : List Tx} (h : KT w W g gr gx l s p zs xs B v acc) (o : Obj) : KT w (W.alloc o) g gr gx l s p zs xs B v acc :=
  ⟨h.r.alloc o, h.own.alloc o, h.qg, h.qr, h.qx, h.qw, Nat.le_trans h.hB (by simp)⟩
theorem KT.other {B : Nat} {v : Value} {acc : List Tx} (h : KT w W g gr gx l s p zs xs B v acc) {a : Addr} (ha : B ≤ a.block) (hne : ∀ k, v.ownBlock = some k → k < a.block) (u : Value) : KT w (W.setCell a u) g gr gx l s p zs xs B v acc := by
  have a1 := h.qg; have a2 := h.qr; have a3 := h.qx; have a4 := h.qw
  refine ⟨⟨h.r.rd.other (by omega) u, h.r.res.other (by omega) u, h.r.x.other (by omega) u, grownBy_setNew h.r.fr (by omega) u, h.r.h1, h.r.h2, h.r.n1, h.r.n2, h.r.n3, h.r.le, h.r.hsl, h.r.hl⟩, ownsRow_setCell_other h.own (fun e => by have := hne _ e; omega) u, h.qg, h.qr, h.qx, h.qw, by simpa using h.hB⟩
theorem KT.app {B : Nat} {v : Value} {acc : List Tx} (h : KT w W g gr gx l s p zs xs B v acc) (t : Tx) {w6 : World} {v2 : Value} (hown : w6.ownsRow B 67 4 v2 (acc.length + 1) ((txC acc).flatten ++ t.cells)) (hg : W.grownBy w6 v.ownBlock) :
    Blk w6 gx xs 31 ∧ KT w (w6.setCell ⟨gx, 16, none⟩ v2) g gr gx l s p zs (xs.setIfInBounds 16 v2) B v2 (acc ++ [t]) := by
  have a1 := h.qg; have a2 := h.qr; have a3 := h.qx; have a4 := h.qw
  have hr := h.r.far hg (fun k e => by have := (h.own.lt _ e).1; omega)
  refine ⟨hr.x, hr.setX 16 _, ?_, h.qg, h.qr, h.qx, h.qw, Nat.le_trans h.hB (Nat.le_trans hg.size (by simp))⟩
  have := ownsRow_setCell_other hown (a := ⟨gx, 16, none⟩) (fun e => by have h9 := (hown.lt _ e).1; change B ≤ gx at h9; omega) v2
  rw [txC_snoc, flatten_snoc, List.length_append]
  exact this
structure KD (w W : World) (g gr gx : Nat) (l : List UInt8) (s : ByteArray) (p : Rd) (zs xs : Array Value) (B0 : Nat) (v0 : Value) (ts : List Tx) (B : Nat) (v : Value) (acc : List Dy) : Prop where
  r : RJ w W g gr gx l s p 1000000 31 zs xs
  own0 : W.ownsRow B0 67 4 v0 ts.length (txC ts).flatten
  lt0 : ∀ k, v0.ownBlock = some k → k < B
  own : W.ownsRow B 71 2 v acc.length (dyC acc).flatten
  pg : g < B0
  pr : gr < B0
  px : gx < B0
  pw : w.heap.size ≤ B0
  qB : B0 ≤ B
  hB : B ≤ W.heap.size
theorem KD.num {B0 B : Nat} {v0 v : Value} {ts : List Tx} {acc : List Dy} (h : KD w W g gr gx l s p zs xs B0 v0 ts B v acc) (k : Nat) (sz : Int) (hk : sz = k) (h8 : k ≤ 8) (q : Int × Rd) (hq : rnumF l p k = q) :
    Calls Try.prog 59 #[.pointer (some ⟨g, 0, none⟩), .int .i64 sz] W fun e w' => e = .returned (.int .i64 q.1) ∧ KD w w' g gr gx l s q.2 zs xs B0 v0 ts B v acc := by
  refine (h.r.numM k sz hk h8 q hq).mono ?_
  rintro e w' ⟨he, h1, h2⟩
  have a0 := h.pg; have a1 := h.qB
  refine ⟨he, h1, h.own0.kept h2 (.inr fun e => ?_), h.lt0, h.own.kept h2 (.inr fun e => ?_), h.pg, h.pr, h.px, h.pw, h.qB, Nat.le_trans h.hB h2.size⟩
  · have := (h.own0.lt _ e).1
    omega
  · have := (h.own.lt _ e).1
    omega
theorem KD.drew {B0 B : Nat} {v0 v : Value} {ts : List Tx} {acc : List Dy} (h : KD w W g gr gx l s p zs xs B0 v0 ts B v acc) : KD w W.drew g gr gx l s p zs xs B0 v0 ts B v acc :=
  ⟨h.r.drew, h.own0.kept (row := none) (grownBy_drewN W 1 none) (by cases v0.ownBlock <;> simp), h.lt0, h.own.kept (row := none) (grownBy_drewN W 1 none) (by cases v.ownBlock <;> simp), h.pg, h.pr, h.px, h.pw, h.qB, h.hB⟩
theorem KD.alloc {B0 B : Nat} {v0 v : Value} {ts : List Tx} {acc : List Dy} (h : KD w W g gr gx l s p zs xs B0 v0 ts B v acc) (o : Obj) : KD w (W.alloc o) g gr gx l s p zs xs B0 v0 ts B v acc :=
  ⟨h.r.alloc o, h.own0.alloc o, h.lt0, h.own.alloc o, h.pg, h.pr, h.px, h.pw, h.qB, Nat.le_trans h.hB (by simp)⟩
theorem KD.app {B0 B : Nat} {v0 v : Value} {ts : List Tx} {acc : List Dy} (h : KD w W g gr gx l s p zs xs B0 v0 ts B v acc) (t : Dy) {w6 : World} {gg cap : Nat} (hown : w6.ownsRow B 71 2 (.slice (some ⟨gg, 0, none⟩) (acc.length + 1) cap) (acc.length + 1) ((dyC acc).flatten ++ t.cells)) (hg : W.grownBy w6 v.ownBlock) :
    Blk w6 gx xs 31 ∧ KD w (w6.setCell ⟨gx, 17, none⟩ (.slice (some ⟨gg, 0, none⟩) (acc.length + 1) cap)) g gr gx l s p zs (xs.setIfInBounds 17 (.slice (some ⟨gg, 0, none⟩) (acc.length + 1) cap)) B0 v0 ts B (.slice (some ⟨gg, 0, none⟩) (acc.length + 1) cap) (acc ++ [t]) := by
  have a0 := h.pg; have a1 := h.pr; have a2 := h.px; have a3 := h.pw; have a4 := h.qB
  have hr := h.r.far hg (fun k e => by have := (h.own.lt _ e).1; omega)
  have h0 := h.own0.kept hg (by
    cases e : v0.ownBlock with
    | none => exact .inl rfl
    | some k =>
      refine .inr fun e2 => ?_
      have := h.lt0 k e
      have := (h.own.lt k (by rw [← e2])).1
      omega)
  refine ⟨hr.x, hr.setX 17 _, ownsRow_setCell_other h0 (a := ⟨gx, 17, none⟩) (fun e => by have h9 := (h0.lt _ e).1; change B0 ≤ gx at h9; omega) _, h.lt0, ?_, h.pg, h.pr, h.px, h.pw, h.qB, Nat.le_trans h.hB (Nat.le_trans hg.size (by simp))⟩
  have hgg := (hown.lt gg rfl).1
  have := ownsRow_setCell_other hown (a := ⟨gx, 17, none⟩) (fun e => absurd (show gg = gx from by injection e) (by omega)) (.slice (some ⟨gg, 0, none⟩) (acc.length + 1) cap)
  rw [dyC_snoc, flatten_snoc, List.length_append]
  exact this
end Go.Proofs.Ytloengjcniefgaa.Rec
namespace Go.Proofs.Ytloengjcniefgaa.Rec
set_option linter.unusedVariables false
set_option linter.unusedSimpArgs false
open Go.RowKit Go.Sort
open Oct (S beN putL U I getI sumN S_size S_data)
theorem size_tx : (Try.prog.info? 67).map (·.size) = some 4 := by kernel_rfl
set_option maxHeartbeats 16000000 in
set_option maxRecDepth 100000 in
theorem rcheck_any (l : List UInt8) (s : ByteArray) (hsl : S l = s) (hl : l.length ≤ 1000000) (lsn prev txn : Int) (p0 : Rd) (ha : p0.1 ≤ 100) (g : Nat) (w : World) (hR : Blk w g (rdC s p0) 95) :
    Calls Try.prog 62 #[.pointer (some ⟨g, 0, none⟩), .agg #[.int .i64 lsn, .int .i64 prev, .int .i64 txn, .int .i64 9, .int .i64 0, .int .i64 0, .int .i64 0, .int .i64 0, .int .i64 0, .string ⟨#[]⟩, .string ⟨#[]⟩, .int .i64 0, .int .i64 0, .string ⟨#[]⟩, .int .i64 0, .int .i64 0, .slice none 0 0, .slice none 0 0]] w (RecA (tailG (rnumF l) (textF l) 9 lsn prev txn p0) g w) := by
  have HT : tailG (rnumF l) (textF l) 9 lsn prev txn p0 = { lsn := lsn, prev := prev, txn := txn, kind := 9, page := 0, next := 0, num := (liG (rnumF l) p0).1, ok := 0, os := 0, old := [], new := [], how := 0, root := 0, key := [], rp := 0, rs := 0, txns := (liG (rnumF l) p0).2.1, dirty := (liG (rnumF l) p0).2.2 } := rfl
  obtain ⟨R, hRR⟩ : ∃ R, tailG (rnumF l) (textF l) 9 lsn prev txn p0 = R := ⟨_, rfl⟩
  rw [hRR] at HT ⊢
  replace HT := Lib.hid HT
  clear hRR
  have hlt := hR.lt
  have hRa := (hR.alloc (.cells #[.int .i64 lsn, .int .i64 prev, .int .i64 txn, .int .i64 9, .int .i64 0, .int .i64 0, .int .i64 0, .int .i64 0, .int .i64 0, .string ⟨#[]⟩, .string ⟨#[]⟩, .int .i64 0, .int .i64 0, .string ⟨#[]⟩, .int .i64 0, .int .i64 0, .slice none 0 0, .slice none 0 0] 31)).alloc (.cells zs18 31)
  have hX := (Blk.new w #[.int .i64 lsn, .int .i64 prev, .int .i64 txn, .int .i64 9, .int .i64 0, .int .i64 0, .int .i64 0, .int .i64 0, .int .i64 0, .string ⟨#[]⟩, .string ⟨#[]⟩, .int .i64 0, .int .i64 0, .string ⟨#[]⟩, .int .i64 0, .int .i64 0, .slice none 0 0, .slice none 0 0] 31).alloc (.cells zs18 31)
  have hRes := Blk.new (w.alloc (.cells #[.int .i64 lsn, .int .i64 prev, .int .i64 txn, .int .i64 9, .int .i64 0, .int .i64 0, .int .i64 0, .int .i64 0, .int .i64 0, .string ⟨#[]⟩, .string ⟨#[]⟩, .int .i64 0, .int .i64 0, .string ⟨#[]⟩, .int .i64 0, .int .i64 0, .slice none 0 0, .slice none 0 0] 31)) zs18 31
  have hfr := grownBy_new (grownBy_new (show w.grownBy w (some g) from ⟨rfl, rfl, rfl, Nat.le_refl _, fun _ _ _ => rfl⟩) (.cells #[.int .i64 lsn, .int .i64 prev, .int .i64 txn, .int .i64 9, .int .i64 0, .int .i64 0, .int .i64 0, .int .i64 0, .int .i64 0, .string ⟨#[]⟩, .string ⟨#[]⟩, .int .i64 0, .int .i64 0, .string ⟨#[]⟩, .int .i64 0, .int .i64 0, .slice none 0 0, .slice none 0 0] 31)) (.cells zs18 31)
  simp only [World.size_alloc] at hRes
  obtain ⟨gx, HGX⟩ : ∃ x, Hid (w.heap.size = x) := ⟨_, rfl⟩
  obtain ⟨gr, HGR⟩ : ∃ x, Hid (w.heap.size + 1 = x) := ⟨_, rfl⟩
  have h1 : w.heap.size ≤ gr := by rw [← HGR.out]; omega
  have h2 : w.heap.size ≤ gx := by rw [← HGX.out]; omega
  have n1 : g ≠ gr := by omega
  have n2 : g ≠ gx := by omega
  have n3 : gr ≠ gx := by rw [← HGR.out, ← HGX.out]; omega
  rw [HGX.out] at hX
  rw [HGR.out] at hRes
  have hS := RJ.start 1000000 hRa hRes hX hfr h1 h2 n1 n2 n3 (by omega) hsl hl
  unfold zs18 at hS
  have hlg : g < w.heap.size + 2 := by omega
  clear hR hRa hRes hX hfr h1 h2 n1 n2 n3 hlt
  replace hS := Lib.hid hS
  go_enter Try.func62, Try.ntmps62
  go_upto_region 1 with fail
  rw [HGR.out, HGX.out]
  have hsz0 : ((w.alloc (.cells #[.int .i64 lsn, .int .i64 prev, .int .i64 txn, .int .i64 9, .int .i64 0, .int .i64 0, .int .i64 0, .int .i64 0, .int .i64 0, .string ⟨#[]⟩, .string ⟨#[]⟩, .int .i64 0, .int .i64 0, .string ⟨#[]⟩, .int .i64 0, .int .i64 0, .slice none 0 0, .slice none 0 0] 31)).alloc (.cells #[.int .i64 0, .int .i64 0, .int .i64 0, .int .i64 0, .int .i64 0, .int .i64 0, .int .i64 0, .int .i64 0, .int .i64 0, .string ⟨#[]⟩, .string ⟨#[]⟩, .int .i64 0, .int .i64 0, .string ⟨#[]⟩, .int .i64 0, .int .i64 0, .slice none 0 0, .slice none 0 0] 31)).heap.size = w.heap.size + 2 := by simp
  generalize ((w.alloc (.cells #[.int .i64 lsn, .int .i64 prev, .int .i64 txn, .int .i64 9, .int .i64 0, .int .i64 0, .int .i64 0, .int .i64 0, .int .i64 0, .string ⟨#[]⟩, .string ⟨#[]⟩, .int .i64 0, .int .i64 0, .string ⟨#[]⟩, .int .i64 0, .int .i64 0, .slice none 0 0, .slice none 0 0] 31)).alloc (.cells #[.int .i64 0, .int .i64 0, .int .i64 0, .int .i64 0, .int .i64 0, .int .i64 0, .int .i64 0, .int .i64 0, .int .i64 0, .string ⟨#[]⟩, .string ⟨#[]⟩, .int .i64 0, .int .i64 0, .string ⟨#[]⟩, .int .i64 0, .int .i64 0, .slice none 0 0, .slice none 0 0] 31)) = W0 at hS hsz0 ⊢
  have hBg : g < W0.heap.size := by omega
  have hBr : gr < W0.heap.size := by rw [← HGR.out]; omega
  have hBx : gx < W0.heap.size := by rw [← HGX.out]; omega
  have hBw : w.heap.size ≤ W0.heap.size := by omega
  clear HGR HGX hsz0 hlg
  have hS2 := hS.out
  rw [show #[.int .i64 0, .int .i64 0, .int .i64 0, .int .i64 0, .int .i64 0, .int .i64 0, .int .i64 0, .int .i64 0, .int .i64 0, .string ⟨#[]⟩, .string ⟨#[]⟩, .int .i64 0, .int .i64 0, .string ⟨#[]⟩, .int .i64 0, .int .i64 0, .slice none 0 0, .slice none 0 0] = zs18 from rfl] at hS2
  clear hS
  have hL0 : KT w W0 g gr gx l s p0 zs18 #[.int .i64 lsn, .int .i64 prev, .int .i64 txn, .int .i64 9, .int .i64 0, .int .i64 0, .int .i64 0, .int .i64 0, .int .i64 0, .string ⟨#[]⟩, .string ⟨#[]⟩, .int .i64 0, .int .i64 0, .string ⟨#[]⟩, .int .i64 0, .int .i64 0, .slice none 0 0, .slice none 0 0] W0.heap.size (.slice none 0 0) [] := ⟨hS2, World.ownsRow_nil _ _ _ _, hBg, hBr, hBx, hBw, Nat.le_refl _⟩
  clear hS2
  obtain ⟨B, hB⟩ : ∃ B, W0.heap.size = B := ⟨_, rfl⟩
  rw [hB] at hL0 hBg hBr hBx hBw
  clear hB
  obtain ⟨⟨n1, p1⟩, hq1⟩ : ∃ q, rnumF l p0 6 = q := ⟨_, rfl⟩
  obtain ⟨⟨n2, p2⟩, hq2⟩ : ∃ q, rnumF l p1 2 = q := ⟨_, rfl⟩
  have HQ1 := Lib.hid hq1
  have HQ2 := Lib.hid hq2
  have c6 := hL0.r.x.cell 6 (v := .int .i64 0) rfl
  have f6 := hL0.r.x.free 6
  replace hL0 := Lib.hid hL0
  go_wp2_with fail
  refine (hL0.out.num 6 6 rfl (by omega) _ hq1).mono ?_
  rintro e w1 ⟨rfl, hL1, hg1⟩
  clear c6 f6 hL0 hq1 hg1
  have c6 := hL1.r.x.cell 6 (v := .int .i64 0) rfl
  have f6 := hL1.r.x.free 6
  have hL2 : KT w (w1.setCell ⟨gx, 6, none⟩ (.int .i64 n1)) g gr gx l s p1 zs18 #[.int .i64 lsn, .int .i64 prev, .int .i64 txn, .int .i64 9, .int .i64 0, .int .i64 0, .int .i64 n1, .int .i64 0, .int .i64 0, .string ⟨#[]⟩, .string ⟨#[]⟩, .int .i64 0, .int .i64 0, .string ⟨#[]⟩, .int .i64 0, .int .i64 0, .slice none 0 0, .slice none 0 0] B (.slice none 0 0) [] := ⟨hL1.r.setX 6 (.int .i64 n1), World.ownsRow_nil _ _ _ _, hBg, hBr, hBx, hBw, by simpa using hL1.hB⟩
  clear hL1
  replace hL2 := Lib.hid hL2
  go_upto_region 2 with fail
  generalize (w1.setCell ⟨gx, 6, none⟩ (.int .i64 n1)) = W1 at hL2 ⊢
  clear c6 f6
  go_wp2_with fail
  refine (hL2.out.num 2 2 rfl (by omega) _ hq2).mono ?_
  rintro e w2 ⟨rfl, hL3, hg3⟩
  clear hL2 hg3
  simp only at hL3
  obtain ⟨r0, hr0, hlt0⟩ : ∃ r : Nat, n2 = (r : Int) ∧ r < 65536 := by
    obtain ⟨r, h1, h2⟩ := rnumF_two l p1
    rw [hq2] at h1
    exact ⟨r, h1, h2⟩
  subst hr0
  clear hq2
  obtain ⟨TT, HTT⟩ : ∃ T, Hid (txsG (rnumF l) r0 p2 [] = T) := ⟨_, rfl⟩
  replace hL3 := Lib.hid hL3
  go_upto_region 4 with fail
  go_loopw [6] (fun kv wr => ∃ (k rem : Nat) (p : Rd) (acc : List Tx) (vt : Value), kv = .int .i64 (k : Int) ∧ k + rem = r0 ∧ acc.length = k ∧ Hid (KT w wr g gr gx l s p zs18 #[.int .i64 lsn, .int .i64 prev, .int .i64 txn, .int .i64 9, .int .i64 0, .int .i64 0, .int .i64 n1, .int .i64 0, .int .i64 0, .string ⟨#[]⟩, .string ⟨#[]⟩, .int .i64 0, .int .i64 0, .string ⟨#[]⟩, .int .i64 0, .int .i64 0, vt, .slice none 0 0] B vt acc) ∧ Hid (txsG (rnumF l) rem p acc = TT)) (fun kv _ => r0 - (intOf kv).toNat)
  case atStart => exact ⟨0, r0, p2, [], .slice none 0 0, rfl, by omega, rfl, hL3, HTT⟩
  case round =>
    clear hL3
    obtain ⟨k, rem, ⟨pa, pb⟩, acc, vt, rfl, hkr, hal, HL, HG⟩ := hrel
    obtain ⟨⟨z0, z1, z2⟩, zf0, zf1, zf2⟩ := Blk3 HL.out.r.rd
    clear z0 z1 zf0 zf1 zf2
    by_cases hgo : 0 < rem ∧ pb = false
    · obtain ⟨hrem, rfl⟩ := hgo
      obtain ⟨rm, rfl⟩ : ∃ rm, rem = rm + 1 := ⟨rem - 1, by omega⟩
      have hi0 : (k : Int) < (r0 : Int) := by omega
      obtain ⟨⟨k1, q1⟩, hk1⟩ : ∃ q, rnumF l (pa, false) 6 = q := ⟨_, rfl⟩
      obtain ⟨⟨k2, q2⟩, hk2⟩ : ∃ q, rnumF l q1 6 = q := ⟨_, rfl⟩
      obtain ⟨⟨k3, q3⟩, hk3⟩ : ∃ q, rnumF l q2 6 = q := ⟨_, rfl⟩
      obtain ⟨⟨k4, q4⟩, hk4⟩ : ∃ q, rnumF l q3 1 = q := ⟨_, rfl⟩
      have HK1 := Lib.hid hk1
      have HK2 := Lib.hid hk2
      have HK3 := Lib.hid hk3
      have HK4 := Lib.hid hk4
      have HG2 : Hid (txsG (rnumF l) rm q4 (acc ++ [⟨k1, k2, k3, k4 == 1⟩]) = TT) := by
        show _ = _
        rw [← HG.out]
        simp only [txsG, tx1, hk1, hk2, hk3, hk4, Bool.false_eq_true, if_false]
      clear hk1 hk2 hk3 hk4 HG
      go_wp2_with fail
      refine (HL.out.num 6 6 rfl (by omega) _ HK1.out).mono ?_
      rintro e w3 ⟨rfl, hL, _⟩
      clear HL z2
      replace hL := Lib.hid hL
      go_wp2_with fail
      refine (hL.out.num 6 6 rfl (by omega) _ HK2.out).mono ?_
      rintro e w4 ⟨rfl, hL4, _⟩
      clear hL
      replace hL4 := Lib.hid hL4
      go_wp2_with fail
      refine (hL4.out.num 6 6 rfl (by omega) _ HK3.out).mono ?_
      rintro e w5 ⟨rfl, hL5, _⟩
      clear hL4
      obtain ⟨gt, HGT⟩ : ∃ x, Hid (w5.heap.size = x) := ⟨_, rfl⟩
      have hL6 := hL5.alloc (.cells #[.int .i64 k1, .int .i64 k2, .int .i64 k3, .bool false] 67)
      have hT6 := Blk.new w5 #[.int .i64 k1, .int .i64 k2, .int .i64 k3, .bool false] 67
      have hgB : B ≤ gt := by rw [← HGT.out]; exact hL5.hB
      have hgv : ∀ k, vt.ownBlock = some k → k < gt := fun k hk => by rw [← HGT.out]; exact (hL5.own.lt k hk).2
      rw [HGT.out] at hT6
      replace hL6 := Lib.hid hL6
      replace hT6 := Lib.hid hT6
      replace hgv := Lib.hid hgv
      clear hL5
      go_upto_region 7 with fail
      rw [HGT.out]
      generalize w5.alloc (.cells #[.int .i64 k1, .int .i64 k2, .int .i64 k3, .bool false] 67) = W6 at hL6 hT6 ⊢
      clear HGT
      go_wp2_with fail
      refine (hL6.out.num 1 1 rfl (by omega) _ HK4.out).mono ?_
      rintro e w7 ⟨rfl, hL7, hg7⟩
      have hgg := hL7.qg
      have hT7 := hT6.out.grown hg7 (by intro e; injection e; omega)
      clear hL6 hT6 hg7
      obtain ⟨⟨c0, c1, c2, c3⟩, f0, f1, f2, f3⟩ := Blk4 hT7
      have hT8 : Blk (w7.setCell ⟨gt, 3, none⟩ (.bool (k4 == 1))) gt #[.int .i64 k1, .int .i64 k2, .int .i64 k3, .bool (k4 == 1)] 67 := hT7.set 3 (.bool (k4 == 1))
      have hL8 := hL7.other (a := ⟨gt, 3, none⟩) hgB hgv.out (.bool (k4 == 1))
      clear hL7 hT7
      replace hL8 := Lib.hid hL8
      replace hT8 := Lib.hid hT8
      go_upto_region 8 with fail
      generalize (w7.setCell ⟨gt, 3, none⟩ (.bool (k4 == 1))) = W8 at hL8 hT8 ⊢
      clear c0 c1 c2 c3 f0 f1 f2 f3
      have x16 := hL8.out.r.x.cell 16 (v := vt) rfl
      have hL9 := hL8.out.alloc (.cells #[.int .i64 k1, .int .i64 k2, .int .i64 k3, .bool (k4 == 1)] 67)
      replace hL9 := Lib.hid hL9
      have hkm : acc.length ≤ 65536 := by omega
      replace hal := Lib.hid hal
      go_wp2_with (first | (with_reducible refine wpList_loadB hT8.out Try.underlying67 rfl (by kernel_rfl) size_tx (by kernel_rfl) _ rfl rfl ?_) | ((with_reducible refine wpList_append1 28 67 (.agg #[.int .i64 0, .int .i64 0, .int .i64 0, .bool false]) 4 32 Try.underlying28 info_tx rfl (by decide) (by decide) ?_); refine ⟨B, vt, acc.length, (txC acc).flatten, _, _, [.int .i64 k1, .int .i64 k2, .int .i64 k3, .bool (k4 == 1)], rfl, rfl, hL9.out.own, rfl, new_cells _ _ [.int .i64 k1, .int .i64 k2, .int .i64 k3, .bool (k4 == 1)], ?_, ?_, ?_, ?_⟩; (intro u hu; simp only [List.mem_cons, List.not_mem_nil, or_false] at hu; rcases hu with rfl | rfl | rfl | rfl <;> rfl); omega; exact hL9.out.hB; intro v8 w8 hown8 hb8 hg8; obtain ⟨hX8, hN8⟩ := hL9.out.app ⟨k1, k2, k3, k4 == 1⟩ hown8 hg8; obtain ⟨va, vm, vc, rfl⟩ := row_slice hown8; have x8 := hX8.cell 16 (v := vt) rfl; have f8 := hX8.free 16; replace hX8 := Lib.hid hX8; replace hN8 := Lib.hid hN8; clear hown8 hg8 hb8))
      go_roundw
      case rel => exact ⟨k + 1, rm, q4, _, _, by go_num, by omega, by (have := hal.out; simp; omega), hN8, HG2⟩
      case measure => simp [intOf]; omega
    · have hex : txsG (rnumF l) rem (pa, pb) acc = (acc, (pa, pb)) := by
        rcases Nat.eq_zero_or_pos rem with h | h
        · subst h; rfl
        · obtain ⟨rm, rfl⟩ : ∃ rm, rem = rm + 1 := ⟨rem - 1, by omega⟩
          have hb : pb = true := by
            cases pb with
            | true => rfl
            | false => exact absurd ⟨h, rfl⟩ hgo
          subst hb
          simp [txsG]
      have HT1 : Hid (txsG (rnumF l) r0 p2 [] = (acc, (pa, pb))) := HTT.out.trans (HG.out.symm.trans hex)
      have hacc : acc.length ≤ 65536 := by omega
      clear HG HTT hex
      rcases Nat.eq_zero_or_pos rem with h0 | h0
      · subst h0
        have hkk : k = r0 := by omega
        clear hgo z2
        obtain ⟨⟨n7, p7⟩, hq7⟩ : ∃ q, rnumF l (pa, pb) 2 = q := ⟨_, rfl⟩
        have HQ7 := Lib.hid hq7
        go_wp2_with fail
        refine (HL.out.num 2 2 rfl (by omega) _ hq7).mono ?_
        rintro e w7 ⟨rfl, hL7, _⟩
        obtain ⟨r1, hr1, hlt1⟩ : ∃ r : Nat, n7 = (r : Int) ∧ r < 65536 := by
          obtain ⟨r, h1, h2⟩ := rnumF_two l (pa, pb)
          rw [hq7] at h1
          exact ⟨r, h1, h2⟩
        subst hr1
        obtain ⟨DD, HDD⟩ : ∃ T, Hid (dysG (rnumF l) r1 p7 [] = T) := ⟨_, rfl⟩
        obtain ⟨B2, HBW2⟩ : ∃ B, Hid (w7.heap.size = B) := ⟨_, rfl⟩
        have hD0 : KD w w7 g gr gx l s p7 zs18 #[.int .i64 lsn, .int .i64 prev, .int .i64 txn, .int .i64 9, .int .i64 0, .int .i64 0, .int .i64 n1, .int .i64 0, .int .i64 0, .string ⟨#[]⟩, .string ⟨#[]⟩, .int .i64 0, .int .i64 0, .string ⟨#[]⟩, .int .i64 0, .int .i64 0, vt, .slice none 0 0] B vt acc B2 (.slice none 0 0) [] :=
          ⟨hL7.r, hL7.own, fun k e => by rw [← HBW2.out]; exact (hL7.own.lt k e).2, World.ownsRow_nil _ _ _ _, hL7.qg, hL7.qr, hL7.qx, hL7.qw, by rw [← HBW2.out]; exact hL7.hB, by rw [HBW2.out]; exact Nat.le_refl _⟩
        replace hD0 := Lib.hid hD0
        clear hL7 HL hq7
        go_upto_region 11 with fail
        go_loopw [8] (fun kv wr => ∃ (k2 rem : Nat) (p : Rd) (ac : List Dy) (vd : Value), kv = .int .i64 (k2 : Int) ∧ k2 + rem = r1 ∧ ac.length = k2 ∧ Hid (KD w wr g gr gx l s p zs18 #[.int .i64 lsn, .int .i64 prev, .int .i64 txn, .int .i64 9, .int .i64 0, .int .i64 0, .int .i64 n1, .int .i64 0, .int .i64 0, .string ⟨#[]⟩, .string ⟨#[]⟩, .int .i64 0, .int .i64 0, .string ⟨#[]⟩, .int .i64 0, .int .i64 0, vt, vd] B vt acc B2 vd ac) ∧ Hid (dysG (rnumF l) rem p ac = DD)) (fun kv _ => r1 - (intOf kv).toNat)
        case atStart => exact ⟨0, r1, p7, [], .slice none 0 0, rfl, by omega, rfl, hD0, HDD⟩
        case round =>
          clear hD0
          obtain ⟨k2, rem, ⟨pc, pd⟩, ac, vd, rfl, hkr, hal, HL, HG⟩ := hrel
          obtain ⟨⟨z0, z1, z2⟩, zf0, zf1, zf2⟩ := Blk3 HL.out.r.rd
          clear z0 z1 zf0 zf1 zf2
          by_cases hgo : 0 < rem ∧ pd = false
          · obtain ⟨hrem, rfl⟩ := hgo
            obtain ⟨rm, rfl⟩ : ∃ rm, rem = rm + 1 := ⟨rem - 1, by omega⟩
            have hi1 : (k2 : Int) < (r1 : Int) := by omega
            obtain ⟨⟨k3, q1⟩, hk1⟩ : ∃ q, rnumF l (pc, false) 3 = q := ⟨_, rfl⟩
            obtain ⟨⟨k4, q2⟩, hk2⟩ : ∃ q, rnumF l q1 6 = q := ⟨_, rfl⟩
            have HK1 := Lib.hid hk1
            have HK2 := Lib.hid hk2
            have HG2 : Hid (dysG (rnumF l) rm q2 (ac ++ [⟨k3, k4⟩]) = DD) := by
              show _ = _
              rw [← HG.out]
              simp only [dysG, dy1, hk1, hk2, Bool.false_eq_true, if_false]
            clear hk1 hk2 HG
            go_wp2_with fail
            refine (HL.out.num 3 3 rfl (by omega) _ HK1.out).mono ?_
            rintro e w8 ⟨rfl, hL0⟩
            clear HL z2
            have hL := hL0.drew
            have x0 := hL.r.x.cell 17 (v := vd) rfl
            obtain ⟨i0, hi0', hz0, hz1, hz2⟩ := info_parts info_dy
            have hkm : ac.length ≤ 65536 := by omega
            replace hal := Lib.hid hal
            replace hL := Lib.hid hL
            replace hL0 := Lib.hid hL0
            go_upto_region 14 with fail
            clear hL0
            go_region_law (first
              | (go_simp; go_at_call 59; refine (hL.out.num 6 6 rfl (by omega) _ HK2.out).mono ?_; rintro e w7 ⟨rfl, hL4⟩; have x4 := hL4.r.x.cell 17 (v := vd) rfl; have hL5 := hL4.alloc (.cells #[.int .i64 k3, .int .i64 k4] 71); have x5 := hL5.r.x.cell 17 (v := vd) rfl; replace hL4 := Lib.hid hL4; replace hL5 := Lib.hid hL5)
              | (refine step_append_lies _ (by rfl) _ _ _ (by rfl) B2 71 i0 _ 2 16 Try.underlying29 hi0' hz0 hz1 hz2 rfl (by omega) vd ac.length (dyC ac).flatten rfl hL5.out.own ⟨_, 0, none⟩ 1 1 [.int .i64 k3, .int .i64 k4] rfl (by rfl) (World.news_of_block (cs := #[.int .i64 k3, .int .i64 k4]) (t := 71) (fr := (0, 0)) (heap_alloc_new _ _)) (by intro u hu; simp only [List.mem_cons, List.not_mem_nil, or_false] at hu; rcases hu with rfl | rfl <;> rfl) (by omega) (by unfold maxLen; omega) (by omega) hL5.out.hB _ rfl ?_; intro gg cap w8 hown8 hgrow hat hlt8; obtain ⟨hX8, hN8⟩ := hL5.out.app ⟨k3, k4⟩ hown8 hgrow; have x8 := hX8.cell 17 (v := vd) rfl; have f8 := hX8.free 17; replace hX8 := Lib.hid hX8; replace hN8 := Lib.hid hN8; clear hown8 hgrow))
            all_goals (try simp [go_sem]); all_goals (try go_wp2)
            all_goals go_roundw
            case rel => exact ⟨k2 + 1, rm, q2, _, _, by go_num, by omega, by (have := hal.out; simp; omega), hN8, HG2⟩
            case measure => first | (simp [intOf]; done) | (simp [intOf]; omega)
            all_goals first | exact ⟨k2 + 1, rm, q2, _, _, by go_num, by omega, by (have := hal.out; simp; omega), hN8, HG2⟩ | (simp [intOf]; done) | (simp [intOf]; omega)
          · have hex : dysG (rnumF l) rem (pc, pd) ac = (ac, (pc, pd)) := by
              rcases Nat.eq_zero_or_pos rem with h | h
              · subst h; rfl
              · obtain ⟨rm, rfl⟩ : ∃ rm, rem = rm + 1 := ⟨rem - 1, by omega⟩
                have hb : pd = true := by
                  cases pd with
                  | true => rfl
                  | false => exact absurd ⟨h, rfl⟩ hgo
                subst hb
                simp [dysG]
            have HD1 : Hid (dysG (rnumF l) r1 p7 [] = (ac, (pc, pd))) := HDD.out.trans (HG.out.symm.trans hex)
            have hacc2 : ac.length ≤ 65536 := by omega
            clear HG HDD hex
            have HFIN : Hid (R = { lsn := lsn, prev := prev, txn := txn, kind := 9, page := 0, next := 0, num := n1, ok := 0, os := 0, old := [], new := [], how := 0, root := 0, key := [], rp := 0, rs := 0, txns := acc, dirty := ac }) := by
              show _ = _
              rw [HT.out]
              simp only [liG, HQ1.out, HQ2.out, Int.toNat_natCast, HT1.out, HQ7.out, HD1.out]
            clear HT HT1 HD1 HQ1 HQ2 HQ7
            rcases Nat.eq_zero_or_pos rem with h0 | h0
            · subst h0
              have hkk2 : k2 = r1 := by omega
              clear hgo z2
              obtain ⟨va, vm, vc, rfl⟩ := row_slice HL.out.own0
              obtain ⟨da, dm, dc, rfl⟩ := row_slice HL.out.own
              go_wp2_with (first | (with_reducible refine wpList_load18 HL.out.r.x (by kernel_rfl) _ rfl rfl ?_) | ((with_reducible refine wpList_store18 HL.out.r.res (by kernel_rfl) (by kernel_rfl) (by kernel_rfl) rfl _ _ rfl rfl rfl ?_); intro W9 hW9 hgr9))
              have HV := rec_val hW9 rfl
              have b1 := HL.out.r.h1
              have b4 := HL.out.pr
              have b5 := HL.out.qB
              have ho1 := HL.out.own0.kept hgr9 (.inr fun e => by have := (HL.out.own0.lt _ e).1; omega)
              have ho2 := HL.out.own.kept hgr9 (.inr fun e => by have := (HL.out.own.lt _ e).1; omega)
              refine bodyPost_ret (v := .agg #[.int .i64 lsn, .int .i64 prev, .int .i64 txn, .int .i64 9, .int .i64 0, .int .i64 0, .int .i64 n1, .int .i64 0, .int .i64 0, .string ⟨#[]⟩, .string ⟨#[]⟩, .int .i64 0, .int .i64 0, .string ⟨#[]⟩, .int .i64 0, .int .i64 0, .slice va vm vc, .slice da dm dc]) ?_ rfl ?_
              · simp [results, Try.results62, asAddr, Act.put, HV]
              · rw [HFIN.out]
                have b6 := HL.out.pw
                exact ⟨.slice va vm vc, .slice da dm dc, rfl, ⟨row_lower ho1 b6, hacc⟩, ⟨row_lower ho2 (Nat.le_trans b6 b5), hacc2⟩, grownBy_own HL.out.r.fr hgr9 b1⟩
            · have hb : pd = true := by
                cases pd with
                | true => rfl
                | false => exact absurd ⟨h0, rfl⟩ hgo
              subst hb
              clear hgo
              have hi2 : (k2 : Int) < (r1 : Int) := by omega
              obtain ⟨va, vm, vc, rfl⟩ := row_slice HL.out.own0
              obtain ⟨da, dm, dc, rfl⟩ := row_slice HL.out.own
              go_wp2_with (first | (with_reducible refine wpList_load18 HL.out.r.x (by kernel_rfl) _ rfl rfl ?_) | ((with_reducible refine wpList_store18 HL.out.r.res (by kernel_rfl) (by kernel_rfl) (by kernel_rfl) rfl _ _ rfl rfl rfl ?_); intro W9 hW9 hgr9))
              have HV := rec_val hW9 rfl
              have b1 := HL.out.r.h1
              have b4 := HL.out.pr
              have b5 := HL.out.qB
              have ho1 := HL.out.own0.kept hgr9 (.inr fun e => by have := (HL.out.own0.lt _ e).1; omega)
              have ho2 := HL.out.own.kept hgr9 (.inr fun e => by have := (HL.out.own.lt _ e).1; omega)
              refine bodyPost_ret (v := .agg #[.int .i64 lsn, .int .i64 prev, .int .i64 txn, .int .i64 9, .int .i64 0, .int .i64 0, .int .i64 n1, .int .i64 0, .int .i64 0, .string ⟨#[]⟩, .string ⟨#[]⟩, .int .i64 0, .int .i64 0, .string ⟨#[]⟩, .int .i64 0, .int .i64 0, .slice va vm vc, .slice da dm dc]) ?_ rfl ?_
              · simp [results, Try.results62, asAddr, Act.put, HV]
              · rw [HFIN.out]
                have b6 := HL.out.pw
                exact ⟨.slice va vm vc, .slice da dm dc, rfl, ⟨row_lower ho1 b6, hacc⟩, ⟨row_lower ho2 (Nat.le_trans b6 b5), hacc2⟩, grownBy_own HL.out.r.fr hgr9 b1⟩
      · have hb : pb = true := by
          cases pb with
          | true => rfl
          | false => exact absurd ⟨h0, rfl⟩ hgo
        subst hb
        clear hgo
        have hi0 : (k : Int) < (r0 : Int) := by omega
        obtain ⟨⟨n7, p7⟩, hq7⟩ : ∃ q, rnumF l (pa, true) 2 = q := ⟨_, rfl⟩
        have HQ7 := Lib.hid hq7
        go_wp2_with fail
        refine (HL.out.num 2 2 rfl (by omega) _ hq7).mono ?_
        rintro e w7 ⟨rfl, hL7, _⟩
        obtain ⟨r1, hr1, hlt1⟩ : ∃ r : Nat, n7 = (r : Int) ∧ r < 65536 := by
          obtain ⟨r, h1, h2⟩ := rnumF_two l (pa, true)
          rw [hq7] at h1
          exact ⟨r, h1, h2⟩
        subst hr1
        obtain ⟨DD, HDD⟩ : ∃ T, Hid (dysG (rnumF l) r1 p7 [] = T) := ⟨_, rfl⟩
        obtain ⟨B2, HBW2⟩ : ∃ B, Hid (w7.heap.size = B) := ⟨_, rfl⟩
        have hD0 : KD w w7 g gr gx l s p7 zs18 #[.int .i64 lsn, .int .i64 prev, .int .i64 txn, .int .i64 9, .int .i64 0, .int .i64 0, .int .i64 n1, .int .i64 0, .int .i64 0, .string ⟨#[]⟩, .string ⟨#[]⟩, .int .i64 0, .int .i64 0, .string ⟨#[]⟩, .int .i64 0, .int .i64 0, vt, .slice none 0 0] B vt acc B2 (.slice none 0 0) [] :=
          ⟨hL7.r, hL7.own, fun k e => by rw [← HBW2.out]; exact (hL7.own.lt k e).2, World.ownsRow_nil _ _ _ _, hL7.qg, hL7.qr, hL7.qx, hL7.qw, by rw [← HBW2.out]; exact hL7.hB, by rw [HBW2.out]; exact Nat.le_refl _⟩
        replace hD0 := Lib.hid hD0
        clear hL7 HL hq7
        go_upto_region 11 with fail
        go_loopw [8] (fun kv wr => ∃ (k2 rem : Nat) (p : Rd) (ac : List Dy) (vd : Value), kv = .int .i64 (k2 : Int) ∧ k2 + rem = r1 ∧ ac.length = k2 ∧ Hid (KD w wr g gr gx l s p zs18 #[.int .i64 lsn, .int .i64 prev, .int .i64 txn, .int .i64 9, .int .i64 0, .int .i64 0, .int .i64 n1, .int .i64 0, .int .i64 0, .string ⟨#[]⟩, .string ⟨#[]⟩, .int .i64 0, .int .i64 0, .string ⟨#[]⟩, .int .i64 0, .int .i64 0, vt, vd] B vt acc B2 vd ac) ∧ Hid (dysG (rnumF l) rem p ac = DD)) (fun kv _ => r1 - (intOf kv).toNat)
        case atStart => exact ⟨0, r1, p7, [], .slice none 0 0, rfl, by omega, rfl, hD0, HDD⟩
        case round =>
          clear hD0
          obtain ⟨k2, rem, ⟨pc, pd⟩, ac, vd, rfl, hkr, hal, HL, HG⟩ := hrel
          obtain ⟨⟨z0, z1, z2⟩, zf0, zf1, zf2⟩ := Blk3 HL.out.r.rd
          clear z0 z1 zf0 zf1 zf2
          by_cases hgo : 0 < rem ∧ pd = false
          · obtain ⟨hrem, rfl⟩ := hgo
            obtain ⟨rm, rfl⟩ : ∃ rm, rem = rm + 1 := ⟨rem - 1, by omega⟩
            have hi1 : (k2 : Int) < (r1 : Int) := by omega
            obtain ⟨⟨k3, q1⟩, hk1⟩ : ∃ q, rnumF l (pc, false) 3 = q := ⟨_, rfl⟩
            obtain ⟨⟨k4, q2⟩, hk2⟩ : ∃ q, rnumF l q1 6 = q := ⟨_, rfl⟩
            have HK1 := Lib.hid hk1
            have HK2 := Lib.hid hk2
            have HG2 : Hid (dysG (rnumF l) rm q2 (ac ++ [⟨k3, k4⟩]) = DD) := by
              show _ = _
              rw [← HG.out]
              simp only [dysG, dy1, hk1, hk2, Bool.false_eq_true, if_false]
            clear hk1 hk2 HG
            go_wp2_with fail
            refine (HL.out.num 3 3 rfl (by omega) _ HK1.out).mono ?_
            rintro e w8 ⟨rfl, hL0⟩
            clear HL z2
            have hL := hL0.drew
            have x0 := hL.r.x.cell 17 (v := vd) rfl
            obtain ⟨i0, hi0', hz0, hz1, hz2⟩ := info_parts info_dy
            have hkm : ac.length ≤ 65536 := by omega
            replace hal := Lib.hid hal
            replace hL := Lib.hid hL
            replace hL0 := Lib.hid hL0
            go_upto_region 14 with fail
            clear hL0
            go_region_law (first
              | (go_simp; go_at_call 59; refine (hL.out.num 6 6 rfl (by omega) _ HK2.out).mono ?_; rintro e w7 ⟨rfl, hL4⟩; have x4 := hL4.r.x.cell 17 (v := vd) rfl; have hL5 := hL4.alloc (.cells #[.int .i64 k3, .int .i64 k4] 71); have x5 := hL5.r.x.cell 17 (v := vd) rfl; replace hL4 := Lib.hid hL4; replace hL5 := Lib.hid hL5)
              | (refine step_append_lies _ (by rfl) _ _ _ (by rfl) B2 71 i0 _ 2 16 Try.underlying29 hi0' hz0 hz1 hz2 rfl (by omega) vd ac.length (dyC ac).flatten rfl hL5.out.own ⟨_, 0, none⟩ 1 1 [.int .i64 k3, .int .i64 k4] rfl (by rfl) (World.news_of_block (cs := #[.int .i64 k3, .int .i64 k4]) (t := 71) (fr := (0, 0)) (heap_alloc_new _ _)) (by intro u hu; simp only [List.mem_cons, List.not_mem_nil, or_false] at hu; rcases hu with rfl | rfl <;> rfl) (by omega) (by unfold maxLen; omega) (by omega) hL5.out.hB _ rfl ?_; intro gg cap w8 hown8 hgrow hat hlt8; obtain ⟨hX8, hN8⟩ := hL5.out.app ⟨k3, k4⟩ hown8 hgrow; have x8 := hX8.cell 17 (v := vd) rfl; have f8 := hX8.free 17; replace hX8 := Lib.hid hX8; replace hN8 := Lib.hid hN8; clear hown8 hgrow))
            all_goals (try simp [go_sem]); all_goals (try go_wp2)
            all_goals go_roundw
            case rel => exact ⟨k2 + 1, rm, q2, _, _, by go_num, by omega, by (have := hal.out; simp; omega), hN8, HG2⟩
            case measure => first | (simp [intOf]; done) | (simp [intOf]; omega)
            all_goals first | exact ⟨k2 + 1, rm, q2, _, _, by go_num, by omega, by (have := hal.out; simp; omega), hN8, HG2⟩ | (simp [intOf]; done) | (simp [intOf]; omega)
          · have hex : dysG (rnumF l) rem (pc, pd) ac = (ac, (pc, pd)) := by
              rcases Nat.eq_zero_or_pos rem with h | h
              · subst h; rfl
              · obtain ⟨rm, rfl⟩ : ∃ rm, rem = rm + 1 := ⟨rem - 1, by omega⟩
                have hb : pd = true := by
                  cases pd with
                  | true => rfl
                  | false => exact absurd ⟨h, rfl⟩ hgo
                subst hb
                simp [dysG]
            have HD1 : Hid (dysG (rnumF l) r1 p7 [] = (ac, (pc, pd))) := HDD.out.trans (HG.out.symm.trans hex)
            have hacc2 : ac.length ≤ 65536 := by omega
            clear HG HDD hex
            have HFIN : Hid (R = { lsn := lsn, prev := prev, txn := txn, kind := 9, page := 0, next := 0, num := n1, ok := 0, os := 0, old := [], new := [], how := 0, root := 0, key := [], rp := 0, rs := 0, txns := acc, dirty := ac }) := by
              show _ = _
              rw [HT.out]
              simp only [liG, HQ1.out, HQ2.out, Int.toNat_natCast, HT1.out, HQ7.out, HD1.out]
            clear HT HT1 HD1 HQ1 HQ2 HQ7
            rcases Nat.eq_zero_or_pos rem with h0 | h0
            · subst h0
              have hkk2 : k2 = r1 := by omega
              clear hgo z2
              obtain ⟨va, vm, vc, rfl⟩ := row_slice HL.out.own0
              obtain ⟨da, dm, dc, rfl⟩ := row_slice HL.out.own
              go_wp2_with (first | (with_reducible refine wpList_load18 HL.out.r.x (by kernel_rfl) _ rfl rfl ?_) | ((with_reducible refine wpList_store18 HL.out.r.res (by kernel_rfl) (by kernel_rfl) (by kernel_rfl) rfl _ _ rfl rfl rfl ?_); intro W9 hW9 hgr9))
              have HV := rec_val hW9 rfl
              have b1 := HL.out.r.h1
              have b4 := HL.out.pr
              have b5 := HL.out.qB
              have ho1 := HL.out.own0.kept hgr9 (.inr fun e => by have := (HL.out.own0.lt _ e).1; omega)
              have ho2 := HL.out.own.kept hgr9 (.inr fun e => by have := (HL.out.own.lt _ e).1; omega)
              refine bodyPost_ret (v := .agg #[.int .i64 lsn, .int .i64 prev, .int .i64 txn, .int .i64 9, .int .i64 0, .int .i64 0, .int .i64 n1, .int .i64 0, .int .i64 0, .string ⟨#[]⟩, .string ⟨#[]⟩, .int .i64 0, .int .i64 0, .string ⟨#[]⟩, .int .i64 0, .int .i64 0, .slice va vm vc, .slice da dm dc]) ?_ rfl ?_
              · simp [results, Try.results62, asAddr, Act.put, HV]
              · rw [HFIN.out]
                have b6 := HL.out.pw
                exact ⟨.slice va vm vc, .slice da dm dc, rfl, ⟨row_lower ho1 b6, hacc⟩, ⟨row_lower ho2 (Nat.le_trans b6 b5), hacc2⟩, grownBy_own HL.out.r.fr hgr9 b1⟩
            · have hb : pd = true := by
                cases pd with
                | true => rfl
                | false => exact absurd ⟨h0, rfl⟩ hgo
              subst hb
              clear hgo
              have hi2 : (k2 : Int) < (r1 : Int) := by omega
              obtain ⟨va, vm, vc, rfl⟩ := row_slice HL.out.own0
              obtain ⟨da, dm, dc, rfl⟩ := row_slice HL.out.own
              go_wp2_with (first | (with_reducible refine wpList_load18 HL.out.r.x (by kernel_rfl) _ rfl rfl ?_) | ((with_reducible refine wpList_store18 HL.out.r.res (by kernel_rfl) (by kernel_rfl) (by kernel_rfl) rfl _ _ rfl rfl rfl ?_); intro W9 hW9 hgr9))
              have HV := rec_val hW9 rfl
              have b1 := HL.out.r.h1
              have b4 := HL.out.pr
              have b5 := HL.out.qB
              have ho1 := HL.out.own0.kept hgr9 (.inr fun e => by have := (HL.out.own0.lt _ e).1; omega)
              have ho2 := HL.out.own.kept hgr9 (.inr fun e => by have := (HL.out.own.lt _ e).1; omega)
              refine bodyPost_ret (v := .agg #[.int .i64 lsn, .int .i64 prev, .int .i64 txn, .int .i64 9, .int .i64 0, .int .i64 0, .int .i64 n1, .int .i64 0, .int .i64 0, .string ⟨#[]⟩, .string ⟨#[]⟩, .int .i64 0, .int .i64 0, .string ⟨#[]⟩, .int .i64 0, .int .i64 0, .slice va vm vc, .slice da dm dc]) ?_ rfl ?_
              · simp [results, Try.results62, asAddr, Act.put, HV]
              · rw [HFIN.out]
                have b6 := HL.out.pw
                exact ⟨.slice va vm vc, .slice da dm dc, rfl, ⟨row_lower ho1 b6, hacc⟩, ⟨row_lower ho2 (Nat.le_trans b6 b5), hacc2⟩, grownBy_own HL.out.r.fr hgr9 b1⟩
end Go.Proofs.Ytloengjcniefgaa.Rec
namespace Go.Proofs.Ytloengjcniefgaa.Rec
set_option linter.unusedVariables false
set_option linter.unusedSimpArgs false
open Go.RowKit Go.Sort
open Oct (S beN putL U I getI sumN S_size S_data)
theorem rtail_clr (l : List UInt8) (N2 N3 N4 : Int) (p : Rd) : tailG (rnumF l) (textF l) 3 N2 N3 N4 p =
    (let o := ropF l (rnumF l p 3).2
     { lsn := N2, prev := N3, txn := N4, kind := 3, page := (rnumF l p 3).1, next := (rnumF l o.2.2.2.2 6).1, num := 0, ok := o.1, os := o.2.1, old := o.2.2.1, new := o.2.2.2.1, how := 0, root := 0, key := [], rp := 0, rs := 0, txns := [], dirty := [] }) := rfl
theorem rtail_nest (l : List UInt8) (N2 N3 N4 : Int) (p : Rd) : tailG (rnumF l) (textF l) 4 N2 N3 N4 p = { lsn := N2, prev := N3, txn := N4, kind := 4, page := 0, next := (rnumF l p 6).1, num := 0, ok := 0, os := 0, old := [], new := [], how := 0, root := 0, key := [], rp := 0, rs := 0, txns := [], dirty := [] } := rfl
theorem rtail_image (l : List UInt8) (N2 N3 N4 : Int) (p : Rd) : tailG (rnumF l) (textF l) 8 N2 N3 N4 p =
    (let o := ropF l (rnumF l p 3).2
     { lsn := N2, prev := N3, txn := N4, kind := 8, page := (rnumF l p 3).1, next := 0, num := 0, ok := o.1, os := o.2.1, old := o.2.2.1, new := o.2.2.2.1, how := 0, root := 0, key := [], rp := 0, rs := 0, txns := [], dirty := [] }) := rfl
theorem rtail_none (l : List UInt8) (N1 N2 N3 N4 : Int) (p : Rd) (h2 : N1 ≠ 2) (h3 : N1 ≠ 3) (h4 : N1 ≠ 4) (h8 : N1 ≠ 8) (h9 : N1 ≠ 9) : tailG (rnumF l) (textF l) N1 N2 N3 N4 p = { lsn := N2, prev := N3, txn := N4, kind := N1, page := 0, next := 0, num := 0, ok := 0, os := 0, old := [], new := [], how := 0, root := 0, key := [], rp := 0, rs := 0, txns := [], dirty := [] } := by
  simp [tailG, chF, hoF, neF, liF, h2, h3, h4, h8, h9]
/-- A record is answered, with its lists. -/
def ReadA (r : Rc) (w : World) (e : Ending) (w' : World) : Prop :=
  ∃ vt vd, e = .returned (.agg (rcC r vt vd)) ∧ (w'.ownsRow w.heap.size 67 4 vt r.txns.length (txC r.txns).flatten ∧ r.txns.length ≤ 65536) ∧ (w'.ownsRow w.heap.size 71 2 vd r.dirty.length (dyC r.dirty).flatten ∧ r.dirty.length ≤ 65536) ∧ Below w.heap.size w w'
theorem below_own {w w1 : World} {g : Nat} (h : w.grownBy w1 (some g)) (hg : w.heap.size ≤ g) : Below w.heap.size w w1 := Below.ofGrown (Below.refl _ _) h hg (Nat.le_refl _)
theorem alloc_st {V W : World} {o : Obj} (hg : (V.alloc o).grownBy W (some V.heap.size)) : Below V.heap.size V W :=
  Below.ofGrown ((Below.refl _ _).alloc (Nat.le_refl _) o) hg (Nat.le_refl _) (by simp)
theorem nm18 (r : Rc) (vt vd : Value) : ∃ x0 x1 x2 x3 x4 x5 x6 x7 x8 x9 x10 x11 x12 x13 x14 x15 x16 x17, rcC r vt vd = #[x0, x1, x2, x3, x4, x5, x6, x7, x8, x9, x10, x11, x12, x13, x14, x15, x16, x17] := ⟨_, _, _, _, _, _, _, _, _, _, _, _, _, _, _, _, _, _, rfl⟩
set_option maxHeartbeats 16000000 in
set_option maxRecDepth 100000 in
theorem rread_any (l : List UInt8) (s : ByteArray) (hsl : S l = s) (hl : l.length ≤ 1000000) (w : World) :
    Calls Try.prog 27 #[.string s] w (ReadA (rrecF l) w) := by
  have HT : rrecF l = recG (rnumF l) (textF l) := rfl
  obtain ⟨R, hRR⟩ : ∃ R, rrecF l = R := ⟨_, rfl⟩
  rw [hRR] at HT ⊢
  clear hRR
  unfold recG at HT
  obtain ⟨⟨N1, P1⟩, hq1⟩ : ∃ q, rnumF l (0, false) 1 = q := ⟨_, rfl⟩
  rw [hq1] at HT
  obtain ⟨⟨N2, P2⟩, hq2⟩ : ∃ q, rnumF l P1 6 = q := ⟨_, rfl⟩
  rw [hq2] at HT
  obtain ⟨⟨N3, P3⟩, hq3⟩ : ∃ q, rnumF l P2 6 = q := ⟨_, rfl⟩
  rw [hq3] at HT
  obtain ⟨⟨N4, p0⟩, hq4⟩ : ∃ q, rnumF l P3 6 = q := ⟨_, rfl⟩
  rw [hq4] at HT
  simp only at HT
  have hp1 : P1.1 ≤ 8 := by have := rnumF_le l (0, false) 1 0 (by simp) (by omega); rwa [hq1] at this
  have hp2 : P2.1 ≤ 16 := by have := rnumF_le l P1 6 8 hp1 (by omega); rwa [hq2] at this
  have hp3 : P3.1 ≤ 24 := by have := rnumF_le l P2 6 16 hp2 (by omega); rwa [hq3] at this
  have hp0 : p0.1 ≤ 32 := by have := rnumF_le l P3 6 24 hp3 (by omega); rwa [hq4] at this
  have hR := Blk.new (w.alloc (.cells zs18 31)) (rdC s (0, false)) 95
  have hRes := (Blk.new w zs18 31).alloc (.cells (rdC s (0, false)) 95)
  have hb0 : Below w.heap.size w ((w.alloc (.cells zs18 31)).alloc (.cells (rdC s (0, false)) 95)) := ((Below.refl _ _).alloc (Nat.le_refl _) _).alloc (by simp) _
  have hfr := grownBy_below hb0 (some (w.heap.size + 1))
  simp only [World.size_alloc] at hR
  obtain ⟨gr, HGR⟩ : ∃ x, Hid (w.heap.size = x) := ⟨_, rfl⟩
  obtain ⟨g, HG⟩ : ∃ x, Hid (w.heap.size + 1 = x) := ⟨_, rfl⟩
  have h1 : w.heap.size ≤ gr := by rw [← HGR.out]; omega
  have hgw : w.heap.size ≤ g := by rw [← HG.out]; omega
  have m1 : g ≠ gr := by rw [← HG.out, ← HGR.out]; omega
  have e1 : (some g = some gr) = False := by simp [m1]
  rw [HG.out] at hR hfr
  rw [HGR.out] at hRes
  replace hR := Lib.hid hR
  replace hRes := Lib.hid hRes
  replace hfr := Lib.hid hfr
  have HN1 := Lib.hid (fun W hW => rnum_any l s hsl (0, false) 1 1 rfl g W hW (by omega) hl (by simp))
  have HN2 := Lib.hid (fun W hW => rnum_any l s hsl P1 6 6 rfl g W hW (by omega) hl (by omega))
  have HN3 := Lib.hid (fun W hW => rnum_any l s hsl P2 6 6 rfl g W hW (by omega) hl (by omega))
  have HN4 := Lib.hid (fun W hW => rnum_any l s hsl P3 6 6 rfl g W hW (by omega) hl (by omega))
  rw [hq1] at HN1
  rw [hq2] at HN2
  rw [hq3] at HN3
  rw [hq4] at HN4
  clear hq1 hq2 hq3 hq4 hp1 hp2 hp3 hb0
  go_enter Try.func27, Try.ntmps27
  go_upto_region 2 with fail
  rw [HG.out, HGR.out]
  rw [show ((w.alloc (.cells #[.int .i64 0, .int .i64 0, .int .i64 0, .int .i64 0, .int .i64 0, .int .i64 0, .int .i64 0, .int .i64 0, .int .i64 0, .string ⟨#[]⟩, .string ⟨#[]⟩, .int .i64 0, .int .i64 0, .string ⟨#[]⟩, .int .i64 0, .int .i64 0, .slice none 0 0, .slice none 0 0] 31)).alloc (.cells #[.string s, .int .i64 0, .bool false] 95)) = ((w.alloc (.cells zs18 31)).alloc (.cells (rdC s (0, false)) 95)) from rfl]
  generalize ((w.alloc (.cells zs18 31)).alloc (.cells (rdC s (0, false)) 95)) = W0 at hR hRes hfr ⊢
  clear HG HGR
  go_wp2_with fail
  refine (HN1.out _ hR.out).mono ?_
  rintro e w1 ⟨rfl, hR2, hg2⟩
  replace hRes := Lib.hid (hRes.out.grown hg2 (by intro e; injection e with e; exact m1 e.symm))
  replace hfr := Lib.hid (hfr.out.trans hg2)
  clear hR HN1 hg2
  have hR := Lib.hid hR2
  clear hR2
  go_wp2_with fail
  refine (HN2.out _ hR.out).mono ?_
  rintro e w2 ⟨rfl, hR2, hg2⟩
  replace hRes := Lib.hid (hRes.out.grown hg2 (by intro e; injection e with e; exact m1 e.symm))
  replace hfr := Lib.hid (hfr.out.trans hg2)
  clear hR HN2 hg2
  have hR := Lib.hid hR2
  clear hR2
  go_wp2_with fail
  refine (HN3.out _ hR.out).mono ?_
  rintro e w3 ⟨rfl, hR2, hg2⟩
  replace hRes := Lib.hid (hRes.out.grown hg2 (by intro e; injection e with e; exact m1 e.symm))
  replace hfr := Lib.hid (hfr.out.trans hg2)
  clear hR HN3 hg2
  have hR := Lib.hid hR2
  clear hR2
  go_wp2_with fail
  refine (HN4.out _ hR.out).mono ?_
  rintro e w4 ⟨rfl, hR2, hg2⟩
  replace hRes := Lib.hid (hRes.out.grown hg2 (by intro e; injection e with e; exact m1 e.symm))
  replace hfr := Lib.hid (hfr.out.trans hg2)
  clear hR HN4 hg2
  have hR := Lib.hid hR2
  clear hR2
  go_upto_region 3 with (first | (with_reducible refine wpList_buildC rfl 31 _ rfl #[.int .i64 N2, .int .i64 N3, .int .i64 N4, .int .i64 N1, .int .i64 0, .int .i64 0, .int .i64 0, .int .i64 0, .int .i64 0, .string ⟨#[]⟩, .string ⟨#[]⟩, .int .i64 0, .int .i64 0, .string ⟨#[]⟩, .int .i64 0, .int .i64 0, .slice none 0 0, .slice none 0 0] (by kernel_rfl) ?_) | ((with_reducible refine wpList_store18 (Blk.new _ #[.int .i64 0, .int .i64 0, .int .i64 0, .int .i64 0, .int .i64 0, .int .i64 0, .int .i64 0, .int .i64 0, .int .i64 0, .string ⟨#[]⟩, .string ⟨#[]⟩, .int .i64 0, .int .i64 0, .string ⟨#[]⟩, .int .i64 0, .int .i64 0, .slice none 0 0, .slice none 0 0] 31) (by kernel_rfl) (by kernel_rfl) (by kernel_rfl) rfl _ _ rfl rfl rfl ?_); intro W1 hX1 hg1))
  have hbx := alloc_st hg1
  obtain ⟨gx, HGX⟩ : ∃ x, Hid (w4.heap.size = x) := ⟨_, rfl⟩
  have lr := hRes.out.lt
  have lg := hR.out.lt
  have m2 : g ≠ gx := by rw [← HGX.out]; omega
  have m3 : gr ≠ gx := by rw [← HGX.out]; omega
  have h2 : w.heap.size ≤ gx := by rw [← HGX.out]; exact hfr.out.size
  rw [HGX.out] at hX1 ⊢
  have hS := RJ.start 32 (hR.out.below hbx) (hRes.out.below hbx) hX1 (hfr.out.trans (grownBy_below hbx _)) h1 h2 m1 m2 m3 hp0 hsl hl
  replace hS := Lib.hid hS
  clear HGX hbx hg1 hX1 lr lg hR hRes hfr h2 e1
  by_cases k2 : N1 = 2
  · subst k2
    have HC := Lib.hid (fun W hW => rchange_any l s hsl hl N2 N3 N4 p0 (by omega) g W hW)
    rw [← HT] at HC
    have c3 := hS.out.x.cell 3 (v := .int .i64 2) rfl
    obtain ⟨x0, x1, x2, x3, x4, x5, x6, x7, x8, x9, x10, x11, x12, x13, x14, x15, x16, x17, hU⟩ := nm18 R (.slice none 0 0) (.slice none 0 0)
    have hone : (rcC R (.slice none 0 0) (.slice none 0 0)).all (·.oneCell') = true := by simp [rcC, Value.oneCell']
    have HU := Lib.hid hU
    rw [hU] at HC hone
    clear hU
    go_wp2_with (first | (with_reducible refine wpList_load18 hS.out.x (by kernel_rfl) _ rfl rfl ?_))
    refine (HC.out _ hS.out.rd).mono ?_
    rintro e w5 ⟨rfl, hg5⟩
    have hRes5 := hS.out.res.grown hg5 (by intro e; injection e with e; exact m1 e.symm)
    have hfr5 := hS.out.fr.trans hg5
    clear hS c3 hg5
    go_wp2_with ((with_reducible refine wpList_store18 hRes5 (by kernel_rfl) (by kernel_rfl) hone rfl _ _ rfl rfl rfl ?_); intro W9 hW9 hgr9)
    have HV := rec_val hW9 rfl
    refine bodyPost_ret (v := .agg #[x0, x1, x2, x3, x4, x5, x6, x7, x8, x9, x10, x11, x12, x13, x14, x15, x16, x17]) ?_ rfl ?_
    · simp [results, Try.results27, asAddr, Act.put, HV]
    · have ht : R.txns = [] := by rw [HT]; rfl
      have hd : R.dirty = [] := by rw [HT]; rfl
      exact ⟨.slice none 0 0, .slice none 0 0, by rw [HU.out], ⟨by rw [ht]; exact World.ownsRow_nil _ _ _ _, by rw [ht]; simp⟩, ⟨by rw [hd]; exact World.ownsRow_nil _ _ _ _, by rw [hd]; simp⟩, below_own (grownBy_own hfr5 hgr9 h1) hgw⟩
  by_cases k3 : N1 = 3
  · subst k3
    rw [rtail_clr] at HT
    simp only at HT
    replace HT := Lib.hid HT
    obtain ⟨c0, c1, c2, c3, c4, c5, c6, c7, c8, c9, c10, c11, c12, c13, c14, c15, c16, c17⟩ := Blk18 hS.out.x
    obtain ⟨y0, y1, y2, y3, y4, y5, y6, y7, y8, y9, y10, y11, y12, y13, y14, y15, y16, y17⟩ := Free18 hS.out.x
    go_upto_region 7 with fail
    obtain ⟨⟨n1, p1⟩, hq⟩ : ∃ q, rnumF l p0 3 = q := ⟨_, rfl⟩
    have HQ1 := Lib.hid hq
    go_wp2_with fail
    refine (hS.out.num (by omega) 3 3 rfl (by omega) _ hq).mono ?_
    rintro e w1 ⟨rfl, hS2, _⟩
    clear hq
    clear c0 c1 c2 c3 c4 c5 c6 c7 c8 c9 c10 c11 c12 c13 c14 c15 c16 c17 y0 y1 y2 y3 y4 y5 y6 y7 y8 y9 y10 y11 y12 y13 y14 y15 y16 y17
    clear hS
    have hS := Lib.hid hS2
    clear hS2
    try simp only at hS
    obtain ⟨c0, c1, c2, c3, c4, c5, c6, c7, c8, c9, c10, c11, c12, c13, c14, c15, c16, c17⟩ := Blk18 hS.out.x
    obtain ⟨y0, y1, y2, y3, y4, y5, y6, y7, y8, y9, y10, y11, y12, y13, y14, y15, y16, y17⟩ := Free18 hS.out.x
    have hS2 : RJ w (w1.setCell ⟨gx, 4, none⟩ (.int .i64 n1)) g gr gx l s p1 _ 31 zs18 #[.int .i64 N2, .int .i64 N3, .int .i64 N4, .int .i64 3, .int .i64 n1, .int .i64 0, .int .i64 0, .int .i64 0, .int .i64 0, .string ⟨#[]⟩, .string ⟨#[]⟩, .int .i64 0, .int .i64 0, .string ⟨#[]⟩, .int .i64 0, .int .i64 0, .slice none 0 0, .slice none 0 0] := (hS.out.setX 4 (.int .i64 n1))
    go_upto_region 8 with fail
    clear c0 c1 c2 c3 c4 c5 c6 c7 c8 c9 c10 c11 c12 c13 c14 c15 c16 c17 y0 y1 y2 y3 y4 y5 y6 y7 y8 y9 y10 y11 y12 y13 y14 y15 y16 y17
    generalize (w1.setCell ⟨gx, 4, none⟩ (.int .i64 n1)) = v1 at hS2 ⊢
    clear hS
    have hS := Lib.hid hS2
    clear hS2
    obtain ⟨c0, c1, c2, c3, c4, c5, c6, c7, c8, c9, c10, c11, c12, c13, c14, c15, c16, c17⟩ := Blk18 hS.out.x
    obtain ⟨y0, y1, y2, y3, y4, y5, y6, y7, y8, y9, y10, y11, y12, y13, y14, y15, y16, y17⟩ := Free18 hS.out.x
    obtain ⟨⟨a2, b2, ol2, nw2, p2⟩, hq⟩ : ∃ q, ropF l p1 = q := ⟨_, rfl⟩
    have HQ2 := Lib.hid hq
    go_wp2_with fail
    refine (rop_any l s hsl p1 g _ hS.out.rd hl (Nat.le_trans hS.out.le (by omega)) _ hq).mono ?_
    rintro e w2 ⟨rfl, hr2, hg2, hle2⟩
    try dsimp only at hr2
    try dsimp only at hle2
    try dsimp only
    have hS2 := hS.out.grown hr2 hg2 hle2
    clear hr2 hg2 hle2
    obtain ⟨so2, hso2⟩ : ∃ x, S ol2 = x := ⟨_, rfl⟩
    obtain ⟨sn2, hsn2⟩ : ∃ x, S nw2 = x := ⟨_, rfl⟩
    rw [hso2, hsn2]
    have HSO2 := Lib.hid hso2
    have HSN2 := Lib.hid hsn2
    clear hq hso2 hsn2
    clear c0 c1 c2 c3 c4 c5 c6 c7 c8 c9 c10 c11 c12 c13 c14 c15 c16 c17 y0 y1 y2 y3 y4 y5 y6 y7 y8 y9 y10 y11 y12 y13 y14 y15 y16 y17
    clear hS
    have hS := Lib.hid hS2
    clear hS2
    try simp only at hS
    obtain ⟨c0, c1, c2, c3, c4, c5, c6, c7, c8, c9, c10, c11, c12, c13, c14, c15, c16, c17⟩ := Blk18 hS.out.x
    obtain ⟨y0, y1, y2, y3, y4, y5, y6, y7, y8, y9, y10, y11, y12, y13, y14, y15, y16, y17⟩ := Free18 hS.out.x
    have hS2 : RJ w ((((w2.setCell ⟨gx, 7, none⟩ (.int .i64 a2)).setCell ⟨gx, 8, none⟩ (.int .i64 b2)).setCell ⟨gx, 9, none⟩ (.string so2)).setCell ⟨gx, 10, none⟩ (.string sn2)) g gr gx l s p2 _ 31 zs18 #[.int .i64 N2, .int .i64 N3, .int .i64 N4, .int .i64 3, .int .i64 n1, .int .i64 0, .int .i64 0, .int .i64 a2, .int .i64 b2, .string so2, .string sn2, .int .i64 0, .int .i64 0, .string ⟨#[]⟩, .int .i64 0, .int .i64 0, .slice none 0 0, .slice none 0 0] := ((((hS.out.setX 7 (.int .i64 a2)).setX 8 (.int .i64 b2)).setX 9 (.string so2)).setX 10 (.string sn2))
    go_upto_region 9 with fail
    clear c0 c1 c2 c3 c4 c5 c6 c7 c8 c9 c10 c11 c12 c13 c14 c15 c16 c17 y0 y1 y2 y3 y4 y5 y6 y7 y8 y9 y10 y11 y12 y13 y14 y15 y16 y17
    generalize ((((w2.setCell ⟨gx, 7, none⟩ (.int .i64 a2)).setCell ⟨gx, 8, none⟩ (.int .i64 b2)).setCell ⟨gx, 9, none⟩ (.string so2)).setCell ⟨gx, 10, none⟩ (.string sn2)) = v2 at hS2 ⊢
    clear hS
    have hS := Lib.hid hS2
    clear hS2
    obtain ⟨c0, c1, c2, c3, c4, c5, c6, c7, c8, c9, c10, c11, c12, c13, c14, c15, c16, c17⟩ := Blk18 hS.out.x
    obtain ⟨y0, y1, y2, y3, y4, y5, y6, y7, y8, y9, y10, y11, y12, y13, y14, y15, y16, y17⟩ := Free18 hS.out.x
    obtain ⟨⟨n3, p3⟩, hq⟩ : ∃ q, rnumF l p2 6 = q := ⟨_, rfl⟩
    have HQ3 := Lib.hid hq
    go_wp2_with fail
    refine (hS.out.num (by omega) 6 6 rfl (by omega) _ hq).mono ?_
    rintro e w3 ⟨rfl, hS2, _⟩
    clear hq
    clear c0 c1 c2 c3 c4 c5 c6 c7 c8 c9 c10 c11 c12 c13 c14 c15 c16 c17 y0 y1 y2 y3 y4 y5 y6 y7 y8 y9 y10 y11 y12 y13 y14 y15 y16 y17
    clear hS
    have hS := Lib.hid hS2
    clear hS2
    try simp only at hS
    obtain ⟨c0, c1, c2, c3, c4, c5, c6, c7, c8, c9, c10, c11, c12, c13, c14, c15, c16, c17⟩ := Blk18 hS.out.x
    obtain ⟨y0, y1, y2, y3, y4, y5, y6, y7, y8, y9, y10, y11, y12, y13, y14, y15, y16, y17⟩ := Free18 hS.out.x
    have hS2 : RJ w (w3.setCell ⟨gx, 5, none⟩ (.int .i64 n3)) g gr gx l s p3 _ 31 zs18 #[.int .i64 N2, .int .i64 N3, .int .i64 N4, .int .i64 3, .int .i64 n1, .int .i64 n3, .int .i64 0, .int .i64 a2, .int .i64 b2, .string so2, .string sn2, .int .i64 0, .int .i64 0, .string ⟨#[]⟩, .int .i64 0, .int .i64 0, .slice none 0 0, .slice none 0 0] := (hS.out.setX 5 (.int .i64 n3))
    go_upto_region 17 with fail
    clear c0 c1 c2 c3 c4 c5 c6 c7 c8 c9 c10 c11 c12 c13 c14 c15 c16 c17 y0 y1 y2 y3 y4 y5 y6 y7 y8 y9 y10 y11 y12 y13 y14 y15 y16 y17
    generalize (w3.setCell ⟨gx, 5, none⟩ (.int .i64 n3)) = v3 at hS2 ⊢
    clear hS
    have hS := Lib.hid hS2
    clear hS2
    obtain ⟨c0, c1, c2, c3, c4, c5, c6, c7, c8, c9, c10, c11, c12, c13, c14, c15, c16, c17⟩ := Blk18 hS.out.x
    obtain ⟨y0, y1, y2, y3, y4, y5, y6, y7, y8, y9, y10, y11, y12, y13, y14, y15, y16, y17⟩ := Free18 hS.out.x
    clear c0 c1 c2 c3 c4 c5 c6 c7 c8 c9 c10 c11 c12 c13 c14 c15 c16 c17 y0 y1 y2 y3 y4 y5 y6 y7 y8 y9 y10 y11 y12 y13 y14 y15 y16 y17
    replace HT := HT.out
    simp only [HQ1.out, HQ2.out, HQ3.out] at HT
    go_wp2_with (first | (with_reducible refine wpList_load18 hS.out.x (by kernel_rfl) _ rfl rfl ?_) | ((with_reducible refine wpList_store18 hS.out.res (by kernel_rfl) (by kernel_rfl) (by kernel_rfl) rfl _ _ rfl rfl rfl ?_); intro W9 hW9 hgr9))
    have HV := rec_val hW9 rfl
    refine bodyPost_ret (v := .agg #[.int .i64 N2, .int .i64 N3, .int .i64 N4, .int .i64 3, .int .i64 n1, .int .i64 n3, .int .i64 0, .int .i64 a2, .int .i64 b2, .string so2, .string sn2, .int .i64 0, .int .i64 0, .string ⟨#[]⟩, .int .i64 0, .int .i64 0, .slice none 0 0, .slice none 0 0]) ?_ rfl ?_
    · simp [results, Try.results27, asAddr, Act.put, HV]
    · rw [HT]
      exact ⟨.slice none 0 0, .slice none 0 0, by simp only [rcC, S_nil, HSO2.out, HSN2.out], ⟨World.ownsRow_nil _ _ _ _, by simp⟩, ⟨World.ownsRow_nil _ _ _ _, by simp⟩, below_own (grownBy_own hS.out.fr hgr9 h1) hgw⟩
  by_cases k4 : N1 = 4
  · subst k4
    rw [rtail_nest] at HT
    replace HT := Lib.hid HT
    obtain ⟨c0, c1, c2, c3, c4, c5, c6, c7, c8, c9, c10, c11, c12, c13, c14, c15, c16, c17⟩ := Blk18 hS.out.x
    obtain ⟨y0, y1, y2, y3, y4, y5, y6, y7, y8, y9, y10, y11, y12, y13, y14, y15, y16, y17⟩ := Free18 hS.out.x
    go_upto_region 11 with fail
    obtain ⟨⟨n1, p1⟩, hq⟩ : ∃ q, rnumF l p0 6 = q := ⟨_, rfl⟩
    have HQ1 := Lib.hid hq
    go_wp2_with fail
    refine (hS.out.num (by omega) 6 6 rfl (by omega) _ hq).mono ?_
    rintro e w1 ⟨rfl, hS2, _⟩
    clear hq
    clear c0 c1 c2 c3 c4 c5 c6 c7 c8 c9 c10 c11 c12 c13 c14 c15 c16 c17 y0 y1 y2 y3 y4 y5 y6 y7 y8 y9 y10 y11 y12 y13 y14 y15 y16 y17
    clear hS
    have hS := Lib.hid hS2
    clear hS2
    try simp only at hS
    obtain ⟨c0, c1, c2, c3, c4, c5, c6, c7, c8, c9, c10, c11, c12, c13, c14, c15, c16, c17⟩ := Blk18 hS.out.x
    obtain ⟨y0, y1, y2, y3, y4, y5, y6, y7, y8, y9, y10, y11, y12, y13, y14, y15, y16, y17⟩ := Free18 hS.out.x
    have hS2 : RJ w (w1.setCell ⟨gx, 5, none⟩ (.int .i64 n1)) g gr gx l s p1 _ 31 zs18 #[.int .i64 N2, .int .i64 N3, .int .i64 N4, .int .i64 4, .int .i64 0, .int .i64 n1, .int .i64 0, .int .i64 0, .int .i64 0, .string ⟨#[]⟩, .string ⟨#[]⟩, .int .i64 0, .int .i64 0, .string ⟨#[]⟩, .int .i64 0, .int .i64 0, .slice none 0 0, .slice none 0 0] := (hS.out.setX 5 (.int .i64 n1))
    go_upto_region 17 with fail
    clear c0 c1 c2 c3 c4 c5 c6 c7 c8 c9 c10 c11 c12 c13 c14 c15 c16 c17 y0 y1 y2 y3 y4 y5 y6 y7 y8 y9 y10 y11 y12 y13 y14 y15 y16 y17
    generalize (w1.setCell ⟨gx, 5, none⟩ (.int .i64 n1)) = v1 at hS2 ⊢
    clear hS
    have hS := Lib.hid hS2
    clear hS2
    obtain ⟨c0, c1, c2, c3, c4, c5, c6, c7, c8, c9, c10, c11, c12, c13, c14, c15, c16, c17⟩ := Blk18 hS.out.x
    obtain ⟨y0, y1, y2, y3, y4, y5, y6, y7, y8, y9, y10, y11, y12, y13, y14, y15, y16, y17⟩ := Free18 hS.out.x
    clear c0 c1 c2 c3 c4 c5 c6 c7 c8 c9 c10 c11 c12 c13 c14 c15 c16 c17 y0 y1 y2 y3 y4 y5 y6 y7 y8 y9 y10 y11 y12 y13 y14 y15 y16 y17
    replace HT := HT.out
    simp only [HQ1.out] at HT
    go_wp2_with (first | (with_reducible refine wpList_load18 hS.out.x (by kernel_rfl) _ rfl rfl ?_) | ((with_reducible refine wpList_store18 hS.out.res (by kernel_rfl) (by kernel_rfl) (by kernel_rfl) rfl _ _ rfl rfl rfl ?_); intro W9 hW9 hgr9))
    have HV := rec_val hW9 rfl
    refine bodyPost_ret (v := .agg #[.int .i64 N2, .int .i64 N3, .int .i64 N4, .int .i64 4, .int .i64 0, .int .i64 n1, .int .i64 0, .int .i64 0, .int .i64 0, .string ⟨#[]⟩, .string ⟨#[]⟩, .int .i64 0, .int .i64 0, .string ⟨#[]⟩, .int .i64 0, .int .i64 0, .slice none 0 0, .slice none 0 0]) ?_ rfl ?_
    · simp [results, Try.results27, asAddr, Act.put, HV]
    · rw [HT]
      exact ⟨.slice none 0 0, .slice none 0 0, by simp only [rcC, S_nil], ⟨World.ownsRow_nil _ _ _ _, by simp⟩, ⟨World.ownsRow_nil _ _ _ _, by simp⟩, below_own (grownBy_own hS.out.fr hgr9 h1) hgw⟩
  by_cases k8 : N1 = 8
  · subst k8
    rw [rtail_image] at HT
    simp only at HT
    replace HT := Lib.hid HT
    obtain ⟨c0, c1, c2, c3, c4, c5, c6, c7, c8, c9, c10, c11, c12, c13, c14, c15, c16, c17⟩ := Blk18 hS.out.x
    obtain ⟨y0, y1, y2, y3, y4, y5, y6, y7, y8, y9, y10, y11, y12, y13, y14, y15, y16, y17⟩ := Free18 hS.out.x
    go_upto_region 13 with fail
    obtain ⟨⟨n1, p1⟩, hq⟩ : ∃ q, rnumF l p0 3 = q := ⟨_, rfl⟩
    have HQ1 := Lib.hid hq
    go_wp2_with fail
    refine (hS.out.num (by omega) 3 3 rfl (by omega) _ hq).mono ?_
    rintro e w1 ⟨rfl, hS2, _⟩
    clear hq
    clear c0 c1 c2 c3 c4 c5 c6 c7 c8 c9 c10 c11 c12 c13 c14 c15 c16 c17 y0 y1 y2 y3 y4 y5 y6 y7 y8 y9 y10 y11 y12 y13 y14 y15 y16 y17
    clear hS
    have hS := Lib.hid hS2
    clear hS2
    try simp only at hS
    obtain ⟨c0, c1, c2, c3, c4, c5, c6, c7, c8, c9, c10, c11, c12, c13, c14, c15, c16, c17⟩ := Blk18 hS.out.x
    obtain ⟨y0, y1, y2, y3, y4, y5, y6, y7, y8, y9, y10, y11, y12, y13, y14, y15, y16, y17⟩ := Free18 hS.out.x
    have hS2 : RJ w (w1.setCell ⟨gx, 4, none⟩ (.int .i64 n1)) g gr gx l s p1 _ 31 zs18 #[.int .i64 N2, .int .i64 N3, .int .i64 N4, .int .i64 8, .int .i64 n1, .int .i64 0, .int .i64 0, .int .i64 0, .int .i64 0, .string ⟨#[]⟩, .string ⟨#[]⟩, .int .i64 0, .int .i64 0, .string ⟨#[]⟩, .int .i64 0, .int .i64 0, .slice none 0 0, .slice none 0 0] := (hS.out.setX 4 (.int .i64 n1))
    go_upto_region 14 with fail
    clear c0 c1 c2 c3 c4 c5 c6 c7 c8 c9 c10 c11 c12 c13 c14 c15 c16 c17 y0 y1 y2 y3 y4 y5 y6 y7 y8 y9 y10 y11 y12 y13 y14 y15 y16 y17
    generalize (w1.setCell ⟨gx, 4, none⟩ (.int .i64 n1)) = v1 at hS2 ⊢
    clear hS
    have hS := Lib.hid hS2
    clear hS2
    obtain ⟨c0, c1, c2, c3, c4, c5, c6, c7, c8, c9, c10, c11, c12, c13, c14, c15, c16, c17⟩ := Blk18 hS.out.x
    obtain ⟨y0, y1, y2, y3, y4, y5, y6, y7, y8, y9, y10, y11, y12, y13, y14, y15, y16, y17⟩ := Free18 hS.out.x
    obtain ⟨⟨a2, b2, ol2, nw2, p2⟩, hq⟩ : ∃ q, ropF l p1 = q := ⟨_, rfl⟩
    have HQ2 := Lib.hid hq
    go_wp2_with fail
    refine (rop_any l s hsl p1 g _ hS.out.rd hl (Nat.le_trans hS.out.le (by omega)) _ hq).mono ?_
    rintro e w2 ⟨rfl, hr2, hg2, hle2⟩
    try dsimp only at hr2
    try dsimp only at hle2
    try dsimp only
    have hS2 := hS.out.grown hr2 hg2 hle2
    clear hr2 hg2 hle2
    obtain ⟨so2, hso2⟩ : ∃ x, S ol2 = x := ⟨_, rfl⟩
    obtain ⟨sn2, hsn2⟩ : ∃ x, S nw2 = x := ⟨_, rfl⟩
    rw [hso2, hsn2]
    have HSO2 := Lib.hid hso2
    have HSN2 := Lib.hid hsn2
    clear hq hso2 hsn2
    clear c0 c1 c2 c3 c4 c5 c6 c7 c8 c9 c10 c11 c12 c13 c14 c15 c16 c17 y0 y1 y2 y3 y4 y5 y6 y7 y8 y9 y10 y11 y12 y13 y14 y15 y16 y17
    clear hS
    have hS := Lib.hid hS2
    clear hS2
    try simp only at hS
    obtain ⟨c0, c1, c2, c3, c4, c5, c6, c7, c8, c9, c10, c11, c12, c13, c14, c15, c16, c17⟩ := Blk18 hS.out.x
    obtain ⟨y0, y1, y2, y3, y4, y5, y6, y7, y8, y9, y10, y11, y12, y13, y14, y15, y16, y17⟩ := Free18 hS.out.x
    have hS2 : RJ w ((((w2.setCell ⟨gx, 7, none⟩ (.int .i64 a2)).setCell ⟨gx, 8, none⟩ (.int .i64 b2)).setCell ⟨gx, 9, none⟩ (.string so2)).setCell ⟨gx, 10, none⟩ (.string sn2)) g gr gx l s p2 _ 31 zs18 #[.int .i64 N2, .int .i64 N3, .int .i64 N4, .int .i64 8, .int .i64 n1, .int .i64 0, .int .i64 0, .int .i64 a2, .int .i64 b2, .string so2, .string sn2, .int .i64 0, .int .i64 0, .string ⟨#[]⟩, .int .i64 0, .int .i64 0, .slice none 0 0, .slice none 0 0] := ((((hS.out.setX 7 (.int .i64 a2)).setX 8 (.int .i64 b2)).setX 9 (.string so2)).setX 10 (.string sn2))
    go_upto_region 17 with fail
    clear c0 c1 c2 c3 c4 c5 c6 c7 c8 c9 c10 c11 c12 c13 c14 c15 c16 c17 y0 y1 y2 y3 y4 y5 y6 y7 y8 y9 y10 y11 y12 y13 y14 y15 y16 y17
    generalize ((((w2.setCell ⟨gx, 7, none⟩ (.int .i64 a2)).setCell ⟨gx, 8, none⟩ (.int .i64 b2)).setCell ⟨gx, 9, none⟩ (.string so2)).setCell ⟨gx, 10, none⟩ (.string sn2)) = v2 at hS2 ⊢
    clear hS
    have hS := Lib.hid hS2
    clear hS2
    obtain ⟨c0, c1, c2, c3, c4, c5, c6, c7, c8, c9, c10, c11, c12, c13, c14, c15, c16, c17⟩ := Blk18 hS.out.x
    obtain ⟨y0, y1, y2, y3, y4, y5, y6, y7, y8, y9, y10, y11, y12, y13, y14, y15, y16, y17⟩ := Free18 hS.out.x
    clear c0 c1 c2 c3 c4 c5 c6 c7 c8 c9 c10 c11 c12 c13 c14 c15 c16 c17 y0 y1 y2 y3 y4 y5 y6 y7 y8 y9 y10 y11 y12 y13 y14 y15 y16 y17
    replace HT := HT.out
    simp only [HQ1.out, HQ2.out] at HT
    go_wp2_with (first | (with_reducible refine wpList_load18 hS.out.x (by kernel_rfl) _ rfl rfl ?_) | ((with_reducible refine wpList_store18 hS.out.res (by kernel_rfl) (by kernel_rfl) (by kernel_rfl) rfl _ _ rfl rfl rfl ?_); intro W9 hW9 hgr9))
    have HV := rec_val hW9 rfl
    refine bodyPost_ret (v := .agg #[.int .i64 N2, .int .i64 N3, .int .i64 N4, .int .i64 8, .int .i64 n1, .int .i64 0, .int .i64 0, .int .i64 a2, .int .i64 b2, .string so2, .string sn2, .int .i64 0, .int .i64 0, .string ⟨#[]⟩, .int .i64 0, .int .i64 0, .slice none 0 0, .slice none 0 0]) ?_ rfl ?_
    · simp [results, Try.results27, asAddr, Act.put, HV]
    · rw [HT]
      exact ⟨.slice none 0 0, .slice none 0 0, by simp only [rcC, S_nil, HSO2.out, HSN2.out], ⟨World.ownsRow_nil _ _ _ _, by simp⟩, ⟨World.ownsRow_nil _ _ _ _, by simp⟩, below_own (grownBy_own hS.out.fr hgr9 h1) hgw⟩
  by_cases k9 : N1 = 9
  · subst k9
    have HC := Lib.hid (fun W hW => rcheck_any l s hsl hl N2 N3 N4 p0 (by omega) g W hW)
    rw [← HT] at HC
    have c3 := hS.out.x.cell 3 (v := .int .i64 9) rfl
    go_wp2_with (first | (with_reducible refine wpList_load18 hS.out.x (by kernel_rfl) _ rfl rfl ?_))
    refine (HC.out _ hS.out.rd).mono ?_
    rintro e w5 ⟨vt, vd, rfl, ⟨ht, lt⟩, ⟨hd, ld⟩, hg5⟩
    obtain ⟨ya, ym, ycap, rfl⟩ := row_slice ht
    obtain ⟨yb, ym2, ycap2, rfl⟩ := row_slice hd
    have hRes5 := hS.out.res.grown hg5 (by intro e; injection e with e; exact m1 e.symm)
    have lgr := hS.out.res.lt
    have hsW := hS.out.fr.size
    have hfr5 := hS.out.fr.trans hg5
    clear hS c3 hg5 HC
    have hone : (rcC R (.slice ya ym ycap) (.slice yb ym2 ycap2)).all (·.oneCell') = true := by simp [rcC, Value.oneCell']
    obtain ⟨x0, x1, x2, x3, x4, x5, x6, x7, x8, x9, x10, x11, x12, x13, x14, x15, x16, x17, hU⟩ := nm18 R (.slice ya ym ycap) (.slice yb ym2 ycap2)
    have HU := Lib.hid hU
    rw [hU] at hone ⊢
    clear hU
    replace ht := Lib.hid ht
    replace hd := Lib.hid hd
    go_wp2_with ((with_reducible refine wpList_store18 hRes5 (by kernel_rfl) (by kernel_rfl) hone rfl _ _ rfl rfl rfl ?_); intro W9 hW9 hgr9)
    have HV := rec_val hW9 rfl
    refine bodyPost_ret (v := .agg #[x0, x1, x2, x3, x4, x5, x6, x7, x8, x9, x10, x11, x12, x13, x14, x15, x16, x17]) ?_ rfl ?_
    · simp [results, Try.results27, asAddr, Act.put, HV]
    · exact ⟨_, _, by rw [HU.out], ⟨row_lower (ht.out.kept hgr9 (.inr fun e => by have := (ht.out.lt _ e).1; omega)) hsW, lt⟩, ⟨row_lower (hd.out.kept hgr9 (.inr fun e => by have := (hd.out.lt _ e).1; omega)) hsW, ld⟩, below_own (grownBy_own hfr5 hgr9 h1) hgw⟩
  rw [rtail_none l N1 N2 N3 N4 p0 k2 k3 k4 k8 k9] at HT
  replace HT := Lib.hid HT
  have d2 : (N1 == 2) = false := by simpa using k2
  have d3 : (N1 == 3) = false := by simpa using k3
  have d4 : (N1 == 4) = false := by simpa using k4
  have d8 : (N1 == 8) = false := by simpa using k8
  have d9 : (N1 == 9) = false := by simpa using k9
  obtain ⟨c0, c1, c2, c3, c4, c5, c6, c7, c8, c9, c10, c11, c12, c13, c14, c15, c16, c17⟩ := Blk18 hS.out.x
  obtain ⟨y0, y1, y2, y3, y4, y5, y6, y7, y8, y9, y10, y11, y12, y13, y14, y15, y16, y17⟩ := Free18 hS.out.x
  go_upto_region 17 with fail
  clear c0 c1 c2 c3 c4 c5 c6 c7 c8 c9 c10 c11 c12 c13 c14 c15 c16 c17 y0 y1 y2 y3 y4 y5 y6 y7 y8 y9 y10 y11 y12 y13 y14 y15 y16 y17
  replace HT := HT.out
  go_wp2_with (first | (with_reducible refine wpList_load18 hS.out.x (by kernel_rfl) _ rfl rfl ?_) | ((with_reducible refine wpList_store18 hS.out.res (by kernel_rfl) (by kernel_rfl) (by kernel_rfl) rfl _ _ rfl rfl rfl ?_); intro W9 hW9 hgr9))
  have HV := rec_val hW9 rfl
  refine bodyPost_ret (v := .agg #[.int .i64 N2, .int .i64 N3, .int .i64 N4, .int .i64 N1, .int .i64 0, .int .i64 0, .int .i64 0, .int .i64 0, .int .i64 0, .string ⟨#[]⟩, .string ⟨#[]⟩, .int .i64 0, .int .i64 0, .string ⟨#[]⟩, .int .i64 0, .int .i64 0, .slice none 0 0, .slice none 0 0]) ?_ rfl ?_
  · simp [results, Try.results27, asAddr, Act.put, HV]
  · rw [HT]
    exact ⟨.slice none 0 0, .slice none 0 0, by simp only [rcC, S_nil], ⟨World.ownsRow_nil _ _ _ _, by simp⟩, ⟨World.ownsRow_nil _ _ _ _, by simp⟩, below_own (grownBy_own hS.out.fr hgr9 h1) hgw⟩
end Go.Proofs.Ytloengjcniefgaa.Rec
