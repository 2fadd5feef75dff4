/- rec: the reading call's state, and its steps. -/
import Derived.Test.YtloengjcniefgaaRecI
import Derived.Test.YtloengjcniefgaaRecNk
namespace Go.Proofs.Ytloengjcniefgaa.Rec
set_option linter.unusedVariables false
set_option linter.unusedSimpArgs false
open Go.RowKit Go.Sort
open Oct (S beN putL U I getI sumN S_size S_data)
def zs18 : Array Value := #[.int .i64 0, .int .i64 0, .int .i64 0, .int .i64 0, .int .i64 0, .int .i64 0, .int .i64 0, .int .i64 0, .int .i64 0, .string ⟨#[]⟩, .string ⟨#[]⟩, .int .i64 0, .int .i64 0, .string ⟨#[]⟩, .int .i64 0, .int .i64 0, .slice none 0 0, .slice none 0 0]
theorem numF_le (l : List UInt8) (p : Rd) (k : Nat) (h : (numF l p k).2.2 = false) : (numF l p k).2.1 ≤ l.length := by
  simp only [numF, Bool.or_eq_false_iff, Bool.not_eq_false'] at h ⊢
  have h2 := h.2
  unfold getR at h2
  split at h2
  · omega
  · cases h2
theorem textF_le (l : List UInt8) (p : Rd) (m : Nat) (hp : p.1 ≤ m) (hl : l.length ≤ 1000000) : (textF l p).2.1 ≤ m + 1000000 := by
  unfold textF
  split
  · show (textR l (p.1 : Nat)).2.1.toNat ≤ _
    unfold textR
    simp only [Int.toNat_natCast]
    split <;> simp <;> omega
  · show p.1 ≤ _
    omega
/-- The reading call's state: the reader (block g), the result's variable, the record so far, its kind's form. -/
structure RS (w W : World) (g gr gx gf : Nat) (l : List UInt8) (s : ByteArray) (p : Rd) (m : Nat) (xs fs : Array Value) : Prop where
  rd : Blk W g (rdC s p) 56
  res : Blk W gr zs18 31
  x : Blk W gx xs 31
  f : Blk W gf fs 60
  fr : w.grownBy W (some g)
  hg : g < w.heap.size
  h1 : w.heap.size ≤ gr
  h2 : gr < gx
  h3 : gx < gf
  le : p.1 ≤ m
  hsl : S l = s
  hl : l.length ≤ 1000000
variable {w W : World} {g gr gx gf m : Nat} {l : List UInt8} {s : ByteArray} {p : Rd} {xs fs : Array Value}
theorem RS.grown (h : RS w W g gr gx gf l s p m xs fs) {w' : World} {q : Rd} {m2 : Nat} (h1 : Blk w' g (rdC s q) 56) (h2 : W.grownBy w' (some g)) (h3 : q.1 ≤ m2) : RS w w' g gr gx gf l s q m2 xs fs := by
  have hg := h.hg; have e1 := h.h1; have e2 := h.h2; have e3 := h.h3
  exact ⟨h1, h.res.grown h2 (by intro e; injection e; omega), h.x.grown h2 (by intro e; injection e; omega), h.f.grown h2 (by intro e; injection e; omega), h.fr.trans h2, h.hg, h.h1, h.h2, h.h3, h3, h.hsl, h.hl⟩
theorem RS.num (h : RS w W g gr gx gf l s p m xs fs) (hm : m ≤ 4000000) (k : Nat) (sz : Int) (hk : sz = k) (h8 : k ≤ 8) (q : Int × Rd) (hq : numF l p k = q) :
    Calls Try.prog 56 #[.pointer (some ⟨g, 0, none⟩), .int .i64 sz] W fun e w' => e = .returned (.int .i64 q.1) ∧ RS w w' g gr gx gf l s q.2 (m + 8) xs fs ∧ W.grownBy w' (some g) := by
  subst hq
  have hle := h.le
  refine (num_any l s h.hsl p k sz hk g W h.rd h8 h.hl (by omega)).mono ?_
  rintro e w' ⟨he, h1, h2⟩
  exact ⟨he, h.grown h1 h2 (by show p.1 + k ≤ _; omega), h2⟩
theorem RS.text (h : RS w W g gr gx gf l s p m xs fs) (hm : m ≤ 4000000) (q : List UInt8 × Rd) (hq : textF l p = q) (t : ByteArray) (ht : S q.1 = t) :
    Calls Try.prog 57 #[.pointer (some ⟨g, 0, none⟩)] W fun e w' => e = .returned (.string t) ∧ RS w w' g gr gx gf l s q.2 (m + 1000000) xs fs ∧ W.grownBy w' (some g) := by
  subst hq
  have hle := h.le
  refine (text_any l s h.hsl p g W h.rd h.hl (by omega)).mono ?_
  rintro e w' ⟨he, h1, h2⟩
  exact ⟨by rw [← ht]; exact he, h.grown h1 h2 (textF_le l p m hle h.hl), h2⟩
theorem RS.setX (h : RS w W g gr gx gf l s p m xs fs) (o : Nat) (v : Value) : RS w (W.setCell ⟨gx, o, none⟩ v) g gr gx gf l s p m (xs.setIfInBounds o v) fs := by
  have hg := h.hg; have e1 := h.h1; have e2 := h.h2; have e3 := h.h3
  exact ⟨h.rd.other (a := ⟨gx, o, none⟩) (by show g ≠ gx; omega) v, h.res.other (a := ⟨gx, o, none⟩) (by show gr ≠ gx; omega) v, h.x.set o v, h.f.other (a := ⟨gx, o, none⟩) (by show gf ≠ gx; omega) v,
    grownBy_setNew h.fr (by show w.heap.size ≤ gx; omega) v, hg, e1, e2, e3, h.le, h.hsl, h.hl⟩
theorem RS.alloc (h : RS w W g gr gx gf l s p m xs fs) (o : Obj) : RS w (W.alloc o) g gr gx gf l s p m xs fs :=
  ⟨h.rd.alloc o, h.res.alloc o, h.x.alloc o, h.f.alloc o, grownBy_new h.fr o, h.hg, h.h1, h.h2, h.h3, h.le, h.hsl, h.hl⟩
theorem RS.drew (h : RS w W g gr gx gf l s p m xs fs) : RS w W.drew g gr gx gf l s p m xs fs :=
  ⟨h.rd, h.res, h.x, h.f, h.fr.trans (grownBy_drewN W 1 _), h.hg, h.h1, h.h2, h.h3, h.le, h.hsl, h.hl⟩
theorem RS.lower (h : RS w W g gr gx gf l s p m xs fs) {m2 : Nat} (hm : p.1 ≤ m2) : RS w W g gr gx gf l s p m2 xs fs :=
  ⟨h.rd, h.res, h.x, h.f, h.fr, h.hg, h.h1, h.h2, h.h3, hm, h.hsl, h.hl⟩
theorem RS.start {w W : World} {g gr gx gf : Nat} {l : List UInt8} {s : ByteArray} {p : Rd} {xs fs : Array Value} (m : Nat) (rd : Blk W g (rdC s p) 56) (res : Blk W gr zs18 31) (x : Blk W gx xs 31) (f : Blk W gf fs 60) (fr : w.grownBy W (some g)) (hg : g < w.heap.size) (h1 : w.heap.size ≤ gr) (h2 : gr < gx) (h3 : gx < gf) (le : p.1 ≤ m) (hsl : S l = s) (hl : l.length ≤ 1000000) : RS w W g gr gx gf l s p m xs fs := ⟨rd, res, x, f, fr, hg, h1, h2, h3, le, hsl, hl⟩
/-- The whole record is stored, in one step. -/
theorem wpList_store18 {ops : Array Oper} {rest : List Oper} {op : Oper} {a : Act} {W : World} {Q : Exit → Act → World → Prop} {g : Nat} {zs cs : Array Value} (h : Blk W g zs 31) (hz : zs.size = 18) (hc : cs.size = 18)
    (h1 : cs.all (·.oneCell') = true) (hgd : op.guard = none) (x y : Operand) (ho : op.op = .store 31 x y) (hx : a.eval x = .pointer (some ⟨g, 0, none⟩)) (hy : a.eval y = .agg cs)
    (hn : ∀ W', Blk W' g cs 31 → W.grownBy W' (some g) → wpList Try.prog ops Q rest (a.put op.dst undef) W') : wpList Try.prog ops Q (op :: rest) a W := by
  refine wpList_store_row hgd 31 x y ho g cs hx hy 31 zs h (by rw [hc]; exact size_rec) (by rw [hz, hc]) h1 (hn _ ?_ ?_)
  · exact setRow_heap _ _ zs _ _ _ h
  · refine ⟨rfl, rfl, rfl, by simp, fun k hk hne => ?_⟩
    exact setRow_other _ _ _ _ (fun e => hne (by rw [e]))
theorem rec_val {W : World} {g : Nat} {T : TypeId} {cs : Array Value} (h : Blk W g cs T) (hsz : cs.size = 18) : (loadVar 31 ⟨g, 0, none⟩).run Try.prog W = .ok (.agg cs) W := by
  have := run_loadVar_mid (P := Try.prog) W g 0 31 cs.toList _ (fun j v hj => by
    rw [Nat.zero_add]
    exact h.cell j (by simpa using hj)) Try.underlying31 rfl (by simpa [hsz] using size_rec)
  simpa using this
theorem row_lower {w : World} {B B2 e k n : Nat} {v : Value} {xs : List Value} (h : w.ownsRow B e k v n xs) (hb : B2 ≤ B) : w.ownsRow B2 e k v n xs := by
  refine ⟨h.1, ?_⟩
  rcases h.2 with hn | ⟨g, cap, cur, hv, hg, rest⟩
  · exact .inl hn
  · exact .inr ⟨g, cap, cur, hv, Nat.le_trans hb hg, rest⟩
/-- A record is answered; its lists are of the call's own; only the reader's block has changed. -/
def RecA (r : Rc) (g : Nat) (w : World) (e : Ending) (w' : World) : Prop :=
  ∃ vt vd, e = .returned (.agg (rcC r vt vd)) ∧ (w'.ownsRow w.heap.size 67 4 vt r.txns.length (txC r.txns).flatten ∧ r.txns.length ≤ 65536) ∧ (w'.ownsRow w.heap.size 71 2 vd r.dirty.length (dyC r.dirty).flatten ∧ r.dirty.length ≤ 65536) ∧ w.grownBy w' (some g)
end Go.Proofs.Ytloengjcniefgaa.Rec
