/- Two disks in their variables; what is kept by each act. -/
import Derived.Test.YthliialieogakaaDskD
import Derived.Test.YthliialieogakaaDskH
import Derived.Test.YthliialieogakaaOpenD
namespace Go.Proofs.Ythliialieogakaa
set_option linter.unusedVariables false
set_option linter.unusedSimpArgs false
open Go.RowKit
open Oct (S)
/-- The variables D and X hold the disks d and x. -/
structure PN (w W : World) (D X : Nat) (v u : Value) (d x : Dk) : Prop where
  hb : Below w.heap.size w W
  hD : Blk W D #[v, .int .i64 d.left, .bool d.down] 25
  hX : Blk W X #[u, .int .i64 x.left, .bool x.down] 25
  hv : SecAt W v d.s
  hu : SecAt W u x.s
theorem PN.below {w W W1 : World} {D X : Nat} {v u : Value} {d x : Dk} (h : PN w W D X v u d x) (hb : Below W.heap.size W W1) : PN w W1 D X v u d x :=
  ⟨h.hb.next hb, h.hD.below hb, h.hX.below hb, h.hv.below hb, h.hu.below hb⟩
theorem PN.putD {w W : World} {D X n1 m1 m5 : Nat} {ao1 ao5 : Option Addr} {u : Value} {d x : Dk} {s2 : List ByteArray} (h : PN w W D X (.slice ao1 n1 m1) u d x) (hS : SecAt W (.slice ao5 s2.length m5) s2) (hDw : w.heap.size ≤ D) (hne : D ≠ X) (a2 : Int) (c2 : Bool) :
    PN w (((W.setCell ⟨D, 0, none⟩ (.slice ao5 s2.length m5)).setCell ⟨D, 1, none⟩ (.int .i64 a2)).setCell ⟨D, 2, none⟩ (.bool c2)) D X (.slice ao5 s2.length m5) u ⟨s2, a2, c2⟩ x := by
  obtain ⟨h1, h2, h3⟩ := h.hD.store3 a2 c2 ao5 s2.length m5
  have n1 : X ≠ D := fun e => hne e.symm
  exact ⟨h3 _ _ hDw h.hb, h1, ((h.hX.other n1 _).other n1 _).other n1 _, h2 _ _ hS, h2 _ _ h.hu⟩
theorem PN.putX {w W : World} {D X n1 m1 m5 : Nat} {ao1 ao5 : Option Addr} {v : Value} {d x : Dk} {s2 : List ByteArray} (h : PN w W D X v (.slice ao1 n1 m1) d x) (hS : SecAt W (.slice ao5 s2.length m5) s2) (hXw : w.heap.size ≤ X) (hne : D ≠ X) (a2 : Int) (c2 : Bool) :
    PN w (((W.setCell ⟨X, 0, none⟩ (.slice ao5 s2.length m5)).setCell ⟨X, 1, none⟩ (.int .i64 a2)).setCell ⟨X, 2, none⟩ (.bool c2)) D X v (.slice ao5 s2.length m5) d ⟨s2, a2, c2⟩ := by
  obtain ⟨h1, h2, h3⟩ := h.hX.store3 a2 c2 ao5 s2.length m5
  exact ⟨h3 _ _ hXw h.hb, ((h.hD.other hne _).other hne _).other hne _, h1, h2 _ _ h.hv, h2 _ _ hS⟩
/-- What every act keeps. -/
structure Inv (d : Dk) : Prop where
  len : d.s.length ≤ 100
  lo : -9223372036854775808 ≤ d.left
  hi : d.left ≤ 9223372036854775807
  each : ∀ x ∈ d.s, x.size = 128
theorem Inv.blank (n : Nat) (h : n ≤ 100) : Inv (Dk.blank n) :=
  ⟨by simpa [Dk.blank] using h, by simp [Dk.blank], by simp [Dk.blank], by
    intro x hx
    obtain ⟨_, rfl⟩ := List.mem_replicate.1 hx
    decide +kernel⟩
theorem Inv.write {d : Dk} (h : Inv d) (k : Int) (b : ByteArray) : Inv (d.write k b).1 := by
  have h1 := h.lo
  have h2 := h.hi
  unfold Dk.write
  split; exact h
  split; exact h
  split; exact ⟨h.len, h.lo, h.hi, h.each⟩
  rename_i hn _
  have hb : b.size = 128 := by
    by_cases e : b.size = 128
    · exact e
    · exact (hn (.inr e)).elim
  refine ⟨by simpa using h.len, ?_, ?_, ?_⟩
  · simp only; split <;> omega
  · simp only; split <;> omega
  · intro x hx
    rcases List.mem_or_eq_of_mem_set hx with hx | rfl
    · exact h.each x hx
    · exact hb
theorem Inv.wfrom (k : Int) (p : ByteArray) : ∀ (n : Nat) (d : Dk) (j : Nat), Inv d → Inv (Dk.writeFrom k p d j n).1
  | 0, d, j, h => h
  | n + 1, d, j, h => by
    rw [Dk.writeFrom]
    split
    · exact Inv.wfrom k p n _ _ (h.write _ _)
    · exact h.write _ _
theorem Inv.writePage {d : Dk} (h : Inv d) (k : Int) (p : ByteArray) : Inv (d.writePage k p).1 := by
  unfold Dk.writePage
  split; exact h
  split; exact h
  exact Inv.wfrom k p 4 d 0 h
theorem Inv.arm {d : Dk} (h : Inv d) (n : Int) (hn : n ≤ 9223372036854775807) : Inv (d.arm n) :=
  ⟨h.len, by simp only [Dk.arm]; split <;> omega, by simp only [Dk.arm]; split <;> omega, h.each⟩
theorem Inv.start {d : Dk} (h : Inv d) : Inv d.start := ⟨h.len, by simp [Dk.start], by simp [Dk.start], h.each⟩
theorem wf_i64 {n : Int} (h : (Lit.int .i64 n).wf = true) : -9223372036854775808 ≤ n ∧ n ≤ 9223372036854775807 := by
  simp [Lit.wf, show IntKind.i64.min = -9223372036854775808 by decide, show IntKind.i64.max = 9223372036854775807 by decide] at h
  omega
end Go.Proofs.Ythliialieogakaa
