/- Disks, plainly. -/
import Derived.Test.YthliialieogakaaRep36
namespace Go.Proofs.Ythliialieogakaa
set_option linter.unusedVariables false
set_option linter.unusedSimpArgs false
open Go.RowKit
open Oct (S)
/-- A disk: its sectors, how many writes are left, whether it is down. -/
structure Dk where
  s : List ByteArray
  left : Int
  down : Bool
deriving DecidableEq
namespace Dk
def zero : Dk := ⟨[], 0, false⟩
def blank (n : Nat) : Dk := ⟨List.replicate n (S (zer 128)), -1, false⟩
def new (n : Int) : Dk × Int := if n < 1 ∨ 65536 < n then (zero, 1) else (blank n.toNat, 0)
def is (d : Dk) (k : Int) : Bool := decide (0 ≤ k) && decide (k < d.s.length)
def fits (d : Dk) (k : Int) : Bool := decide (0 ≤ k) && decide (k ≤ d.s.length - 4)
def read (d : Dk) (k : Int) : ByteArray × Int := if d.down then (⟨#[]⟩, 20) else if d.is k then (d.s[k.toNat]?.getD ⟨#[]⟩, 0) else (⟨#[]⟩, 1)
def write (d : Dk) (k : Int) (b : ByteArray) : Dk × Int :=
  if d.down then (d, 20) else if ¬ d.is k ∨ b.size ≠ 128 then (d, 1) else if d.left = 0 then ({ d with down := true }, 20)
  else ({ d with s := d.s.set k.toNat b, left := if 0 < d.left then d.left - 1 else d.left }, 0)
def at4 (d : Dk) (k : Nat) : ByteArray := d.s[k]?.getD ⟨#[]⟩
def readPage (d : Dk) (k : Int) : ByteArray × Int :=
  if d.down then (⟨#[]⟩, 20) else if d.fits k then (d.at4 k.toNat ++ d.at4 (k.toNat + 1) ++ d.at4 (k.toNat + 2) ++ d.at4 (k.toNat + 3), 0) else (⟨#[]⟩, 1)
def cutAt (p : ByteArray) (j : Nat) : ByteArray := p.extract (j * 128) ((j + 1) * 128)
def writeFrom (k : Int) (p : ByteArray) : Dk → Nat → Nat → Dk × Int
  | d, _, 0 => (d, 0)
  | d, j, n + 1 => if (d.write (k + j) (cutAt p j)).2 = 0 then writeFrom k p (d.write (k + j) (cutAt p j)).1 (j + 1) n else d.write (k + j) (cutAt p j)
def writePage (d : Dk) (k : Int) (p : ByteArray) : Dk × Int :=
  if d.down then (d, 20) else if p.size ≠ 512 ∨ ¬ d.fits k then (d, 1) else writeFrom k p d 0 4
def arm (d : Dk) (n : Int) : Dk := { d with left := if n < 0 then -1 else n }
def start (d : Dk) : Dk := { d with left := -1, down := false }
def may (d : Dk) : Bool := d.s.all (fun s => s.size == 128) && (decide (1 ≤ d.s.length) && (decide (d.s.length ≤ 65536) && (decide (-1 ≤ d.left) && (!d.down || decide (d.left = 0)))))
/-- A disk's value, its sectors in the slice v. -/
def val (d : Dk) (v : Value) : Value := .agg #[v, .int .i64 d.left, .bool d.down]
end Dk
/-- v: a slice of these strings. -/
def SecAt (w : World) (v : Value) (l : List ByteArray) : Prop := ElAt w 1 v (l.map fun s => [.string s])
theorem SecAt.below {w w1 : World} {v : Value} {l : List ByteArray} (h : SecAt w v l) (hb : Below w.heap.size w w1) : SecAt w1 v l := ElAt.below h hb
theorem SecAt.nil {w : World} {v : Value} {l : List ByteArray} (h : SecAt w v l) : ∃ ao cap, v = .slice ao l.length cap := by
  obtain ⟨ao, cap, hv⟩ := ElAt.nil h
  exact ⟨ao, cap, by simpa using hv⟩
theorem SecAt.small {w : World} {v : Value} {l : List ByteArray} (h : SecAt w v l) : l.length ≤ 140737488351232 := by simpa using ElAt.small h
theorem SecAt.get {w : World} {v : Value} {l : List ByteArray} (h : SecAt w v l) (j : Nat) (hj : j < l.length) :
    ∃ b off cap, v = .slice (some ⟨b, off, none⟩) l.length cap ∧ b < w.heap.size ∧ ∀ i (hi : i < l.length), w.cell? ⟨b, off + i, none⟩ = some (.string l[i]) := by
  obtain ⟨hs, he, ao, cap, hv, hc⟩ := h
  obtain ⟨b, off, ha, hlt, hcell⟩ := hc (by simp; omega)
  subst ha
  refine ⟨b, off, cap, by simpa using hv, hlt, fun i hi => ?_⟩
  have := hcell i (by simpa using hi) 0 (.string l[i]) (by simp)
  simpa using this
theorem SecAt.empty (w : World) : SecAt w (.slice none 0 0) [] := ElAt.empty w 1
theorem sec_flat (l : List ByteArray) : (l.map fun s => [Value.string s]).flatten = l.map .string := by
  induction l with
  | nil => rfl
  | cons a l ih => simp [ih]
theorem SecAt.blk {w : World} {g cap T : Nat} {l : List ByteArray} (h : Blk w g (l.map Value.string).toArray T) (hs : l.length ≤ 140737488351232) : SecAt w (.slice (some ⟨g, 0, none⟩) l.length cap) l := by
  have := ElAt.blk (k := 1) (cap := cap) (T := T) (ls := l.map fun s => [Value.string s]) (by intro c hc; obtain ⟨s, _, rfl⟩ := List.mem_map.1 hc; rfl) (by rw [sec_flat]; exact h) (by simpa using hs)
  simpa [SecAt] using this
theorem SecAt.owned {w : World} {B e : Nat} {v : Value} {l : List ByteArray} (h : w.ownsRow B e 1 v l.length (l.map .string)) (hs : l.length ≤ 140737488351232) : SecAt w v l :=
  ElAt.owned (k := 1) (ls := l.map fun s => [Value.string s]) (B := B) (e := e) (by intro c hc; obtain ⟨s, _, rfl⟩ := List.mem_map.1 hc; rfl) (by rw [sec_flat]; simpa using h) (by simpa using hs)
/-- A block without a string in it may change: the slice stays. -/
theorem SecAt.keep {w w' : World} {v : Value} {l : List ByteArray} {R T : Nat} {cs : Array Value} (h : SecAt w v l) (hg : ∀ b, b ≠ R → w'.heap[b]? = w.heap[b]?) (hR : Blk w R cs T) (hcs : ∀ (i : Nat) (s : ByteArray), cs[i]? ≠ some (.string s)) (hs : w.heap.size ≤ w'.heap.size) : SecAt w' v l := by
  obtain ⟨hsm, he, ao, cap, hv, hc⟩ := h
  refine ⟨hsm, he, ao, cap, hv, fun h0 => ?_⟩
  obtain ⟨b, off, ha, hlt, hcell⟩ := hc h0
  have hne : b ≠ R := by
    intro e
    subst e
    have h1 := hcell 0 h0 0 (.string (l[0]'(by simpa using h0))) (by simp)
    unfold Blk at hR
    simp [World.cell?, hR] at h1
    exact hcs _ _ h1
  exact ⟨b, off, ha, Nat.lt_of_lt_of_le hlt hs, fun j hj i u hu => (World.cell?_of_block (a := ⟨b, off + j * 1 + i, none⟩) (hg b hne)).trans (hcell j hj i u hu)⟩
theorem dk_no {a : Int} {c : Bool} {ao : Option Addr} {n m : Nat} (i : Nat) (s : ByteArray) : (#[.slice ao n m, .int .i64 a, .bool c] : Array Value)[i]? ≠ some (.string s) := by
  intro h
  have hi : i < 3 := (Array.getElem?_eq_some_iff.1 h).1
  match i, hi with
  | 0, _ => cases h
  | 1, _ => cases h
  | 2, _ => cases h
theorem SecAt.set {w : World} {v : Value} {l : List ByteArray} {R T : Nat} {a : Int} {c : Bool} {ao : Option Addr} {n m : Nat} (h : SecAt w v l) (hR : Blk w R #[.slice ao n m, .int .i64 a, .bool c] T) (o : Nat) (x : Value) : SecAt (w.setCell ⟨R, o, none⟩ x) v l :=
  h.keep (R := R) (T := T) (fun b hb => Below.heap_setCell _ _ _ _ hb) hR dk_no (by simp [World.setCell])
theorem Blk.dval {w : World} {R T : Nat} {a : Int} {c : Bool} {ao : Option Addr} {n m : Nat} (h : Blk w R #[.slice ao n m, .int .i64 a, .bool c] T) :
    w.cell? ⟨R, 0, none⟩ = some (.slice ao n m) ∧ w.cell? ⟨R, 1, none⟩ = some (.int .i64 a) ∧ w.cell? ⟨R, 2, none⟩ = some (.bool c) ∧ w.frozen? ⟨R, 0, none⟩ = false ∧ w.frozen? ⟨R, 1, none⟩ = false ∧ w.frozen? ⟨R, 2, none⟩ = false :=
  ⟨h.cell 0 rfl, h.cell 1 rfl, h.cell 2 rfl, h.free 0, h.free 1, h.free 2⟩
/-- A disk's three cells are written anew. -/
theorem Blk.store3 {w : World} {R T : Nat} {a : Int} {c : Bool} {ao : Option Addr} {n m : Nat} (h : Blk w R #[.slice ao n m, .int .i64 a, .bool c] T) (a' : Int) (c' : Bool) (ao' : Option Addr) (n' m' : Nat) :
    Blk (((w.setCell ⟨R, 0, none⟩ (.slice ao' n' m')).setCell ⟨R, 1, none⟩ (.int .i64 a')).setCell ⟨R, 2, none⟩ (.bool c')) R #[.slice ao' n' m', .int .i64 a', .bool c'] T ∧
    (∀ v l, SecAt w v l → SecAt (((w.setCell ⟨R, 0, none⟩ (.slice ao' n' m')).setCell ⟨R, 1, none⟩ (.int .i64 a')).setCell ⟨R, 2, none⟩ (.bool c')) v l) ∧
    ∀ B W, B ≤ R → Below B W w → Below B W (((w.setCell ⟨R, 0, none⟩ (.slice ao' n' m')).setCell ⟨R, 1, none⟩ (.int .i64 a')).setCell ⟨R, 2, none⟩ (.bool c')) := by
  have h1 : Blk (w.setCell ⟨R, 0, none⟩ (.slice ao' n' m')) R #[.slice ao' n' m', .int .i64 a, .bool c] T := h.set 0 _
  have h2 : Blk ((w.setCell ⟨R, 0, none⟩ (.slice ao' n' m')).setCell ⟨R, 1, none⟩ (.int .i64 a')) R #[.slice ao' n' m', .int .i64 a', .bool c] T := h1.set 1 _
  exact ⟨h2.set 2 _, fun v l hs => ((hs.set h 0 _).set h1 1 _).set h2 2 _, fun B W hB hb => ((hb.setCell hB _).setCell hB _).setCell hB _⟩
/-- What a call answers that makes a disk. -/
def DkP (d : Dk) (e : Int) (w : World) (x : Ending) (w' : World) : Prop := Below w.heap.size w w' ∧ ∃ v, x = .returned (.tuple #[d.val v, .int .i64 e]) ∧ SecAt w' v d.s
def DkP1 (d : Dk) (w : World) (x : Ending) (w' : World) : Prop := Below w.heap.size w w' ∧ ∃ v, x = .returned (d.val v) ∧ SecAt w' v d.s
end Go.Proofs.Ythliialieogakaa
