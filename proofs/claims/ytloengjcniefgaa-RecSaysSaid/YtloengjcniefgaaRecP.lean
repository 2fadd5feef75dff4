/- Records of the log: plain. -/
import Derived.Test.YtloengjcniefgaaOcX38
import Derived.Test.YtloengjcniefgaaKitE
namespace Go.Proofs.Ytloengjcniefgaa.Rec
set_option linter.unusedVariables false
set_option linter.unusedSimpArgs false
open Go.RowKit
open Oct (S beN putL U I getI sumN S_size S_data)
structure Tx where
  t : Int
  l : Int
  n : Int
  d : Bool
deriving DecidableEq
structure Dy where
  p : Int
  r : Int
deriving DecidableEq
structure Rc where
  lsn : Int
  prev : Int
  txn : Int
  kind : Int
  page : Int
  next : Int
  num : Int
  ok : Int
  os : Int
  old : List UInt8
  new : List UInt8
  how : Int
  root : Int
  key : List UInt8
  rp : Int
  rs : Int
  txns : List Tx
  dirty : List Dy
deriving DecidableEq
def Tx.cells (t : Tx) : List Value := [.int .i64 t.t, .int .i64 t.l, .int .i64 t.n, .bool t.d]
def Dy.cells (d : Dy) : List Value := [.int .i64 d.p, .int .i64 d.r]
def txC (l : List Tx) : List (List Value) := l.map Tx.cells
def dyC (l : List Dy) : List (List Value) := l.map Dy.cells
theorem txC_each (l : List Tx) : ∀ c ∈ txC l, c.length = 4 := by
  intro c hc
  obtain ⟨t, _, rfl⟩ := List.mem_map.1 hc
  rfl
theorem dyC_each (l : List Dy) : ∀ c ∈ dyC l, c.length = 2 := by
  intro c hc
  obtain ⟨t, _, rfl⟩ := List.mem_map.1 hc
  rfl
theorem txC_len (l : List Tx) : (txC l).length = l.length := List.length_map ..
theorem dyC_len (l : List Dy) : (dyC l).length = l.length := List.length_map ..
theorem txC_snoc (l : List Tx) (t : Tx) : txC (l ++ [t]) = txC l ++ [t.cells] := by simp [txC]
theorem dyC_snoc (l : List Dy) (t : Dy) : dyC (l ++ [t]) = dyC l ++ [t.cells] := by simp [dyC]
theorem txC_get (l : List Tx) (j : Nat) (h : j < l.length) : (txC l)[j]'(by rw [txC_len]; exact h) = l[j].cells := by simp [txC]
theorem dyC_get (l : List Dy) (j : Nat) (h : j < l.length) : (dyC l)[j]'(by rw [dyC_len]; exact h) = l[j].cells := by simp [dyC]
/-- A record's cells; its two lists lie elsewhere. -/
def rcC (r : Rc) (vt vd : Value) : Array Value := #[.int .i64 r.lsn, .int .i64 r.prev, .int .i64 r.txn, .int .i64 r.kind, .int .i64 r.page, .int .i64 r.next, .int .i64 r.num, .int .i64 r.ok, .int .i64 r.os, .string (S r.old), .string (S r.new), .int .i64 r.how, .int .i64 r.root, .string (S r.key), .int .i64 r.rp, .int .i64 r.rs, vt, vd]
def inB (most n : Int) : Bool := decide (0 ≤ n) && decide (n ≤ most)
def numB (n : Int) : Bool := inB 1099511627775 n
def pageB (n : Int) : Bool := inB 8388607 n
def slotB (n : Int) : Bool := inB 32767 n
/-- A kind's form: change, how, next, lists; which kinds there are. -/
def chF (k : Int) : Bool := k == 2 || k == 3 || k == 8
def hoF (k : Int) : Bool := k == 2
def neF (k : Int) : Bool := k == 3 || k == 4
def liF (k : Int) : Bool := k == 9
def isF (k : Int) : Bool := decide (1 ≤ k) && decide (k ≤ 9)
def opB (k s : Int) (old new : List UInt8) : Bool := decide (1 ≤ k) && decide (k ≤ 7) && slotB s && decide (old.length ≤ 512) && decide (new.length ≤ 512)
def treeB (how root : Int) (key : List UInt8) (rp rs : Int) : Bool :=
  if how = 1 then decide (root = 0) && (decide (key = []) && decide (rp = 0) && decide (rs = 0))
  else (decide (how = 2) || decide (how = 3)) && (pageB root && pageB rp) && slotB rs && decide (key.length ≤ 100)
def txB (t : Tx) : Bool := numB t.t && numB t.l && numB t.n
def dyB (d : Dy) : Bool := pageB d.p && numB d.r
def listsB (r : Rc) : Bool := numB r.num && decide (r.txns.length ≤ 1000) && decide (r.dirty.length ≤ 2000) && r.txns.all txB && r.dirty.all dyB
/-- The fields that a kind has alone. -/
def bareR (r : Rc) : Rc :=
  { lsn := r.lsn, prev := r.prev, txn := r.txn, kind := r.kind
    page := if chF r.kind then r.page else 0, ok := if chF r.kind then r.ok else 0, os := if chF r.kind then r.os else 0
    old := if chF r.kind then r.old else [], new := if chF r.kind then r.new else []
    how := if hoF r.kind then r.how else 0, root := if hoF r.kind then r.root else 0, key := if hoF r.kind then r.key else []
    rp := if hoF r.kind then r.rp else 0, rs := if hoF r.kind then r.rs else 0
    next := if neF r.kind then r.next else 0
    num := if liF r.kind then r.num else 0, txns := if liF r.kind then r.txns else [], dirty := if liF r.kind then r.dirty else [] }
def rightR (r : Rc) : Bool :=
  isF r.kind && (numB r.lsn && numB r.prev && numB r.txn) && (!chF r.kind || (pageB r.page && opB r.ok r.os r.old r.new)) && (!hoF r.kind || treeB r.how r.root r.key r.rp r.rs)
    && (!neF r.kind || numB r.next) && (!liF r.kind || listsB r) && decide (bareR r = r)
/-- Bytes. -/
def txL (t : Tx) : List UInt8 := putL (U t.t) 6 ++ putL (U t.l) 6 ++ putL (U t.n) 6 ++ putL (U (if t.d then 1 else 0)) 1
def dyL (d : Dy) : List UInt8 := putL (U d.p) 3 ++ putL (U d.r) 6
def headL (r : Rc) : List UInt8 := putL (U r.kind) 1 ++ putL (U r.lsn) 6 ++ putL (U r.prev) 6 ++ putL (U r.txn) 6
def chL (r : Rc) : List UInt8 := putL (U r.page) 3 ++ putL (U r.ok) 1 ++ putL (U r.os) 2 ++ textL r.old ++ textL r.new
def hoL (r : Rc) : List UInt8 := putL (U r.how) 1 ++ (if r.how = 1 then [] else putL (U r.root) 3 ++ putL (U r.rp) 3 ++ putL (U r.rs) 2 ++ textL r.key)
def neL (r : Rc) : List UInt8 := putL (U r.next) 6
def liL (r : Rc) : List UInt8 := putL (U r.num) 6 ++ putL (U (r.txns.length : Int)) 2 ++ (r.txns.map txL).flatten ++ putL (U (r.dirty.length : Int)) 2 ++ (r.dirty.map dyL).flatten
def bodyL (r : Rc) : List UInt8 :=
  headL r ++ (if chF r.kind then chL r else []) ++ (if hoF r.kind then hoL r else []) ++ (if neF r.kind then neL r else []) ++ (if liF r.kind then liL r else [])
end Go.Proofs.Ytloengjcniefgaa.Rec
