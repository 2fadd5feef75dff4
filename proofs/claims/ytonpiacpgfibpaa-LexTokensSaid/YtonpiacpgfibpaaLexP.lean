/- Tokens of texts: plain: what a token is, and which are reserved. -/
import Derived.Test.YtonpiacpgfibpaaOctP
import Derived.Lib.Bytealg
import Derived.Lib.IndexLaws
namespace Go.Proofs.Ytonpiacpgfibpaa.Lex
set_option linter.unusedVariables false
set_option linter.unusedSimpArgs false
open Oct (S)
open Lib (indexByte)
/-- A token: kind, place, size, number, text. -/
structure Tk where
  k : Int
  a : Int
  z : Int
  n : Int
  s : List UInt8
def blankB (c : UInt8) : Bool := c == 32 || c == 9 || c == 10 || c == 13
def lowB (c : UInt8) : Bool := decide (97 ≤ c.toNat) && decide (c.toNat ≤ 122)
def upB (c : UInt8) : Bool := decide (65 ≤ c.toNat) && decide (c.toNat ≤ 90)
def digB (c : UInt8) : Bool := decide (48 ≤ c.toNat) && decide (c.toNat ≤ 57)
def smallF (c : UInt8) : UInt8 := if upB c then c + 32 else c
def letB (c : UInt8) : Bool := lowB (smallF c) || c == 95
def wordB (c : UInt8) : Bool := letB c || digB c
/-- How many bytes of blanks lie ahead; true: in a remark. -/
def skipF : Bool → List UInt8 → Nat
  | _, [] => 0
  | true, c :: r => if c = 10 then skipF false r + 1 else skipF true r + 1
  | false, c :: r => if blankB c then skipF false r + 1 else if c = 45 ∧ r.head? = some 45 then skipF true r + 1 else 0
/-- The bytes of the reserved words. -/
def allW : List UInt8 := [32, 97, 108, 108, 32, 97, 110, 97, 108, 121, 122, 101, 32, 97, 110, 100, 32, 97, 115, 32, 97, 115, 99, 32, 98, 101, 103, 105, 110, 32, 98, 101, 116, 119, 101, 101, 110, 32, 98, 111, 111, 108, 32, 98, 121, 32, 99, 97, 115, 101, 32, 99, 104, 101, 99, 107, 32, 99, 104, 101, 99, 107, 112, 111, 105, 110, 116, 32, 99, 111, 109, 109, 105, 116, 32, 99, 114, 101, 97, 116, 101, 32, 99, 114, 111, 115, 115, 32, 100, 101, 108, 101, 116, 101, 32, 100, 101, 115, 99, 32, 100, 105, 115, 116, 105, 110, 99, 116, 32, 100, 114, 111, 112, 32, 101, 108, 115, 101, 32, 101, 110, 100, 32, 101, 120, 99, 101, 112, 116, 32, 101, 120, 105, 115, 116, 115, 32, 101, 120, 112, 108, 97, 105, 110, 32, 102, 97, 108, 115, 101, 32, 102, 111, 114, 101, 105, 103, 110, 32, 102, 114, 111, 109, 32, 103, 114, 111, 117, 112, 32, 104, 97, 118, 105, 110, 103, 32, 105, 110, 32, 105, 110, 100, 101, 120, 32, 105, 110, 110, 101, 114, 32, 105, 110, 115, 101, 114, 116, 32, 105, 110, 116, 32, 105, 110, 116, 101, 114, 115, 101, 99, 116, 32, 105, 110, 116, 111, 32, 105, 115, 32, 106, 111, 105, 110, 32, 107, 101, 121, 32, 108, 101, 102, 116, 32, 108, 105, 107, 101, 32, 108, 105, 109, 105, 116, 32, 110, 111, 116, 32, 110, 117, 108, 108, 32, 111, 102, 102, 115, 101, 116, 32, 111, 110, 32, 111, 114, 32, 111, 114, 100, 101, 114, 32, 112, 114, 105, 109, 97, 114, 121, 32, 114, 101, 102, 101, 114, 101, 110, 99, 101, 115, 32, 114, 111, 108, 108, 98, 97, 99, 107, 32, 115, 101, 108, 101, 99, 116, 32, 115, 101, 116, 32, 116, 97, 98, 108, 101, 32, 116, 101, 120, 116, 32, 116, 104, 101, 110, 32, 116, 114, 117, 101, 32, 117, 110, 105, 111, 110, 32, 117, 110, 105, 113, 117, 101, 32, 117, 112, 100, 97, 116, 101, 32, 118, 97, 99, 117, 117, 109, 32, 118, 97, 108, 117, 101, 115, 32, 119, 104, 101, 110, 32, 119, 104, 101, 114, 101, 32]
/-- Is one list within another one? -/
def infB (a : List UInt8) : List UInt8 → Bool
  | [] => a.isEmpty
  | c :: r => a.isPrefixOf (c :: r) || infB a r
def resB (w : List UInt8) : Bool := !w.isEmpty && w.all lowB && infB (32 :: (w ++ [32])) allW
def nameB (c : UInt8) : Bool := lowB c || c == 95
def plainL : List UInt8 → Bool
  | [] => false
  | c :: r => nameB c && r.all fun d => nameB d || digB d
/-- What a piece is: kind, size, number, text; or the error. -/
structure Pc where
  k : Int
  z : Nat
  n : Int
  s : List UInt8
  e : Int
def bad (e : Int) : Pc := ⟨0, 0, 0, [], e⟩
def wordF (l : List UInt8) : Pc :=
  let w := (l.takeWhile wordB).map smallF
  if resB w then ⟨1, w.length, 0, w, 0⟩ else if 20 < w.length then bad 4 else ⟨2, w.length, 0, w, 0⟩
def numN (l : List UInt8) : Nat := l.foldl (fun n c => min (10 * n + (c.toNat - 48)) 1000000000000001) 0
def numF (l : List UInt8) : Pc :=
  let d := l.takeWhile digB
  if 1000000000000000 < numN d then bad 4 else ⟨3, d.length, numN d, [], 0⟩
def quotF (r : List UInt8) : Pc :=
  if indexByte r 34 < 0 then bad 3
  else
    let w := r.take (indexByte r 34).toNat
    if plainL w = false then bad 2 else if 20 < w.length then bad 4 else ⟨2, w.length + 2, 0, w, 0⟩
/-- A text behind its first quote: what it says, and how many bytes it has with its last quote. -/
def textF : List UInt8 → Option (List UInt8 × Nat)
  | [] => none
  | [c] => if c = 39 then some ([], 1) else none
  | c :: d :: r => if c = 39 then (if d = 39 then (textF r).map (fun p => (39 :: p.1, p.2 + 2)) else some ([], 1)) else (textF (d :: r)).map (fun p => (c :: p.1, p.2 + 1))
def goodB (c : UInt8) : Bool := decide (32 ≤ c.toNat) && decide (c.toNat ≤ 126)
def txtF (r : List UInt8) : Pc :=
  match textF r with
  | none => bad 3
  | some (w, k) => if w.all goodB = false then bad 2 else if 100 < w.length then bad 4 else ⟨4, k + 1, 0, w, 0⟩
def signN (c d : UInt8) : Nat :=
  if c = 124 then (if d = 124 then 2 else 0)
  else if c = 60 then (if d = 62 ∨ d = 61 then 2 else 1)
  else if c = 62 then (if d = 61 then 2 else 1)
  else if c = 40 ∨ c = 41 ∨ c = 44 ∨ c = 46 ∨ c = 59 ∨ c = 43 ∨ c = 45 ∨ c = 42 ∨ c = 47 ∨ c = 37 ∨ c = 61 then 1 else 0
def signF (c : UInt8) (r : List UInt8) : Pc :=
  let z := signN c (r.headD 0)
  if z = 0 then bad 2 else ⟨5, z, 0, (c :: r).take z, 0⟩
/-- The piece that begins here. -/
def tokF : List UInt8 → Pc
  | [] => ⟨0, 0, 0, [], 0⟩
  | c :: r => if letB c then wordF (c :: r) else if digB c then numF (c :: r) else if c = 34 then quotF r else if c = 39 then txtF r else signF c r
/-- The token at or behind a place. -/
def nextF (l : List UInt8) (a : Nat) : Tk × Int :=
  let i := a + skipF false (l.drop a)
  let p := tokF (l.drop i)
  (⟨p.k, i, p.z, p.n, p.s⟩, p.e)
/-- All tokens from a place on, behind those of acc; or where there is none, and why. -/
def toksF : Nat → List UInt8 → Nat → List Tk → Except (Int × Int) (List Tk)
  | 0, _, _, acc => .ok acc
  | f + 1, l, a, acc =>
    let t := nextF l a
    if t.2 ≠ 0 then .error (t.1.a, t.2) else if t.1.k = 0 then .ok acc else toksF f l (t.1.a + t.1.z).toNat (acc ++ [t.1])
def toksL (l : List UInt8) : Except (Int × Int) (List Tk) := toksF (l.length + 1) l 0 []
end Go.Proofs.Ytonpiacpgfibpaa.Lex
