/- rec: the writer's steps, as a record's body takes them. -/
import Derived.Test.YtloengjcniefgaaRecM
import Derived.Test.YtloengjcniefgaaRecNk
namespace Go.Proofs.Ytloengjcniefgaa.Rec
set_option linter.unusedVariables false
set_option linter.unusedSimpArgs false
open Go.RowKit
open Oct (S beN putL U I getI sumN S_size S_data)
open Wr (BldAt)
theorem bld_lt {w : World} {B b : Nat} {l : List UInt8} (h : BldAt w B b l) : b < w.heap.size := by
  obtain ⟨p, v, hb⟩ := h.blk
  exact (Array.getElem?_eq_some_iff.1 hb).1
theorem bld_ge {w : World} {B b : Nat} {l : List UInt8} (h : BldAt w B b l) : B ≤ b := by
  rcases h with h | h
  · exact h.1
  · exact h.1
theorem textL_len (t : List UInt8) : (textL t).length ≤ 65537 := by
  rw [textL, List.length_append, Oct.putL_length, List.length_take]
  omega
theorem put1s (n : Int) (k : Nat) (sz : Int) (hk : sz = k) (h8 : k ≤ 8) {B b : Nat} {acc : List UInt8} {W : World} (hbl : BldAt W B b acc) (ha : acc.length ≤ 1000000) (hB : B ≤ W.heap.size) (g : Nat) (hg : g = W.heap.size) :
    Calls Try.prog 47 #[.pointer (some ⟨b, 0, none⟩), .int .i64 sz, .slice (some ⟨g, 0, none⟩) 1 1] (W.alloc (.cells #[.int .i64 n] 3)) fun e w' => e = .returned (.tuple #[]) ∧ BldAt w' B b (acc ++ putL (U n) k) ∧ Below B W w' ∧ Others b W w' := by
  subst hg
  have hlt := bld_lt hbl
  refine (put_any [n] k sz W.heap.size B b acc _ hk h8 (hbl.alloc _) (Blk.new W #[.int .i64 n] 3) (by omega) (by simp; omega) (by simp) ha).mono ?_
  rintro e w' ⟨he, h1, h2, h3⟩
  exact ⟨he, by simpa using h1, ((Below.refl B W).alloc hB _).trans h2, Others.trans ((Lib.OthersKept.refl _ _ W).alloc _) h3⟩
theorem put2s (n n2 : Int) (k : Nat) (sz : Int) (hk : sz = k) (h8 : k ≤ 8) {B b : Nat} {acc : List UInt8} {W : World} (hbl : BldAt W B b acc) (ha : acc.length ≤ 1000000) (hB : B ≤ W.heap.size) (g : Nat) (hg : g = W.heap.size) :
    Calls Try.prog 47 #[.pointer (some ⟨b, 0, none⟩), .int .i64 sz, .slice (some ⟨g, 0, none⟩) 2 2] (W.alloc (.cells #[.int .i64 n, .int .i64 n2] 3)) fun e w' => e = .returned (.tuple #[]) ∧ BldAt w' B b (acc ++ (putL (U n) k ++ putL (U n2) k)) ∧ Below B W w' ∧ Others b W w' := by
  subst hg
  have hlt := bld_lt hbl
  refine (put_any [n, n2] k sz W.heap.size B b acc _ hk h8 (hbl.alloc _) (Blk.new W #[.int .i64 n, .int .i64 n2] 3) (by omega) (by simp; omega) (by simp) ha).mono ?_
  rintro e w' ⟨he, h1, h2, h3⟩
  exact ⟨he, by simpa using h1, ((Below.refl B W).alloc hB _).trans h2, Others.trans ((Lib.OthersKept.refl _ _ W).alloc _) h3⟩
theorem put3s (n n2 n3 : Int) (k : Nat) (sz : Int) (hk : sz = k) (h8 : k ≤ 8) {B b : Nat} {acc : List UInt8} {W : World} (hbl : BldAt W B b acc) (ha : acc.length ≤ 1000000) (hB : B ≤ W.heap.size) (g : Nat) (hg : g = W.heap.size) :
    Calls Try.prog 47 #[.pointer (some ⟨b, 0, none⟩), .int .i64 sz, .slice (some ⟨g, 0, none⟩) 3 3] (W.alloc (.cells #[.int .i64 n, .int .i64 n2, .int .i64 n3] 3)) fun e w' => e = .returned (.tuple #[]) ∧ BldAt w' B b (acc ++ (putL (U n) k ++ (putL (U n2) k ++ putL (U n3) k))) ∧ Below B W w' ∧ Others b W w' := by
  subst hg
  have hlt := bld_lt hbl
  refine (put_any [n, n2, n3] k sz W.heap.size B b acc _ hk h8 (hbl.alloc _) (Blk.new W #[.int .i64 n, .int .i64 n2, .int .i64 n3] 3) (by omega) (by simp; omega) (by simp) ha).mono ?_
  rintro e w' ⟨he, h1, h2, h3⟩
  exact ⟨he, by simpa using h1, ((Below.refl B W).alloc hB _).trans h2, Others.trans ((Lib.OthersKept.refl _ _ W).alloc _) h3⟩
theorem texts1s (t : List UInt8) (s : ByteArray) (hs : S t = s) (ht : t.length ≤ 65535) {B b : Nat} {acc : List UInt8} {W : World} (hbl : BldAt W B b acc) (ha : acc.length ≤ 1000000) (hB : B ≤ W.heap.size) (g : Nat) (hg : g = W.heap.size) :
    Calls Try.prog 48 #[.pointer (some ⟨b, 0, none⟩), .slice (some ⟨g, 0, none⟩) 1 1] (W.alloc (.cells #[.string s] 9)) fun e w' => e = .returned (.tuple #[]) ∧ BldAt w' B b (acc ++ textL t) ∧ Below B W w' ∧ Others b W w' := by
  subst hg hs
  have hlt := bld_lt hbl
  refine (texts_any [t] W.heap.size B b acc _ (hbl.alloc _) (Blk.new W #[.string (S t)] 9) (by omega) (by simp; omega) (by simp) (by simpa using ht) ha).mono ?_
  rintro e w' ⟨he, h1, h2, h3⟩
  exact ⟨he, by simpa using h1, ((Below.refl B W).alloc hB _).trans h2, Others.trans ((Lib.OthersKept.refl _ _ W).alloc _) h3⟩
theorem texts2s (t t2 : List UInt8) (s s2 : ByteArray) (hs : S t = s) (hs2 : S t2 = s2) (ht : t.length ≤ 65535) (ht2 : t2.length ≤ 65535) {B b : Nat} {acc : List UInt8} {W : World} (hbl : BldAt W B b acc) (ha : acc.length ≤ 1000000) (hB : B ≤ W.heap.size) (g : Nat) (hg : g = W.heap.size) :
    Calls Try.prog 48 #[.pointer (some ⟨b, 0, none⟩), .slice (some ⟨g, 0, none⟩) 2 2] (W.alloc (.cells #[.string s, .string s2] 9)) fun e w' => e = .returned (.tuple #[]) ∧ BldAt w' B b (acc ++ (textL t ++ textL t2)) ∧ Below B W w' ∧ Others b W w' := by
  subst hg hs hs2
  have hlt := bld_lt hbl
  refine (texts_any [t, t2] W.heap.size B b acc _ (hbl.alloc _) (Blk.new W #[.string (S t), .string (S t2)] 9) (by omega) (by simp; omega) (by simp) (by simpa using ⟨ht, ht2⟩) ha).mono ?_
  rintro e w' ⟨he, h1, h2, h3⟩
  exact ⟨he, by simpa using h1, ((Below.refl B W).alloc hB _).trans h2, Others.trans ((Lib.OthersKept.refl _ _ W).alloc _) h3⟩
/-- The writing call's state: its builder (block b), the record's block. -/
structure WS (w W : World) (B b g : Nat) (cs : Array Value) (acc : List UInt8) (m : Nat) : Prop where
  bl : BldAt W B b acc
  rn : Blk W g cs 31
  hb : Below B w W
  hB : B ≤ w.heap.size
  hg : g ≠ b
  len : acc.length ≤ m
theorem WS.alloc {w W : World} {B b g m : Nat} {cs : Array Value} {acc : List UInt8} (h : WS w W B b g cs acc m) (o : Obj) : WS w (W.alloc o) B b g cs acc m :=
  ⟨h.bl.alloc o, h.rn.alloc o, h.hb.alloc (Nat.le_trans h.hB h.hb.size) o, h.hB, h.hg, h.len⟩
theorem WS.put1 {w W : World} {B b g m : Nat} {cs : Array Value} {acc : List UInt8} (h : WS w W B b g cs acc m) (hm : m ≤ 1000000) (n : Int) (k : Nat) (sz : Int) (hk : sz = k) (h8 : k ≤ 8) (q : Nat) (hq : q = W.heap.size) :
    Calls Try.prog 47 #[.pointer (some ⟨b, 0, none⟩), .int .i64 sz, .slice (some ⟨q, 0, none⟩) 1 1] (W.alloc (.cells #[.int .i64 n] 3)) fun e w' => e = .returned (.tuple #[]) ∧ WS w w' B b g cs (acc ++ putL (U n) k) (m + 8) ∧ Below B W w' ∧ Others b W w' := by
  refine (put1s n k sz hk h8 h.bl (Nat.le_trans h.len hm) (Nat.le_trans h.hB h.hb.size) q hq).mono ?_
  rintro e w' ⟨he, h1, h2, h3⟩
  exact ⟨he, ⟨h1, Blk.others h.rn h3 h.hg (by decide), h.hb.trans h2, h.hB, h.hg, by have := h.len; rw [List.length_append, Oct.putL_length]; omega⟩, h2, h3⟩
theorem WS.put3 {w W : World} {B b g m : Nat} {cs : Array Value} {acc : List UInt8} (h : WS w W B b g cs acc m) (hm : m ≤ 1000000) (n n2 n3 : Int) (k : Nat) (sz : Int) (hk : sz = k) (h8 : k ≤ 8) (q : Nat) (hq : q = W.heap.size) :
    Calls Try.prog 47 #[.pointer (some ⟨b, 0, none⟩), .int .i64 sz, .slice (some ⟨q, 0, none⟩) 3 3] (W.alloc (.cells #[.int .i64 n, .int .i64 n2, .int .i64 n3] 3)) fun e w' => e = .returned (.tuple #[]) ∧ WS w w' B b g cs (acc ++ (putL (U n) k ++ (putL (U n2) k ++ putL (U n3) k))) (m + 24) ∧ Below B W w' ∧ Others b W w' := by
  refine (put3s n n2 n3 k sz hk h8 h.bl (Nat.le_trans h.len hm) (Nat.le_trans h.hB h.hb.size) q hq).mono ?_
  rintro e w' ⟨he, h1, h2, h3⟩
  exact ⟨he, ⟨h1, Blk.others h.rn h3 h.hg (by decide), h.hb.trans h2, h.hB, h.hg, by have := h.len; simp only [List.length_append, Oct.putL_length]; omega⟩, h2, h3⟩
/-- The body's state: its builder (block B), the record's block and the form's, below it. -/
structure BS (w W : World) (B g0 g1 : Nat) (cs fs : Array Value) (acc : List UInt8) (m : Nat) : Prop where
  bl : BldAt W B B acc
  rn : Blk W g0 cs 31
  fn : Blk W g1 fs 60
  hb : Below w.heap.size w W
  hB : B ≤ W.heap.size
  h0 : g0 < B
  h1 : g1 < B
  hw : w.heap.size ≤ B
  len : acc.length ≤ m
variable {w W : World} {B g0 g1 m : Nat} {cs fs : Array Value} {acc : List UInt8}
theorem BS.step {w' : World} {acc2 : List UInt8} {m2 : Nat} (h : BS w W B g0 g1 cs fs acc m) (h1 : BldAt w' B B acc2) (h2 : Below B W w') (h3 : acc2.length ≤ m2) : BS w w' B g0 g1 cs fs acc2 m2 :=
  ⟨h1, h.rn.belowB h2 h.h0, h.fn.belowB h2 h.h1, h.hb.trans (h2.mono h.hw), Nat.le_trans h.hB h2.size, h.h0, h.h1, h.hw, h3⟩
theorem BS.put1 (h : BS w W B g0 g1 cs fs acc m) (hm : m ≤ 1000000) (n : Int) (k : Nat) (sz : Int) (hk : sz = k) (h8 : k ≤ 8) (q : Nat) (hq : q = W.heap.size) :
    Calls Try.prog 47 #[.pointer (some ⟨B, 0, none⟩), .int .i64 sz, .slice (some ⟨q, 0, none⟩) 1 1] (W.alloc (.cells #[.int .i64 n] 3)) fun e w' => e = .returned (.tuple #[]) ∧ BS w w' B g0 g1 cs fs (acc ++ putL (U n) k) (m + 8) := by
  refine (put1s n k sz hk h8 h.bl (Nat.le_trans h.len hm) h.hB q hq).mono ?_
  rintro e w' ⟨he, h1, h2, h3⟩
  exact ⟨he, h.step h1 h2 (by have := h.len; simp only [List.length_append, Oct.putL_length]; omega)⟩
theorem BS.put2 (h : BS w W B g0 g1 cs fs acc m) (hm : m ≤ 1000000) (n n2 : Int) (k : Nat) (sz : Int) (hk : sz = k) (h8 : k ≤ 8) (q : Nat) (hq : q = W.heap.size) :
    Calls Try.prog 47 #[.pointer (some ⟨B, 0, none⟩), .int .i64 sz, .slice (some ⟨q, 0, none⟩) 2 2] (W.alloc (.cells #[.int .i64 n, .int .i64 n2] 3)) fun e w' => e = .returned (.tuple #[]) ∧ BS w w' B g0 g1 cs fs (acc ++ (putL (U n) k ++ putL (U n2) k)) (m + 16) := by
  refine (put2s n n2 k sz hk h8 h.bl (Nat.le_trans h.len hm) h.hB q hq).mono ?_
  rintro e w' ⟨he, h1, h2, h3⟩
  exact ⟨he, h.step h1 h2 (by have := h.len; simp only [List.length_append, Oct.putL_length]; omega)⟩
theorem BS.put3 (h : BS w W B g0 g1 cs fs acc m) (hm : m ≤ 1000000) (n n2 n3 : Int) (k : Nat) (sz : Int) (hk : sz = k) (h8 : k ≤ 8) (q : Nat) (hq : q = W.heap.size) :
    Calls Try.prog 47 #[.pointer (some ⟨B, 0, none⟩), .int .i64 sz, .slice (some ⟨q, 0, none⟩) 3 3] (W.alloc (.cells #[.int .i64 n, .int .i64 n2, .int .i64 n3] 3)) fun e w' => e = .returned (.tuple #[]) ∧ BS w w' B g0 g1 cs fs (acc ++ (putL (U n) k ++ (putL (U n2) k ++ putL (U n3) k))) (m + 24) := by
  refine (put3s n n2 n3 k sz hk h8 h.bl (Nat.le_trans h.len hm) h.hB q hq).mono ?_
  rintro e w' ⟨he, h1, h2, h3⟩
  exact ⟨he, h.step h1 h2 (by have := h.len; simp only [List.length_append, Oct.putL_length]; omega)⟩
theorem BS.texts1 (h : BS w W B g0 g1 cs fs acc m) (hm : m ≤ 1000000) (t : List UInt8) (s : ByteArray) (hs : S t = s) (ht : t.length ≤ 65535) (q : Nat) (hq : q = W.heap.size) :
    Calls Try.prog 48 #[.pointer (some ⟨B, 0, none⟩), .slice (some ⟨q, 0, none⟩) 1 1] (W.alloc (.cells #[.string s] 9)) fun e w' => e = .returned (.tuple #[]) ∧ BS w w' B g0 g1 cs fs (acc ++ textL t) (m + 65537) := by
  refine (texts1s t s hs ht h.bl (Nat.le_trans h.len hm) h.hB q hq).mono ?_
  rintro e w' ⟨he, h1, h2, h3⟩
  exact ⟨he, h.step h1 h2 (by have := h.len; have := textL_len t; rw [List.length_append]; omega)⟩
theorem BS.texts2 (h : BS w W B g0 g1 cs fs acc m) (hm : m ≤ 1000000) (t t2 : List UInt8) (s s2 : ByteArray) (hs : S t = s) (hs2 : S t2 = s2) (ht : t.length ≤ 65535) (ht2 : t2.length ≤ 65535) (q : Nat) (hq : q = W.heap.size) :
    Calls Try.prog 48 #[.pointer (some ⟨B, 0, none⟩), .slice (some ⟨q, 0, none⟩) 2 2] (W.alloc (.cells #[.string s, .string s2] 9)) fun e w' => e = .returned (.tuple #[]) ∧ BS w w' B g0 g1 cs fs (acc ++ (textL t ++ textL t2)) (m + 131074) := by
  refine (texts2s t t2 s s2 hs hs2 ht ht2 h.bl (Nat.le_trans h.len hm) h.hB q hq).mono ?_
  rintro e w' ⟨he, h1, h2, h3⟩
  exact ⟨he, h.step h1 h2 (by have := h.len; have := textL_len t; have := textL_len t2; simp only [List.length_append]; omega)⟩
end Go.Proofs.Ytloengjcniefgaa.Rec
