/- strings.Cut at one byte; value.Num, value.Str, sign. -/
import Derived.Test.YtljdiakodpjkpaaShelf
import Derived.Test.YtljdiakodpjkpaaAftR
import Derived.Test.YtljdiakodpjkpaaOrd
import Derived.BigQuiet
namespace Go.Proofs.Ytljdiakodpjkpaa
set_option linter.unusedVariables false
set_option linter.unusedSimpArgs false
open Go.RowKit
open Oct (S S_size S_data)
theorem str_any (s : ByteArray) (w : World) : Calls Try.prog 19 #[.string s] w (Ret (.agg #[.int .i64 3, .int .i64 0, .string s]) w) := by
  go_enter Try.func19, Try.ntmps19
  go_wp2_with fail
  exact bodyPost_ret (v := .agg #[.int .i64 3, .int .i64 0, .string s]) (by simp [results, Try.results19, go_sem]) rfl ⟨rfl, (Below.refl _ _).alloc (Nat.le_refl _) _⟩
theorem num_any (n : Int) (w : World) : Calls Try.prog 20 #[.int .i64 n] w (Ret (.agg #[.int .i64 2, .int .i64 n, .string ⟨#[]⟩]) w) := by
  go_enter Try.func20, Try.ntmps20
  go_wp2_with fail
  exact bodyPost_ret (v := .agg #[.int .i64 2, .int .i64 n, .string ⟨#[]⟩]) (by simp [results, Try.results20, go_sem]) rfl ⟨rfl, (Below.refl _ _).alloc (Nat.le_refl _) _⟩
theorem sign_any (s t : ByteArray) (w : World) : Calls Try.prog 9 #[.string s, .string t] w (Ret (.int .i64 (Lib.compareBytes s.data.toList t.data.toList)) w) := by
  have HS := Lib.hid (fun s W => str_any s W)
  have HO := Lib.hid (fun W => order_any ⟨3, 0, s⟩ ⟨3, 0, t⟩ W)
  have he : ordV ⟨3, 0, s⟩ ⟨3, 0, t⟩ = Lib.compareBytes s.data.toList t.data.toList := by simp [ordV, orI, cmpI]
  rw [he] at HO
  simp only [Vl.cells] at HO
  go_enter Try.func9, Try.ntmps9
  go_wp2_with fail
  refine (HS.out _ _).mono ?_
  rintro e w1 ⟨rfl, hb1⟩
  go_wp2_with fail
  refine (HS.out _ _).mono ?_
  rintro e w2 ⟨rfl, hb2⟩
  go_wp2_with fail
  refine (HO.out _).mono ?_
  rintro e w3 ⟨rfl, hb3⟩
  go_wp2_with fail
  go_ret
  exact ⟨rfl, (hb1.next hb2).next hb3⟩
theorem S_drop (l : List UInt8) (k : Nat) (hk : k ≤ l.length) : (S l).extract k l.length = S (l.drop k) := by
  apply ByteArray.ext
  apply Array.ext'
  simp [S, ByteArray.data_extract]
  exact List.take_of_length_le (by simp)
/-- A text at a byte: what is ahead, what is behind it. -/
def cutB (l : List UInt8) (c : UInt8) : List UInt8 × List UInt8 × Bool :=
  if Lib.indexByte l c < 0 then (l, [], false) else (l.take (Lib.indexByte l c).toNat, l.drop ((Lib.indexByte l c).toNat + 1), true)
theorem lcut_any (l : List UInt8) (c : UInt8) (w : World) (hl : l.length ≤ 140737488351232) :
    Calls Try.prog 53 #[.string (S l), .string ⟨#[c]⟩] w (Ret (.tuple #[.string (S (cutB l c).1), .string (S (cutB l c).2.1), .bool (cutB l c).2.2]) w) := by
  have HI := Lib.hid (fun W => Try.stringslite_Index_one (S l) c W)
  rw [S_data] at HI
  have hsz := S_size l
  obtain ⟨r, hr⟩ : ∃ r, Lib.indexByte l c = r := ⟨_, rfl⟩
  by_cases h0 : r < 0
  · have hcb : cutB l c = (l, [], false) := by rw [cutB, hr, if_pos h0]
    rw [hr] at HI
    rw [hcb]
    clear hr hcb
    go_enter Try.func53, Try.ntmps53
    go_wp2_with fail
    refine (HI.out _).mono ?_
    rintro e w1 ⟨rfl, rfl⟩
    go_wp2_with fail
    exact bodyPost_ret (v := .tuple #[.string (S l), .string (S []), .bool false]) (by simp [results, Try.results53, go_sem]) rfl ⟨rfl, Below.refl _ _⟩
  · obtain ⟨k, rfl⟩ : ∃ k : Nat, r = k := ⟨r.toNat, by omega⟩
    have hk : k < l.length := (List.getElem?_eq_some_iff.1 (Lib.indexByte_some hr).1).1
    have hcb : cutB l c = (l.take k, l.drop (k + 1), true) := by rw [cutB, hr, if_neg h0]; rfl
    rw [hr] at HI
    rw [hcb]
    have e1 := S_take l k (by omega)
    have e2 := S_drop l (k + 1) (by omega)
    have hk0 : (0 : Int) ≤ k := by omega
    have hk1 : (k : Int) ≤ l.length := by omega
    have hk2 : (k : Int) + 1 ≤ l.length := by omega
    have hk3 : (0 : Int) ≤ (k : Int) + 1 := by omega
    have hw : IntKind.i64.wrap ((k : Int) + 1) = (k : Int) + 1 := IntWalk.i64_in _ (by omega)
    clear hr hcb h0
    go_enter Try.func53, Try.ntmps53
    go_wp2_with fail
    refine (HI.out _).mono ?_
    rintro e w1 ⟨rfl, rfl⟩
    go_wp2_with fail
    go_quiet (fail)
    go_wp2_with fail
    exact bodyPost_ret (v := .tuple #[.string (S (l.take k)), .string (S (l.drop (k + 1))), .bool true]) (by simp [results, Try.results53, go_sem]) rfl ⟨rfl, (Below.refl w1.heap.size w1).drewN nq⟩
theorem cut_any (l : List UInt8) (c : UInt8) (w : World) (hl : l.length ≤ 140737488351232) :
    Calls Try.prog 38 #[.string (S l), .string ⟨#[c]⟩] w (Ret (.tuple #[.string (S (cutB l c).1), .string (S (cutB l c).2.1), .bool (cutB l c).2.2]) w) := by
  have HC := Lib.hid (fun W => lcut_any l c W hl)
  obtain ⟨⟨a, b, d⟩, hr⟩ : ∃ r, cutB l c = r := ⟨_, rfl⟩
  rw [hr] at HC ⊢
  clear hr
  go_enter Try.func38, Try.ntmps38
  go_wp2_with fail
  refine (HC.out _).mono ?_
  rintro e w1 ⟨rfl, hb1⟩
  go_wp2_with fail
  exact bodyPost_ret (v := .tuple #[.string (S a), .string (S b), .bool d]) (by simp [results, Try.results38, go_sem]) rfl ⟨rfl, hb1⟩
end Go.Proofs.Ytljdiakodpjkpaa
