/- The reference's first value of a key. -/
import Derived.Test.YtljdiakodpjkpaaTake07
import Derived.Test.YtljdiakodpjkpaaKeyL
namespace Go.Proofs.Ytljdiakodpjkpaa
set_option linter.unusedVariables false
set_option linter.unusedSimpArgs false
open Go.RowKit
open Oct (S S_size S_data beN putL U I getI)
open Lib (indexByte)
theorem rbool_t (w : World) : Calls Try.prog 42 #[.bool true] w (Ret (.agg #[.int .i64 1, .int .i64 1, .string ⟨#[]⟩]) w) := by
  go_enter Try.func42, Try.ntmps42
  go_wp2_with fail
  exact bodyPost_ret (v := .agg #[.int .i64 1, .int .i64 1, .string ⟨#[]⟩]) (by simp [results, Try.results42, go_sem]) rfl ⟨rfl, (Below.refl _ _).alloc (Nat.le_refl _) _⟩
theorem rbool_f (w : World) : Calls Try.prog 42 #[.bool false] w (Ret (.agg #[.int .i64 1, .int .i64 0, .string ⟨#[]⟩]) w) := by
  go_enter Try.func42, Try.ntmps42
  go_wp2_with fail
  exact bodyPost_ret (v := .agg #[.int .i64 1, .int .i64 0, .string ⟨#[]⟩]) (by simp [results, Try.results42, go_sem]) rfl ⟨rfl, (Below.refl _ _).alloc (Nat.le_refl _) _⟩
theorem rnum_any (n : Int) (w : World) : Calls Try.prog 43 #[.int .i64 n] w (Ret (.agg #[.int .i64 2, .int .i64 n, .string ⟨#[]⟩]) w) := by
  go_enter Try.func43, Try.ntmps43
  go_wp2_with fail
  exact bodyPost_ret (v := .agg #[.int .i64 2, .int .i64 n, .string ⟨#[]⟩]) (by simp [results, Try.results43, go_sem]) rfl ⟨rfl, (Below.refl _ _).alloc (Nat.le_refl _) _⟩
theorem rstr_any (s : ByteArray) (w : World) : Calls Try.prog 45 #[.string s] w (Ret (.agg #[.int .i64 3, .int .i64 0, .string s]) w) := by
  go_enter Try.func45, Try.ntmps45
  go_wp2_with fail
  exact bodyPost_ret (v := .agg #[.int .i64 3, .int .i64 0, .string s]) (by simp [results, Try.results45, go_sem]) rfl ⟨rfl, (Below.refl _ _).alloc (Nat.le_refl _) _⟩
theorem beN_take (l : List UInt8) (k : Nat) (hk : k < l.length) : beN (l.take (k + 1)) = beN (l.take k) * 256 + (l[k]).toNat := by
  rw [List.take_succ_eq_append_getElem hk, Oct.beN_snoc]
theorem beN_take_lt (l : List UInt8) (k : Nat) (hk : k ≤ 7) : beN (l.take k) < 72057594037927936 := by
  have h1 := Oct.beN_lt (l.take k)
  have h2 : (l.take k).length ≤ 7 := by rw [List.length_take]; omega
  have h3 : 256 ^ (l.take k).length ≤ 256 ^ 7 := Nat.pow_le_pow_right (by decide) h2
  have h4 : (256 : Nat) ^ 7 = 72057594037927936 := by decide
  omega
theorem un_eq (b : List UInt8) (h8 : b.length = 8) : IntKind.i64.wrap (IntKind.u64.wrap ((beN b : Int) - 9223372036854775808)) = unoff b := by
  have hlt := Oct.beN_lt b
  rw [h8] at hlt
  have hlt2 : beN b < 18446744073709551616 := by simpa using hlt
  rw [IntKind.wrap_u64, IntKind.wrap_i64]
  unfold unoff
  omega
theorem number_any (l : List UInt8) (w : World) (h8 : 8 ≤ l.length) (hl : l.length ≤ 140737488351232) : Calls Try.prog 44 #[.string (S l)] w (Eq1 (.int .i64 (unoff (l.take 8))) w) := by
  have hsz := S_size l
  have HU := Lib.hid (un_eq (l.take 8) (by rw [List.length_take]; omega))
  go_enter Try.func44, Try.ntmps44
  go_wp2_with fail
  go_loop [3, 4] (fun u i => ∃ k : Nat, k ≤ 8 ∧ i = .int .i64 k ∧ u = .int .u64 (beN (l.take k) : Nat)) (fun _ i => 8 - (intOf i).toNat)
  case atStart => exact ⟨0, by omega, rfl, by simp [beN]⟩
  case round =>
    obtain ⟨k, hk, rfl, rfl⟩ := hrel
    by_cases hlt : k < 8
    · have HS := Lib.hid (beN_take l k (by omega))
      have hb := beN_take_lt l k (by omega)
      have hc0 : k < (S l).size := by omega
      have hce : (((S l)[k]'hc0).toNat : Int) = (l[k]'(by omega)).toNat := by rw [S_at l k (by omega)]
      have hcl := (l[k]'(by omega)).toNat_lt
      obtain ⟨c, hc⟩ : ∃ c, (l[k]'(by omega : k < l.length)) = c := ⟨_, rfl⟩
      rw [hc] at HS hce hcl
      obtain ⟨m, hm⟩ : ∃ m, beN (l.take k) = m := ⟨_, rfl⟩
      rw [hm] at HS hb ⊢
      have hk0 : (0 : Int) ≤ k := by omega
      have hk1 : (k : Int) < l.length := by omega
      clear hc hm
      go_wp2_with fail
      go_round
      case rel => exact ⟨k + 1, by omega, by go_num, by rw [HS.out]; go_num⟩
      case measure => simp [intOf]; omega
    · have hk8 : k = 8 := by omega
      subst hk8
      go_wp2_with fail
      go_ret
      exact ⟨ret_int (by rw [← HU.out, IntKind.wrap_u64, IntKind.wrap_i64]; unfold wrap64; omega), rfl⟩
/-- The first value of a key, and how many bytes it has. -/
def firstK : List UInt8 → Vl × Nat
  | [] => (⟨0, 0, ⟨#[]⟩⟩, 0)
  | c :: r =>
    if c = 0 then (⟨0, 0, ⟨#[]⟩⟩, 1)
    else if c = 1 then (match r with
      | [] => (⟨0, 0, ⟨#[]⟩⟩, 0)
      | d :: q => if d.toNat < 2 then (⟨1, d.toNat, ⟨#[]⟩⟩, 2) else (⟨0, 0, ⟨#[]⟩⟩, 0))
    else if c = 2 then (if 8 ≤ r.length then (⟨2, unoff (r.take 8), ⟨#[]⟩⟩, 9) else (⟨0, 0, ⟨#[]⟩⟩, 0))
    else if c = 3 then (if indexByte r 0 < 0 then (⟨0, 0, ⟨#[]⟩⟩, 0) else (⟨3, 0, S (r.take (indexByte r 0).toNat)⟩, (indexByte r 0).toNat + 2))
    else (⟨0, 0, ⟨#[]⟩⟩, 0)
theorem vnew0 (w : World) : Blk (w.alloc (.cells #[.int .i64 0, .int .i64 0, .string ⟨#[]⟩] 41)) w.heap.size #[.int .i64 0, .int .i64 0, .string ⟨#[]⟩] 41 ∧ Below w.heap.size w (w.alloc (.cells #[.int .i64 0, .int .i64 0, .string ⟨#[]⟩] 41)) :=
  ⟨Blk.new w _ _, (Below.refl _ _).alloc (Nat.le_refl _) _⟩
theorem nat_two (n : Nat) (h : n < 2) : n = 0 ∨ n = 1 := by omega
theorem first_null (r : List UInt8) (w : World) (hl : r.length ≤ 140737488351231) :
    Calls Try.prog 23 #[.string (S (0 :: r))] w (Ret (.tuple #[.agg (Vl.mk 0 0 ⟨#[]⟩).cells.toArray, .int .i64 1]) w) := by
  have hsz : (S (0 :: r)).size = r.length + 1 := by rw [S_size]; rfl
  have h0 : 0 < (S (0 :: r)).size := by omega
  have hc : (((S (0 :: r))[0]'h0).toNat : Int) = 0 := by rw [S_at (0 :: r) 0 (by simp) h0]; rfl
  have hp2 : (0 : Int) < (r.length : Int) + 1 := by omega
  obtain ⟨hv, hb⟩ := vnew0 w
  go_enter Try.func23, Try.ntmps23
  go_wp2_with fail
  exact bodyPost_ret (v := .tuple #[.agg #[.int .i64 0, .int .i64 0, .string ⟨#[]⟩], .int .i64 1]) (by simp [results, Try.results23, go_sem]) rfl ⟨rfl, hb⟩
theorem first_other (c : UInt8) (r : List UInt8) (w : World) (hl : r.length ≤ 140737488351231) (hc : c ≠ 0 ∧ c ≠ 1 ∧ c ≠ 2 ∧ c ≠ 3) :
    Calls Try.prog 23 #[.string (S (c :: r))] w (Ret (.tuple #[.agg (Vl.mk 0 0 ⟨#[]⟩).cells.toArray, .int .i64 0]) w) := by
  have hsz : (S (c :: r)).size = r.length + 1 := by rw [S_size]; rfl
  have h0 : 0 < (S (c :: r)).size := by omega
  have hc0 : (((S (c :: r))[0]'h0).toNat : Int) = c.toNat := by rw [S_at (c :: r) 0 (by simp) h0]; rfl
  have hp2 : (0 : Int) < (r.length : Int) + 1 := by omega
  have hne : ∀ d : UInt8, c ≠ d → ((c.toNat : Int) == d.toNat) = false := fun d h => by
    have : c.toNat ≠ d.toNat := fun e => h (UInt8.toNat_inj.1 e)
    simp
    omega
  have n0 : ((c.toNat : Int) == 0) = false := hne 0 hc.1
  have n1 : ((c.toNat : Int) == 1) = false := hne 1 hc.2.1
  have n2 : ((c.toNat : Int) == 2) = false := hne 2 hc.2.2.1
  have n3 : ((c.toNat : Int) == 3) = false := hne 3 hc.2.2.2
  clear hne hc
  generalize c.toNat = x at *
  obtain ⟨hv, hb⟩ := vnew0 w
  go_enter Try.func23, Try.ntmps23
  go_wp2_with fail
  exact bodyPost_ret (v := .tuple #[.agg #[.int .i64 0, .int .i64 0, .string ⟨#[]⟩], .int .i64 0]) (by simp [results, Try.results23, go_sem]) rfl ⟨rfl, hb⟩
theorem first_bool0 (w : World) : Calls Try.prog 23 #[.string (S [1])] w (Ret (.tuple #[.agg (Vl.mk 0 0 ⟨#[]⟩).cells.toArray, .int .i64 0]) w) := by
  have hsz : (S [1]).size = 1 := rfl
  have h0 : 0 < (S [1]).size := by omega
  have hc : (((S [1])[0]'h0).toNat : Int) = 1 := rfl
  obtain ⟨hv, hb⟩ := vnew0 w
  go_enter Try.func23, Try.ntmps23
  go_wp2_with fail
  exact bodyPost_ret (v := .tuple #[.agg #[.int .i64 0, .int .i64 0, .string ⟨#[]⟩], .int .i64 0]) (by simp [results, Try.results23, go_sem]) rfl ⟨rfl, hb⟩
theorem first_bool_no (d : UInt8) (q : List UInt8) (w : World) (hl : q.length ≤ 140737488351230) (hd : ¬ d.toNat < 2) :
    Calls Try.prog 23 #[.string (S (1 :: d :: q))] w (Ret (.tuple #[.agg (Vl.mk 0 0 ⟨#[]⟩).cells.toArray, .int .i64 0]) w) := by
  have hsz : (S (1 :: d :: q)).size = q.length + 1 + 1 := by rw [S_size]; rfl
  have h0 : 0 < (S (1 :: d :: q)).size := by omega
  have h1 : 1 < (S (1 :: d :: q)).size := by omega
  have hc : (((S (1 :: d :: q))[0]'h0).toNat : Int) = 1 := by rw [S_at (1 :: d :: q) 0 (by simp) h0]; rfl
  have hc1 : (((S (1 :: d :: q))[1]'h1).toNat : Int) = d.toNat := by rw [S_at (1 :: d :: q) 1 (by simp) h1]; rfl
  have hp1 : (0 : Int) < (q.length : Int) + 1 + 1 := by omega
  have hp2 : (1 : Int) < (q.length : Int) + 1 + 1 := by omega
  have hd2 : (2 : Int) ≤ d.toNat := by omega
  generalize (d.toNat : Int) = x at *
  clear hd
  obtain ⟨hv, hb⟩ := vnew0 w
  go_enter Try.func23, Try.ntmps23
  go_wp2_with fail
  exact bodyPost_ret (v := .tuple #[.agg #[.int .i64 0, .int .i64 0, .string ⟨#[]⟩], .int .i64 0]) (by simp [results, Try.results23, go_sem]) rfl ⟨rfl, hb⟩
theorem first_bool (d : UInt8) (q : List UInt8) (w : World) (hl : q.length ≤ 140737488351230) (hd : d.toNat < 2) :
    Calls Try.prog 23 #[.string (S (1 :: d :: q))] w (Ret (.tuple #[.agg (Vl.mk 1 d.toNat ⟨#[]⟩).cells.toArray, .int .i64 2]) w) := by
  have hsz : (S (1 :: d :: q)).size = q.length + 1 + 1 := by rw [S_size]; rfl
  have h0 : 0 < (S (1 :: d :: q)).size := by omega
  have h1 : 1 < (S (1 :: d :: q)).size := by omega
  have hc : (((S (1 :: d :: q))[0]'h0).toNat : Int) = 1 := by rw [S_at (1 :: d :: q) 0 (by simp) h0]; rfl
  have hc1 : (((S (1 :: d :: q))[1]'h1).toNat : Int) = d.toNat := by rw [S_at (1 :: d :: q) 1 (by simp) h1]; rfl
  have hp1 : (0 : Int) < (q.length : Int) + 1 + 1 := by omega
  have hp2 : (1 : Int) < (q.length : Int) + 1 + 1 := by omega
  have HB0 := Lib.hid (fun W => rbool_f W)
  have HB1 := Lib.hid (fun W => rbool_t W)
  rcases nat_two _ hd with hd | hd
  · rw [hd] at hc1
    rw [hd]
    clear hd
    obtain ⟨hv, hb⟩ := vnew0 w
    go_enter Try.func23, Try.ntmps23
    go_wp2_with fail
    refine (HB0.out _).mono ?_
    rintro e w1 ⟨rfl, hb1⟩
    replace hv := hv.below hb1
    replace hb := hb.next hb1
    obtain ⟨z0, z1, z2, f0, f1, f2⟩ := hv.val
    go_wp2_with fail
    obtain ⟨hbE, e0, e1, e2⟩ := vfin hv hb (Nat.le_refl _) 1 0 ⟨#[]⟩
    exact bodyPost_ret (v := .tuple #[.agg #[.int .i64 1, .int .i64 0, .string ⟨#[]⟩], .int .i64 2]) (by simp [results, Try.results23, go_sem, e0, e1, e2]) rfl ⟨rfl, hbE⟩
  · rw [hd] at hc1
    rw [hd]
    clear hd
    obtain ⟨hv, hb⟩ := vnew0 w
    go_enter Try.func23, Try.ntmps23
    go_wp2_with fail
    refine (HB1.out _).mono ?_
    rintro e w1 ⟨rfl, hb1⟩
    replace hv := hv.below hb1
    replace hb := hb.next hb1
    obtain ⟨z0, z1, z2, f0, f1, f2⟩ := hv.val
    go_wp2_with fail
    obtain ⟨hbE, e0, e1, e2⟩ := vfin hv hb (Nat.le_refl _) 1 1 ⟨#[]⟩
    exact bodyPost_ret (v := .tuple #[.agg #[.int .i64 1, .int .i64 1, .string ⟨#[]⟩], .int .i64 2]) (by simp [results, Try.results23, go_sem, e0, e1, e2]) rfl ⟨rfl, hbE⟩
theorem first_int0 (r : List UInt8) (w : World) (hl : r.length < 8) :
    Calls Try.prog 23 #[.string (S (2 :: r))] w (Ret (.tuple #[.agg (Vl.mk 0 0 ⟨#[]⟩).cells.toArray, .int .i64 0]) w) := by
  have hsz : (S (2 :: r)).size = r.length + 1 := by rw [S_size]; rfl
  have h0 : 0 < (S (2 :: r)).size := by omega
  have hc : (((S (2 :: r))[0]'h0).toNat : Int) = 2 := by rw [S_at (2 :: r) 0 (by simp) h0]; rfl
  have hp2 : (0 : Int) < (r.length : Int) + 1 := by omega
  have hl2 : (r.length : Int) < 8 := by omega
  obtain ⟨hv, hb⟩ := vnew0 w
  go_enter Try.func23, Try.ntmps23
  go_wp2_with fail
  exact bodyPost_ret (v := .tuple #[.agg #[.int .i64 0, .int .i64 0, .string ⟨#[]⟩], .int .i64 0]) (by simp [results, Try.results23, go_sem]) rfl ⟨rfl, hb⟩
theorem first_int (r : List UInt8) (w : World) (hl : r.length ≤ 140737488351231) (h8 : 8 ≤ r.length) :
    Calls Try.prog 23 #[.string (S (2 :: r))] w (Ret (.tuple #[.agg (Vl.mk 2 (unoff (r.take 8)) ⟨#[]⟩).cells.toArray, .int .i64 9]) w) := by
  have hsz : (S (2 :: r)).size = r.length + 1 := by rw [S_size]; rfl
  have h0 : 0 < (S (2 :: r)).size := by omega
  have hc : (((S (2 :: r))[0]'h0).toNat : Int) = 2 := by rw [S_at (2 :: r) 0 (by simp) h0]; rfl
  have hp2 : (0 : Int) < (r.length : Int) + 1 := by omega
  have hl2 : (8 : Int) ≤ (r.length : Int) := by omega
  have hp : (1 : Int) ≤ (r.length : Int) + 1 := by omega
  have ht := S_tail 2 r
  have HN := Lib.hid (fun W => number_any r W h8 (by omega))
  have HM := Lib.hid (fun n W => rnum_any n W)
  generalize unoff (r.take 8) = n at *
  obtain ⟨hv, hb⟩ := vnew0 w
  go_enter Try.func23, Try.ntmps23
  go_wp2_with fail
  refine (HN.out _).mono ?_
  rintro e w1 ⟨rfl, rfl⟩
  go_wp2_with fail
  refine (HM.out _ _).mono ?_
  rintro e w2 ⟨rfl, hb2⟩
  replace hv := hv.below hb2
  replace hb := hb.next hb2
  obtain ⟨z0, z1, z2, f0, f1, f2⟩ := hv.val
  go_wp2_with fail
  obtain ⟨hbE, e0, e1, e2⟩ := vfin hv hb (Nat.le_refl _) 2 n ⟨#[]⟩
  exact bodyPost_ret (v := .tuple #[.agg #[.int .i64 2, .int .i64 n, .string ⟨#[]⟩], .int .i64 9]) (by simp [results, Try.results23, go_sem, e0, e1, e2]) rfl ⟨rfl, hbE⟩
theorem idx_at (r : List UInt8) (k : Nat) (hk : k < r.length) (h : ∀ j (hj : j < r.length), j < k → r[j] ≠ 0) (hz : r[k] = 0) : indexByte r 0 = (k : Int) := by
  have e : r = r.take k ++ 0 :: r.drop (k + 1) := by
    rw [← hz, ← List.drop_eq_getElem_cons hk, List.take_append_drop]
  rw [e, idx_text _ _ (fun c hc => ?_), List.length_take]
  · congr 1; omega
  · obtain ⟨j, hj, rfl⟩ := List.getElem_of_mem hc
    rw [List.length_take] at hj
    rw [List.getElem_take]
    exact h j (by omega) (by omega)
theorem idx_none (r : List UInt8) (h : ∀ j (hj : j < r.length), r[j] ≠ 0) : indexByte r 0 < 0 := by
  by_cases h0 : indexByte r 0 < 0
  · exact h0
  · exfalso
    obtain ⟨k, hk⟩ : ∃ k : Nat, indexByte r 0 = k := ⟨(indexByte r 0).toNat, by omega⟩
    have h1 := (Lib.indexByte_some hk).1
    obtain ⟨h2, h3⟩ := List.getElem?_eq_some_iff.1 h1
    exact h k h2 h3
theorem S_mid (c : UInt8) (r : List UInt8) (k : Nat) (hk : k ≤ r.length) : (S (c :: r)).extract 1 (k + 1) = S (r.take k) := by
  apply ByteArray.ext
  apply Array.ext'
  simp [S, ByteArray.data_extract]
set_option maxHeartbeats 2000000 in
theorem first_text (r : List UInt8) (w : World) (hl : r.length ≤ 140737488351231) :
    Calls Try.prog 23 #[.string (S (3 :: r))] w (Ret (.tuple #[.agg (firstK (3 :: r)).1.cells.toArray, .int .i64 (firstK (3 :: r)).2]) w) := by
  have hsz : (S (3 :: r)).size = r.length + 1 := by rw [S_size]; rfl
  have h0 : 0 < (S (3 :: r)).size := by omega
  have hc : (((S (3 :: r))[0]'h0).toNat : Int) = 3 := by rw [S_at (3 :: r) 0 (by simp) h0]; rfl
  have hp2 : (0 : Int) < (r.length : Int) + 1 := by omega
  have hF : firstK (3 :: r) = (if indexByte r 0 < 0 then (⟨0, 0, ⟨#[]⟩⟩, 0) else (⟨3, 0, S (r.take (indexByte r 0).toNat)⟩, (indexByte r 0).toNat + 2)) := rfl
  obtain ⟨⟨v, n⟩, hvn⟩ : ∃ x, firstK (3 :: r) = x := ⟨_, rfl⟩
  rw [hvn] at hF ⊢
  have HF := Lib.hid hF
  have HM := Lib.hid (fun s W => rstr_any s W)
  clear hF hvn
  obtain ⟨hv, hb⟩ := vnew0 w
  go_enter Try.func23, Try.ntmps23
  go_wp2_with fail
  generalize hW : (w.alloc (.cells #[.int .i64 0, .int .i64 0, .string ⟨#[]⟩] 41)) = W0 at hv hb ⊢
  clear hW
  go_loopw [4] (fun i wr => ∃ k : Nat, k ≤ r.length ∧ i = .int .i64 ((k + 1 : Nat) : Int) ∧ wr = W0 ∧ Hid (∀ j (hj : j < r.length), j < k → r[j] ≠ 0)) (fun i _ => r.length + 1 - (intOf i).toNat)
  case atStart => exact ⟨0, Nat.zero_le _, rfl, rfl, fun j _ h => by omega⟩
  case round =>
    obtain ⟨k, hk, rfl, rfl, HZ⟩ := hrel
    by_cases hlt : k < r.length
    · have hk1 : k + 1 < (S (3 :: r)).size := by omega
      have hck : (((S (3 :: r))[k + 1]'hk1).toNat : Int) = (r[k]).toNat := by rw [S_at (3 :: r) (k + 1) (by simp; omega) hk1]; rfl
      have hq0 : (0 : Int) ≤ (k : Int) + 1 := by omega
      have hq1 : (k : Int) + 1 < (r.length : Int) + 1 := by omega
      have hq2 : (k : Int) + 1 ≤ (r.length : Int) + 1 := by omega
      have hq3 : (1 : Int) ≤ (k : Int) + 1 := by omega
      by_cases hz : r[k] = 0
      · have hi := idx_at r k hlt HZ.out hz
        have HV : Hid (v = ⟨3, 0, S (r.take k)⟩ ∧ n = k + 2) := by
          have h1 := HF.out
          rw [hi, if_neg (by omega)] at h1
          injection h1 with h1 h2
          exact ⟨h1, h2⟩
        have HE := Lib.hid (S_mid 3 r k (by omega))
        rw [hz] at hck
        have hck2 : (((S (3 :: r))[k + 1]'hk1).toNat : Int) = 0 := hck
        clear hz hi hck
        go_wp2_with fail
        rw [HE.out]
        refine (HM.out _ _).mono ?_
        rintro e w2 ⟨rfl, hb2⟩
        replace hv := hv.below hb2
        replace hb := hb.next hb2
        obtain ⟨z0, z1, z2, f0, f1, f2⟩ := hv.val
        go_wp2_with fail
        obtain ⟨hbE, e0, e1, e2⟩ := vfin hv hb (Nat.le_refl _) 3 0 (S (r.take k))
        obtain ⟨rfl, rfl⟩ := HV.out
        exact bodyPost_ret (v := .tuple #[.agg #[.int .i64 3, .int .i64 0, .string (S (r.take k))], .int .i64 ((k : Int) + 2)]) (by simp [results, Try.results23, go_sem, e0, e1, e2]; omega) rfl ⟨rfl, hbE⟩
      · have HZ2 : Hid (∀ j (hj : j < r.length), j < k + 1 → r[j] ≠ 0) := fun j hj hjk => by
          by_cases e : j = k
          · subst e; exact hz
          · exact HZ.out j hj (by omega)
        have hne : ((((S (3 :: r))[k + 1]'hk1).toNat : Int) == 0) = false := by
          rw [hck]
          have : (r[k]).toNat ≠ (0 : UInt8).toNat := fun e => hz (UInt8.toNat_inj.1 e)
          have h2 : (0 : UInt8).toNat = 0 := rfl
          simp
          omega
        clear hz hck
        go_wp2_with fail
        go_roundw
        case rel => exact ⟨k + 1, by omega, by go_num, trivial, HZ2⟩
        case measure => simp [intOf]; omega
    · have hi := idx_none r fun j hj => HZ.out j hj (by omega)
      have HV : Hid (v = ⟨0, 0, ⟨#[]⟩⟩ ∧ n = 0) := by
        have h1 := HF.out
        rw [if_pos hi] at h1
        injection h1 with h1 h2
        exact ⟨h1, h2⟩
      clear hi
      obtain ⟨z0, z1, z2, f0, f1, f2⟩ := hv.val
      go_wp2_with fail
      obtain ⟨hbE, e0, e1, e2⟩ := vfin hv hb (Nat.le_refl _) 0 0 ⟨#[]⟩
      obtain ⟨rfl, rfl⟩ := HV.out
      exact bodyPost_ret (v := .tuple #[.agg #[.int .i64 0, .int .i64 0, .string ⟨#[]⟩], .int .i64 0]) (by simp [results, Try.results23, go_sem, e0, e1, e2]) rfl ⟨rfl, hbE⟩
theorem first_any (c : UInt8) (r : List UInt8) (w : World) (hl : r.length ≤ 140737488351231) :
    Calls Try.prog 23 #[.string (S (c :: r))] w (Ret (.tuple #[.agg (firstK (c :: r)).1.cells.toArray, .int .i64 (firstK (c :: r)).2]) w) := by
  by_cases h0 : c = 0
  · subst h0; exact first_null r w hl
  by_cases h1 : c = 1
  · subst h1
    cases r with
    | nil => exact first_bool0 w
    | cons d q =>
      have hq : q.length ≤ 140737488351230 := by simp at hl; omega
      by_cases hd : d.toNat < 2
      · have e : firstK (1 :: d :: q) = (⟨1, d.toNat, ⟨#[]⟩⟩, 2) := by unfold firstK; simp [hd]
        rw [e]
        exact first_bool d q w hq hd
      · have e : firstK (1 :: d :: q) = (⟨0, 0, ⟨#[]⟩⟩, 0) := by unfold firstK; simp [hd]
        rw [e]
        exact first_bool_no d q w hq hd
  by_cases h2 : c = 2
  · subst h2
    by_cases h8 : 8 ≤ r.length
    · have e : firstK (2 :: r) = (⟨2, unoff (r.take 8), ⟨#[]⟩⟩, 9) := by unfold firstK; simp [h8]
      rw [e]
      exact first_int r w hl h8
    · have e : firstK (2 :: r) = (⟨0, 0, ⟨#[]⟩⟩, 0) := by unfold firstK; simp [h8]
      rw [e]
      exact first_int0 r w (by omega)
  by_cases h3 : c = 3
  · subst h3; exact first_text r w hl
  have e : firstK (c :: r) = (⟨0, 0, ⟨#[]⟩⟩, 0) := by unfold firstK; simp [h0, h1, h2, h3]
  rw [e]
  exact first_other c r w hl ⟨h0, h1, h2, h3⟩
/-- The reference's first value and take's. -/
theorem first_take (c : UInt8) (r : List UInt8) :
    ((firstK (c :: r)).2 = 0 ∧ ¬ ((takeK (c :: r)).2.2 = true ∧ rightV (takeK (c :: r)).1 = true)) ∨
    (0 < (firstK (c :: r)).2 ∧ (firstK (c :: r)).2 ≤ r.length + 1 ∧ (firstK (c :: r)).1 = (takeK (c :: r)).1 ∧ (takeK (c :: r)).2.2 = true ∧ (takeK (c :: r)).2.1 = (c :: r).drop (firstK (c :: r)).2) := by
  by_cases h0 : c = 0
  · subst h0; exact .inr ⟨Nat.zero_lt_one, by show 1 ≤ _; omega, rfl, rfl, rfl⟩
  by_cases h1 : c = 1
  · subst h1
    cases r with
    | nil => exact .inl ⟨rfl, by show ¬ (false = true ∧ _); simp⟩
    | cons d q =>
      by_cases hd : d.toNat < 2
      · have e : firstK (1 :: d :: q) = (⟨1, d.toNat, ⟨#[]⟩⟩, 2) := by unfold firstK; simp [hd]
        rw [e]
        exact .inr ⟨Nat.zero_lt_succ _, by simp, rfl, rfl, rfl⟩
      · have e : firstK (1 :: d :: q) = (⟨0, 0, ⟨#[]⟩⟩, 0) := by unfold firstK; simp [hd]
        rw [e]
        refine .inl ⟨rfl, ?_⟩
        show ¬ (true = true ∧ rightV ⟨1, d.toNat, ⟨#[]⟩⟩ = true)
        have e2 : rightV ⟨1, d.toNat, ⟨#[]⟩⟩ = ((d.toNat : Int) == 0 || (d.toNat : Int) == 1) := rfl
        rw [e2]
        simp
        omega
  by_cases h2 : c = 2
  · subst h2
    by_cases h8 : 8 ≤ r.length
    · have e : firstK (2 :: r) = (⟨2, unoff (r.take 8), ⟨#[]⟩⟩, 9) := by unfold firstK; simp [h8]
      rw [e, takeK_2 r h8]
      exact .inr ⟨Nat.zero_lt_succ _, by simp; omega, rfl, rfl, rfl⟩
    · have e : firstK (2 :: r) = (⟨0, 0, ⟨#[]⟩⟩, 0) := by unfold firstK; simp [h8]
      have e2 : takeK (2 :: r) = (⟨0, 0, ⟨#[]⟩⟩, [], false) := by unfold takeK; simp [h8]
      rw [e, e2]
      exact .inl ⟨rfl, by simp⟩
  by_cases h3 : c = 3
  · subst h3
    have hF : firstK (3 :: r) = (if indexByte r 0 < 0 then (⟨0, 0, ⟨#[]⟩⟩, 0) else (⟨3, 0, S (r.take (indexByte r 0).toNat)⟩, (indexByte r 0).toNat + 2)) := rfl
    rw [takeK_3, cutB, hF]
    by_cases hi : indexByte r 0 < 0
    · rw [if_pos hi, if_pos hi]
      exact .inl ⟨rfl, by simp⟩
    · rw [if_neg hi, if_neg hi]
      obtain ⟨k, hk⟩ : ∃ k : Nat, indexByte r 0 = k := ⟨(indexByte r 0).toNat, by omega⟩
      obtain ⟨h5, _⟩ := List.getElem?_eq_some_iff.1 (Lib.indexByte_some hk).1
      rw [hk]
      exact .inr ⟨by simp, by show (k : Int).toNat + 2 ≤ _; omega, rfl, rfl, rfl⟩
  have e : firstK (c :: r) = (⟨0, 0, ⟨#[]⟩⟩, 0) := by unfold firstK; simp [h0, h1, h2, h3]
  have e2 : takeK (c :: r) = (⟨0, 0, ⟨#[]⟩⟩, [], false) := by unfold takeK; simp [h0, h1, h2, h3]
  rw [e, e2]
  exact .inl ⟨rfl, by simp⟩
end Go.Proofs.Ytljdiakodpjkpaa
