/- keycode.take: the first value of a key. -/
import Derived.Test.YtljdiakodpjkpaaCut07
import Derived.Test.YtljdiakodpjkpaaKeyW
import Derived.Test.YtljdiakodpjkpaaOctG
import Derived.Deep.RegionLaw
namespace Go.Proofs.Ytljdiakodpjkpaa
set_option linter.unusedVariables false
set_option linter.unusedSimpArgs false
open Go.RowKit
open Oct (S S_size S_data beN U I getI putL)
/-- The number of eight bytes. -/
def unoff (b : List UInt8) : Int := (beN b : Int) - 9223372036854775808
/-- What take answers. -/
def takeK : List UInt8 → Vl × List UInt8 × Bool
  | [] => (⟨0, 0, ⟨#[]⟩⟩, [], false)
  | c :: r =>
    if c = 0 then (⟨0, 0, ⟨#[]⟩⟩, r, true)
    else if c = 1 then (match r with
      | [] => (⟨0, 0, ⟨#[]⟩⟩, [], false)
      | d :: q => (⟨1, d.toNat, ⟨#[]⟩⟩, q, true))
    else if c = 2 then (if 8 ≤ r.length then (⟨2, unoff (r.take 8), ⟨#[]⟩⟩, r.drop 8, true) else (⟨0, 0, ⟨#[]⟩⟩, [], false))
    else if c = 3 then (⟨3, 0, S (cutB r 0).1⟩, (cutB r 0).2.1, (cutB r 0).2.2)
    else (⟨0, 0, ⟨#[]⟩⟩, [], false)
theorem S_tail (c : UInt8) (r : List UInt8) : (S (c :: r)).extract 1 (r.length + 1) = S r := by
  have := S_drop (c :: r) 1 (by simp)
  simpa using this
/-- The result's variable is written. -/
theorem vfin {w W : World} {g T : Nat} {k0 n0 : Int} {s0 : ByteArray} (h : Blk W g #[.int .i64 k0, .int .i64 n0, .string s0] T) (hb : Below w.heap.size w W) (hg : w.heap.size ≤ g) (k n : Int) (s : ByteArray) :
    let V := ((W.setCell ⟨g, 0, none⟩ (.int .i64 k)).setCell ⟨g, 1, none⟩ (.int .i64 n)).setCell ⟨g, 2, none⟩ (.string s)
    Below w.heap.size w V ∧ V.cell? ⟨g, 0, none⟩ = some (.int .i64 k) ∧ V.cell? ⟨g, 1, none⟩ = some (.int .i64 n) ∧ V.cell? ⟨g, 2, none⟩ = some (.string s) := by
  have h1 : Blk (((W.setCell ⟨g, 0, none⟩ (.int .i64 k)).setCell ⟨g, 1, none⟩ (.int .i64 n)).setCell ⟨g, 2, none⟩ (.string s)) g #[.int .i64 k, .int .i64 n, .string s] T := ((h.set 0 (.int .i64 k)).set 1 (.int .i64 n)).set 2 (.string s)
  obtain ⟨e0, e1, e2, _⟩ := h1.val
  exact ⟨((hb.setCell hg _).setCell hg _).setCell hg _, e0, e1, e2⟩
theorem vnew (w : World) (nq : Nat) : Blk ((w.alloc (.cells #[.int .i64 0, .int .i64 0, .string ⟨#[]⟩] 41)).drewN nq) w.heap.size #[.int .i64 0, .int .i64 0, .string ⟨#[]⟩] 41 ∧ Below w.heap.size w ((w.alloc (.cells #[.int .i64 0, .int .i64 0, .string ⟨#[]⟩] 41)).drewN nq) :=
  ⟨(Blk.new w _ _).below ((Below.refl _ _).drewN nq), ((Below.refl _ _).alloc (Nat.le_refl _) _).drewN nq⟩
theorem take_null (r : List UInt8) (w : World) (hl : r.length ≤ 140737488351231) :
    Calls Try.prog 21 #[.string (S (0 :: r))] w (Ret (.tuple #[.agg (Vl.mk 0 0 ⟨#[]⟩).cells.toArray, .string (S r), .bool true]) w) := by
  have hsz : (S (0 :: r)).size = r.length + 1 := by rw [S_size]; rfl
  have h0 : 0 < (S (0 :: r)).size := by omega
  have hc : (((S (0 :: r))[0]'h0).toNat : Int) = 0 := by rw [S_at (0 :: r) 0 (by simp) h0]; rfl
  have ht := S_tail 0 r
  have hp : (1 : Int) ≤ (r.length : Int) + 1 := by omega
  have hp2 : (0 : Int) < (r.length : Int) + 1 := by omega
  go_enter Try.func21, Try.ntmps21
  go_wp2_with fail
  go_quiet (fail)
  obtain ⟨hv, hb⟩ := vnew w nq
  go_wp2_with fail
  obtain ⟨hbE, e0, e1, e2⟩ := vfin hv hb (Nat.le_refl _) 0 0 ⟨#[]⟩
  exact bodyPost_ret (v := .tuple #[.agg #[.int .i64 0, .int .i64 0, .string ⟨#[]⟩], .string (S r), .bool true]) (by simp [results, Try.results21, go_sem, e0, e1, e2]) rfl ⟨rfl, hbE⟩
theorem take_other (c : UInt8) (r : List UInt8) (w : World) (hl : r.length ≤ 140737488351231) (hc : c ≠ 0 ∧ c ≠ 1 ∧ c ≠ 2 ∧ c ≠ 3) :
    Calls Try.prog 21 #[.string (S (c :: r))] w (Ret (.tuple #[.agg (Vl.mk 0 0 ⟨#[]⟩).cells.toArray, .string ⟨#[]⟩, .bool false]) w) := by
  have hsz : (S (c :: r)).size = r.length + 1 := by rw [S_size]; rfl
  have h0 : 0 < (S (c :: r)).size := by omega
  have hc0 : (((S (c :: r))[0]'h0).toNat : Int) = c.toNat := by rw [S_at (c :: r) 0 (by simp) h0]; rfl
  have ht := S_tail c r
  have hp : (1 : Int) ≤ (r.length : Int) + 1 := by omega
  have hp2 : (0 : Int) < (r.length : Int) + 1 := by omega
  have hne : ∀ d : UInt8, c ≠ d → ((c.toNat : Int) == d.toNat) = false := fun d h => by
    have : c.toNat ≠ d.toNat := fun e => h (UInt8.toNat_inj.1 e)
    simp
    omega
  have n0 : ((c.toNat : Int) == 0) = false := hne 0 hc.1
  have n1 : ((c.toNat : Int) == 1) = false := hne 1 hc.2.1
  have n2 : ((c.toNat : Int) == 2) = false := hne 2 hc.2.2.1
  have n3 : ((c.toNat : Int) == 3) = false := hne 3 hc.2.2.2
  have hwx : wrap64 (c.toNat : Int) = (c.toNat : Int) := IntWalk.wrap64_in _ (by have := c.toNat_lt; omega)
  clear hne hc
  generalize c.toNat = x at *
  go_enter Try.func21, Try.ntmps21
  go_wp2_with fail
  go_quiet (fail)
  obtain ⟨hv, hb⟩ := vnew w nq
  go_wp2_with fail
  obtain ⟨hbE, e0, e1, e2⟩ := vfin hv hb (Nat.le_refl _) 0 0 ⟨#[]⟩
  exact bodyPost_ret (v := .tuple #[.agg #[.int .i64 0, .int .i64 0, .string ⟨#[]⟩], .string ⟨#[]⟩, .bool false]) (by simp [results, Try.results21, go_sem, e0, e1, e2]) rfl ⟨rfl, hbE⟩
theorem take_text (r : List UInt8) (w : World) (hl : r.length ≤ 140737488351231) :
    Calls Try.prog 21 #[.string (S (3 :: r))] w (Ret (.tuple #[.agg (Vl.mk 3 0 (S (cutB r 0).1)).cells.toArray, .string (S (cutB r 0).2.1), .bool (cutB r 0).2.2]) w) := by
  have hsz : (S (3 :: r)).size = r.length + 1 := by rw [S_size]; rfl
  have h0 : 0 < (S (3 :: r)).size := by omega
  have hc : (((S (3 :: r))[0]'h0).toNat : Int) = 3 := by rw [S_at (3 :: r) 0 (by simp) h0]; rfl
  have ht := S_tail 3 r
  have hp : (1 : Int) ≤ (r.length : Int) + 1 := by omega
  have hp2 : (0 : Int) < (r.length : Int) + 1 := by omega
  have HC := Lib.hid (fun W => cut_any r 0 W (by omega))
  have HS := Lib.hid (fun s W => str_any s W)
  obtain ⟨⟨a, b, d⟩, hr⟩ : ∃ x, cutB r 0 = x := ⟨_, rfl⟩
  rw [hr] at HC ⊢
  clear hr
  go_enter Try.func21, Try.ntmps21
  go_wp2_with fail
  go_quiet (fail)
  obtain ⟨hv, hb⟩ := vnew w nq
  go_wp2_with fail
  refine (HC.out _).mono ?_
  rintro e w1 ⟨rfl, hb1⟩
  replace hv := hv.below hb1
  replace hb := hb.next hb1
  go_wp2_with fail
  refine (HS.out _ _).mono ?_
  rintro e w2 ⟨rfl, hb2⟩
  replace hv := hv.below hb2
  replace hb := hb.next hb2
  obtain ⟨z0, z1, z2, f0, f1, f2⟩ := hv.val
  go_wp2_with fail
  obtain ⟨hbE, e0, e1, e2⟩ := vfin hv hb (Nat.le_refl _) 3 0 (S a)
  exact bodyPost_ret (v := .tuple #[.agg #[.int .i64 3, .int .i64 0, .string (S a)], .string (S b), .bool d]) (by simp [results, Try.results21, go_sem, e0, e1, e2]) rfl ⟨rfl, hbE⟩
theorem take_bool0 (w : World) :
    Calls Try.prog 21 #[.string (S [1])] w (Ret (.tuple #[.agg (Vl.mk 0 0 ⟨#[]⟩).cells.toArray, .string ⟨#[]⟩, .bool false]) w) := by
  have hsz : (S [1]).size = 1 := rfl
  have h0 : 0 < (S [1]).size := by omega
  have hc : (((S [1])[0]'h0).toNat : Int) = 1 := rfl
  have ht : (S [1]).extract 1 1 = ⟨#[]⟩ := by decide +kernel
  go_enter Try.func21, Try.ntmps21
  go_wp2_with fail
  go_quiet (fail)
  obtain ⟨hv, hb⟩ := vnew w nq
  go_wp2_with fail
  obtain ⟨hbE, e0, e1, e2⟩ := vfin hv hb (Nat.le_refl _) 0 0 ⟨#[]⟩
  exact bodyPost_ret (v := .tuple #[.agg #[.int .i64 0, .int .i64 0, .string ⟨#[]⟩], .string ⟨#[]⟩, .bool false]) (by simp [results, Try.results21, go_sem, e0, e1, e2]) rfl ⟨rfl, hbE⟩
set_option maxHeartbeats 2000000 in
theorem take_bool (d : UInt8) (q : List UInt8) (w : World) (hl : q.length ≤ 140737488351230) :
    Calls Try.prog 21 #[.string (S (1 :: d :: q))] w (Ret (.tuple #[.agg (Vl.mk 1 d.toNat ⟨#[]⟩).cells.toArray, .string (S q), .bool true]) w) := by
  have hsz : (S (1 :: d :: q)).size = q.length + 1 + 1 := by rw [S_size]; rfl
  have h0 : 0 < (S (1 :: d :: q)).size := by omega
  have hc : (((S (1 :: d :: q))[0]'h0).toNat : Int) = 1 := by rw [S_at (1 :: d :: q) 0 (by simp) h0]; rfl
  have ht := S_tail 1 (d :: q)
  rw [List.length_cons] at ht
  have hp : (1 : Int) ≤ (q.length : Int) + 1 + 1 := by omega
  have hp2 : (0 : Int) < (q.length : Int) + 1 + 1 := by omega
  have hsz2 : (S (d :: q)).size = q.length + 1 := by rw [S_size]; rfl
  have h02 : 0 < (S (d :: q)).size := by omega
  have hc2 : (((S (d :: q))[0]'h02).toNat : Int) = d.toNat := by rw [S_at (d :: q) 0 (by simp) h02]; rfl
  have ht2 := S_tail d q
  have hp3 : (1 : Int) ≤ (q.length : Int) + 1 := by omega
  have hp4 : (0 : Int) < (q.length : Int) + 1 := by omega
  have hie : (d :: q).isEmpty = false := rfl
  have hwx : wrap64 (d.toNat : Int) = (d.toNat : Int) := IntWalk.wrap64_in _ (by have := d.toNat_lt; omega)
  have hwy : IntKind.i64.wrap (d.toNat : Int) = (d.toNat : Int) := IntWalk.i64_in _ (by have := d.toNat_lt; omega)
  go_enter Try.func21, Try.ntmps21
  go_wp2_with fail
  go_quiet (fail)
  obtain ⟨hv, hb⟩ := vnew w nq
  go_wp2_with fail
  generalize (w.alloc (.cells #[.int .i64 0, .int .i64 0, .string ⟨#[]⟩] 41)).drewN nq = W at *
  obtain ⟨z0, z1, z2, f0, f1, f2⟩ := hv.val
  go_region
  all_goals (try simp [go_sem])
  all_goals (try go_wp2)
  all_goals obtain ⟨hbE, e0, e1, e2⟩ := vfin hv hb (Nat.le_refl _) 1 d.toNat ⟨#[]⟩
  all_goals exact bodyPost_ret (v := .tuple #[.agg #[.int .i64 1, .int .i64 d.toNat, .string ⟨#[]⟩], .string (S q), .bool true]) (by simp [results, Try.results21, go_sem, e0, e1, e2]) rfl ⟨rfl, hbE.drew⟩
theorem take_int0 (r : List UInt8) (w : World) (hl : r.length < 8) :
    Calls Try.prog 21 #[.string (S (2 :: r))] w (Ret (.tuple #[.agg (Vl.mk 0 0 ⟨#[]⟩).cells.toArray, .string ⟨#[]⟩, .bool false]) w) := by
  have hsz : (S (2 :: r)).size = r.length + 1 := by rw [S_size]; rfl
  have h0 : 0 < (S (2 :: r)).size := by omega
  have hc : (((S (2 :: r))[0]'h0).toNat : Int) = 2 := by rw [S_at (2 :: r) 0 (by simp) h0]; rfl
  have ht := S_tail 2 r
  have hp : (1 : Int) ≤ (r.length : Int) + 1 := by omega
  have hp2 : (0 : Int) < (r.length : Int) + 1 := by omega
  have hrs := S_size r
  have HG := Lib.hid (fun W => get_no (S r) 0 8 W (by unfold maxLen; omega) (by decide) (by decide) (.inr (.inr (.inr (by omega)))))
  go_enter Try.func21, Try.ntmps21
  go_wp2_with fail
  go_quiet (fail)
  obtain ⟨hv, hb⟩ := vnew w nq
  go_wp2_with fail
  refine (HG.out _).mono ?_
  rintro e w1 ⟨rfl, rfl⟩
  obtain ⟨z0, z1, z2, f0, f1, f2⟩ := hv.val
  go_wp2_with fail
  obtain ⟨hbE, e0, e1, e2⟩ := vfin hv hb (Nat.le_refl _) 0 0 ⟨#[]⟩
  exact bodyPost_ret (v := .tuple #[.agg #[.int .i64 0, .int .i64 0, .string ⟨#[]⟩], .string ⟨#[]⟩, .bool false]) (by simp [results, Try.results21, go_sem, e0, e1, e2]) rfl ⟨rfl, hbE⟩
theorem unoff_eq (b : List UInt8) (h8 : b.length = 8) : IntKind.i64.wrap (bits BinOp.xor IntKind.u64 (IntKind.u64.wrap (getI b)) 9223372036854775808) = unoff b := by
  have hlt := Oct.beN_lt b
  rw [h8] at hlt
  have hlt2 : beN b < 18446744073709551616 := by simpa using hlt
  rw [key_u, key_x, getI, Oct.U_I _ hlt2, xor_top _ hlt2, IntKind.wrap_i64]
  unfold unoff
  omega
set_option maxHeartbeats 2000000 in
theorem take_int (r : List UInt8) (w : World) (hl : r.length ≤ 140737488351231) (h8 : 8 ≤ r.length) :
    Calls Try.prog 21 #[.string (S (2 :: r))] w (Ret (.tuple #[.agg (Vl.mk 2 (unoff (r.take 8)) ⟨#[]⟩).cells.toArray, .string (S (r.drop 8)), .bool true]) w) := by
  have hsz : (S (2 :: r)).size = r.length + 1 := by rw [S_size]; rfl
  have h0 : 0 < (S (2 :: r)).size := by omega
  have hc : (((S (2 :: r))[0]'h0).toNat : Int) = 2 := by rw [S_at (2 :: r) 0 (by simp) h0]; rfl
  have ht := S_tail 2 r
  have hp : (1 : Int) ≤ (r.length : Int) + 1 := by omega
  have hp2 : (0 : Int) < (r.length : Int) + 1 := by omega
  have hrs := S_size r
  have hq1 : (8 : Int) ≤ r.length := by omega
  have ht2 := S_drop r 8 h8
  have HG := Lib.hid (fun W => get_yes (S r) 0 8 W (by unfold maxLen; omega) (by omega) (by omega) (by omega))
  rw [S_data, List.drop_zero] at HG
  have HN := Lib.hid (fun n W => num_any n W)
  have hun := unoff_eq (r.take 8) (by rw [List.length_take]; omega)
  have HU := Lib.hid hun
  clear hun
  generalize getI (r.take 8) = gn at *
  generalize unoff (r.take 8) = un at *
  go_enter Try.func21, Try.ntmps21
  go_wp2_with fail
  go_quiet (fail)
  obtain ⟨hv, hb⟩ := vnew w nq
  go_wp2_with fail
  refine (HG.out _).mono ?_
  rintro e w1 ⟨rfl, hb1⟩
  replace hv := hv.below hb1
  replace hb := hb.next hb1
  obtain ⟨z0, z1, z2, f0, f1, f2⟩ := hv.val
  go_wp2_with fail
  go_region_law (first | (go_simp; go_at_call 20; refine (HN.out _ _).mono ?_; rintro e w5 ⟨rfl, hb5⟩; have hv5 := hv.below ((Below.refl _ _).drew.trans hb5); have hb6 := hb.next ((Below.refl _ _).drew.trans hb5); obtain ⟨y0, y1, y2, g0, g1, g2⟩ := hv5.val))
  all_goals (try simp [go_sem])
  all_goals (try go_wp2)
  all_goals rw [HU.out]
  all_goals obtain ⟨hbE, e0, e1, e2⟩ := vfin hv5 hb6 (Nat.le_refl _) 2 un ⟨#[]⟩
  all_goals exact bodyPost_ret (v := .tuple #[.agg #[.int .i64 2, .int .i64 un, .string ⟨#[]⟩], .string (S (r.drop 8)), .bool true]) (by simp [results, Try.results21, go_sem, e0, e1, e2]) rfl ⟨rfl, hbE⟩
theorem take_any (c : UInt8) (r : List UInt8) (w : World) (hl : r.length ≤ 140737488351231) :
    Calls Try.prog 21 #[.string (S (c :: r))] w (Ret (.tuple #[.agg (takeK (c :: r)).1.cells.toArray, .string (S (takeK (c :: r)).2.1), .bool (takeK (c :: r)).2.2]) w) := by
  by_cases h0 : c = 0
  · subst h0; exact take_null r w hl
  by_cases h1 : c = 1
  · subst h1
    cases r with
    | nil => exact take_bool0 w
    | cons d q => exact take_bool d q w (by simp at hl; omega)
  by_cases h2 : c = 2
  · subst h2
    by_cases h8 : 8 ≤ r.length
    · have e : takeK (2 :: r) = (⟨2, unoff (r.take 8), ⟨#[]⟩⟩, r.drop 8, true) := by
        unfold takeK; simp [h8]
      rw [e]
      exact take_int r w hl h8
    · have e : takeK (2 :: r) = (⟨0, 0, ⟨#[]⟩⟩, [], false) := by
        unfold takeK; simp [h8]
      rw [e]
      exact take_int0 r w (by omega)
  by_cases h3 : c = 3
  · subst h3; exact take_text r w hl
  have e : takeK (c :: r) = (⟨0, 0, ⟨#[]⟩⟩, [], false) := by
    unfold takeK; simp [h0, h1, h2, h3]
  rw [e]
  exact take_other c r w hl ⟨h0, h1, h2, h3⟩
end Go.Proofs.Ytljdiakodpjkpaa
