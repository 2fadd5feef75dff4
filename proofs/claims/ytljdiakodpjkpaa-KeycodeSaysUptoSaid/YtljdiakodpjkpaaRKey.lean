/- The reference's keys: eight, one, Put. -/
import Derived.Test.YtljdiakodpjkpaaByt
import Derived.Test.YtljdiakodpjkpaaKeyW
import Derived.Test.YtljdiakodpjkpaaRefV
namespace Go.Proofs.Ytljdiakodpjkpaa
set_option linter.unusedVariables false
set_option linter.unusedSimpArgs false
open Go.RowKit
open Oct (S S_size S_data beN putL U I getI putL_cons putL_length)
open Lib (strCells)
theorem u_offs (n : Int) (h1 : -9223372036854775808 ≤ n) (h2 : n ≤ 9223372036854775807) : IntKind.u64.wrap (IntKind.u64.wrap n + 9223372036854775808) = (offs n : Int) := by
  rw [IntKind.wrap_u64, IntKind.wrap_u64]
  unfold offs
  omega
/-- The bytes of eight, k of them laid. -/
def part8 (n k : Nat) : List UInt8 := List.replicate (8 - k) 0 ++ putL n k
theorem part8_len (n k : Nat) (hk : k ≤ 8) : (part8 n k).length = 8 := by simp [part8, putL_length]; omega
theorem part8_set (n k : Nat) (hk : k < 8) : (part8 n k).set (7 - k) (UInt8.ofNat (n / 256 ^ k % 256)) = part8 n (k + 1) := by
  unfold part8
  rw [List.set_append_left _ _ (by simp; omega)]
  have e : 8 - k = (7 - k) + 1 := by omega
  have e2 : 8 - (k + 1) = 7 - k := by omega
  rw [e, e2, putL_cons, List.replicate_succ', List.set_append_right _ _ (by simp)]
  simp
set_option maxHeartbeats 2000000 in
theorem eight_any (n : Int) (w : World) (h1 : -9223372036854775808 ≤ n) (h2 : n ≤ 9223372036854775807) :
    Calls Try.prog 49 #[.int .i64 n] w (RetB (putL (offs n) 8) w) := by
  have HU := Lib.hid (u_offs n h1 h2)
  have hlt : offs n < 18446744073709551616 := by unfold offs; omega
  go_enter Try.func49, Try.ntmps49
  go_wp2_with ((with_reducible refine wpList_makeB ?_); refine ⟨8, .i64, .i64, rfl, rfl, by decide, ?_⟩; intro g w1 hg hb1 hG)
  rw [HU.out]
  generalize offs n = m at *
  clear HU h1 h2
  go_loopw [4, 5] (fun u i wr => ∃ k : Nat, k ≤ 8 ∧ i = .int .i64 (7 - (k : Int)) ∧ u = .int .u64 ((m / 256 ^ k : Nat) : Int) ∧ Blk wr g (bcl (part8 m k)) 5 ∧ Below w.heap.size w wr) (fun _ i _ => (intOf i + 1).toNat)
  case atStart => exact ⟨0, by omega, rfl, by simp, hG, hb1⟩
  case round =>
    obtain ⟨k, hk, rfl, rfl, hB, hb⟩ := hrel
    by_cases hlt8 : k < 8
    · have hd : m / 256 ^ k < 18446744073709551616 := Nat.lt_of_le_of_lt (Nat.div_le_self _ _) hlt
      have HD : Hid (m / 256 ^ (k + 1) = m / 256 ^ k / 256) := by show _ = _; rw [Nat.pow_succ, Nat.div_div_eq_div_mul]
      have HS := Lib.hid (part8_set m k hlt8)
      obtain ⟨q, hq⟩ : ∃ q, m / 256 ^ k = q := ⟨_, rfl⟩
      rw [hq] at hd HD HS ⊢
      have hi : (7 - (k : Int)) = ((7 - k : Nat) : Int) := by omega
      rw [hi]
      obtain ⟨j, hj⟩ : ∃ j, 7 - k = j := ⟨_, rfl⟩
      rw [hj] at HS ⊢
      have hj8 : j < 8 := by omega
      have HJ := Lib.hid (show j + k = 7 by omega)
      have hj0 : (0 : Int) ≤ j := by omega
      have hj1 : (j : Int) < 8 := by omega
      have hc : wr.cell? ⟨g, j, none⟩ = some (.int .u8 ((part8 m k)[j]'(by rw [part8_len m k hk]; omega)).toNat) := hB.cell j (by simpa [bcl] using cells_get (part8 m k) j (by rw [part8_len m k hk]; omega))
      have hf := hB.free j
      have hB2 : Blk (wr.setCell ⟨g, j, none⟩ (.int .u8 ((UInt8.ofNat (q % 256)).toNat : Int))) g (bcl (part8 m (k + 1))) 5 := by
        have := hB.set j (.int .u8 ((UInt8.ofNat (q % 256)).toNat : Int))
        rw [bcl_set, HS.out] at this
        exact this
      have hbe : Below w.heap.size w (wr.setCell ⟨g, j, none⟩ (.int .u8 ((UInt8.ofNat (q % 256)).toNat : Int))) := hb.setCell hg _
      have hv : ((UInt8.ofNat (q % 256)).toNat : Int) = (q : Int) % 256 := by rw [Oct.ofNat_toNat]; omega
      rw [hv] at hB2 hbe
      clear hq hi hj hv
      go_wp2
      go_roundw
      case rel => exact ⟨k + 1, by omega, by have := HJ.out; go_num, by rw [HD.out]; simp, hB2, hbe⟩
      case measure => simp [intOf]
    · have hk8 : k = 8 := by omega
      subst hk8
      go_wp2
      go_ret
      exact ⟨hb, _, rfl, OwnB.ofBlk hB hg (by rw [part8_len m 8 (by omega)]; omega)⟩
theorem own1 (w : World) (B : Nat) (c : UInt8) (hB : B ≤ w.heap.size) : OwnB (w.alloc (.cells #[.int .u8 (c.toNat : Int)] 5)) B (.slice (some ⟨w.heap.size, 0, none⟩) 1 1) [c] :=
  OwnB.ofBlk (l := [c]) (Blk.new w #[.int .u8 (c.toNat : Int)] 5) hB (by simp)
theorem rone_null (w : World) : Calls Try.prog 30 #[.agg #[.int .i64 0, .int .i64 0, .string ⟨#[]⟩]] w (RetB [0] w) := by
  have hO := own1 (w.alloc (.cells #[.int .i64 0, .int .i64 0, .string ⟨#[]⟩] 41)) w.heap.size 0 (by simp)
  simp only [World.size_alloc] at hO
  go_enter Try.func30, Try.ntmps30
  go_wp2_with fail
  go_ret
  exact ⟨((Below.refl _ _).alloc (Nat.le_refl _) _).alloc (by simp) _, _, rfl, hO⟩
theorem rone_bool (n : Int) (c : UInt8) (w : World) (hn : n = (c.toNat : Int)) (hc : (c.toNat : Int) < 2) : Calls Try.prog 30 #[.agg #[.int .i64 1, .int .i64 n, .string ⟨#[]⟩]] w (RetB [1, c] w) := by
  subst hn
  have hO := (own1 (w.alloc (.cells #[.int .i64 1, .int .i64 (c.toNat : Int), .string ⟨#[]⟩] 41)) w.heap.size 1 (by simp)).below ((Below.refl _ _).alloc (Nat.le_refl _) (.cells #[.int .u8 (c.toNat : Int)] 5))
  have hC := bytesAt_one ((w.alloc (.cells #[.int .i64 1, .int .i64 (c.toNat : Int), .string ⟨#[]⟩] 41)).alloc (.cells #[.int .u8 ((1 : UInt8).toNat : Int)] 5)) 5 _ c rfl
  have hB : Below w.heap.size w ((w.alloc (.cells #[.int .i64 1, .int .i64 (c.toNat : Int), .string ⟨#[]⟩] 41)).alloc (.cells #[.int .u8 ((1 : UInt8).toNat : Int)] 5)) := ((Below.refl _ _).alloc (Nat.le_refl _) _).alloc (by simp) _
  replace hB := hB.alloc (by simp; omega) (.cells #[.int .u8 (c.toNat : Int)] 5)
  have hx : IntKind.u8.wrap (c.toNat : Int) = (c.toNat : Int) := IntWalk.u8_in _ (by omega)
  have hc0 : (0 : Int) ≤ c.toNat := by omega
  have h1 : ((1 : UInt8).toNat : Int) = 1 := rfl
  simp only [World.size_alloc, h1] at hO hC hB
  generalize (c.toNat : Int) = n at *
  clear h1
  go_enter Try.func30, Try.ntmps30
  go_wp2_with ((with_reducible refine wpList_appB ?_); refine ⟨w.heap.size, _, [1], [c], _, _, rfl, rfl, hO, hC, by simp, by simp; omega, ?_⟩; intro v' w1 hv' hb1 _)
  go_ret
  exact ⟨hB.trans hb1, _, rfl, hv'⟩
theorem rone_int (n : Int) (w : World) (h1 : -9223372036854775808 ≤ n) (h2 : n ≤ 9223372036854775807) : Calls Try.prog 30 #[.agg #[.int .i64 2, .int .i64 n, .string ⟨#[]⟩]] w (RetB ([2] ++ putL (offs n) 8) w) := by
  have hO := own1 (w.alloc (.cells #[.int .i64 2, .int .i64 n, .string ⟨#[]⟩] 41)) w.heap.size 2 (by simp)
  have hB : Below w.heap.size w ((w.alloc (.cells #[.int .i64 2, .int .i64 n, .string ⟨#[]⟩] 41)).alloc (.cells #[.int .u8 ((2 : UInt8).toNat : Int)] 5)) := ((Below.refl _ _).alloc (Nat.le_refl _) _).alloc (by simp) _
  have hl : (putL (offs n) 8).length = 8 := putL_length _ _
  have HE := Lib.hid (fun W => eight_any n W h1 h2)
  have h3 : ((2 : UInt8).toNat : Int) = 2 := rfl
  simp only [World.size_alloc, h3] at hO hB
  generalize putL (offs n) 8 = m at *
  have HM : Hid (m.length = 8) := hl
  clear h3 h1 h2 hl
  go_enter Try.func30, Try.ntmps30
  go_wp2_with fail
  refine (HE.out _).mono ?_
  rintro e w1 ⟨hb1, v1, rfl, hv1⟩
  obtain ⟨g, cap, rfl, hg, hg2, hcs⟩ := hv1.sh
  replace hO := hO.below hb1
  replace hB := hB.next hb1
  go_wp2_with ((with_reducible refine wpList_appB ?_); refine ⟨w.heap.size, _, [2], m, _, _, rfl, rfl, hO, hcs, by rw [HM.out]; simp, hB.size, ?_⟩; intro v' w2 hv' hb2 _)
  go_ret
  exact ⟨hB.trans hb2, _, rfl, hv'⟩
theorem rone_text (m : List UInt8) (w : World) (hm : m.length ≤ 1000) : Calls Try.prog 30 #[.agg #[.int .i64 3, .int .i64 0, .string (S m)]] w (RetB ([3] ++ (m ++ [0])) w) := by
  have hO := own1 (w.alloc (.cells #[.int .i64 3, .int .i64 0, .string (S m)] 41)) w.heap.size 3 (by simp)
  have hB : Below w.heap.size w ((w.alloc (.cells #[.int .i64 3, .int .i64 0, .string (S m)] 41)).alloc (.cells #[.int .u8 ((3 : UInt8).toNat : Int)] 5)) := ((Below.refl _ _).alloc (Nat.le_refl _) _).alloc (by simp) _
  have h3 : ((3 : UInt8).toNat : Int) = 3 := rfl
  simp only [World.size_alloc, h3] at hO hB
  clear h3
  go_enter Try.func30, Try.ntmps30
  go_wp2_with (first
    | ((with_reducible refine wpList_appS ?_); refine ⟨w.heap.size, _, [3], m, rfl, rfl, hO, by simp; omega, by simp; omega, ?_⟩; intro v' w1 hv' hb1 _; replace hB := hB.trans hb1; have hv2 := hv'.below ((Below.refl _ _).alloc (Nat.le_refl _) (.cells #[.int .u8 0] 5)); replace hB := hB.alloc hB.size (.cells #[.int .u8 0] 5); clear hO)
    | ((with_reducible refine wpList_appB ?_); refine ⟨w.heap.size, _, [3] ++ m, [0], _, _, rfl, rfl, hv2, bytesAt_one _ _ _ 0 rfl, by simp; omega, hB.size, ?_⟩; intro v3 w2 hv3 hb2 _))
  go_ret
  exact ⟨hB.trans hb2, _, rfl, by simpa using hv3⟩
theorem rone_any (v : Vl) (w : World) (hv : rightV v = true) : Calls Try.prog 30 #[.agg v.cells.toArray] w (RetB (encV v) w) := by
  rcases right_cases v hv with rfl | rfl | rfl | ⟨n, hn, rfl⟩ | ⟨s, h1, h2, rfl⟩
  · exact rone_null w
  · exact rone_bool 0 0 w rfl (by decide)
  · exact rone_bool 1 1 w rfl (by decide)
  · obtain ⟨b1, b2⟩ := inB_bounds hn
    rw [encV_int]
    exact rone_int n w b1 b2
  · obtain ⟨m, rfl⟩ : ∃ m, s = S m := ⟨s.data.toList, (Oct.S_of s).symm⟩
    rw [encV_text]
    exact rone_text m w (by rw [S_size] at h1; omega)
theorem rkputno_any (l : List Vl) (v : Value) (w : World) (hv : RowAt w v l) (hl : Oks l) (hr : rightsL l = false) : Calls Try.prog 15 #[v] w (Ret (.string ⟨#[]⟩) w) := by
  have HR := Lib.hid (rrights_any l v w hv hl)
  rw [hr] at HR
  have hsm := hv.small
  obtain ⟨ao, cap, rfl⟩ := hv.nil
  clear hv
  go_enter Try.func15, Try.ntmps15
  go_wp2_with fail
  refine HR.out.mono ?_
  rintro e w1 ⟨rfl, hb⟩
  go_wp2_with fail
  go_ret
  exact ⟨rfl, hb⟩
theorem own0 (w : World) : OwnB (w.alloc (.cells #[] 5)) w.heap.size (.slice (some ⟨w.heap.size, 0, none⟩) 0 0) [] :=
  OwnB.ofBlk (l := []) (Blk.new w #[] 5) (Nat.le_refl _) (by simp)
set_option maxHeartbeats 4000000 in
theorem rkputok_any (l : List Vl) (v : Value) (w : World) (hv : RowAt w v l) (hl : Oks l) (hr : rightsL l = true) (hbig : l.length ≤ 1000000000000) : Calls Try.prog 15 #[v] w (Ret (.string (S (encL l))) w) := by
  have HR := Lib.hid (rrights_any l v w hv hl)
  have HT := Lib.hid hr
  rw [hr] at HR
  clear hr
  obtain ⟨ao, cap, rfl⟩ := hv.nil
  go_enter Try.func15, Try.ntmps15
  go_wp2_with fail
  refine HR.out.mono ?_
  rintro e w2 ⟨rfl, hb⟩
  replace hv := hv.below hb
  have hO := own0 w2
  have hb0 : Below w2.heap.size w2 (w2.alloc (.cells #[] 5)) := (Below.refl _ _).alloc (Nat.le_refl _) _
  clear HR hl
  go_wp2_with fail
  go_loopw [3, 4] (fun o i wr => ∃ (k : Nat) (ov : Value), k ≤ l.length ∧ i = .int .i64 k ∧ o = ov ∧ OwnB wr w2.heap.size ov (encL (l.take k)) ∧ Below w2.heap.size w2 wr) (fun _ i _ => l.length - (intOf i).toNat)
  case atStart => exact ⟨0, _, Nat.zero_le _, rfl, rfl, by simpa [encL] using hO, hb0⟩
  case round =>
    clear hO hb0
    obtain ⟨k, ov, hk, rfl, rfl, hbl, hb4⟩ := hrel
    by_cases hlt : k < l.length
    · obtain ⟨b, off, cap', hv2, c0, c1, c2⟩ := (hv.below hb4).get k hlt
      injection hv2 with h1 h2 h3
      subst h1
      subst h3
      have HL := Lib.hid (enc_take_len HT.out hbig k)
      have HS := Lib.hid (enc_take l k hlt)
      have hright := rights_mem7 HT.out _ (List.getElem_mem hlt)
      have HC := Lib.hid (fun W => rone_any l[k] W hright)
      have HV := Lib.hid (encV_len l[k] hright)
      obtain ⟨u, hu⟩ : ∃ u, l[k] = u := ⟨_, rfl⟩
      rw [hu] at c0 c1 c2 HC HS HV
      simp only [Vl.cells] at HC
      have HB := Lib.hid hb4
      obtain ⟨q, hq⟩ : ∃ q, encL (l.take k) = q := ⟨_, rfl⟩
      rw [hq] at HL HS hbl
      clear hu hq hright hb4
      go_wp2_with fail
      refine (HC.out _).mono ?_
      rintro e w5 ⟨hb5, v5, rfl, hv5⟩
      obtain ⟨g, cp, rfl, hg, hg2, hcs⟩ := hv5.sh
      replace hbl := hbl.below hb5
      replace HB := Lib.hid (HB.out.next hb5)
      go_wp2_with ((with_reducible refine wpList_appB ?_); refine ⟨w2.heap.size, _, q, encV u, _, _, rfl, rfl, hbl, hcs, by have := HL.out; have := HV.out; omega, HB.out.size, ?_⟩; intro v' w6 hv' hb6 _)
      go_roundw
      case rel => exact ⟨k + 1, _, by omega, by go_num, rfl, by rw [HS.out]; exact hv', HB.out.trans hb6⟩
      case measure => simp [intOf]; omega
    · have HK : Hid (l.take k = l) := List.take_of_length_le (by omega)
      rw [HK.out] at hbl
      go_wp2_with ((with_reducible refine wpList_strB ?_); refine ⟨w2.heap.size, _, encL l, rfl, hbl, ?_⟩)
      go_ret
      exact ⟨rfl, hb.next hb4⟩
theorem rkput_any (l : List Vl) (v : Value) (w : World) (hv : RowAt w v l) (hl : Oks l) (hbig : l.length ≤ 1000000000000) : Calls Try.prog 15 #[v] w (Ret (.string (S (keyR l))) w) := by
  cases hr : rightsL l with
  | true => rw [keyR, if_pos hr]; exact rkputok_any l v w hv hl hr hbig
  | false => rw [keyR, hr]; exact rkputno_any l v w hv hl hr
end Go.Proofs.Ytljdiakodpjkpaa
