/- How many bytes a row has: the reference's Size, rowcode.Size. -/
import Derived.Test.YtcboeggfincakaaOne06
namespace Go.Proofs.Ytcboeggfincakaa
set_option linter.unusedVariables false
set_option linter.unusedSimpArgs false
open Go.RowKit
open Oct (S beN putL U I getI)
/-- How many bytes the values have. -/
def bodyL (l : List Vl) : List UInt8 := l.flatMap oneL
def sizeL (l : List Vl) : Nat := 1 + (bodyL l).length
def sizeR (l : List Vl) : Int := if rightsL l = true then sizeL l else 0
theorem one_len (v : Vl) (h : rightV v = true) : (oneL v).length ≤ 102 := by
  rcases right_cases v h with rfl | rfl | rfl | ⟨n, hn, rfl⟩ | ⟨s, h1, h2, rfl⟩
  · decide
  · decide
  · decide
  · show (2 :: putL (U n) 8).length ≤ _; simp [Oct.putL_length]
  · show (3 :: UInt8.ofNat s.size :: s.data.toList).length ≤ _
    have : s.data.toList.length = s.size := by simp
    simp only [List.length_cons, this]; omega
theorem body_snoc (l : List Vl) (k : Nat) (h : k < l.length) : bodyL (l.take (k + 1)) = bodyL (l.take k) ++ oneL l[k] := by
  rw [bodyL, bodyL, List.take_succ_eq_append_getElem h, List.flatMap_append, List.flatMap_singleton]
theorem body_len (l : List Vl) (h : ∀ v ∈ l, rightV v = true) : (bodyL l).length ≤ 102 * l.length := by
  induction l with
  | nil => simp [bodyL]
  | cons v l ih =>
    have h1 := one_len v (h v (List.mem_cons_self ..))
    have h2 := ih fun x hx => h x (List.mem_cons_of_mem _ hx)
    simp only [bodyL, List.flatMap_cons, List.length_append, List.length_cons] at *
    omega
theorem rights_mem {l : List Vl} (h : rightsL l = true) : ∀ v ∈ l, rightV v = true := fun v hv => List.all_eq_true.1 h v hv
theorem body_take_len {l : List Vl} (h : rightsL l = true) (k : Nat) : (bodyL (l.take k)).length ≤ 102 * k := by
  have h1 := body_len (l.take k) fun v hv => rights_mem h v (List.mem_of_mem_take hv)
  have h2 : (l.take k).length ≤ k := List.length_take_le _ _
  omega
theorem rsize_any (l : List Vl) (v : Value) (w : World) (hv : RowAt w v l) (hl : Oks l) : Calls Try.prog 38 #[v] w (Ret (.int .i64 (sizeR l)) w) := by
  have HRr := rrights_any l v w hv hl
  have hsm := hv.small
  unfold sizeR
  cases hr : rightsL l with
  | false =>
    rw [hr] at HRr
    have HR := Lib.hid HRr
    clear HRr hr
    obtain ⟨ao, cap, rfl⟩ := hv.nil
    clear hv
    go_enter Try.func38, Try.ntmps38
    go_wp2_with fail
    refine HR.out.mono ?_
    rintro e w1 ⟨rfl, hb⟩
    go_wp2_with fail
    go_ret
    exact ⟨rfl, hb⟩
  | true =>
    rw [hr] at HRr
    have HR := Lib.hid HRr
    have HT := Lib.hid hr
    clear HRr hr
    rw [if_pos rfl]
    obtain ⟨ao, cap, rfl⟩ := hv.nil
    go_enter Try.func38, Try.ntmps38
    go_wp2_with fail
    refine HR.out.mono ?_
    rintro e w1 ⟨rfl, hb⟩
    go_wp2_with fail
    go_loopw [3, 4] (fun n i wr => ∃ k : Nat, k ≤ l.length ∧ i = .int .i64 k ∧ n = .int .i64 ((1 + (bodyL (l.take k)).length : Nat) : Int) ∧ Below w.heap.size w wr) (fun _ i _ => l.length - (intOf i).toNat)
    case atStart => exact ⟨0, Nat.zero_le _, rfl, by simp [bodyL], hb⟩
    case round =>
      clear hb
      obtain ⟨k, hk, rfl, rfl, hb⟩ := hrel
      by_cases hlt : k < l.length
      · obtain ⟨b, off, cap', hv2, c0, c1, c2⟩ := (hv.below hb).get k hlt
        injection hv2 with h1 h2 h3
        subst h1
        subst h3
        have HC := one_any l[k] wr (rights_mem HT.out _ (List.getElem_mem hlt))
        have hle := one_len l[k] (rights_mem HT.out _ (List.getElem_mem hlt))
        have hbl := body_take_len HT.out k
        have HS := Lib.hid (body_snoc l k hlt)
        have hz : (S (oneL l[k])).size = (oneL l[k]).length := Oct.S_size _
        obtain ⟨q, hq⟩ : ∃ q, oneL l[k] = q := ⟨_, rfl⟩
        rw [hq] at HC hle HS hz
        obtain ⟨m, hm⟩ : ∃ m, (bodyL (l.take k)).length = m := ⟨_, rfl⟩
        rw [hm] at hbl ⊢
        have HM := Lib.hid hm
        clear hm hq hv
        go_wp2_with (go_at_call 39; refine HC.mono ?_; rintro e W' ⟨rfl, hbc⟩)
        go_roundw
        case rel => exact ⟨k + 1, by omega, by go_num, by rw [HS.out, List.length_append, HM.out]; go_num, hb.next hbc⟩
        case measure => simp [intOf]; omega
      · have HK : Hid (l.take k = l) := List.take_of_length_le (by omega)
        go_wp2_with fail
        go_ret
        exact ⟨ret_int (by rw [HK.out]; rfl), hb⟩
set_option maxHeartbeats 2000000 in
theorem size_any (l : List Vl) (v : Value) (w : World) (hv : RowAt w v l) (hl : Oks l) : Calls Try.prog 33 #[v] w (Ret (.int .i64 (sizeR l)) w) := by
  have HRr := rights_any l v w hv hl
  have hsm := hv.small
  unfold sizeR
  cases hr : rightsL l with
  | false =>
    rw [hr] at HRr
    have HR := Lib.hid HRr
    clear HRr hr
    obtain ⟨ao, cap, rfl⟩ := hv.nil
    clear hv
    go_enter Try.func33, Try.ntmps33
    go_wp2_with fail
    refine HR.out.mono ?_
    rintro e w1 ⟨rfl, hb⟩
    go_wp2_with fail
    go_ret
    exact ⟨rfl, hb⟩
  | true =>
    rw [hr] at HRr
    have HR := Lib.hid HRr
    have HT := Lib.hid hr
    clear HRr hr
    rw [if_pos rfl]
    obtain ⟨ao, cap, rfl⟩ := hv.nil
    go_enter Try.func33, Try.ntmps33
    go_wp2_with fail
    refine HR.out.mono ?_
    rintro e w1 ⟨rfl, hb⟩
    go_wp2_with fail
    go_loopw [3, 11] (fun n i wr => ∃ k : Nat, k ≤ l.length ∧ i = .int .i64 k ∧ n = .int .i64 ((1 + (bodyL (l.take k)).length : Nat) : Int) ∧ Below w.heap.size w wr) (fun _ i _ => l.length - (intOf i).toNat)
    case atStart => exact ⟨0, Nat.zero_le _, rfl, by simp [bodyL], hb⟩
    case round =>
      clear hb
      obtain ⟨k, hk, rfl, rfl, hb⟩ := hrel
      by_cases hlt : k < l.length
      · obtain ⟨b, off, cap', hv2, c0, c1, c2⟩ := (hv.below hb).get k hlt
        injection hv2 with h1 h2 h3
        subst h1
        subst h3
        have hbl := body_take_len HT.out k
        have HS := Lib.hid (body_snoc l k hlt)
        have hright := rights_mem HT.out _ (List.getElem_mem hlt)
        obtain ⟨m, hm⟩ : ∃ m, (bodyL (l.take k)).length = m := ⟨_, rfl⟩
        rw [hm] at hbl ⊢
        have HM := Lib.hid hm
        obtain ⟨x, hx⟩ : ∃ x, l[k] = x := ⟨_, rfl⟩
        rw [hx] at c0 c1 c2 HS hright
        clear hm hv hx
        have hBw : w.heap.size ≤ wr.heap.size := hb.size
        have HS2 : Hid ((bodyL (l.take (k + 1))).length = m + (oneL x).length) := by show _ = _; rw [HS.out, List.length_append, HM.out]
        clear HS HM
        rcases right_cases x hright with rfl | rfl | rfl | ⟨n, hn, rfl⟩ | ⟨s, h1, h2, rfl⟩
        · have HC : Hid ((bodyL (l.take (k + 1))).length = m + 1) := HS2.out
          simp only at c0 c1 c2
          clear HS2 hright
          go_wp2_with fail
          go_roundw
          case rel => exact ⟨k + 1, by omega, by go_num, by rw [HC.out]; go_num, (hb.alloc hBw _).alloc (by simp; omega) _⟩
          case measure => simp [intOf]; omega
        · have HC : Hid ((bodyL (l.take (k + 1))).length = m + 2) := HS2.out
          simp only at c0 c1 c2
          clear HS2 hright
          go_wp2_with fail
          go_roundw
          case rel => exact ⟨k + 1, by omega, by go_num, by rw [HC.out]; go_num, (hb.alloc hBw _).alloc (by simp; omega) _⟩
          case measure => simp [intOf]; omega
        · have HC : Hid ((bodyL (l.take (k + 1))).length = m + 2) := HS2.out
          simp only at c0 c1 c2
          clear HS2 hright
          go_wp2_with fail
          go_roundw
          case rel => exact ⟨k + 1, by omega, by go_num, by rw [HC.out]; go_num, (hb.alloc hBw _).alloc (by simp; omega) _⟩
          case measure => simp [intOf]; omega
        · have HC : Hid ((bodyL (l.take (k + 1))).length = m + 9) := by have := HS2.out; rw [this]; show m + (2 :: putL (U n) 8).length = _; simp [Oct.putL_length]
          simp only at c0 c1 c2
          clear HS2 hright
          go_wp2_with fail
          go_roundw
          case rel => exact ⟨k + 1, by omega, by go_num, by rw [HC.out]; go_num, (hb.alloc hBw _).alloc (by simp; omega) _⟩
          case measure => simp [intOf]; omega
        · have HC : Hid ((bodyL (l.take (k + 1))).length = m + (2 + s.size)) := by have := HS2.out; rw [this]; show m + (3 :: UInt8.ofNat s.size :: s.data.toList).length = _; simp; omega
          simp only at c0 c1 c2
          clear HS2 hright
          go_wp2_with fail
          go_roundw
          case rel => exact ⟨k + 1, by omega, by go_num, by rw [HC.out]; go_num, (hb.alloc hBw _).alloc (by simp; omega) _⟩
          case measure => simp [intOf]; omega
      · have HK : Hid (l.take k = l) := List.take_of_length_le (by omega)
        go_wp2_with fail
        go_ret
        exact ⟨ret_int (by rw [HK.out]; rfl), hb⟩
end Go.Proofs.Ytcboeggfincakaa
