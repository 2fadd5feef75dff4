/- keycode.Put: what it answers. -/
import Derived.Test.YtljdiakodpjkpaaKeyQ
import Derived.Test.YtljdiakodpjkpaaPutO
import Derived.Test.YtljdiakodpjkpaaBld
namespace Go.Proofs.Ytljdiakodpjkpaa
set_option linter.unusedVariables false
set_option linter.unusedSimpArgs false
open Go.RowKit
open Oct (S beN putL U I getI)
/-- A block of another type stays behind a write to the builder. -/
theorem block_others7 {w w1 : World} {B b T : Nat} {g : Nat} {cs : Array Value} {l : List UInt8} (hb : BldAt w B b l) (ho : Lib.OthersKept 5 (some b) w w1) (h1 : T ≠ 5) (h2 : T ≠ 51) (h : w.heap[g]? = some (.cells cs T (0, 0))) : w1.heap[g]? = some (.cells cs T (0, 0)) := by
  refine ho g _ h ?_ ?_
  · intro e
    obtain ⟨p, u, hbk⟩ := hb.blk
    injection e with e
    rw [e, hbk] at h
    injection h with h
    injection h with _ e2 _
    exact h2 e2.symm
  · intro c fz e
    injection e with _ e2 _
    exact h1 e2
theorem new_block7 (w : World) (cs : Array Value) (T : TypeId) : (w.alloc (.cells cs T)).heap[w.heap.size]? = some (.cells cs T (0, 0)) := by
  show (w.heap.push _)[w.heap.size]? = _
  simp
theorem kputno_any (l : List Vl) (v : Value) (w : World) (hv : RowAt w v l) (hl : Oks l) (hr : rightsL l = false) : Calls Try.prog 14 #[v] w (Ret (.string ⟨#[]⟩) w) := by
  have HR := Lib.hid (rights_any l v w hv hl)
  rw [hr] at HR
  have hsm := hv.small
  obtain ⟨ao, cap, rfl⟩ := hv.nil
  clear hv
  go_enter Try.func14, Try.ntmps14
  go_wp2_with fail
  refine HR.out.mono ?_
  rintro e w1 ⟨rfl, hb⟩
  go_wp2_with fail
  go_ret
  exact ⟨rfl, hb⟩
set_option maxHeartbeats 4000000 in
theorem kputok_any (l : List Vl) (v : Value) (w : World) (hv : RowAt w v l) (hl : Oks l) (hr : rightsL l = true) (hbig : l.length ≤ 1000000000000) : Calls Try.prog 14 #[v] w (Ret (.string (S (encL l))) w) := by
  have HR := Lib.hid (rights_any l v w hv hl)
  have HT := Lib.hid hr
  rw [hr] at HR
  clear hr
  obtain ⟨ao, cap, rfl⟩ := hv.nil
  go_enter Try.func14, Try.ntmps14
  go_wp2_with fail
  refine HR.out.mono ?_
  rintro e w2 ⟨rfl, hb⟩
  replace hv := hv.below hb
  have hfr := BldAt.fresh w2
  have hb0 : Below w2.heap.size w2 (w2.alloc (.cells #[.pointer none, .slice none 0 0] 51)) := (Below.refl _ _).alloc (Nat.le_refl _) _
  obtain ⟨B, HB⟩ : ∃ B, Hid (w2.heap.size = B) := ⟨_, rfl⟩
  go_wp2_with fail
  rw [HB.out] at hfr hb0 ⊢
  go_loopw [11] (fun i wr => ∃ k : Nat, k ≤ l.length ∧ i = .int .i64 k ∧ BldAt wr B B (encL (l.take k)) ∧ Below B w2 wr) (fun i _ => l.length - (intOf i).toNat)
  case atStart => exact ⟨0, Nat.zero_le _, rfl, by simpa [encL] using hfr, hb0⟩
  case round =>
    clear hfr hb0
    obtain ⟨k, hk, rfl, hbl, hb4⟩ := hrel
    have hBw : B ≤ wr.heap.size := by rw [← HB.out]; exact hb4.size
    by_cases hlt : k < l.length
    · obtain ⟨b, off, cap', hv2, c0, c1, c2⟩ := (hv.below (by rw [HB.out]; exact hb4)).get k hlt
      injection hv2 with h1 h2 h3
      subst h1
      subst h3
      have hbl0 := enc_take_len HT.out hbig k
      have HS := Lib.hid (enc_take l k hlt)
      have hright := rights_mem7 HT.out _ (List.getElem_mem hlt)
      obtain ⟨x, hx⟩ : ∃ x, l[k] = x := ⟨_, rfl⟩
      rw [hx] at c0 c1 c2 HS hright
      clear hx hv
      obtain ⟨q, hq⟩ : ∃ q, encL (l.take k) = q := ⟨_, rfl⟩
      rw [hq] at hbl hbl0 HS
      clear hq
      rcases right_cases x hright with rfl | rfl | rfl | ⟨n, hn, rfl⟩ | ⟨s, hs1, hs2, rfl⟩
      · simp only at c0 c1 c2
        clear hright
        rw [encV_null] at HS
        go_wp2_with fail
        refine (writeByte_any B B _ (0) _ rfl _ (hbl.alloc _) (by omega) (by simp; omega)).mono ?_
        rintro e w5 ⟨rfl, hbl5, hb5, ho5⟩
        have hk5 := block_others7 (T := 41) (hbl.alloc _) ho5 (by decide) (by decide) (new_block7 wr _ _)
        have hs5 := hb5.size
        simp only [World.size_alloc] at hs5
        have d50 : w5.cell? ⟨wr.heap.size, 0, none⟩ = some (.int .i64 0) := by rw [Lib.cell_of_heap hk5]; rfl
        have d51 : w5.cell? ⟨wr.heap.size, 1, none⟩ = some (.int .i64 0) := by rw [Lib.cell_of_heap hk5]; rfl
        have d52 : w5.cell? ⟨wr.heap.size, 2, none⟩ = some (.string ⟨#[]⟩) := by rw [Lib.cell_of_heap hk5]; rfl
        clear ho5
        go_wp2_with fail
        exact ⟨⟨k + 1, by omega, by simp, by rw [HS.out]; exact hbl5, (hb4.alloc hBw _).trans hb5⟩, by simp [intOf]; omega⟩
      · simp only at c0 c1 c2
        clear hright
        rw [encV_b0] at HS
        go_wp2_with fail
        refine (writeByte_any B B _ (1) _ rfl _ (hbl.alloc _) (by omega) (by simp; omega)).mono ?_
        rintro e w5 ⟨rfl, hbl5, hb5, ho5⟩
        have hk5 := block_others7 (T := 41) (hbl.alloc _) ho5 (by decide) (by decide) (new_block7 wr _ _)
        have hs5 := hb5.size
        simp only [World.size_alloc] at hs5
        have d50 : w5.cell? ⟨wr.heap.size, 0, none⟩ = some (.int .i64 1) := by rw [Lib.cell_of_heap hk5]; rfl
        have d51 : w5.cell? ⟨wr.heap.size, 1, none⟩ = some (.int .i64 0) := by rw [Lib.cell_of_heap hk5]; rfl
        have d52 : w5.cell? ⟨wr.heap.size, 2, none⟩ = some (.string ⟨#[]⟩) := by rw [Lib.cell_of_heap hk5]; rfl
        clear ho5
        go_wp2_with fail
        refine (writeByte_any B B _ (0) _ rfl _ hbl5 (by simp only [List.length_append, List.length_cons, List.length_nil]; omega) (by omega)).mono ?_
        rintro e w6 ⟨rfl, hbl6, hb6, ho6⟩
        clear ho6
        go_wp2_with fail
        exact ⟨⟨k + 1, by omega, by simp, by rw [HS.out]; rw [List.append_assoc] at hbl6; exact hbl6, ((hb4.alloc hBw _).trans hb5).trans hb6⟩, by simp [intOf]; omega⟩
      · simp only at c0 c1 c2
        clear hright
        rw [encV_b1] at HS
        go_wp2_with fail
        refine (writeByte_any B B _ (1) _ rfl _ (hbl.alloc _) (by omega) (by simp; omega)).mono ?_
        rintro e w5 ⟨rfl, hbl5, hb5, ho5⟩
        have hk5 := block_others7 (T := 41) (hbl.alloc _) ho5 (by decide) (by decide) (new_block7 wr _ _)
        have hs5 := hb5.size
        simp only [World.size_alloc] at hs5
        have d50 : w5.cell? ⟨wr.heap.size, 0, none⟩ = some (.int .i64 1) := by rw [Lib.cell_of_heap hk5]; rfl
        have d51 : w5.cell? ⟨wr.heap.size, 1, none⟩ = some (.int .i64 1) := by rw [Lib.cell_of_heap hk5]; rfl
        have d52 : w5.cell? ⟨wr.heap.size, 2, none⟩ = some (.string ⟨#[]⟩) := by rw [Lib.cell_of_heap hk5]; rfl
        clear ho5
        go_wp2_with fail
        refine (writeByte_any B B _ (1) _ rfl _ hbl5 (by simp only [List.length_append, List.length_cons, List.length_nil]; omega) (by omega)).mono ?_
        rintro e w6 ⟨rfl, hbl6, hb6, ho6⟩
        clear ho6
        go_wp2_with fail
        exact ⟨⟨k + 1, by omega, by simp, by rw [HS.out]; rw [List.append_assoc] at hbl6; exact hbl6, ((hb4.alloc hBw _).trans hb5).trans hb6⟩, by simp [intOf]; omega⟩
      · simp only at c0 c1 c2
        clear hright
        rw [encV_int] at HS
        have hnb := inB_bounds hn
        have hpl := Oct.putL_length (offs n) 8
        have hku := key_num n hnb.1 hnb.2
        rw [IntWalk.i64_left] at hku
        have HU := Lib.hid hku
        clear hku
        go_wp2_with fail
        refine (writeByte_any B B _ (2) _ rfl _ (hbl.alloc _) (by omega) (by simp; omega)).mono ?_
        rintro e w5 ⟨rfl, hbl5, hb5, ho5⟩
        have hk5 := block_others7 (T := 41) (hbl.alloc _) ho5 (by decide) (by decide) (new_block7 wr _ _)
        have hs5 := hb5.size
        simp only [World.size_alloc] at hs5
        have d50 : w5.cell? ⟨wr.heap.size, 0, none⟩ = some (.int .i64 2) := by rw [Lib.cell_of_heap hk5]; rfl
        have d51 : w5.cell? ⟨wr.heap.size, 1, none⟩ = some (.int .i64 n) := by rw [Lib.cell_of_heap hk5]; rfl
        have d52 : w5.cell? ⟨wr.heap.size, 2, none⟩ = some (.string ⟨#[]⟩) := by rw [Lib.cell_of_heap hk5]; rfl
        clear ho5
        go_wp2_with fail
        refine (put_at _ 8 8 rfl (by omega) _).mono ?_
        rintro e w6 ⟨rfl, hb6⟩
        rw [HU.out]
        have hbl6 := hbl5.below hb6
        have hs6 := hb6.size
        go_wp2_with fail
        refine (writeString_any B B _ (S (putL (offs n) 8)) _ hbl6 (by rw [Oct.S_size]; simp only [List.length_append, List.length_cons, List.length_nil]; omega) (by omega)).mono ?_
        rintro e w7 ⟨rfl, hbl7, hb7, ho7⟩
        clear ho7
        go_wp2_with fail
        exact ⟨⟨k + 1, by omega, by simp, by rw [HS.out]; rw [List.append_assoc] at hbl7; exact hbl7, ((hb4.alloc hBw _).trans hb5).trans ((hb6.mono (by omega)).trans hb7)⟩, by simp [intOf]; omega⟩
      · simp only at c0 c1 c2
        clear hright
        rw [encV_text] at HS
        have hss : (s ++ ⟨#[0]⟩ : ByteArray).size = s.size + 1 := by rw [ByteArray.size_append]; rfl
        have hse : (s ++ ⟨#[0]⟩ : ByteArray).data.toList = s.data.toList ++ [0] := by simp
        have hns : ¬ 9223372036854775807 < s.size + 1 := by omega
        obtain ⟨t, ht⟩ : ∃ t : ByteArray, s ++ (⟨#[0]⟩ : ByteArray) = t := ⟨_, rfl⟩
        rw [ht] at hss hse
        have HSE := Lib.hid hse
        have HTT := Lib.hid ht
        have HSS := Lib.hid hss
        clear hse ht hss
        go_wp2_with fail
        refine (writeByte_any B B _ (3) _ rfl _ (hbl.alloc _) (by omega) (by simp; omega)).mono ?_
        rintro e w5 ⟨rfl, hbl5, hb5, ho5⟩
        have hk5 := block_others7 (T := 41) (hbl.alloc _) ho5 (by decide) (by decide) (new_block7 wr _ _)
        have hs5 := hb5.size
        simp only [World.size_alloc] at hs5
        have d50 : w5.cell? ⟨wr.heap.size, 0, none⟩ = some (.int .i64 3) := by rw [Lib.cell_of_heap hk5]; rfl
        have d51 : w5.cell? ⟨wr.heap.size, 1, none⟩ = some (.int .i64 0) := by rw [Lib.cell_of_heap hk5]; rfl
        have d52 : w5.cell? ⟨wr.heap.size, 2, none⟩ = some (.string s) := by rw [Lib.cell_of_heap hk5]; rfl
        clear ho5
        go_wp2_with fail
        rw [HTT.out]
        refine (writeString_any B B _ t _ hbl5 (by rw [HSS.out]; simp only [List.length_append, List.length_cons, List.length_nil]; omega) (by omega)).mono ?_
        rintro e w7 ⟨rfl, hbl7, hb7, ho7⟩
        rw [HSE.out] at hbl7
        clear ho7
        go_wp2_with fail
        exact ⟨⟨k + 1, by omega, by simp, by rw [HS.out]; rw [List.append_assoc] at hbl7; exact hbl7, ((hb4.alloc hBw _).trans hb5).trans hb7⟩, by simp [intOf]; omega⟩
    · have HK : Hid (l.take k = l) := List.take_of_length_le (by omega)
      rw [HK.out] at hbl
      go_wp2_with fail
      refine (bldString_any B B _ _ hbl hBw).mono ?_
      rintro e w4 ⟨rfl, _, hb5, _⟩
      go_wp2_with fail
      go_ret
      exact ⟨rfl, hb.next (by rw [HB.out]; exact hb4.trans hb5)⟩
theorem kput_any (l : List Vl) (v : Value) (w : World) (hv : RowAt w v l) (hl : Oks l) (hbig : l.length ≤ 1000000000000) : Calls Try.prog 14 #[v] w (Ret (.string (S (keyR l))) w) := by
  cases hr : rightsL l with
  | false => rw [keyR, if_neg (by rw [hr]; decide)]; exact kputno_any l v w hv hl hr
  | true => rw [keyR, if_pos hr]; exact kputok_any l v w hv hl hr hbig
end Go.Proofs.Ytljdiakodpjkpaa
