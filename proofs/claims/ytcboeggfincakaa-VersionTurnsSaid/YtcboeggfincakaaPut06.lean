/- rowcode.Put and the reference's: what they answer. -/
import Derived.Test.YtcboeggfincakaaSize06
import Derived.Test.YtcboeggfincakaaBld
namespace Go.Proofs.Ytcboeggfincakaa
set_option linter.unusedVariables false
set_option linter.unusedSimpArgs false
open Go.RowKit
open Oct (S beN putL U I getI)
/-- A row's bytes. -/
def rowL (l : List Vl) : List UInt8 := UInt8.ofNat l.length :: bodyL l
/-- What Put answers. -/
def putR (l : List Vl) : List UInt8 × Int :=
  if rightsL l = false then ([], 1) else if 32 < l.length ∨ 400 < sizeL l then ([], 4) else (rowL l, 0)
theorem putR_arg {l : List Vl} (h : rightsL l = false) : putR l = ([], 1) := by rw [putR, if_pos h]
theorem putR_long {l : List Vl} (h : rightsL l = true) (h2 : 32 < l.length ∨ 400 < sizeL l) : putR l = ([], 4) := by
  rw [putR, if_neg (by rw [h]; decide), if_pos h2]
theorem putR_ok {l : List Vl} (h : rightsL l = true) (h2 : ¬ (32 < l.length ∨ 400 < sizeL l)) : putR l = (rowL l, 0) := by
  rw [putR, if_neg (by rw [h]; decide), if_neg h2]
theorem sizeR_yes {l : List Vl} (h : rightsL l = true) : sizeR l = sizeL l := by rw [sizeR, if_pos h]
/-- A block of another type stays behind a write to the builder. -/
theorem block_others {w w1 : World} {B b T : Nat} {g : Nat} {cs : Array Value} {l : List UInt8} (hb : BldAt w B b l) (ho : Lib.OthersKept 5 (some b) w w1) (h1 : T ≠ 5) (h2 : T ≠ 66) (h : w.heap[g]? = some (.cells cs T (0, 0))) : w1.heap[g]? = some (.cells cs T (0, 0)) := by
  refine ho g _ h ?_ ?_
  · intro e
    obtain ⟨p, u, hbk⟩ := hb.blk
    injection e with e
    rw [e, hbk] at h
    injection h with h
    injection h with _ e2 _
    exact h2 e2.symm
  · intro c fz e
    injection e with _ e2 _
    exact h1 e2
theorem new_block (w : World) (cs : Array Value) (T : TypeId) : (w.alloc (.cells cs T)).heap[w.heap.size]? = some (.cells cs T (0, 0)) := by
  show (w.heap.push _)[w.heap.size]? = _
  simp
set_option maxHeartbeats 1000000 in
theorem putfail_any (l : List Vl) (v : Value) (w : World) (hv : RowAt w v l) (hl : Oks l) (h : rightsL l = false ∨ (32 < l.length ∨ 400 < sizeL l)) : Calls Try.prog 23 #[v] w (Ret (.tuple #[.string (S (putR l).1), .int .i64 (putR l).2]) w) := by
  have HR := Lib.hid (rights_any l v w hv hl)
  have hsm := hv.small
  cases hr : rightsL l with
  | false =>
    rw [putR_arg hr]
    rw [hr] at HR
    obtain ⟨ao, cap, rfl⟩ := hv.nil
    clear hv h
    go_enter Try.func23, Try.ntmps23
    go_wp2_with fail
    refine HR.out.mono ?_
    rintro e w1 ⟨rfl, hb⟩
    go_wp2_with fail
    go_ret2
    exact ⟨rfl, hb⟩
  | true =>
    have h2 : 32 < l.length ∨ 400 < sizeL l := by
      rcases h with h | h
      · rw [hr] at h; cases h
      · exact h
    rw [putR_long hr h2]
    rw [hr] at HR
    by_cases h3 : 32 < l.length
    · obtain ⟨ao, cap, rfl⟩ := hv.nil
      clear hv h h2
      go_enter Try.func23, Try.ntmps23
      go_wp2_with fail
      refine HR.out.mono ?_
      rintro e w1 ⟨rfl, hb⟩
      go_wp2_with fail
      go_ret2
      exact ⟨rfl, hb⟩
    · have h4 : 400 < sizeL l := by omega
      have HS := fun W => size_any l v W
      rw [sizeR_yes hr] at HS
      obtain ⟨ao, cap, rfl⟩ := hv.nil
      clear h h2
      go_enter Try.func23, Try.ntmps23
      go_wp2_with fail
      refine HR.out.mono ?_
      rintro e w1 ⟨rfl, hb⟩
      replace hv := hv.below hb
      go_wp2_with fail
      refine (HS _ hv hl).mono ?_
      rintro e w2 ⟨rfl, hb2⟩
      replace hb := hb.next hb2; clear hb2
      go_wp2_with fail
      go_ret2
      exact ⟨rfl, hb⟩
set_option maxHeartbeats 4000000 in
theorem putok_any (l : List Vl) (v : Value) (w : World) (hv : RowAt w v l) (hl : Oks l) (hr : rightsL l = true) (h32 : l.length ≤ 32) (h400 : sizeL l ≤ 400) : Calls Try.prog 23 #[v] w (Ret (.tuple #[.string (S (rowL l)), .int .i64 0]) w) := by
  have HR := Lib.hid (rights_any l v w hv hl)
  have HT := Lib.hid hr
  rw [hr] at HR
  have HS := fun W => size_any l v W
  rw [sizeR_yes hr] at HS
  have HSS := Lib.hid HS
  have HLn : Hid ((l.length : Int) = ((UInt8.ofNat l.length).toNat : Int)) := by show _ = _; rw [Oct.ofNat_toNat, Nat.mod_eq_of_lt (by omega)]
  have hwl : IntKind.u8.wrap (l.length : Int) = l.length := IntWalk.u8_in _ (by omega)
  clear HS hr
  obtain ⟨ao, cap, rfl⟩ := hv.nil
  go_enter Try.func23, Try.ntmps23
  go_wp2_with fail
  refine HR.out.mono ?_
  rintro e w1 ⟨rfl, hb⟩
  replace hv := hv.below hb
  go_wp2_with fail
  refine (HSS.out _ hv hl).mono ?_
  rintro e w2 ⟨rfl, hb2⟩
  replace hv := hv.below hb2
  replace hb := hb.next hb2; clear hb2
  have hfr := BldAt.fresh w2
  have hb0 : Below w2.heap.size w2 (w2.alloc (.cells #[.pointer none, .slice none 0 0] 66)) := (Below.refl _ _).alloc (Nat.le_refl _) _
  obtain ⟨B, HB⟩ : ∃ B, Hid (w2.heap.size = B) := ⟨_, rfl⟩
  go_wp2_with fail
  rw [HB.out] at hfr hb0 ⊢
  refine (writeByte_any B B _ (UInt8.ofNat l.length) _ HLn.out _ hfr (by simp) (by have := hb0.size; rw [HB.out] at this; exact this)).mono ?_
  rintro e w3 ⟨rfl, hbl, hb3, _⟩
  replace hb0 := hb0.trans hb3
  clear hb3 hfr
  go_wp2_with fail
  go_loopw [6, 24] (fun _ i wr => ∃ k : Nat, k ≤ l.length ∧ i = .int .i64 k ∧ BldAt wr B B (UInt8.ofNat l.length :: bodyL (l.take k)) ∧ Below B w2 wr) (fun _ i _ => l.length - (intOf i).toNat)
  case atStart => exact ⟨0, Nat.zero_le _, rfl, hbl, hb0⟩
  case round =>
    clear hbl hb0
    obtain ⟨k, hk, rfl, hbl, hb4⟩ := hrel
    have hBw : B ≤ wr.heap.size := by rw [← HB.out]; exact hb4.size
    by_cases hlt : k < l.length
    · obtain ⟨b, off, cap', hv2, c0, c1, c2⟩ := (hv.below (by rw [HB.out]; exact hb4)).get k hlt
      injection hv2 with h1 h2 h3
      subst h1
      subst h3
      have hbl0 := body_take_len HT.out k
      have HS := Lib.hid (body_snoc l k hlt)
      have hright := rights_mem HT.out _ (List.getElem_mem hlt)
      obtain ⟨x, hx⟩ : ∃ x, l[k] = x := ⟨_, rfl⟩
      rw [hx] at c0 c1 c2 HS hright
      clear hx hv
      obtain ⟨q, hq⟩ : ∃ q, bodyL (l.take k) = q := ⟨_, rfl⟩
      rw [hq] at hbl hbl0 HS
      clear hq
      have hblA := fun o => hbl.alloc o
      rcases right_cases x hright with rfl | rfl | rfl | ⟨n, hn, rfl⟩ | ⟨s, hs1, hs2, rfl⟩
      · have hkk : 0 = 0 := rfl
        · simp only at c0 c1 c2
          go_wp2_with fail
          refine (writeByte_any B B _ (0) _ rfl _ (hbl.alloc _) (by simp only [List.length_append, List.length_cons, List.length_nil]; omega) (by simp; omega)).mono ?_
          rintro e w5 ⟨rfl, hbl5, hb5, ho5⟩
          have hk5 := block_others (T := 49) (hbl.alloc _) ho5 (by decide) (by decide) (new_block wr _ _)
          clear ho5
          have hs5 := hb5.size
          simp only [World.size_alloc] at hs5
          have d50 : w5.cell? ⟨wr.heap.size, 0, none⟩ = some (.int .i64 0) := by rw [Lib.cell_of_heap hk5]; rfl
          have d51 : w5.cell? ⟨wr.heap.size, 1, none⟩ = some (.int .i64 0) := by rw [Lib.cell_of_heap hk5]; rfl
          have d52 : w5.cell? ⟨wr.heap.size, 2, none⟩ = some (.string ⟨#[]⟩) := by rw [Lib.cell_of_heap hk5]; rfl
          go_wp2_with fail
          go_roundw
          case rel => exact ⟨k + 1, by omega, by go_num, by rw [HS.out]; exact hbl5, (hb4.alloc hBw _).trans hb5⟩
          case measure => simp [intOf]; omega
      · have hkk : 0 = 0 := rfl
        · simp only at c0 c1 c2
          go_wp2_with fail
          refine (writeByte_any B B _ (1) _ rfl _ (hbl.alloc _) (by simp only [List.length_append, List.length_cons, List.length_nil]; omega) (by simp; omega)).mono ?_
          rintro e w5 ⟨rfl, hbl5, hb5, ho5⟩
          have hk5 := block_others (T := 49) (hbl.alloc _) ho5 (by decide) (by decide) (new_block wr _ _)
          clear ho5
          have hs5 := hb5.size
          simp only [World.size_alloc] at hs5
          have d50 : w5.cell? ⟨wr.heap.size, 0, none⟩ = some (.int .i64 1) := by rw [Lib.cell_of_heap hk5]; rfl
          have d51 : w5.cell? ⟨wr.heap.size, 1, none⟩ = some (.int .i64 0) := by rw [Lib.cell_of_heap hk5]; rfl
          have d52 : w5.cell? ⟨wr.heap.size, 2, none⟩ = some (.string ⟨#[]⟩) := by rw [Lib.cell_of_heap hk5]; rfl
          go_wp2_with fail
          refine (writeByte_any B B _ (0) _ rfl _ hbl5 (by simp only [List.length_append, List.length_cons, List.length_nil]; omega) (by omega)).mono ?_
          rintro e w6 ⟨rfl, hbl6, hb6, ho6⟩
          have hk6 := block_others (T := 49) hbl5 ho6 (by decide) (by decide) hk5
          clear ho6
          have hs6 := hb6.size
          have d60 : w6.cell? ⟨wr.heap.size, 0, none⟩ = some (.int .i64 1) := by rw [Lib.cell_of_heap hk6]; rfl
          have d61 : w6.cell? ⟨wr.heap.size, 1, none⟩ = some (.int .i64 0) := by rw [Lib.cell_of_heap hk6]; rfl
          have d62 : w6.cell? ⟨wr.heap.size, 2, none⟩ = some (.string ⟨#[]⟩) := by rw [Lib.cell_of_heap hk6]; rfl
          go_wp2_with fail
          go_roundw
          case rel => exact ⟨k + 1, by omega, by go_num, by rw [HS.out]; rw [List.append_assoc] at hbl6; exact hbl6, ((hb4.alloc hBw _).trans hb5).trans hb6⟩
          case measure => simp [intOf]; omega
      · have hkk : 0 = 0 := rfl
        · simp only at c0 c1 c2
          go_wp2_with fail
          refine (writeByte_any B B _ (1) _ rfl _ (hbl.alloc _) (by simp only [List.length_append, List.length_cons, List.length_nil]; omega) (by simp; omega)).mono ?_
          rintro e w5 ⟨rfl, hbl5, hb5, ho5⟩
          have hk5 := block_others (T := 49) (hbl.alloc _) ho5 (by decide) (by decide) (new_block wr _ _)
          clear ho5
          have hs5 := hb5.size
          simp only [World.size_alloc] at hs5
          have d50 : w5.cell? ⟨wr.heap.size, 0, none⟩ = some (.int .i64 1) := by rw [Lib.cell_of_heap hk5]; rfl
          have d51 : w5.cell? ⟨wr.heap.size, 1, none⟩ = some (.int .i64 1) := by rw [Lib.cell_of_heap hk5]; rfl
          have d52 : w5.cell? ⟨wr.heap.size, 2, none⟩ = some (.string ⟨#[]⟩) := by rw [Lib.cell_of_heap hk5]; rfl
          go_wp2_with fail
          refine (writeByte_any B B _ (1) _ rfl _ hbl5 (by simp only [List.length_append, List.length_cons, List.length_nil]; omega) (by omega)).mono ?_
          rintro e w6 ⟨rfl, hbl6, hb6, ho6⟩
          have hk6 := block_others (T := 49) hbl5 ho6 (by decide) (by decide) hk5
          clear ho6
          have hs6 := hb6.size
          have d60 : w6.cell? ⟨wr.heap.size, 0, none⟩ = some (.int .i64 1) := by rw [Lib.cell_of_heap hk6]; rfl
          have d61 : w6.cell? ⟨wr.heap.size, 1, none⟩ = some (.int .i64 1) := by rw [Lib.cell_of_heap hk6]; rfl
          have d62 : w6.cell? ⟨wr.heap.size, 2, none⟩ = some (.string ⟨#[]⟩) := by rw [Lib.cell_of_heap hk6]; rfl
          go_wp2_with fail
          go_roundw
          case rel => exact ⟨k + 1, by omega, by go_num, by rw [HS.out]; rw [List.append_assoc] at hbl6; exact hbl6, ((hb4.alloc hBw _).trans hb5).trans hb6⟩
          case measure => simp [intOf]; omega
      · have hkk : 0 = 0 := rfl
        · simp only at c0 c1 c2
          have hpl := Oct.putL_length (U n) 8
          have HPt := Lib.hid (fun W => put_at n 8 8 rfl (by omega) W)
          go_wp2_with fail
          refine (writeByte_any B B _ (2) _ rfl _ (hbl.alloc _) (by simp only [List.length_append, List.length_cons, List.length_nil]; omega) (by simp; omega)).mono ?_
          rintro e w5 ⟨rfl, hbl5, hb5, ho5⟩
          have hk5 := block_others (T := 49) (hbl.alloc _) ho5 (by decide) (by decide) (new_block wr _ _)
          clear ho5
          have hs5 := hb5.size
          simp only [World.size_alloc] at hs5
          have d50 : w5.cell? ⟨wr.heap.size, 0, none⟩ = some (.int .i64 2) := by rw [Lib.cell_of_heap hk5]; rfl
          have d51 : w5.cell? ⟨wr.heap.size, 1, none⟩ = some (.int .i64 n) := by rw [Lib.cell_of_heap hk5]; rfl
          have d52 : w5.cell? ⟨wr.heap.size, 2, none⟩ = some (.string ⟨#[]⟩) := by rw [Lib.cell_of_heap hk5]; rfl
          go_wp2_with fail
          refine (HPt.out _).mono ?_
          rintro e w6 ⟨rfl, hb6⟩
          have hbl6 := hbl5.below hb6
          have hs6 := hb6.size
          go_wp2_with fail
          refine (writeString_any B B _ (S (putL (U n) 8)) _ hbl6 (by rw [Oct.S_size]; simp only [List.length_append, List.length_cons, List.length_nil]; omega) (by omega)).mono ?_
          rintro e w7 ⟨rfl, hbl7, hb7, ho7⟩
          clear ho7
          go_wp2_with fail
          go_roundw
          case rel => exact ⟨k + 1, by omega, by go_num, by rw [HS.out]; rw [List.append_assoc] at hbl7; exact hbl7, ((hb4.alloc hBw _).trans hb5).trans ((hb6.mono (by omega)).trans hb7)⟩
          case measure => simp [intOf]; omega
      · have hkk : 0 = 0 := rfl
        · simp only at c0 c1 c2
          have hws : IntKind.u8.wrap (s.size : Int) = s.size := IntWalk.u8_in _ (by omega)
          have HBY : Hid ((s.size : Int) = ((UInt8.ofNat s.size).toNat : Int)) := by show _ = _; rw [Oct.ofNat_toNat]; omega
          go_wp2_with fail
          refine (writeByte_any B B _ (3) _ rfl _ (hbl.alloc _) (by simp only [List.length_append, List.length_cons, List.length_nil]; omega) (by simp; omega)).mono ?_
          rintro e w5 ⟨rfl, hbl5, hb5, ho5⟩
          have hk5 := block_others (T := 49) (hbl.alloc _) ho5 (by decide) (by decide) (new_block wr _ _)
          clear ho5
          have hs5 := hb5.size
          simp only [World.size_alloc] at hs5
          have d50 : w5.cell? ⟨wr.heap.size, 0, none⟩ = some (.int .i64 3) := by rw [Lib.cell_of_heap hk5]; rfl
          have d51 : w5.cell? ⟨wr.heap.size, 1, none⟩ = some (.int .i64 0) := by rw [Lib.cell_of_heap hk5]; rfl
          have d52 : w5.cell? ⟨wr.heap.size, 2, none⟩ = some (.string s) := by rw [Lib.cell_of_heap hk5]; rfl
          go_wp2_with fail
          refine (writeByte_any B B _ (UInt8.ofNat s.size) _ HBY.out _ hbl5 (by simp only [List.length_append, List.length_cons, List.length_nil]; omega) (by omega)).mono ?_
          rintro e w6 ⟨rfl, hbl6, hb6, ho6⟩
          have hk6 := block_others (T := 49) hbl5 ho6 (by decide) (by decide) hk5
          clear ho6
          have hs6 := hb6.size
          have d60 : w6.cell? ⟨wr.heap.size, 0, none⟩ = some (.int .i64 3) := by rw [Lib.cell_of_heap hk6]; rfl
          have d61 : w6.cell? ⟨wr.heap.size, 1, none⟩ = some (.int .i64 0) := by rw [Lib.cell_of_heap hk6]; rfl
          have d62 : w6.cell? ⟨wr.heap.size, 2, none⟩ = some (.string s) := by rw [Lib.cell_of_heap hk6]; rfl
          go_wp2_with fail
          refine (writeString_any B B _ (s) _ hbl6 (by simp only [List.length_append, List.length_cons, List.length_nil]; omega) (by omega)).mono ?_
          rintro e w7 ⟨rfl, hbl7, hb7, ho7⟩
          clear ho7
          go_wp2_with fail
          go_roundw
          case rel => exact ⟨k + 1, by omega, by go_num, by rw [HS.out]; rw [List.append_assoc, List.append_assoc] at hbl7; exact hbl7, (((hb4.alloc hBw _).trans hb5).trans hb6).trans hb7⟩
          case measure => simp [intOf]; omega
    · have HK : Hid (l.take k = l) := List.take_of_length_le (by omega)
      rw [HK.out] at hbl
      go_wp2_with fail
      refine (bldString_any B B _ _ hbl hBw).mono ?_
      rintro e w4 ⟨rfl, _, hb5, _⟩
      go_wp2_with fail
      go_ret2
      exact ⟨rfl, hb.next (by rw [HB.out]; exact hb4.trans hb5)⟩
theorem put_any (l : List Vl) (v : Value) (w : World) (hv : RowAt w v l) (hl : Oks l) : Calls Try.prog 23 #[v] w (Ret (.tuple #[.string (S (putR l).1), .int .i64 (putR l).2]) w) := by
  by_cases h : rightsL l = false ∨ (32 < l.length ∨ 400 < sizeL l)
  · exact putfail_any l v w hv hl h
  · have h1 : rightsL l = true := by
      cases hr : rightsL l with
      | true => rfl
      | false => exact (h (.inl hr)).elim
    have h2 : ¬ (32 < l.length ∨ 400 < sizeL l) := fun hh => h (.inr hh)
    rw [putR_ok h1 h2]
    exact putok_any l v w hv hl h1 (by omega) (by omega)
end Go.Proofs.Ytcboeggfincakaa
