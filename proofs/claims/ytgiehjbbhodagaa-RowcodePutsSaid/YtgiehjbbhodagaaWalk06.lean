/- The statements of chapter 06: their walks. -/
import Derived.Test.YtgiehjbbhodagaaRGetG06
import Derived.Test.YtgiehjbbhodagaaOrd
namespace Go.Proofs.Ytgiehjbbhodagaa
set_option linter.unusedVariables false
set_option linter.unusedSimpArgs false
open Go.RowKit Go.Sort
open Oct (S beN putL U I getI)
theorem vbool_t (w : World) : Calls Try.prog 18 #[.bool true] w (Ret (.agg #[.int .i64 1, .int .i64 1, .string ⟨#[]⟩]) w) := by
  have hR := Blk.new w #[.int .i64 0, .int .i64 0, .string ⟨#[]⟩] 26
  go_enter Try.func18, Try.ntmps18
  go_wp2_with fail
  exact bodyPost_ret (v := .agg #[.int .i64 1, .int .i64 1, .string ⟨#[]⟩]) (by simp [results, Try.results18, go_sem]) rfl ⟨rfl, ((Below.refl _ _).alloc (Nat.le_refl _) _).alloc (by simp) _⟩
theorem vnum_any (n : Int) (w : World) : Calls Try.prog 19 #[.int .i64 n] w (Ret (.agg #[.int .i64 2, .int .i64 n, .string ⟨#[]⟩]) w) := by
  go_enter Try.func19, Try.ntmps19
  go_wp2_with fail
  exact bodyPost_ret (v := .agg #[.int .i64 2, .int .i64 n, .string ⟨#[]⟩]) (by simp [results, Try.results19, go_sem]) rfl ⟨rfl, (Below.refl _ _).alloc (Nat.le_refl _) _⟩
theorem vstr_any (s : ByteArray) (w : World) : Calls Try.prog 20 #[.string s] w (Ret (.agg #[.int .i64 3, .int .i64 0, .string s]) w) := by
  go_enter Try.func20, Try.ntmps20
  go_wp2_with fail
  exact bodyPost_ret (v := .agg #[.int .i64 3, .int .i64 0, .string s]) (by simp [results, Try.results20, go_sem]) rfl ⟨rfl, (Below.refl _ _).alloc (Nat.le_refl _) _⟩
theorem RowAt.blk {w : World} {g cap : Nat} {l : List Vl} (h : Blk w g (rowCells l).toArray 26) (hs : l.length ≤ 140737488351232) : RowAt w (.slice (some ⟨g, 0, none⟩) l.length cap) l :=
  ⟨hs, _, cap, rfl, fun _ => ⟨g, 0, rfl, h.lt, fun j hj i u hu => by rw [Nat.zero_add]; exact h.cell _ (by simpa using rowCells_get l j hj i u hu)⟩⟩
theorem RowAt.none (w : World) : RowAt w (.slice none 0 0) [] := ⟨by simp, _, 0, rfl, fun h => by simp at h⟩
theorem get_error_at {s : ByteArray} {e : Int} (h : getRow s = .error e) (w : World) (hs : s.size ≤ maxLen) : Calls Try.prog 13 #[.string s] w (Ret (.tuple #[.slice none 0 0, .int .i64 e]) w) :=
  (get_any s w hs).mono fun x w' ⟨hb, hp⟩ => by
    rcases hp with ⟨e2, h2, hx⟩ | ⟨l, v, h2, _⟩
    · rw [h] at h2; injection h2 with h2; subst h2; exact ⟨hx, hb⟩
    · rw [h] at h2; cases h2
theorem get_ok_at {s : ByteArray} {l : List Vl} (h : getRow s = .ok l) (w : World) (hs : s.size ≤ maxLen) : Calls Try.prog 13 #[.string s] w fun x w' => ∃ v, x = .returned (.tuple #[v, .int .i64 0]) ∧ Below w.heap.size w w' ∧ RowAt w' v l :=
  (get_any s w hs).mono fun x w' ⟨hb, hp⟩ => by
    rcases hp with ⟨e2, h2, hx⟩ | ⟨l2, v, h2, hx, hr⟩
    · rw [h] at h2; cases h2
    · rw [h] at h2; injection h2 with h2; subst h2; exact ⟨v, hx, hb, hr⟩
def row0 : List Vl := [⟨0, 0, ⟨#[]⟩⟩, ⟨1, 1, ⟨#[]⟩⟩, ⟨2, -2, ⟨#[]⟩⟩, ⟨3, 0, ⟨#[97, 98]⟩⟩]
theorem putR_row0 : putR row0 = ([4, 0, 1, 1, 2, 255, 255, 255, 255, 255, 255, 255, 254, 3, 2, 97, 98], 0) := by decide +kernel
theorem getRow_1 : getRow ⟨#[1, 4]⟩ = .error 2 := by rfl
theorem getRow_2 : getRow ⟨#[1]⟩ = .error 3 := by rfl
theorem getRow_3 : getRow ⟨#[33]⟩ = .error 4 := by rfl
theorem sizeR_nil : sizeR [] = 1 := by rfl
theorem awake06 (w : World) : Calls Try.prog 8 #[] w (Ret (.bool true) w) := by
  have HP := Lib.hid (fun v W h => put_any row0 v W h (rights_oks (by decide +kernel)))
  rw [putR_row0] at HP
  have HS := Lib.hid (fun W => size_any [] (.slice none 0 0) W (RowAt.none W) (fun v h => by simp at h))
  rw [sizeR_nil] at HS
  go_enter Try.func8, Try.ntmps8
  go_wp2_with fail
  refine (vbool_t _).mono ?_
  rintro x w1 ⟨rfl, hb⟩
  go_wp2_with fail
  refine (vnum_any _ _).mono ?_
  rintro x w2 ⟨rfl, hb2⟩
  replace hb := hb.next hb2; clear hb2
  go_wp2_with fail
  refine (vstr_any _ _).mono ?_
  rintro x w3 ⟨rfl, hb2⟩
  replace hb := hb.next hb2; clear hb2
  have hB := RowAt.blk (cap := 4) (l := row0) (Blk.new w3 (rowCells row0).toArray 26) (by decide)
  have hb0 : Below w3.heap.size w3 (w3.alloc (.cells (rowCells row0).toArray 26)) := (Below.refl _ _).alloc (Nat.le_refl _) _
  replace hb := hb.next hb0; clear hb0
  go_wp2_with fail
  refine (HP.out _ _ hB).mono ?_
  rintro x w4 ⟨rfl, hb2⟩
  replace hb := hb.next hb2; clear hb2
  go_wp2_with fail
  refine (get_error_at getRow_1 _ (by decide)).mono ?_
  rintro x w5 ⟨rfl, hb2⟩
  replace hb := hb.next hb2; clear hb2
  go_wp2_with fail
  refine (get_error_at getRow_2 _ (by decide)).mono ?_
  rintro x w6 ⟨rfl, hb2⟩
  replace hb := hb.next hb2; clear hb2
  go_wp2_with fail
  refine (get_error_at getRow_3 _ (by decide)).mono ?_
  rintro x w7 ⟨rfl, hb2⟩
  replace hb := hb.next hb2; clear hb2
  go_wp2_with fail
  refine (HS.out _).mono ?_
  rintro x w8 ⟨rfl, hb2⟩
  replace hb := hb.next hb2; clear hb2
  go_wp2_with fail
  go_ret
  exact ⟨rfl, hb⟩
theorem walk_RowcodePuts (l : List Vl) (v : Value) (w : World) (hv : RowAt w v l) (hl : Oks l) : Calls Try.prog 3 #[v] w (Ret (.bool true) w) := by
  have hsm := hv.small
  have HA := awake06
  by_cases h100 : 100 < l.length
  · obtain ⟨ao, cap, rfl⟩ := hv.nil
    clear hv
    go_enter Try.func3, Try.ntmps3
    go_wp2_with fail
    refine (HA _).mono ?_
    rintro x w1 ⟨rfl, hb⟩
    go_wp2_with fail
    go_ret
    exact ⟨rfl, hb⟩
  · have HP := Lib.hid (fun W h => put_any l v W h hl)
    have HR := Lib.hid (fun W h => rput_any l v W h hl)
    have HS := Lib.hid (fun W h => size_any l v W h hl)
    have HT := Lib.hid (fun W h => rsize_any l v W h hl)
    obtain ⟨q, hq⟩ : ∃ q, S (putR l).1 = q := ⟨_, rfl⟩
    obtain ⟨e, he⟩ : ∃ e, (putR l).2 = e := ⟨_, rfl⟩
    obtain ⟨z, hz⟩ : ∃ z, sizeR l = z := ⟨_, rfl⟩
    rw [hq, he] at HP HR
    rw [hz] at HS HT
    clear hq he hz
    have HV := Lib.hid hv
    obtain ⟨ao, cap, rfl⟩ := hv.nil
    clear hv
    go_enter Try.func3, Try.ntmps3
    go_wp2_with fail
    go_loopw [3] (fun i wr => ∃ k : Nat, k ≤ l.length ∧ i = .int .i64 k ∧ wr = w) (fun i _ => l.length - (intOf i).toNat)
    case atStart => exact ⟨0, Nat.zero_le _, rfl, rfl⟩
    case round =>
      obtain ⟨k, hk, rfl, rfl⟩ := hrel
      by_cases hlt : k < l.length
      · obtain ⟨b, off, cap', hv2, c0, c1, c2⟩ := HV.out.get k hlt
        injection hv2 with h1 h2 h3
        subst h1
        subst h3
        obtain ⟨u, hu⟩ : ∃ u, l[k] = u := ⟨_, rfl⟩
        have hok := (hl l[k] (List.getElem_mem hlt)).2.2
        unfold maxLen at hok
        rw [hu] at c0 c1 c2 hok
        clear hu hl
        by_cases h300 : 300 < u.s.size
        · go_wp2_with fail
          refine (HA _).mono ?_
          rintro x w1 ⟨rfl, hb⟩
          go_wp2_with fail
          go_ret
          exact ⟨rfl, hb⟩
        · go_wp2_with fail
          go_roundw
          case rel => exact ⟨k + 1, by omega, by go_num, trivial⟩
          case measure => simp [intOf]; omega
      · have hb := Below.refl wr.heap.size wr
        have hv := HV.out
        clear hl
        go_wp2_with fail
        refine (HP.out _ hv).mono ?_
        rintro x w1 ⟨rfl, hb2⟩
        replace hv := hv.below hb2
        replace hb := hb.next hb2; clear hb2
        go_wp2_with fail
        refine (HR.out _ hv).mono ?_
        rintro x w2 ⟨rfl, hb2⟩
        replace hv := hv.below hb2
        replace hb := hb.next hb2; clear hb2
        go_wp2_with fail
        refine (HA _).mono ?_
        rintro x w3 ⟨rfl, hb2⟩
        replace hv := hv.below hb2
        replace hb := hb.next hb2; clear hb2
        go_wp2_with fail
        refine (HS.out _ hv).mono ?_
        rintro x w4 ⟨rfl, hb2⟩
        replace hv := hv.below hb2
        replace hb := hb.next hb2; clear hb2
        go_wp2_with fail
        refine (HT.out _ hv).mono ?_
        rintro x w5 ⟨rfl, hb2⟩
        replace hb := hb.next hb2; clear hb2
        go_wp2_with fail
        go_ret
        exact ⟨by simp, hb⟩
end Go.Proofs.Ytgiehjbbhodagaa
