/- The statements of chapter 06: their walks. -/
import Derived.Test.YtgiehjbbhodagaaRGetG06
import Derived.Test.YtgiehjbbhodagaaOrd
namespace Go.Proofs.Ytgiehjbbhodagaa
set_option linter.unusedVariables false
set_option linter.unusedSimpArgs false
open Go.RowKit Go.Sort
open Oct (S beN putL U I getI)
theorem vbool_t (w : World) : Calls Try.prog 18 #[.bool true] w (Ret (.agg #[.int .i64 1, .int .i64 1, .string ⟨#[]⟩]) w) := by
  have hR := Blk.new w #[.int .i64 0, .int .i64 0, .string ⟨#[]⟩] 26
  go_enter Try.func18, Try.ntmps18
  go_wp2_with fail
  exact bodyPost_ret (v := .agg #[.int .i64 1, .int .i64 1, .string ⟨#[]⟩]) (by simp [results, Try.results18, go_sem]) rfl ⟨rfl, ((Below.refl _ _).alloc (Nat.le_refl _) _).alloc (by simp) _⟩
theorem vnum_any (n : Int) (w : World) : Calls Try.prog 19 #[.int .i64 n] w (Ret (.agg #[.int .i64 2, .int .i64 n, .string ⟨#[]⟩]) w) := by
  go_enter Try.func19, Try.ntmps19
  go_wp2_with fail
  exact bodyPost_ret (v := .agg #[.int .i64 2, .int .i64 n, .string ⟨#[]⟩]) (by simp [results, Try.results19, go_sem]) rfl ⟨rfl, (Below.refl _ _).alloc (Nat.le_refl _) _⟩
theorem vstr_any (s : ByteArray) (w : World) : Calls Try.prog 20 #[.string s] w (Ret (.agg #[.int .i64 3, .int .i64 0, .string s]) w) := by
  go_enter Try.func20, Try.ntmps20
  go_wp2_with fail
  exact bodyPost_ret (v := .agg #[.int .i64 3, .int .i64 0, .string s]) (by simp [results, Try.results20, go_sem]) rfl ⟨rfl, (Below.refl _ _).alloc (Nat.le_refl _) _⟩
theorem RowAt.blk {w : World} {g cap : Nat} {l : List Vl} (h : Blk w g (rowCells l).toArray 26) (hs : l.length ≤ 140737488351232) : RowAt w (.slice (some ⟨g, 0, none⟩) l.length cap) l :=
  ⟨hs, _, cap, rfl, fun _ => ⟨g, 0, rfl, h.lt, fun j hj i u hu => by rw [Nat.zero_add]; exact h.cell _ (by simpa using rowCells_get l j hj i u hu)⟩⟩
theorem RowAt.none (w : World) : RowAt w (.slice none 0 0) [] := ⟨by simp, _, 0, rfl, fun h => by simp at h⟩
theorem get_error_at {s : ByteArray} {e : Int} (h : getRow s = .error e) (w : World) (hs : s.size ≤ maxLen) : Calls Try.prog 13 #[.string s] w (Ret (.tuple #[.slice none 0 0, .int .i64 e]) w) :=
  (get_any s w hs).mono fun x w' ⟨hb, hp⟩ => by
    rcases hp with ⟨e2, h2, hx⟩ | ⟨l, v, h2, _⟩
    · rw [h] at h2; injection h2 with h2; subst h2; exact ⟨hx, hb⟩
    · rw [h] at h2; cases h2
theorem get_ok_at {s : ByteArray} {l : List Vl} (h : getRow s = .ok l) (w : World) (hs : s.size ≤ maxLen) : Calls Try.prog 13 #[.string s] w fun x w' => ∃ v, x = .returned (.tuple #[v, .int .i64 0]) ∧ Below w.heap.size w w' ∧ RowAt w' v l :=
  (get_any s w hs).mono fun x w' ⟨hb, hp⟩ => by
    rcases hp with ⟨e2, h2, hx⟩ | ⟨l2, v, h2, hx, hr⟩
    · rw [h] at h2; cases h2
    · rw [h] at h2; injection h2 with h2; subst h2; exact ⟨v, hx, hb, hr⟩
def row0 : List Vl := [⟨0, 0, ⟨#[]⟩⟩, ⟨1, 1, ⟨#[]⟩⟩, ⟨2, -2, ⟨#[]⟩⟩, ⟨3, 0, ⟨#[97, 98]⟩⟩]
theorem putR_row0 : putR row0 = ([4, 0, 1, 1, 2, 255, 255, 255, 255, 255, 255, 255, 254, 3, 2, 97, 98], 0) := by decide +kernel
theorem getRow_1 : getRow ⟨#[1, 4]⟩ = .error 2 := by rfl
theorem getRow_2 : getRow ⟨#[1]⟩ = .error 3 := by rfl
theorem getRow_3 : getRow ⟨#[33]⟩ = .error 4 := by rfl
theorem sizeR_nil : sizeR [] = 1 := by rfl
theorem awake06 (w : World) : Calls Try.prog 8 #[] w (Ret (.bool true) w) := by
  have HP := Lib.hid (fun v W h => put_any row0 v W h (rights_oks (by decide +kernel)))
  rw [putR_row0] at HP
  have HS := Lib.hid (fun W => size_any [] (.slice none 0 0) W (RowAt.none W) (fun v h => by simp at h))
  rw [sizeR_nil] at HS
  go_enter Try.func8, Try.ntmps8
  go_wp2_with fail
  refine (vbool_t _).mono ?_
  rintro x w1 ⟨rfl, hb⟩
  go_wp2_with fail
  refine (vnum_any _ _).mono ?_
  rintro x w2 ⟨rfl, hb2⟩
  replace hb := hb.next hb2; clear hb2
  go_wp2_with fail
  refine (vstr_any _ _).mono ?_
  rintro x w3 ⟨rfl, hb2⟩
  replace hb := hb.next hb2; clear hb2
  have hB := RowAt.blk (cap := 4) (l := row0) (Blk.new w3 (rowCells row0).toArray 26) (by decide)
  have hb0 : Below w3.heap.size w3 (w3.alloc (.cells (rowCells row0).toArray 26)) := (Below.refl _ _).alloc (Nat.le_refl _) _
  replace hb := hb.next hb0; clear hb0
  go_wp2_with fail
  refine (HP.out _ _ hB).mono ?_
  rintro x w4 ⟨rfl, hb2⟩
  replace hb := hb.next hb2; clear hb2
  go_wp2_with fail
  refine (get_error_at getRow_1 _ (by decide)).mono ?_
  rintro x w5 ⟨rfl, hb2⟩
  replace hb := hb.next hb2; clear hb2
  go_wp2_with fail
  refine (get_error_at getRow_2 _ (by decide)).mono ?_
  rintro x w6 ⟨rfl, hb2⟩
  replace hb := hb.next hb2; clear hb2
  go_wp2_with fail
  refine (get_error_at getRow_3 _ (by decide)).mono ?_
  rintro x w7 ⟨rfl, hb2⟩
  replace hb := hb.next hb2; clear hb2
  go_wp2_with fail
  refine (HS.out _).mono ?_
  rintro x w8 ⟨rfl, hb2⟩
  replace hb := hb.next hb2; clear hb2
  go_wp2_with fail
  go_ret
  exact ⟨rfl, hb⟩
theorem walk_RowcodePuts (l : List Vl) (v : Value) (w : World) (hv : RowAt w v l) (hl : Oks l) : Calls Try.prog 3 #[v] w (Ret (.bool true) w) := by
  have hsm := hv.small
  have HA := awake06
  by_cases h100 : 100 < l.length
  · obtain ⟨ao, cap, rfl⟩ := hv.nil
    clear hv
    go_enter Try.func3, Try.ntmps3
    go_wp2_with fail
    refine (HA _).mono ?_
    rintro x w1 ⟨rfl, hb⟩
    go_wp2_with fail
    go_ret
    exact ⟨rfl, hb⟩
  · have HP := Lib.hid (fun W h => put_any l v W h hl)
    have HR := Lib.hid (fun W h => rput_any l v W h hl)
    have HS := Lib.hid (fun W h => size_any l v W h hl)
    have HT := Lib.hid (fun W h => rsize_any l v W h hl)
    obtain ⟨q, hq⟩ : ∃ q, S (putR l).1 = q := ⟨_, rfl⟩
    obtain ⟨e, he⟩ : ∃ e, (putR l).2 = e := ⟨_, rfl⟩
    obtain ⟨z, hz⟩ : ∃ z, sizeR l = z := ⟨_, rfl⟩
    rw [hq, he] at HP HR
    rw [hz] at HS HT
    clear hq he hz
    have HV := Lib.hid hv
    obtain ⟨ao, cap, rfl⟩ := hv.nil
    clear hv
    go_enter Try.func3, Try.ntmps3
    go_wp2_with fail
    go_loopw [3] (fun i wr => ∃ k : Nat, k ≤ l.length ∧ i = .int .i64 k ∧ wr = w) (fun i _ => l.length - (intOf i).toNat)
    case atStart => exact ⟨0, Nat.zero_le _, rfl, rfl⟩
    case round =>
      obtain ⟨k, hk, rfl, rfl⟩ := hrel
      by_cases hlt : k < l.length
      · obtain ⟨b, off, cap', hv2, c0, c1, c2⟩ := HV.out.get k hlt
        injection hv2 with h1 h2 h3
        subst h1
        subst h3
        obtain ⟨u, hu⟩ : ∃ u, l[k] = u := ⟨_, rfl⟩
        have hok := (hl l[k] (List.getElem_mem hlt)).2.2
        unfold maxLen at hok
        rw [hu] at c0 c1 c2 hok
        clear hu hl
        by_cases h300 : 300 < u.s.size
        · go_wp2_with fail
          refine (HA _).mono ?_
          rintro x w1 ⟨rfl, hb⟩
          go_wp2_with fail
          go_ret
          exact ⟨rfl, hb⟩
        · go_wp2_with fail
          go_roundw
          case rel => exact ⟨k + 1, by omega, by go_num, trivial⟩
          case measure => simp [intOf]; omega
      · have hb := Below.refl wr.heap.size wr
        have hv := HV.out
        clear hl
        go_wp2_with fail
        refine (HP.out _ hv).mono ?_
        rintro x w1 ⟨rfl, hb2⟩
        replace hv := hv.below hb2
        replace hb := hb.next hb2; clear hb2
        go_wp2_with fail
        refine (HR.out _ hv).mono ?_
        rintro x w2 ⟨rfl, hb2⟩
        replace hv := hv.below hb2
        replace hb := hb.next hb2; clear hb2
        go_wp2_with fail
        refine (HA _).mono ?_
        rintro x w3 ⟨rfl, hb2⟩
        replace hv := hv.below hb2
        replace hb := hb.next hb2; clear hb2
        go_wp2_with fail
        refine (HS.out _ hv).mono ?_
        rintro x w4 ⟨rfl, hb2⟩
        replace hv := hv.below hb2
        replace hb := hb.next hb2; clear hb2
        go_wp2_with fail
        refine (HT.out _ hv).mono ?_
        rintro x w5 ⟨rfl, hb2⟩
        replace hb := hb.next hb2; clear hb2
        go_wp2_with fail
        go_ret
        exact ⟨by simp, hb⟩
theorem rget_error_at {s : ByteArray} {e : Int} (h : getRow s = .error e) (w : World) (hs : s.size ≤ maxLen) : Calls Try.prog 15 #[.string s] w (Ret (.tuple #[.slice none 0 0, .int .i64 e]) w) :=
  (rget_any s w hs).mono fun x w' ⟨hb, hp⟩ => by
    rcases hp with ⟨e2, h2, hx⟩ | ⟨l, v, h2, _⟩
    · rw [h] at h2; injection h2 with h2; subst h2; exact ⟨hx, hb⟩
    · rw [h] at h2; cases h2
theorem rget_ok_at {s : ByteArray} {l : List Vl} (h : getRow s = .ok l) (w : World) (hs : s.size ≤ maxLen) : Calls Try.prog 15 #[.string s] w fun x w' => ∃ v, x = .returned (.tuple #[v, .int .i64 0]) ∧ Below w.heap.size w w' ∧ RowAt w' v l :=
  (rget_any s w hs).mono fun x w' ⟨hb, hp⟩ => by
    rcases hp with ⟨e2, h2, hx⟩ | ⟨l2, v, h2, hx, hr⟩
    · rw [h] at h2; cases h2
    · rw [h] at h2; injection h2 with h2; subst h2; exact ⟨v, hx, hb, hr⟩
theorem ordL_self (l : List Vl) : ordL l l = 0 := (ordL_zero l l).2 rfl
theorem walk_RowcodeGets (s : ByteArray) (w : World) (hs : s.size ≤ 140737488351232) : Calls Try.prog 6 #[.string s] w (Ret (.bool true) w) := by
  have HA := awake06
  by_cases h600 : 600 < s.size
  · have hb := Below.refl w.heap.size w
    go_enter Try.func6, Try.ntmps6
    go_wp2_with fail
    refine (HA _).mono ?_
    rintro x w1 ⟨rfl, hb2⟩
    replace hb := hb.next hb2; clear hb2
    go_wp2_with fail
    go_ret
    exact ⟨rfl, hb⟩
  · have hm : Hid (s.size ≤ maxLen) := by show _ ≤ _; unfold maxLen; omega
    have hb := Below.refl w.heap.size w
    cases hg : getRow s with
    | error e =>
      have HG := Lib.hid (fun W => get_error_at hg W hm.out)
      have HR := Lib.hid (fun W => rget_error_at hg W hm.out)
      have HO := Lib.hid (fun W => orders_any [] [] (.slice none 0 0) (.slice none 0 0) W (RowAt.none W) (RowAt.none W))
      rw [ordL_self] at HO
      clear hg
      go_enter Try.func6, Try.ntmps6
      go_wp2_with fail
      refine (HG.out _).mono ?_
      rintro x w1 ⟨rfl, hb2⟩
      replace hb := hb.next hb2; clear hb2
      go_wp2_with fail
      refine (HR.out _).mono ?_
      rintro x w2 ⟨rfl, hb2⟩
      replace hb := hb.next hb2; clear hb2
      go_wp2_with fail
      refine (HA _).mono ?_
      rintro x w3 ⟨rfl, hb2⟩
      replace hb := hb.next hb2; clear hb2
      go_wp2_with fail
      refine (HO.out _).mono ?_
      rintro x w4 ⟨rfl, hb2⟩
      replace hb := hb.next hb2; clear hb2
      go_wp2_with fail
      go_ret
      exact ⟨by simp, hb⟩
    | ok l =>
      have HG := Lib.hid (fun W => get_ok_at hg W hm.out)
      have HR := Lib.hid (fun W => rget_ok_at hg W hm.out)
      have HO := Lib.hid (fun u v W h1 h2 => orders_any l l u v W h1 h2)
      rw [ordL_self] at HO
      clear hg
      go_enter Try.func6, Try.ntmps6
      go_wp2_with fail
      refine (HG.out _).mono ?_
      rintro x w1 ⟨u, rfl, hb2, hu⟩
      replace hb := hb.next hb2; clear hb2
      go_wp2_with fail
      refine (HR.out _).mono ?_
      rintro x w2 ⟨v, rfl, hb2, hv⟩
      replace hu := hu.below hb2
      replace hb := hb.next hb2; clear hb2
      go_wp2_with fail
      refine (HA _).mono ?_
      rintro x w3 ⟨rfl, hb2⟩
      replace hu := hu.below hb2
      replace hv := hv.below hb2
      replace hb := hb.next hb2; clear hb2
      go_wp2_with fail
      refine (HO.out _ _ _ hu hv).mono ?_
      rintro x w4 ⟨rfl, hb2⟩
      replace hb := hb.next hb2; clear hb2
      go_wp2_with fail
      go_ret
      exact ⟨by simp, hb⟩
theorem ref_rights_at (l : List Vl) (h : rightsL l = true) (v : Value) (w : World) (hv : RowAt w v l) : Calls Try.prog 14 #[v] w (Ret (.bool true) w) := by
  have := rrights_any l v w hv (rights_oks h)
  rw [h] at this; exact this
theorem put_at_row {l : List Vl} {q : List UInt8} (h : putR l = (q, 0)) (v : Value) (w : World) (hv : RowAt w v l) : Calls Try.prog 9 #[v] w (Ret (.tuple #[.string (S q), .int .i64 0]) w) := by
  have := put_any l v w hv (rights_oks (putR_zero h).1)
  rw [h] at this; exact this
theorem walk_RowcodeOne (s : ByteArray) (w : World) (hs : s.size ≤ 140737488351232) : Calls Try.prog 4 #[.string s] w (Ret (.bool true) w) := by
  have HA := awake06
  have hb := Below.refl w.heap.size w
  by_cases h600 : 600 < s.size
  · skip
    go_enter Try.func4, Try.ntmps4
    go_wp2_with fail
    refine (HA _).mono ?_
    rintro x w1 ⟨rfl, hb2⟩
    replace hb := hb.next hb2; clear hb2
    go_wp2_with fail
    go_ret
    exact ⟨rfl, hb⟩
  · have hm : Hid (s.size ≤ maxLen) := by show _ ≤ _; unfold maxLen; omega
    cases hg : getRow s with
    | error e =>
      have HG := Lib.hid (fun W => get_error_at hg W hm.out)
      rcases getRow_error hg with rfl | rfl | rfl
      all_goals clear hg
      · skip
        go_enter Try.func4, Try.ntmps4
        go_wp2_with fail
        refine (HG.out _).mono ?_
        rintro x w1 ⟨rfl, hb2⟩
        replace hb := hb.next hb2; clear hb2
        go_wp2_with fail
        refine (HA _).mono ?_
        rintro x w2 ⟨rfl, hb2⟩
        replace hb := hb.next hb2; clear hb2
        go_wp2_with fail
        go_ret
        exact ⟨by simp, hb⟩
      · skip
        go_enter Try.func4, Try.ntmps4
        go_wp2_with fail
        refine (HG.out _).mono ?_
        rintro x w1 ⟨rfl, hb2⟩
        replace hb := hb.next hb2; clear hb2
        go_wp2_with fail
        refine (HA _).mono ?_
        rintro x w2 ⟨rfl, hb2⟩
        replace hb := hb.next hb2; clear hb2
        go_wp2_with fail
        go_ret
        exact ⟨by simp, hb⟩
      · skip
        go_enter Try.func4, Try.ntmps4
        go_wp2_with fail
        refine (HG.out _).mono ?_
        rintro x w1 ⟨rfl, hb2⟩
        replace hb := hb.next hb2; clear hb2
        go_wp2_with fail
        refine (HA _).mono ?_
        rintro x w2 ⟨rfl, hb2⟩
        replace hb := hb.next hb2; clear hb2
        go_wp2_with fail
        go_ret
        exact ⟨by simp, hb⟩
    | ok l =>
      have HG := Lib.hid (fun W => get_ok_at hg W hm.out)
      have hp := getRow_back hg
      have HP := Lib.hid (fun v W h => put_at_row hp v W h)
      have HR := Lib.hid (fun v W h => ref_rights_at l (putR_zero hp).1 v W h)
      rw [Oct.S_of] at HP
      clear hg hp
      go_enter Try.func4, Try.ntmps4
      go_wp2_with fail
      refine (HG.out _).mono ?_
      rintro x w1 ⟨u, rfl, hb2, hu⟩
      replace hb := hb.next hb2; clear hb2
      go_wp2_with fail
      refine (HP.out _ _ hu).mono ?_
      rintro x w2 ⟨rfl, hb2⟩
      replace hu := hu.below hb2
      replace hb := hb.next hb2; clear hb2
      go_wp2_with fail
      refine (HA _).mono ?_
      rintro x w3 ⟨rfl, hb2⟩
      replace hu := hu.below hb2
      replace hb := hb.next hb2; clear hb2
      go_wp2_with fail
      refine (HR.out _ _ hu).mono ?_
      rintro x w4 ⟨rfl, hb2⟩
      replace hb := hb.next hb2; clear hb2
      go_wp2_with fail
      go_ret
      exact ⟨by simp, hb⟩
theorem putR_err {l : List Vl} (h : (putR l).2 ≠ 0) : (putR l).1 = [] := by
  unfold putR at *
  split
  · rfl
  · rename_i h1
    split
    · rfl
    · rename_i h2; rw [if_neg h1, if_neg h2] at h; exact (h rfl).elim
theorem put_gen (l : List Vl) (hl : Oks l) (q : List UInt8) (e : Int) (h : putR l = (q, e)) (v : Value) (w : World) (hv : RowAt w v l) : Calls Try.prog 9 #[v] w (Ret (.tuple #[.string (S q), .int .i64 e]) w) := by
  have := put_any l v w hv hl
  rw [h] at this; exact this
theorem some_bytes {s : ByteArray} (h : 0 < s.size) : s.toList.isEmpty = false := by
  rw [ByteArray.toList_eq]
  cases hs : s.data.toList with
  | nil => have : s.data.toList.length = s.size := by simp
           rw [hs] at this; simp at this; omega
  | cons => rfl
set_option maxRecDepth 100000 in
theorem walk_RowcodeCut (l : List Vl) (v : Value) (c m : Int) (w : World) (hv : RowAt w v l) (hl : Oks l) (hc : (Lit.int .u16 c).wf = true) (hm : (Lit.int .u8 m).wf = true) :
    Calls Try.prog 5 #[v, .int .u16 c, .int .u8 m] w (Ret (.bool true) w) := by
  have HA := awake06
  have hb := Below.refl w.heap.size w
  obtain ⟨q, e, hp⟩ : ∃ q e, putR l = (q, e) := ⟨_, _, rfl⟩
  have HP := Lib.hid (put_gen l hl q e hp v w hv)
  obtain ⟨ao, cap, rfl⟩ := hv.nil
  by_cases he : e = 0
  · subst he
    obtain ⟨h1, h2, h3, h4⟩ := putR_zero hp
    have hlen : q.length = sizeL l := by rw [h4, rowL_len]
    have h0 : 1 ≤ sizeL l := by unfold sizeL; omega
    obtain ⟨c', rfl⟩ : ∃ c' : Nat, c = c' := ⟨c.toNat, by have := bounds_u16 hc; omega⟩
    have hc2 : c' < 65536 := by have := bounds_u16 hc; omega
    obtain ⟨s, HS⟩ : ∃ s, Hid (s = S q) := ⟨_, rfl⟩
    have hsz : s.size = q.length := by rw [HS.out, Oct.S_size]
    have hs1 : 0 < s.size := by omega
    have hs2 : s.size ≤ 400 := by omega
    have hmod : c' % s.size < s.size := Nat.mod_lt _ hs1
    have HG1 : Hid (getRow (s.extract 0 (c' % s.size)) = .error 3) := by
      show _ = _
      have : s.extract 0 (c' % s.size) = S (q.take (c' % s.size)) := by
        rw [HS.out]; apply ByteArray.ext; apply Array.toList_inj.1; simp [S]
      rw [this]; exact getRow_cut hp (by omega)
    obtain ⟨M, HM⟩ : ∃ M : UInt8, Hid (m = (M.toNat : Int)) := ⟨UInt8.ofNat m.toNat, by have := bounds_u8 hm; show _ = _; rw [Oct.ofNat_toNat]; omega⟩
    have HG2 : Hid (getRow (s ++ ⟨#[M]⟩) = .error (if q.length < 400 then 2 else 4)) := by
      show _ = _
      have : s ++ ⟨#[M]⟩ = S (q ++ [M]) := by rw [HS.out]; exact Oct.S_append q [M]
      rw [this]; exact getRow_more M hp
    have HGA := Lib.hid (fun W => get_error_at HG1.out W (by unfold maxLen; simp; omega))
    rw [← HS.out] at HP
    by_cases h4 : q.length < 400
    · rw [if_pos h4] at HG2
      have HGB := Lib.hid (fun W => get_error_at HG2.out W (by have e1 : (⟨#[M]⟩ : ByteArray).size = 1 := rfl; unfold maxLen; rw [ByteArray.size_append, e1]; omega))
      have hlt : decide ((s.size : Int) < 400) = true := decide_eq_true (by omega)
      have hem := some_bytes hs1
      clear hp hlen h0 h1 h2 h3 h4 hsz hm hc
      go_enter Try.func5, Try.ntmps5
      go_wp2_with fail
      refine (HP.out).mono ?_
      rintro x w1 ⟨rfl, hb2⟩
      replace hb := hb.next hb2; clear hb2
      go_wp2_with fail
      refine (HGA.out _).mono ?_
      rintro x w2 ⟨rfl, hb2⟩
      replace hb := hb.next hb2; clear hb2
      go_wp2_with (first | ((with_reducible refine wpList_concat _ ?_); refine ⟨_, _, rfl, rfl, ?_, ?_⟩; (rw [show (ByteArray.mk #[M]).size = 1 from rfl]; omega)) | ((with_reducible refine wpList_stringOf 36 9 5 Try.underlying36 Try.underlying5 Try.underlying9 [M] ?_); refine ⟨_, _, _, rfl, rfl, bytesAt_at _ _ _ _ _ rfl HM.out, ?_⟩))
      refine (HGB.out _).mono ?_
      rintro x w3 ⟨rfl, hb2⟩
      replace hb := hb.next (below_new hb2); clear hb2
      go_wp2_with fail
      refine (HA _).mono ?_
      rintro x w4 ⟨rfl, hb2⟩
      replace hb := hb.next hb2; clear hb2
      go_wp2_with fail
      go_ret
      exact ⟨by simp, hb⟩
    · have h400 : q.length = 400 := by omega
      rw [if_neg h4] at HG2
      have HGB := Lib.hid (fun W => get_error_at HG2.out W (by have e1 : (⟨#[M]⟩ : ByteArray).size = 1 := rfl; unfold maxLen; rw [ByteArray.size_append, e1]; omega))
      have hlt : decide ((s.size : Int) < 400) = false := decide_eq_false (by omega)
      have heq : ((s.size : Int) == 400) = true := by rw [beq_iff_eq]; omega
      have hem := some_bytes hs1
      clear hp hlen h0 h1 h2 h3 h4 hsz hm hc h400
      go_enter Try.func5, Try.ntmps5
      go_wp2_with fail
      refine (HP.out).mono ?_
      rintro x w1 ⟨rfl, hb2⟩
      replace hb := hb.next hb2; clear hb2
      go_wp2_with fail
      refine (HGA.out _).mono ?_
      rintro x w2 ⟨rfl, hb2⟩
      replace hb := hb.next hb2; clear hb2
      go_wp2_with (first | ((with_reducible refine wpList_concat _ ?_); refine ⟨_, _, rfl, rfl, ?_, ?_⟩; (rw [show (ByteArray.mk #[M]).size = 1 from rfl]; omega)) | ((with_reducible refine wpList_stringOf 36 9 5 Try.underlying36 Try.underlying5 Try.underlying9 [M] ?_); refine ⟨_, _, _, rfl, rfl, bytesAt_at _ _ _ _ _ rfl HM.out, ?_⟩))
      refine (HGB.out _).mono ?_
      rintro x w3 ⟨rfl, hb2⟩
      replace hb := hb.next (below_new hb2); clear hb2
      go_wp2_with fail
      refine (HA _).mono ?_
      rintro x w4 ⟨rfl, hb2⟩
      replace hb := hb.next hb2; clear hb2
      go_wp2_with fail
      go_ret
      exact ⟨by simp, hb⟩
  · have hq : q = [] := by have := putR_err (l := l) (by rw [hp]; exact he); rw [hp] at this; exact this
    subst hq
    have he0 : (e == 0) = false := by rw [beq_eq_false_iff_ne]; exact he
    have hne : (e != 0) = true := by rw [bne_iff_ne]; exact he
    clear hp he hm hc hl hv
    go_enter Try.func5, Try.ntmps5
    go_wp2_with fail
    refine (HP.out).mono ?_
    rintro x w1 ⟨rfl, hb2⟩
    replace hb := hb.next hb2; clear hb2
    go_wp2_with fail
    refine (HA _).mono ?_
    rintro x w2 ⟨rfl, hb2⟩
    replace hb := hb.next hb2; clear hb2
    go_wp2_with fail
    go_ret
    exact ⟨by simp, hb⟩
theorem rights_at (l : List Vl) (hl : Oks l) (b : Bool) (h : rightsL l = b) (v : Value) (w : World) (hv : RowAt w v l) : Calls Try.prog 17 #[v] w (Ret (.bool b) w) := by
  have := rights_any l v w hv hl
  rw [h] at this; exact this
theorem toList_ne {p q : List UInt8} (h : p ≠ q) : ((S p).toList == (S q).toList) = false := by
  rw [ByteArray.toList_eq, ByteArray.toList_eq, beq_eq_false_iff_ne]; exact h
set_option maxRecDepth 100000 in
theorem back_bad (l l2 : List Vl) (v v2 : Value) (w : World) (hv : RowAt w v l) (hl : Oks l) (hv2 : RowAt w v2 l2) (hl2 : Oks l2) (q : List UInt8) (e : Int) (hp : putR l = (q, e)) (he : e ≠ 0) :
    Calls Try.prog 7 #[v, v2] w (Ret (.bool true) w) := by
  have HA := awake06
  have hb := Below.refl w.heap.size w
  obtain ⟨u, f, hp2⟩ : ∃ u f, putR l2 = (u, f) := ⟨_, _, rfl⟩
  have HP := Lib.hid (fun W h => put_gen l hl q e hp v W h)
  have HP2 := Lib.hid (fun W h => put_gen l2 hl2 u f hp2 v2 W h)
  have hq : q = [] := by have := putR_err (l := l) (by rw [hp]; exact he); rw [hp] at this; exact this
  subst hq
  have he0 : (e == 0) = false := by rw [beq_eq_false_iff_ne]; exact he
  have hne : (e != 0) = true := by rw [bne_iff_ne]; exact he
  cases hr : rightsL l with
  | false =>
    have HR := Lib.hid (fun W h => rights_at l hl _ hr v W h)
    have he1 : e = 1 := by rw [putR_arg hr] at hp; injection hp with _ h; exact h.symm
    subst he1
    obtain ⟨ao, cap, rfl⟩ := hv.nil
    obtain ⟨ao2, cap2, rfl⟩ := hv2.nil
    clear hp hp2 he hl hl2 he0 hne hr
    go_enter Try.func7, Try.ntmps7
    go_wp2_with fail
    refine (HP.out _ hv).mono ?_
    rintro x w1 ⟨rfl, hb2⟩
    replace hv := hv.below hb2
    replace hv2 := hv2.below hb2
    replace hb := hb.next hb2; clear hb2
    go_wp2_with fail
    refine (HP2.out _ hv2).mono ?_
    rintro x w2 ⟨rfl, hb2⟩
    replace hv := hv.below hb2
    replace hb := hb.next hb2; clear hb2
    go_wp2_with fail
    refine (HA _).mono ?_
    rintro x w3 ⟨rfl, hb2⟩
    replace hv := hv.below hb2
    replace hb := hb.next hb2; clear hb2
    go_wp2_with fail
    refine (HR.out _ hv).mono ?_
    rintro x w4 ⟨rfl, hb2⟩
    replace hb := hb.next hb2; clear hb2
    go_wp2_with fail
    go_ret
    exact ⟨by simp, hb⟩
  | true =>
    have HR := Lib.hid (fun W h => rights_at l hl _ hr v W h)
    have he1 : (e == 1) = false := by
      rw [beq_eq_false_iff_ne]; intro h; subst h
      unfold putR at hp
      rw [if_neg (by rw [hr]; decide)] at hp
      split at hp
      · injection hp with _ h; cases h
      · injection hp with _ h; cases h
    obtain ⟨ao, cap, rfl⟩ := hv.nil
    obtain ⟨ao2, cap2, rfl⟩ := hv2.nil
    clear hp hp2 he hl hl2 hr
    go_enter Try.func7, Try.ntmps7
    go_wp2_with fail
    refine (HP.out _ hv).mono ?_
    rintro x w1 ⟨rfl, hb2⟩
    replace hv := hv.below hb2
    replace hv2 := hv2.below hb2
    replace hb := hb.next hb2; clear hb2
    go_wp2_with fail
    refine (HP2.out _ hv2).mono ?_
    rintro x w2 ⟨rfl, hb2⟩
    replace hv := hv.below hb2
    replace hb := hb.next hb2; clear hb2
    go_wp2_with fail
    refine (HA _).mono ?_
    rintro x w3 ⟨rfl, hb2⟩
    replace hv := hv.below hb2
    replace hb := hb.next hb2; clear hb2
    go_wp2_with fail
    refine (HR.out _ hv).mono ?_
    rintro x w4 ⟨rfl, hb2⟩
    replace hb := hb.next hb2; clear hb2
    go_wp2_with fail
    go_ret
    exact ⟨by simp, hb⟩
set_option maxRecDepth 100000 in
theorem back_f (l l2 : List Vl) (v v2 : Value) (w : World) (hv : RowAt w v l) (hl : Oks l) (hv2 : RowAt w v2 l2) (hl2 : Oks l2) (q u : List UInt8) (f : Int) (hp : putR l = (q, 0)) (hp2 : putR l2 = (u, f)) (hf : f ≠ 0) :
    Calls Try.prog 7 #[v, v2] w (Ret (.bool true) w) := by
  have HA := awake06
  have hb := Below.refl w.heap.size w
  have HP := Lib.hid (fun W h => put_gen l hl q 0 hp v W h)
  have HP2 := Lib.hid (fun W h => put_gen l2 hl2 u f hp2 v2 W h)
  obtain ⟨h1, h2, h3, h4⟩ := putR_zero hp
  have hlen : q.length = sizeL l := by rw [h4, rowL_len]
  have HG := Lib.hid (fun W => get_ok_at (getRow_fwd hp) W (by rw [Oct.S_size]; unfold maxLen; omega))
  have HO := Lib.hid (fun r W h1 h2 => orders_any l l r v W h1 h2)
  have HO2 := Lib.hid (fun W h1 h2 => orders_any l l2 v v2 W h1 h2)
  have HS := Lib.hid (fun W h => size_any l v W h hl)
  rw [ordL_self] at HO
  rw [sizeR_yes h1] at HS
  have hsz : (S q).size = sizeL l := by rw [Oct.S_size, hlen]
  have HSZ := Lib.hid hsz
  obtain ⟨s, HSS⟩ : ∃ s, Hid (S q = s) := ⟨_, rfl⟩
  rw [HSS.out] at HP HG HSZ
  have hss : (s.size : Int) = ((sizeL l : Nat) : Int) := by rw [HSZ.out]
  rw [← hss] at HS
  have hs4 : s.size ≤ 400 := by rw [HSZ.out]; exact h3
  have hf0 : (f == 0) = false := by rw [beq_eq_false_iff_ne]; exact hf
  have hfn : (f != 0) = true := by rw [bne_iff_ne]; exact hf
  clear hf
  obtain ⟨ao, cap, rfl⟩ := hv.nil
  obtain ⟨ao2, cap2, rfl⟩ := hv2.nil
  clear hp hp2 hl hl2 h1 h3 h4 hlen hsz hss
  go_enter Try.func7, Try.ntmps7
  go_wp2_with fail
  refine (HP.out _ hv).mono ?_
  rintro x w1 ⟨rfl, hb2⟩
  replace hv := hv.below hb2
  replace hv2 := hv2.below hb2
  replace hb := hb.next hb2; clear hb2
  go_wp2_with fail
  refine (HP2.out _ hv2).mono ?_
  rintro x w2 ⟨rfl, hb2⟩
  replace hv := hv.below hb2
  replace hv2 := hv2.below hb2
  replace hb := hb.next hb2; clear hb2
  go_wp2_with fail
  refine (HG.out _).mono ?_
  rintro x w3 ⟨r, rfl, hb2, hr⟩
  replace hv := hv.below hb2
  replace hv2 := hv2.below hb2
  replace hb := hb.next hb2; clear hb2
  go_wp2_with fail
  refine (HO.out _ _ hr hv).mono ?_
  rintro x w4 ⟨rfl, hb2⟩
  replace hv := hv.below hb2
  replace hv2 := hv2.below hb2
  replace hb := hb.next hb2; clear hb2
  go_wp2_with fail
  refine (HS.out _ hv).mono ?_
  rintro x w5 ⟨rfl, hb2⟩
  replace hv := hv.below hb2
  replace hv2 := hv2.below hb2
  replace hb := hb.next hb2; clear hb2
  go_wp2_with fail
  refine (HA _).mono ?_
  rintro x w6 ⟨rfl, hb2⟩
  replace hv := hv.below hb2
  replace hv2 := hv2.below hb2
  replace hb := hb.next hb2; clear hb2
  go_wp2_with fail
  go_ret
  exact ⟨by simp, hb⟩
set_option maxRecDepth 100000 in
theorem back_same (l l2 : List Vl) (v v2 : Value) (w : World) (hv : RowAt w v l) (hl : Oks l) (hv2 : RowAt w v2 l2) (hl2 : Oks l2) (q u : List UInt8) (f : Int) (hp : putR l = (q, 0)) (hp2 : putR l2 = (u, f)) (hf : f = 0) (hE : l = l2) :
    Calls Try.prog 7 #[v, v2] w (Ret (.bool true) w) := by
  have HA := awake06
  have hb := Below.refl w.heap.size w
  have HP := Lib.hid (fun W h => put_gen l hl q 0 hp v W h)
  have HP2 := Lib.hid (fun W h => put_gen l2 hl2 u f hp2 v2 W h)
  obtain ⟨h1, h2, h3, h4⟩ := putR_zero hp
  have hlen : q.length = sizeL l := by rw [h4, rowL_len]
  have HG := Lib.hid (fun W => get_ok_at (getRow_fwd hp) W (by rw [Oct.S_size]; unfold maxLen; omega))
  have HO := Lib.hid (fun r W h1 h2 => orders_any l l r v W h1 h2)
  have HO2 := Lib.hid (fun W h1 h2 => orders_any l l2 v v2 W h1 h2)
  have HS := Lib.hid (fun W h => size_any l v W h hl)
  rw [ordL_self] at HO
  rw [sizeR_yes h1] at HS
  subst hE
  subst hf
  have hqu : q = u := by rw [hp] at hp2; injection hp2
  subst hqu
  rw [ordL_self] at HO2
  have hsz : (S q).size = sizeL l := by rw [Oct.S_size, hlen]
  have HSZ := Lib.hid hsz
  obtain ⟨s, HSS⟩ : ∃ s, Hid (S q = s) := ⟨_, rfl⟩
  rw [HSS.out] at HP HG HSZ
  have hss : (s.size : Int) = ((sizeL l : Nat) : Int) := by rw [HSZ.out]
  rw [← hss] at HS
  have hs4 : s.size ≤ 400 := by rw [HSZ.out]; exact h3
  rw [HSS.out] at HP2
  obtain ⟨ao, cap, rfl⟩ := hv.nil
  obtain ⟨ao2, cap2, rfl⟩ := hv2.nil
  clear hp hp2 hl hl2 h1 h3 h4 hlen hsz hss
  go_enter Try.func7, Try.ntmps7
  go_wp2_with fail
  refine (HP.out _ hv).mono ?_
  rintro x w1 ⟨rfl, hb2⟩
  replace hv := hv.below hb2
  replace hv2 := hv2.below hb2
  replace hb := hb.next hb2; clear hb2
  go_wp2_with fail
  refine (HP2.out _ hv2).mono ?_
  rintro x w2 ⟨rfl, hb2⟩
  replace hv := hv.below hb2
  replace hv2 := hv2.below hb2
  replace hb := hb.next hb2; clear hb2
  go_wp2_with fail
  refine (HG.out _).mono ?_
  rintro x w3 ⟨r, rfl, hb2, hr⟩
  replace hv := hv.below hb2
  replace hv2 := hv2.below hb2
  replace hb := hb.next hb2; clear hb2
  go_wp2_with fail
  refine (HO.out _ _ hr hv).mono ?_
  rintro x w4 ⟨rfl, hb2⟩
  replace hv := hv.below hb2
  replace hv2 := hv2.below hb2
  replace hb := hb.next hb2; clear hb2
  go_wp2_with fail
  refine (HS.out _ hv).mono ?_
  rintro x w5 ⟨rfl, hb2⟩
  replace hv := hv.below hb2
  replace hv2 := hv2.below hb2
  replace hb := hb.next hb2; clear hb2
  go_wp2_with fail
  refine (HA _).mono ?_
  rintro x w6 ⟨rfl, hb2⟩
  replace hv := hv.below hb2
  replace hv2 := hv2.below hb2
  replace hb := hb.next hb2; clear hb2
  go_wp2_with fail
  refine (HO2.out _ hv hv2).mono ?_
  rintro x w7 ⟨rfl, hb2⟩
  replace hb := hb.next hb2; clear hb2
  go_wp2_with fail
  go_ret
  exact ⟨by simp, hb⟩
set_option maxRecDepth 100000 in
theorem back_other (l l2 : List Vl) (v v2 : Value) (w : World) (hv : RowAt w v l) (hl : Oks l) (hv2 : RowAt w v2 l2) (hl2 : Oks l2) (q u : List UInt8) (f : Int) (hp : putR l = (q, 0)) (hp2 : putR l2 = (u, f)) (hf : f = 0) (hE : l ≠ l2) :
    Calls Try.prog 7 #[v, v2] w (Ret (.bool true) w) := by
  have HA := awake06
  have hb := Below.refl w.heap.size w
  have HP := Lib.hid (fun W h => put_gen l hl q 0 hp v W h)
  have HP2 := Lib.hid (fun W h => put_gen l2 hl2 u f hp2 v2 W h)
  obtain ⟨h1, h2, h3, h4⟩ := putR_zero hp
  have hlen : q.length = sizeL l := by rw [h4, rowL_len]
  have HG := Lib.hid (fun W => get_ok_at (getRow_fwd hp) W (by rw [Oct.S_size]; unfold maxLen; omega))
  have HO := Lib.hid (fun r W h1 h2 => orders_any l l r v W h1 h2)
  have HO2 := Lib.hid (fun W h1 h2 => orders_any l l2 v v2 W h1 h2)
  have HS := Lib.hid (fun W h => size_any l v W h hl)
  rw [ordL_self] at HO
  rw [sizeR_yes h1] at HS
  subst hf
  have hqu : q ≠ u := by
    intro h; subst h
    have h1 := getRow_fwd hp
    rw [getRow_fwd hp2] at h1
    injection h1 with h1
    exact hE h1.symm
  have ho : (ordL l l2 == 0) = false := by rw [beq_eq_false_iff_ne]; exact fun h => hE ((ordL_zero _ _).1 h)
  have hst := toList_ne hqu
  have hsz : (S q).size = sizeL l := by rw [Oct.S_size, hlen]
  have HSZ := Lib.hid hsz
  obtain ⟨s, HSS⟩ : ∃ s, Hid (S q = s) := ⟨_, rfl⟩
  rw [HSS.out] at HP HG HSZ
  have hss : (s.size : Int) = ((sizeL l : Nat) : Int) := by rw [HSZ.out]
  rw [← hss] at HS
  have hs4 : s.size ≤ 400 := by rw [HSZ.out]; exact h3
  rw [HSS.out] at hst
  obtain ⟨s2, HS2⟩ : ∃ s2, Hid (S u = s2) := ⟨_, rfl⟩
  rw [HS2.out] at hst HP2
  obtain ⟨ao, cap, rfl⟩ := hv.nil
  obtain ⟨ao2, cap2, rfl⟩ := hv2.nil
  clear hp hp2 hl hl2 h1 h3 h4 hlen hsz hss
  go_enter Try.func7, Try.ntmps7
  go_wp2_with fail
  refine (HP.out _ hv).mono ?_
  rintro x w1 ⟨rfl, hb2⟩
  replace hv := hv.below hb2
  replace hv2 := hv2.below hb2
  replace hb := hb.next hb2; clear hb2
  go_wp2_with fail
  refine (HP2.out _ hv2).mono ?_
  rintro x w2 ⟨rfl, hb2⟩
  replace hv := hv.below hb2
  replace hv2 := hv2.below hb2
  replace hb := hb.next hb2; clear hb2
  go_wp2_with fail
  refine (HG.out _).mono ?_
  rintro x w3 ⟨r, rfl, hb2, hr⟩
  replace hv := hv.below hb2
  replace hv2 := hv2.below hb2
  replace hb := hb.next hb2; clear hb2
  go_wp2_with fail
  refine (HO.out _ _ hr hv).mono ?_
  rintro x w4 ⟨rfl, hb2⟩
  replace hv := hv.below hb2
  replace hv2 := hv2.below hb2
  replace hb := hb.next hb2; clear hb2
  go_wp2_with fail
  refine (HS.out _ hv).mono ?_
  rintro x w5 ⟨rfl, hb2⟩
  replace hv := hv.below hb2
  replace hv2 := hv2.below hb2
  replace hb := hb.next hb2; clear hb2
  go_wp2_with fail
  refine (HA _).mono ?_
  rintro x w6 ⟨rfl, hb2⟩
  replace hv := hv.below hb2
  replace hv2 := hv2.below hb2
  replace hb := hb.next hb2; clear hb2
  go_wp2_with fail
  refine (HO2.out _ hv hv2).mono ?_
  rintro x w7 ⟨rfl, hb2⟩
  replace hb := hb.next hb2; clear hb2
  go_wp2_with fail
  go_ret
  exact ⟨by simp [hst, ho], hb⟩
theorem walk_RowcodeBack (l : List Vl) (v : Value) (l2 : List Vl) (v2 : Value) (w : World) (hv : RowAt w v l) (hl : Oks l) (hv2 : RowAt w v2 l2) (hl2 : Oks l2) :
    Calls Try.prog 7 #[v, v2] w (Ret (.bool true) w) := by
  obtain ⟨q, e, hp⟩ : ∃ q e, putR l = (q, e) := ⟨_, _, rfl⟩
  obtain ⟨u, f, hp2⟩ : ∃ u f, putR l2 = (u, f) := ⟨_, _, rfl⟩
  by_cases he : e = 0
  · subst he
    by_cases hf : f = 0
    · by_cases hE : l = l2
      · exact back_same l l2 v v2 w hv hl hv2 hl2 q u f hp hp2 hf hE
      · exact back_other l l2 v v2 w hv hl hv2 hl2 q u f hp hp2 hf hE
    · exact back_f l l2 v v2 w hv hl hv2 hl2 q u f hp hp2 hf
  · exact back_bad l l2 v v2 w hv hl hv2 hl2 q e hp he
end Go.Proofs.Ytgiehjbbhodagaa
