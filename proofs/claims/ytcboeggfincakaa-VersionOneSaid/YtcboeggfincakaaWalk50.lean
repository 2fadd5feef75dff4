/- The statements of chapter 50: their walks. -/
import Derived.Test.YtcboeggfincakaaHeld
namespace Go.Proofs.Ytcboeggfincakaa
set_option linter.unusedVariables false
set_option linter.unusedSimpArgs false
open Go.RowKit Go.Sort
open Oct (S beN putL U I getI)
theorem vbool_t (w : World) : Calls Try.prog 21 #[.bool true] w (Ret (.agg #[.int .i64 1, .int .i64 1, .string ⟨#[]⟩]) w) := by
  go_enter Try.func21, Try.ntmps21
  go_wp2_with fail
  exact bodyPost_ret (v := .agg #[.int .i64 1, .int .i64 1, .string ⟨#[]⟩]) (by simp [results, Try.results21, go_sem]) rfl ⟨rfl, ((Below.refl _ _).alloc (Nat.le_refl _) _).alloc (by simp) _⟩
theorem vput_at {x : Vn} {q : List UInt8} {e : Int} (h : putV x = (q, e)) (hd : Oks x.d) (v : Value) (w : World) (hv : RowAt w v x.d) : Calls Try.prog 9 #[.agg #[.int .i64 x.r, .int .i64 x.f, .int .i64 x.t, v]] w (Ret (.tuple #[.string (S q), .int .i64 e]) w) := by
  have := vput_any x v w hv hd
  rw [h] at this; exact this
theorem rvput_at {x : Vn} {q : List UInt8} {e : Int} (h : putV x = (q, e)) (hd : Oks x.d) (v : Value) (w : World) (hv : RowAt w v x.d) : Calls Try.prog 10 #[.agg #[.int .i64 x.r, .int .i64 x.f, .int .i64 x.t, v]] w (Ret (.tuple #[.string (S q), .int .i64 e]) w) := by
  have := rvput_any x v w hv hd
  rw [h] at this; exact this
theorem vget_error_at {s : ByteArray} {e : Int} (h : getV s = .error e) (w : World) (hs : s.size ≤ maxLen) : Calls Try.prog 11 #[.string s] w (Ret (.tuple #[.agg #[.int .i64 0, .int .i64 0, .int .i64 0, .slice none 0 0], .int .i64 e]) w) :=
  (vget_any s w hs).mono fun x w' ⟨hb, hp⟩ => by
    rcases hp with ⟨e2, h2, hx⟩ | ⟨l, v, h2, _⟩
    · rw [h] at h2; injection h2 with h2; subst h2; exact ⟨hx, hb⟩
    · rw [h] at h2; cases h2
theorem vget_ok_at {s : ByteArray} {X : Vn} (h : getV s = .ok X) (w : World) (hs : s.size ≤ maxLen) : Calls Try.prog 11 #[.string s] w fun x w' => ∃ ao cap, x = .returned (.tuple #[.agg #[.int .i64 X.r, .int .i64 X.f, .int .i64 X.t, .slice ao X.d.length cap], .int .i64 0]) ∧ Below w.heap.size w w' ∧ RowAt w' (.slice ao X.d.length cap) X.d :=
  (vget_any s w hs).mono fun x w' ⟨hb, hp⟩ => by
    rcases hp with ⟨e2, h2, hx⟩ | ⟨l2, v, h2, hx, hr⟩
    · rw [h] at h2; cases h2
    · rw [h] at h2; injection h2 with h2; subst h2
      obtain ⟨ao, cap, rfl⟩ := hr.nil
      exact ⟨ao, cap, hx, hb, hr⟩
theorem rvget_error_at {s : ByteArray} {e : Int} (h : getV s = .error e) (w : World) (hs : s.size ≤ maxLen) : Calls Try.prog 12 #[.string s] w (Ret (.tuple #[.agg #[.int .i64 0, .int .i64 0, .int .i64 0, .slice none 0 0], .int .i64 e]) w) :=
  (rvget_any s w hs).mono fun x w' ⟨hb, hp⟩ => by
    rcases hp with ⟨e2, h2, hx⟩ | ⟨l, v, h2, _⟩
    · rw [h] at h2; injection h2 with h2; subst h2; exact ⟨hx, hb⟩
    · rw [h] at h2; cases h2
theorem rvget_ok_at {s : ByteArray} {X : Vn} (h : getV s = .ok X) (w : World) (hs : s.size ≤ maxLen) : Calls Try.prog 12 #[.string s] w fun x w' => ∃ ao cap, x = .returned (.tuple #[.agg #[.int .i64 X.r, .int .i64 X.f, .int .i64 X.t, .slice ao X.d.length cap], .int .i64 0]) ∧ Below w.heap.size w w' ∧ RowAt w' (.slice ao X.d.length cap) X.d :=
  (rvget_any s w hs).mono fun x w' ⟨hb, hp⟩ => by
    rcases hp with ⟨e2, h2, hx⟩ | ⟨l2, v, h2, hx, hr⟩
    · rw [h] at h2; cases h2
    · rw [h] at h2; injection h2 with h2; subst h2
      obtain ⟨ao, cap, rfl⟩ := hr.nil
      exact ⟨ao, cap, hx, hb, hr⟩
theorem same_at {x y : Vn} {B : Bool} (h : sameB x y = B) (hx : Oks x.d) (hy : Oks y.d) (v u : Value) (w : World) (hv : RowAt w v x.d) (hu : RowAt w u y.d) :
    Calls Try.prog 13 #[.agg #[.int .i64 x.r, .int .i64 x.f, .int .i64 x.t, v], .agg #[.int .i64 y.r, .int .i64 y.f, .int .i64 y.t, u]] w (Ret (.bool B) w) := by
  have := same_any x y v u w hv hu hx hy
  rw [h] at this; exact this
def rowT : List Vl := [⟨1, 1, ⟨#[]⟩⟩]
def vT : Vn := ⟨1, 2, 5, rowT⟩
theorem putV_T : putV vT = ([0, 0, 0, 0, 0, 1, 0, 0, 0, 0, 0, 2, 0, 0, 0, 0, 0, 5, 1, 1, 1], 0) := by decide +kernel
theorem putV_N : putV ⟨0, -1, 0, []⟩ = ([], 1) := by decide +kernel
theorem getV_x : getV ⟨#[120]⟩ = .error 3 := by rfl
theorem oks_T : Oks rowT := rights_oks (by decide +kernel)
theorem oks_nil : Oks [] := fun v h => by simp at h
set_option maxRecDepth 100000 in
set_option maxHeartbeats 4000000 in
theorem awake50 (w : World) : Calls Try.prog 8 #[] w (Ret (.bool true) w) := by
  have hb := Below.refl w.heap.size w
  have HP : Hid (∀ (v : Value) (W : World), RowAt W v rowT → Calls Try.prog 9 #[.agg #[.int .i64 1, .int .i64 2, .int .i64 5, v]] W (Ret (.tuple #[.string ⟨#[0, 0, 0, 0, 0, 1, 0, 0, 0, 0, 0, 2, 0, 0, 0, 0, 0, 5, 1, 1, 1]⟩, .int .i64 0]) W)) := fun v W h => vput_at putV_T oks_T v W h
  have HPN : Hid (∀ (W : World), Calls Try.prog 9 #[.agg #[.int .i64 0, .int .i64 (-1), .int .i64 0, .slice none 0 0]] W (Ret (.tuple #[.string ⟨#[]⟩, .int .i64 1]) W)) := fun W => vput_at putV_N oks_nil (.slice none 0 0) W (RowAt.void W)
  have HG : Hid (∀ (W : World), Calls Try.prog 11 #[.string ⟨#[0, 0, 0, 0, 0, 1, 0, 0, 0, 0, 0, 2, 0, 0, 0, 0, 0, 5, 1, 1, 1]⟩] W fun x w' => ∃ ao cap, x = .returned (.tuple #[.agg #[.int .i64 1, .int .i64 2, .int .i64 5, .slice ao 1 cap], .int .i64 0]) ∧ Below W.heap.size W w' ∧ RowAt w' (.slice ao 1 cap) rowT) := fun W => vget_ok_at (getV_fwd putV_T) W (by decide)
  have HX := Lib.hid (fun W => vget_error_at getV_x W (by decide))
  have HS : Hid (∀ (v u : Value) (W : World), RowAt W v rowT → RowAt W u rowT → Calls Try.prog 13 #[.agg #[.int .i64 1, .int .i64 2, .int .i64 5, v], .agg #[.int .i64 1, .int .i64 2, .int .i64 5, u]] W (Ret (.bool true) W)) := fun v u W h1 h2 => same_at (sameB_self vT) oks_T oks_T v u W h1 h2
  have HS2 : Hid (∀ (v : Value) (hs : ∃ ao m c, v = .slice ao m c) (W : World), Calls Try.prog 14 #[.agg #[.int .i64 1, .int .i64 2, .int .i64 5, v], .int .i64 2] W (Ret (.bool true) W)) := fun v hs W => seen_any 1 2 5 2 v hs true rfl W
  have HS5 : Hid (∀ (v : Value) (hs : ∃ ao m c, v = .slice ao m c) (W : World), Calls Try.prog 14 #[.agg #[.int .i64 1, .int .i64 2, .int .i64 5, v], .int .i64 5] W (Ret (.bool false) W)) := fun v hs W => seen_any 1 2 5 5 v hs false rfl W
  have HO5 : Hid (∀ (v : Value) (hs : ∃ ao m c, v = .slice ao m c) (W : World), Calls Try.prog 16 #[.agg #[.int .i64 1, .int .i64 2, .int .i64 5, v], .int .i64 5] W (Ret (.bool true) W)) := fun v hs W => old_any 1 2 5 5 v hs true rfl W
  have HO4 : Hid (∀ (v : Value) (hs : ∃ ao m c, v = .slice ao m c) (W : World), Calls Try.prog 16 #[.agg #[.int .i64 1, .int .i64 2, .int .i64 5, v], .int .i64 4] W (Ret (.bool false) W)) := fun v hs W => old_any 1 2 5 4 v hs false rfl W
  go_enter Try.func8, Try.ntmps8
  go_wp2_with fail
  refine (vbool_t _).mono ?_
  rintro x w1 ⟨rfl, hb2⟩
  replace hb := hb.next hb2; clear hb2
  have hR := RowAt.blk (cap := 1) (l := rowT) (Blk.new w1 (rowCells rowT).toArray 49) (by decide)
  have hb2 : Below w1.heap.size w1 (w1.alloc (.cells (rowCells rowT).toArray 49)) := (Below.refl _ _).alloc (Nat.le_refl _) _
  obtain ⟨gv, HGV⟩ : ∃ gv, Hid (w1.heap.size = gv) := ⟨_, rfl⟩
  rw [HGV.out] at hR
  have hV := Blk.new (w1.alloc (.cells (rowCells rowT).toArray 49)) #[.int .i64 1, .int .i64 2, .int .i64 5, .slice (some ⟨gv, 0, none⟩) 1 1] 25
  simp only [World.size_alloc] at hV
  have hR2 := hR.below ((Below.refl _ _).alloc (Nat.le_refl _) (.cells #[.int .i64 1, .int .i64 2, .int .i64 5, .slice (some ⟨gv, 0, none⟩) 1 1] 25))
  replace hb := (hb.next hb2).alloc (by have := (hb.next hb2).size; exact this) (.cells #[.int .i64 1, .int .i64 2, .int .i64 5, .slice (some ⟨gv, 0, none⟩) 1 1] 25)
  clear hR hb2
  go_wp2_with fail
  rw [HGV.out] at hV ⊢
  obtain ⟨V, HVV⟩ : ∃ V, Hid (w1.heap.size + 1 = V) := ⟨_, rfl⟩
  refine (HP.out _ _ hR2).mono ?_
  rintro x w2 ⟨rfl, hb2⟩
  replace hV := hV.below hb2
  replace hR := hR2.below hb2
  clear hR2
  try clear c0 c1 c2 c3
  obtain ⟨c0, c1, c2, c3⟩ := hV.four
  replace hb := hb.next hb2; clear hb2
  go_wp2_with fail
  refine (HG.out _).mono ?_
  rintro x w3 ⟨ao, cap, rfl, hb2, hX⟩
  replace hV := hV.below hb2
  replace hR := hR.below hb2
  have hXX := Blk.new w3 #[.int .i64 1, .int .i64 2, .int .i64 5, .slice ao 1 cap] 25
  have hal : Below w3.heap.size w3 (w3.alloc (.cells #[.int .i64 1, .int .i64 2, .int .i64 5, .slice ao 1 cap] 25)) := (Below.refl _ _).alloc (Nat.le_refl _) _
  replace hV := hV.below hal
  replace hR := hR.below hal
  replace hX := hX.below hal
  try clear c0 c1 c2 c3
  obtain ⟨c0, c1, c2, c3⟩ := hV.four
  replace hb := hb.next hb2; clear hb2
  go_wp2_with fail
  replace hb := hb.next hal
  clear hal
  obtain ⟨X, HXN⟩ : ∃ X, Hid (w3.heap.size = X) := ⟨_, rfl⟩
  rw [HXN.out] at hXX ⊢
  refine (HPN.out _).mono ?_
  rintro x w4 ⟨rfl, hb2⟩
  replace hV := hV.below hb2
  replace hXX := hXX.below hb2
  replace hR := hR.below hb2
  replace hX := hX.below hb2
  try clear c0 c1 c2 c3
  obtain ⟨c0, c1, c2, c3⟩ := hV.four
  try clear d0 d1 d2 d3
  obtain ⟨d0, d1, d2, d3⟩ := hXX.four
  replace hb := hb.next hb2; clear hb2
  go_wp2_with fail
  refine (HX.out _).mono ?_
  rintro x w5 ⟨rfl, hb2⟩
  replace hV := hV.below hb2
  replace hXX := hXX.below hb2
  replace hR := hR.below hb2
  replace hX := hX.below hb2
  have hal : Below w5.heap.size w5 (w5.alloc (.cells #[.int .i64 0, .int .i64 0, .int .i64 0, .slice none 0 0] 25)) := (Below.refl _ _).alloc (Nat.le_refl _) _
  replace hV := hV.below hal
  replace hXX := hXX.below hal
  replace hR := hR.below hal
  replace hX := hX.below hal
  try clear c0 c1 c2 c3
  obtain ⟨c0, c1, c2, c3⟩ := hV.four
  try clear d0 d1 d2 d3
  obtain ⟨d0, d1, d2, d3⟩ := hXX.four
  replace hb := hb.next hb2; clear hb2
  go_wp2_with fail
  replace hb := hb.next hal
  clear hal
  refine (HS.out _ _ _ hR hX).mono ?_
  rintro x w6 ⟨rfl, hb2⟩
  replace hV := hV.below hb2
  replace hXX := hXX.below hb2
  replace hR := hR.below hb2
  replace hX := hX.below hb2
  try clear c0 c1 c2 c3
  obtain ⟨c0, c1, c2, c3⟩ := hV.four
  try clear d0 d1 d2 d3
  obtain ⟨d0, d1, d2, d3⟩ := hXX.four
  replace hb := hb.next hb2; clear hb2
  go_wp2_with fail
  refine (HS2.out _ ⟨_, _, _, rfl⟩ _).mono ?_
  rintro x w7 ⟨rfl, hb2⟩
  replace hV := hV.below hb2
  replace hXX := hXX.below hb2
  replace hR := hR.below hb2
  replace hX := hX.below hb2
  try clear c0 c1 c2 c3
  obtain ⟨c0, c1, c2, c3⟩ := hV.four
  try clear d0 d1 d2 d3
  obtain ⟨d0, d1, d2, d3⟩ := hXX.four
  replace hb := hb.next hb2; clear hb2
  go_wp2_with fail
  refine (HS5.out _ ⟨_, _, _, rfl⟩ _).mono ?_
  rintro x w8 ⟨rfl, hb2⟩
  replace hV := hV.below hb2
  replace hXX := hXX.below hb2
  replace hR := hR.below hb2
  replace hX := hX.below hb2
  try clear c0 c1 c2 c3
  obtain ⟨c0, c1, c2, c3⟩ := hV.four
  try clear d0 d1 d2 d3
  obtain ⟨d0, d1, d2, d3⟩ := hXX.four
  replace hb := hb.next hb2; clear hb2
  go_wp2_with fail
  refine (HO5.out _ ⟨_, _, _, rfl⟩ _).mono ?_
  rintro x w9 ⟨rfl, hb2⟩
  replace hV := hV.below hb2
  replace hXX := hXX.below hb2
  replace hR := hR.below hb2
  replace hX := hX.below hb2
  try clear c0 c1 c2 c3
  obtain ⟨c0, c1, c2, c3⟩ := hV.four
  try clear d0 d1 d2 d3
  obtain ⟨d0, d1, d2, d3⟩ := hXX.four
  replace hb := hb.next hb2; clear hb2
  go_wp2_with fail
  refine (HO4.out _ ⟨_, _, _, rfl⟩ _).mono ?_
  rintro x w10 ⟨rfl, hb2⟩
  replace hV := hV.below hb2
  replace hXX := hXX.below hb2
  replace hR := hR.below hb2
  replace hX := hX.below hb2
  try clear c0 c1 c2 c3
  obtain ⟨c0, c1, c2, c3⟩ := hV.four
  try clear d0 d1 d2 d3
  obtain ⟨d0, d1, d2, d3⟩ := hXX.four
  replace hb := hb.next hb2; clear hb2
  go_wp2_with fail
  have hH : HdAt (w10.alloc (.cells #[.int .i64 1, .int .i64 2, .int .i64 5, .slice (some ⟨gv, 0, none⟩) 1 1, .int .i64 0, .int .i64 0] 40)) (.slice (some ⟨w10.heap.size, 0, none⟩) 1 1) [⟨vT, .slice (some ⟨gv, 0, none⟩) 1 1, 0, 0⟩] := by
    have hbk := Blk.new w10 #[.int .i64 1, .int .i64 2, .int .i64 5, .slice (some ⟨gv, 0, none⟩) 1 1, .int .i64 0, .int .i64 0] 40
    refine ⟨ElAt.blk (ls := [[.int .i64 1, .int .i64 2, .int .i64 5, .slice (some ⟨gv, 0, none⟩) 1 1, .int .i64 0, .int .i64 0]]) (cap := 1) (k := 6) (by simp) hbk (by simp), fun h hh => ?_⟩
    simp only [List.mem_cons, List.not_mem_nil, or_false] at hh
    subst hh
    exact ⟨hR.below ((Below.refl _ _).alloc (Nat.le_refl _) _), oks_T⟩
  have hal : Below w10.heap.size w10 (w10.alloc (.cells #[.int .i64 1, .int .i64 2, .int .i64 5, .slice (some ⟨gv, 0, none⟩) 1 1, .int .i64 0, .int .i64 0] 40)) := (Below.refl _ _).alloc (Nat.le_refl _) _
  replace hb := hb.next hal
  have HPK := Lib.hid (pick_any _ _ 4 _ hH (by simp))
  clear hH hal
  refine HPK.out.mono ?_
  rintro x w11 ⟨u, rfl, hb2, hu⟩
  have hul := hu.nil
  have e1 : ([⟨vT, .slice (some ⟨gv, 0, none⟩) 1 1, 0, 0⟩] : List Hd).filter (fun h => seenB h.x.f h.x.t 4) = [⟨vT, .slice (some ⟨gv, 0, none⟩) 1 1, 0, 0⟩] := rfl
  rw [e1] at hul
  obtain ⟨uo, uc, rfl⟩ := hul
  replace hb := hb.next hb2
  clear hb2 hu e1 HPK
  go_wp2_with fail
  go_ret
  exact ⟨by simp, hb⟩
def overB (l : List Vl) : Bool := (l.any fun v => decide (300 < v.s.size)) || decide (60 < l.length)
theorem over_yes {l : List Vl} {k : Nat} (hk : k < l.length) (h : 300 < l[k].s.size) : overB l = true := by
  rw [overB, Bool.or_eq_true]; left
  exact List.any_eq_true.2 ⟨l[k], List.getElem_mem hk, decide_eq_true h⟩
theorem over_all {l : List Vl} (h : ∀ k (hk : k < l.length), ¬ 300 < l[k].s.size) : overB l = decide (60 < l.length) := by
  rw [overB]
  have : (l.any fun v => decide (300 < v.s.size)) = false := by
    rw [List.any_eq_false]
    intro v hv
    obtain ⟨k, hk, rfl⟩ := List.getElem_of_mem hv
    simpa using h k hk
  rw [this, Bool.false_or]
theorem over_any (l : List Vl) (v : Value) (w : World) (hv : RowAt w v l) (hl : Oks l) (B : Bool) (hB : Hid (overB l = B)) : Calls Try.prog 7 #[v] w (Eq1 (.bool B) w) := by
  have hsm := hv.small
  have HV := Lib.hid hv
  obtain ⟨ao, cap, rfl⟩ := hv.nil
  clear hv
  go_enter Try.func7, Try.ntmps7
  go_wp2_with fail
  go_loop [3] (fun i => ∃ k : Nat, k ≤ l.length ∧ i = .int .i64 k ∧ Hid (∀ j (hj : j < l.length), j < k → ¬ 300 < l[j].s.size)) (fun i => l.length - (intOf i).toNat)
  case atStart => exact ⟨0, Nat.zero_le _, rfl, fun j _ h => by omega⟩
  case round =>
    obtain ⟨k, hk, rfl, HA⟩ := hrel
    by_cases hlt : k < l.length
    · obtain ⟨b, off, cap', hv2, c0, c1, c2⟩ := HV.out.get k hlt
      injection hv2 with h1 h2 h3
      subst h1
      subst h3
      have hok := (hl l[k] (List.getElem_mem hlt)).2.2
      unfold maxLen at hok
      by_cases h3 : 300 < l[k].s.size
      · have HO : Hid (true = B) := by show _ = _; rw [← hB.out]; exact (over_yes hlt h3).symm
        obtain ⟨u, hu⟩ : ∃ u, l[k] = u := ⟨_, rfl⟩
        rw [hu] at c0 c1 c2 h3 hok
        clear hu
        go_wp2_with fail
        go_ret
        exact ⟨ret_bool HO.out.symm, rfl⟩
      · have HN : Hid (∀ j (hj : j < l.length), j < k + 1 → ¬ 300 < l[j].s.size) := by
          intro j hj hjk
          by_cases e : j = k
          · subst e; exact h3
          · exact HA.out j hj (by omega)
        obtain ⟨u, hu⟩ : ∃ u, l[k] = u := ⟨_, rfl⟩
        rw [hu] at c0 c1 c2 h3 hok
        clear hu
        go_wp2_with fail
        go_round
        case rel => exact ⟨k + 1, by omega, by go_num, HN⟩
        case measure => simp [intOf]; omega
    · have HO := Lib.hid (over_all fun j hj => HA.out j hj (by omega))
      go_wp2_with fail
      go_ret
      exact ⟨ret_bool (by rw [← hB.out, HO.out, decide_eq_decide]; omega), rfl⟩
theorem bytes_over (r f t : Int) (d : List Vl) (v : Value) (s : ByteArray) (w : World) (hv : RowAt w v d) (hd : Oks d) (hs : s.size ≤ 140737488351232) (ho : overB d = true) : Calls Try.prog 3 #[.agg #[.int .i64 r, .int .i64 f, .int .i64 t, v], .string s] w (Ret (.bool true) w) := by
  have HA := Lib.hid awake50
  have HOV := Lib.hid (fun W h => over_any d v W h hd _ ho)
  obtain ⟨ao, cap, rfl⟩ := hv.nil
  have hb : Below w.heap.size w (w.alloc (.cells #[.int .i64 r, .int .i64 f, .int .i64 t, .slice ao d.length cap] 25)) := (Below.refl _ _).alloc (Nat.le_refl _) _
  have hV := Blk.new w #[.int .i64 r, .int .i64 f, .int .i64 t, .slice ao d.length cap] 25
  have hR := hv.below ((Below.refl _ _).alloc (Nat.le_refl _) (.cells #[.int .i64 r, .int .i64 f, .int .i64 t, .slice ao d.length cap] 25))
  clear hv
  obtain ⟨c0, c1, c2, c3⟩ := hV.four
  go_enter Try.func3, Try.ntmps3
  go_wp2_with fail
  refine (HOV.out _ hR).mono ?_
  rintro x w' ⟨rfl, rfl⟩
  go_wp2_with fail
  refine (HA.out _).mono ?_
  rintro x w2 ⟨rfl, hb2⟩
  replace hb := hb.next hb2; clear hb2
  go_wp2_with fail
  go_ret
  exact ⟨rfl, hb⟩
theorem bytes_long (r f t : Int) (d : List Vl) (v : Value) (s : ByteArray) (w : World) (hv : RowAt w v d) (hd : Oks d) (hs : s.size ≤ 140737488351232) (ho : overB d = false) (h6 : 600 < s.size) : Calls Try.prog 3 #[.agg #[.int .i64 r, .int .i64 f, .int .i64 t, v], .string s] w (Ret (.bool true) w) := by
  have HA := Lib.hid awake50
  have HOV := Lib.hid (fun W h => over_any d v W h hd _ ho)
  obtain ⟨ao, cap, rfl⟩ := hv.nil
  have hb : Below w.heap.size w (w.alloc (.cells #[.int .i64 r, .int .i64 f, .int .i64 t, .slice ao d.length cap] 25)) := (Below.refl _ _).alloc (Nat.le_refl _) _
  have hV := Blk.new w #[.int .i64 r, .int .i64 f, .int .i64 t, .slice ao d.length cap] 25
  have hR := hv.below ((Below.refl _ _).alloc (Nat.le_refl _) (.cells #[.int .i64 r, .int .i64 f, .int .i64 t, .slice ao d.length cap] 25))
  clear hv
  obtain ⟨c0, c1, c2, c3⟩ := hV.four
  go_enter Try.func3, Try.ntmps3
  go_wp2_with fail
  refine (HOV.out _ hR).mono ?_
  rintro x w' ⟨rfl, rfl⟩
  go_wp2_with fail
  refine (HA.out _).mono ?_
  rintro x w2 ⟨rfl, hb2⟩
  replace hb := hb.next hb2; clear hb2
  go_wp2_with fail
  go_ret
  exact ⟨rfl, hb⟩
set_option maxHeartbeats 1000000 in
theorem bytes_error (r f t : Int) (d : List Vl) (v : Value) (s : ByteArray) (w : World) (hv : RowAt w v d) (hd : Oks d) (hs : s.size ≤ 140737488351232) (ho : overB d = false) (h6 : s.size ≤ 600) (e2 : Int) (hg : getV s = .error e2) : Calls Try.prog 3 #[.agg #[.int .i64 r, .int .i64 f, .int .i64 t, v], .string s] w (Ret (.bool true) w) := by
  have HA := Lib.hid awake50
  obtain ⟨q, e, hq⟩ : ∃ q e, putV ⟨r, f, t, d⟩ = (q, e) := ⟨_, _, rfl⟩
  have HP := Lib.hid (fun W h => vput_at hq hd v W h)
  have HQ := Lib.hid (fun W h => rvput_at hq hd v W h)
  simp only [] at HP HQ
  clear hq
  have hm : Hid (s.size ≤ maxLen) := by show _ ≤ _; unfold maxLen; omega
  have HG := Lib.hid (fun W => vget_error_at hg W hm.out)
  have HH := Lib.hid (fun W => rvget_error_at hg W hm.out)
  have HS := Lib.hid (fun W => same_at (sameB_self ⟨0, 0, 0, []⟩) oks_nil oks_nil (.slice none 0 0) (.slice none 0 0) W (RowAt.void W) (RowAt.void W))
  simp only [] at HS
  clear hg
  have HOV := Lib.hid (fun W h => over_any d v W h hd _ ho)
  obtain ⟨ao, cap, rfl⟩ := hv.nil
  have hb : Below w.heap.size w (w.alloc (.cells #[.int .i64 r, .int .i64 f, .int .i64 t, .slice ao d.length cap] 25)) := (Below.refl _ _).alloc (Nat.le_refl _) _
  have hV := Blk.new w #[.int .i64 r, .int .i64 f, .int .i64 t, .slice ao d.length cap] 25
  have hR := hv.below ((Below.refl _ _).alloc (Nat.le_refl _) (.cells #[.int .i64 r, .int .i64 f, .int .i64 t, .slice ao d.length cap] 25))
  clear hv
  obtain ⟨c0, c1, c2, c3⟩ := hV.four
  go_enter Try.func3, Try.ntmps3
  go_wp2_with fail
  refine (HOV.out _ hR).mono ?_
  rintro x w' ⟨rfl, rfl⟩
  go_wp2_with fail
  refine (HP.out _ hR).mono ?_
  rintro x w2 ⟨rfl, hb2⟩
  replace hV := hV.below hb2
  replace hR := hR.below hb2
  try clear c0 c1 c2 c3
  obtain ⟨c0, c1, c2, c3⟩ := hV.four
  replace hb := hb.next hb2; clear hb2
  go_wp2_with fail
  refine (HQ.out _ hR).mono ?_
  rintro x w3 ⟨rfl, hb2⟩
  replace hV := hV.below hb2
  replace hR := hR.below hb2
  try clear c0 c1 c2 c3
  obtain ⟨c0, c1, c2, c3⟩ := hV.four
  replace hb := hb.next hb2; clear hb2
  go_wp2_with fail
  refine (HG.out _).mono ?_
  rintro x w4 ⟨rfl, hb2⟩
  have hal : Below w4.heap.size w4 (w4.alloc (.cells #[.int .i64 0, .int .i64 0, .int .i64 0, .slice none 0 0] 25)) := (Below.refl _ _).alloc (Nat.le_refl _) _
  have hN := Blk.new w4 #[.int .i64 0, .int .i64 0, .int .i64 0, .slice none 0 0] 25
  replace hb := hb.next hb2; clear hb2
  go_wp2_with fail
  replace hb := hb.next hal
  clear hal
  obtain ⟨N, HN⟩ : ∃ N, Hid (w4.heap.size = N) := ⟨_, rfl⟩
  rw [HN.out] at hN ⊢
  refine (HH.out _).mono ?_
  rintro x w5 ⟨rfl, hb2⟩
  replace hN := hN.below hb2
  have hal : Below w5.heap.size w5 (w5.alloc (.cells #[.int .i64 0, .int .i64 0, .int .i64 0, .slice none 0 0] 25)) := (Below.refl _ _).alloc (Nat.le_refl _) _
  have hM := Blk.new w5 #[.int .i64 0, .int .i64 0, .int .i64 0, .slice none 0 0] 25
  replace hN := hN.below hal
  replace hb := hb.next hb2; clear hb2
  go_wp2_with fail
  replace hb := hb.next hal
  clear hal
  obtain ⟨M, HM⟩ : ∃ M, Hid (w5.heap.size = M) := ⟨_, rfl⟩
  rw [HM.out] at hM ⊢
  refine (HA.out _).mono ?_
  rintro x w6 ⟨rfl, hb2⟩
  replace hN := hN.below hb2
  replace hM := hM.below hb2
  obtain ⟨n0, n1, n2, n3⟩ := hN.four
  obtain ⟨m0, m1, m2, m3⟩ := hM.four
  replace hb := hb.next hb2; clear hb2
  go_wp2_with fail
  refine (HS.out _).mono ?_
  rintro x w7 ⟨rfl, hb2⟩
  replace hb := hb.next hb2; clear hb2
  go_wp2_with fail
  go_ret
  exact ⟨by simp, hb⟩
set_option maxHeartbeats 1000000 in
theorem bytes_ok (r f t : Int) (d : List Vl) (v : Value) (s : ByteArray) (w : World) (hv : RowAt w v d) (hd : Oks d) (hs : s.size ≤ 140737488351232) (ho : overB d = false) (h6 : s.size ≤ 600) (X : Vn) (hg : getV s = .ok X) : Calls Try.prog 3 #[.agg #[.int .i64 r, .int .i64 f, .int .i64 t, v], .string s] w (Ret (.bool true) w) := by
  have HA := Lib.hid awake50
  obtain ⟨q, e, hq⟩ : ∃ q e, putV ⟨r, f, t, d⟩ = (q, e) := ⟨_, _, rfl⟩
  have HP := Lib.hid (fun W h => vput_at hq hd v W h)
  have HQ := Lib.hid (fun W h => rvput_at hq hd v W h)
  simp only [] at HP HQ
  clear hq
  have hm : Hid (s.size ≤ maxLen) := by show _ ≤ _; unfold maxLen; omega
  have HG := Lib.hid (fun W => vget_ok_at hg W hm.out)
  have HH := Lib.hid (fun W => rvget_ok_at hg W hm.out)
  have hXd := rights_oks (putR_zero (putV_zero (getV_back hg)).2.choose_spec.1).1
  obtain ⟨x0, x1, x2, xd⟩ := X
  have HS := Lib.hid (fun v u W h1 h2 => same_at (sameB_self ⟨x0, x1, x2, xd⟩) hXd hXd v u W h1 h2)
  simp only [] at HG HH HS
  clear hg hXd
  have HOV := Lib.hid (fun W h => over_any d v W h hd _ ho)
  obtain ⟨ao, cap, rfl⟩ := hv.nil
  have hb : Below w.heap.size w (w.alloc (.cells #[.int .i64 r, .int .i64 f, .int .i64 t, .slice ao d.length cap] 25)) := (Below.refl _ _).alloc (Nat.le_refl _) _
  have hV := Blk.new w #[.int .i64 r, .int .i64 f, .int .i64 t, .slice ao d.length cap] 25
  have hR := hv.below ((Below.refl _ _).alloc (Nat.le_refl _) (.cells #[.int .i64 r, .int .i64 f, .int .i64 t, .slice ao d.length cap] 25))
  clear hv
  obtain ⟨c0, c1, c2, c3⟩ := hV.four
  go_enter Try.func3, Try.ntmps3
  go_wp2_with fail
  refine (HOV.out _ hR).mono ?_
  rintro x w' ⟨rfl, rfl⟩
  go_wp2_with fail
  refine (HP.out _ hR).mono ?_
  rintro x w2 ⟨rfl, hb2⟩
  replace hV := hV.below hb2
  replace hR := hR.below hb2
  try clear c0 c1 c2 c3
  obtain ⟨c0, c1, c2, c3⟩ := hV.four
  replace hb := hb.next hb2; clear hb2
  go_wp2_with fail
  refine (HQ.out _ hR).mono ?_
  rintro x w3 ⟨rfl, hb2⟩
  replace hV := hV.below hb2
  replace hR := hR.below hb2
  try clear c0 c1 c2 c3
  obtain ⟨c0, c1, c2, c3⟩ := hV.four
  replace hb := hb.next hb2; clear hb2
  go_wp2_with fail
  refine (HG.out _).mono ?_
  rintro x w4 ⟨bo, bc, rfl, hb2, hX⟩
  have hal : Below w4.heap.size w4 (w4.alloc (.cells #[.int .i64 x0, .int .i64 x1, .int .i64 x2, .slice bo xd.length bc] 25)) := (Below.refl _ _).alloc (Nat.le_refl _) _
  have hN := Blk.new w4 #[.int .i64 x0, .int .i64 x1, .int .i64 x2, .slice bo xd.length bc] 25
  replace hX := hX.below hal
  replace hb := hb.next hb2; clear hb2
  go_wp2_with fail
  replace hb := hb.next hal
  clear hal
  obtain ⟨N, HN⟩ : ∃ N, Hid (w4.heap.size = N) := ⟨_, rfl⟩
  rw [HN.out] at hN ⊢
  refine (HH.out _).mono ?_
  rintro x w5 ⟨eo, ec, rfl, hb2, hY⟩
  replace hN := hN.below hb2
  replace hX := hX.below hb2
  have hal : Below w5.heap.size w5 (w5.alloc (.cells #[.int .i64 x0, .int .i64 x1, .int .i64 x2, .slice eo xd.length ec] 25)) := (Below.refl _ _).alloc (Nat.le_refl _) _
  have hM := Blk.new w5 #[.int .i64 x0, .int .i64 x1, .int .i64 x2, .slice eo xd.length ec] 25
  replace hN := hN.below hal
  replace hX := hX.below hal
  replace hY := hY.below hal
  replace hb := hb.next hb2; clear hb2
  go_wp2_with fail
  replace hb := hb.next hal
  clear hal
  obtain ⟨M, HM⟩ : ∃ M, Hid (w5.heap.size = M) := ⟨_, rfl⟩
  rw [HM.out] at hM ⊢
  refine (HA.out _).mono ?_
  rintro x w6 ⟨rfl, hb2⟩
  replace hN := hN.below hb2
  replace hM := hM.below hb2
  replace hX := hX.below hb2
  replace hY := hY.below hb2
  obtain ⟨n0, n1, n2, n3⟩ := hN.four
  obtain ⟨m0, m1, m2, m3⟩ := hM.four
  replace hb := hb.next hb2; clear hb2
  go_wp2_with fail
  refine (HS.out _ _ _ hX hY).mono ?_
  rintro x w7 ⟨rfl, hb2⟩
  replace hb := hb.next hb2; clear hb2
  go_wp2_with fail
  go_ret
  exact ⟨by simp, hb⟩
theorem walk_VersionBytes (r f t : Int) (d : List Vl) (v : Value) (s : ByteArray) (w : World) (hv : RowAt w v d) (hd : Oks d) (hs : s.size ≤ 140737488351232) : Calls Try.prog 3 #[.agg #[.int .i64 r, .int .i64 f, .int .i64 t, v], .string s] w (Ret (.bool true) w) := by
  cases ho : overB d with
  | true => exact bytes_over r f t d v s w hv hd hs ho
  | false =>
    by_cases h6 : 600 < s.size
    · exact bytes_long r f t d v s w hv hd hs ho h6
    · cases hg : getV s with
      | error e => exact bytes_error r f t d v s w hv hd hs ho (by omega) e hg
      | ok X => exact bytes_ok r f t d v s w hv hd hs ho (by omega) X hg
set_option maxHeartbeats 2000000 in
theorem walk_VersionSeen (l : List Hd) (v : Value) (n o : Int) (w : World) (hv : HdAt w v l) : Calls Try.prog 4 #[v, .int .i64 n, .int .i64 o] w (Ret (.bool true) w) := by
  have HA := Lib.hid awake50
  have hsm := hv.small
  have HV := Lib.hid hv
  have HRW := Lib.hid hv.rows
  have hb := Below.refl w.heap.size w
  by_cases h60 : 60 < l.length
  · obtain ⟨ao, cap, rfl⟩ := hv.nil
    clear hv
    go_enter Try.func4, Try.ntmps4
    go_wp2_with fail
    refine (HA.out _).mono ?_
    rintro x w1 ⟨rfl, hb2⟩
    replace hb := hb.next hb2; clear hb2
    go_wp2_with fail
    go_ret
    exact ⟨rfl, hb⟩
  · have HP := Lib.hid (fun W h => pick_any l v n W h (by omega))
    have HQ := Lib.hid (fun W h => rpick_any l v n W h (by omega))
    obtain ⟨ao, cap, rfl⟩ := hv.nil
    clear hv hb
    go_enter Try.func4, Try.ntmps4
    go_wp2_with fail
    go_loopw [7] (fun i wr => ∃ k : Nat, k ≤ l.length ∧ i = .int .i64 k ∧ Below w.heap.size w wr) (fun i _ => l.length - (intOf i).toNat)
    case atStart => exact ⟨0, Nat.zero_le _, rfl, Below.refl _ _⟩
    case round =>
      obtain ⟨k, hk, rfl, hb⟩ := hrel
      by_cases hlt : k < l.length
      · obtain ⟨b, off, cap', hv2, hbl, c0, c1, c2, c3, c4, c5⟩ := (HV.out.below hb).get k hlt
        injection hv2 with h1 h2 h3
        subst h1
        subst h3
        obtain ⟨ho, hc, hhv⟩ := (HRW.out _ (List.getElem_mem hlt)).1.nil
        obtain ⟨hm, hhm⟩ : ∃ m, l[k].x.d.length = m := ⟨_, rfl⟩
        rw [hhm] at hhv
        rw [hhv] at c3
        obtain ⟨r, hr⟩ : ∃ r, l[k].x.r = r := ⟨_, rfl⟩
        obtain ⟨f, hf⟩ : ∃ r, l[k].x.f = r := ⟨_, rfl⟩
        obtain ⟨u, hu⟩ : ∃ r, l[k].x.t = r := ⟨_, rfl⟩
        rw [hr] at c0
        rw [hf] at c1
        rw [hu] at c2
        have S1 := Lib.hid (fun W => seen_any r f u n (.slice ho hm hc) ⟨_, _, _, rfl⟩ _ rfl W)
        have S2 := Lib.hid (fun W => rseen_any r f u n (.slice ho hm hc) ⟨_, _, _, rfl⟩ _ rfl W)
        have O1 := Lib.hid (fun W => old_any r f u o (.slice ho hm hc) ⟨_, _, _, rfl⟩ _ rfl W)
        have O2 := Lib.hid (fun W => rold_any r f u o (.slice ho hm hc) ⟨_, _, _, rfl⟩ _ rfl W)
        obtain ⟨X, hX⟩ : ∃ X, seenB f u n = X := ⟨_, rfl⟩
        obtain ⟨Y, hY⟩ : ∃ X, oldB u o = X := ⟨_, rfl⟩
        rw [hX] at S1 S2
        rw [hY] at O1 O2
        clear hX hY
        have e0 : ∀ p' : Regrown, (grow (redrawn wr p'.d) p'.os).cell? ⟨b, off + k * 6, none⟩ = some (.int .i64 r) := fun q => cell_regrown c0 q.d q.os
        have e1 : ∀ p' : Regrown, (grow (redrawn wr p'.d) p'.os).cell? ⟨b, off + k * 6 + 1, none⟩ = some (.int .i64 f) := fun q => cell_regrown c1 q.d q.os
        have e2 : ∀ p' : Regrown, (grow (redrawn wr p'.d) p'.os).cell? ⟨b, off + k * 6 + 2, none⟩ = some (.int .i64 u) := fun q => cell_regrown c2 q.d q.os
        have e3 : ∀ p' : Regrown, (grow (redrawn wr p'.d) p'.os).cell? ⟨b, off + k * 6 + 3, none⟩ = some (.slice ho hm hc) := fun q => cell_regrown c3 q.d q.os
        clear hhv hhm hr hf hu c0 c1 c2 c3 c4 c5
        have xx : (X != X) = false := by cases X <;> rfl
        have yy : (Y != Y) = false := by cases Y <;> rfl
        go_wp2_with fail
        refine wp_region_quiet_below (by kernel_rfl) (by kernel_rfl) ?_
        repeat (go_big_quiet_step (first | (go_at_call 14; exact Ret.regrown (S1.out _)) | (go_at_call 15; exact Ret.regrown (S2.out _)) | (go_at_call 16; exact Ret.regrown (O1.out _)) | (go_at_call 17; exact Ret.regrown (O2.out _))))
        refine wpQuiet_nil ?_
        intro w2 hw2
        have hb2 := below_of_regrown hw2
        clear hw2 e0 e1 e2 e3
        go_wp2_with fail
        go_roundw
        case rel => exact ⟨k + 1, by omega, by go_num, hb.next hb2⟩
        case measure => simp [intOf]; omega
      · have hv := HV.out.below hb
        go_wp2_with fail
        refine (HA.out _).mono ?_
        rintro x w1 ⟨rfl, hb2⟩
        replace hv := hv.below hb2
        replace hb := hb.next hb2; clear hb2
        go_wp2_with fail
        refine (HP.out _ hv).mono ?_
        rintro x w2 ⟨u1, rfl, hb2, h1⟩
        replace hv := hv.below hb2
        replace hb := hb.next hb2; clear hb2
        go_wp2_with fail
        refine (HQ.out _ hv).mono ?_
        rintro x w3 ⟨u2, rfl, hb2, h2⟩
        replace h1 := h1.below hb2
        replace hb := hb.next hb2; clear hb2
        go_wp2_with fail
        have HS := Lib.hid (sameHeld_any _ _ _ _ h1 h2)
        clear h1 h2 hv
        refine (HS.out).mono ?_
        rintro x w4 ⟨rfl, hb2⟩
        replace hb := hb.next hb2; clear hb2
        go_wp2_with fail
        go_ret
        exact ⟨by simp, hb⟩
theorem put_same {x y : Vn} {q p : List UInt8} (hx : putV x = (q, 0)) (hy : putV y = (p, 0)) : ((S q).toList == (S p).toList) = sameB x y := by
  by_cases h : x = y
  · subst h
    have : q = p := by rw [hx] at hy; injection hy
    subst this
    rw [sameB_self]; exact beq_self_eq_true _
  · rw [sameB_ne h, ByteArray.toList_eq, ByteArray.toList_eq, beq_eq_false_iff_ne]
    intro hqp
    have hqp : q = p := hqp
    subst hqp
    have h1 := getV_fwd hx
    rw [getV_fwd hy] at h1
    injection h1 with h1
    exact h h1.symm
theorem one_over (r f t : Int) (d : List Vl) (v : Value) (r' f' t' : Int) (d' : List Vl) (v' : Value) (s : ByteArray) (w : World) (hv : RowAt w v d) (hd : Oks d) (hv' : RowAt w v' d') (hd' : Oks d') (hs : s.size ≤ 140737488351232) (ho : overB d = true) : Calls Try.prog 5 #[.agg #[.int .i64 r, .int .i64 f, .int .i64 t, v], .agg #[.int .i64 r', .int .i64 f', .int .i64 t', v'], .string s] w (Ret (.bool true) w) := by
  have HO1 := Lib.hid (fun W h => over_any d v W h hd _ ho)
  have HA := Lib.hid awake50
  obtain ⟨ao, cap, rfl⟩ := hv.nil
  obtain ⟨ao', cap', rfl⟩ := hv'.nil
  have hA := (Blk.new w #[.int .i64 r, .int .i64 f, .int .i64 t, .slice ao d.length cap] 25).alloc (.cells #[.int .i64 r', .int .i64 f', .int .i64 t', .slice ao' d'.length cap'] 25)
  have hB := Blk.new (w.alloc (.cells #[.int .i64 r, .int .i64 f, .int .i64 t, .slice ao d.length cap] 25)) #[.int .i64 r', .int .i64 f', .int .i64 t', .slice ao' d'.length cap'] 25
  simp only [World.size_alloc] at hB
  have hb : Below w.heap.size w ((w.alloc (.cells #[.int .i64 r, .int .i64 f, .int .i64 t, .slice ao d.length cap] 25)).alloc (.cells #[.int .i64 r', .int .i64 f', .int .i64 t', .slice ao' d'.length cap'] 25)) := ((Below.refl _ _).alloc (Nat.le_refl _) _).alloc (by simp) _
  have hR := hv.below hb
  have hR' := hv'.below hb
  clear hv hv'
  obtain ⟨c0, c1, c2, c3⟩ := hA.four
  obtain ⟨d0, d1, d2, d3⟩ := hB.four
  go_enter Try.func5, Try.ntmps5
  go_wp2_with fail
  refine (HO1.out _ hR).mono ?_
  rintro x w' ⟨rfl, rfl⟩
  go_wp2_with fail
  refine (HA.out _).mono ?_
  rintro x w2 ⟨rfl, hb2⟩
  replace hb := hb.next hb2; clear hb2
  go_wp2_with fail
  go_ret
  exact ⟨rfl, hb⟩
theorem one_over' (r f t : Int) (d : List Vl) (v : Value) (r' f' t' : Int) (d' : List Vl) (v' : Value) (s : ByteArray) (w : World) (hv : RowAt w v d) (hd : Oks d) (hv' : RowAt w v' d') (hd' : Oks d') (hs : s.size ≤ 140737488351232) (ho : overB d = false) (ho' : overB d' = true) : Calls Try.prog 5 #[.agg #[.int .i64 r, .int .i64 f, .int .i64 t, v], .agg #[.int .i64 r', .int .i64 f', .int .i64 t', v'], .string s] w (Ret (.bool true) w) := by
  have HO1 := Lib.hid (fun W h => over_any d v W h hd _ ho)
  have HO2 := Lib.hid (fun W h => over_any d' v' W h hd' _ ho')
  have HA := Lib.hid awake50
  obtain ⟨ao, cap, rfl⟩ := hv.nil
  obtain ⟨ao', cap', rfl⟩ := hv'.nil
  have hA := (Blk.new w #[.int .i64 r, .int .i64 f, .int .i64 t, .slice ao d.length cap] 25).alloc (.cells #[.int .i64 r', .int .i64 f', .int .i64 t', .slice ao' d'.length cap'] 25)
  have hB := Blk.new (w.alloc (.cells #[.int .i64 r, .int .i64 f, .int .i64 t, .slice ao d.length cap] 25)) #[.int .i64 r', .int .i64 f', .int .i64 t', .slice ao' d'.length cap'] 25
  simp only [World.size_alloc] at hB
  have hb : Below w.heap.size w ((w.alloc (.cells #[.int .i64 r, .int .i64 f, .int .i64 t, .slice ao d.length cap] 25)).alloc (.cells #[.int .i64 r', .int .i64 f', .int .i64 t', .slice ao' d'.length cap'] 25)) := ((Below.refl _ _).alloc (Nat.le_refl _) _).alloc (by simp) _
  have hR := hv.below hb
  have hR' := hv'.below hb
  clear hv hv'
  obtain ⟨c0, c1, c2, c3⟩ := hA.four
  obtain ⟨d0, d1, d2, d3⟩ := hB.four
  go_enter Try.func5, Try.ntmps5
  go_wp2_with fail
  refine (HO1.out _ hR).mono ?_
  rintro x w' ⟨rfl, rfl⟩
  go_wp2_with fail
  refine (HO2.out _ hR').mono ?_
  rintro x w' ⟨rfl, rfl⟩
  go_wp2_with fail
  refine (HA.out _).mono ?_
  rintro x w2 ⟨rfl, hb2⟩
  replace hb := hb.next hb2; clear hb2
  go_wp2_with fail
  go_ret
  exact ⟨rfl, hb⟩
theorem one_long (r f t : Int) (d : List Vl) (v : Value) (r' f' t' : Int) (d' : List Vl) (v' : Value) (s : ByteArray) (w : World) (hv : RowAt w v d) (hd : Oks d) (hv' : RowAt w v' d') (hd' : Oks d') (hs : s.size ≤ 140737488351232) (ho : overB d = false) (ho' : overB d' = false) (h6 : 600 < s.size) : Calls Try.prog 5 #[.agg #[.int .i64 r, .int .i64 f, .int .i64 t, v], .agg #[.int .i64 r', .int .i64 f', .int .i64 t', v'], .string s] w (Ret (.bool true) w) := by
  have HO1 := Lib.hid (fun W h => over_any d v W h hd _ ho)
  have HO2 := Lib.hid (fun W h => over_any d' v' W h hd' _ ho')
  have HA := Lib.hid awake50
  obtain ⟨ao, cap, rfl⟩ := hv.nil
  obtain ⟨ao', cap', rfl⟩ := hv'.nil
  have hA := (Blk.new w #[.int .i64 r, .int .i64 f, .int .i64 t, .slice ao d.length cap] 25).alloc (.cells #[.int .i64 r', .int .i64 f', .int .i64 t', .slice ao' d'.length cap'] 25)
  have hB := Blk.new (w.alloc (.cells #[.int .i64 r, .int .i64 f, .int .i64 t, .slice ao d.length cap] 25)) #[.int .i64 r', .int .i64 f', .int .i64 t', .slice ao' d'.length cap'] 25
  simp only [World.size_alloc] at hB
  have hb : Below w.heap.size w ((w.alloc (.cells #[.int .i64 r, .int .i64 f, .int .i64 t, .slice ao d.length cap] 25)).alloc (.cells #[.int .i64 r', .int .i64 f', .int .i64 t', .slice ao' d'.length cap'] 25)) := ((Below.refl _ _).alloc (Nat.le_refl _) _).alloc (by simp) _
  have hR := hv.below hb
  have hR' := hv'.below hb
  clear hv hv'
  obtain ⟨c0, c1, c2, c3⟩ := hA.four
  obtain ⟨d0, d1, d2, d3⟩ := hB.four
  go_enter Try.func5, Try.ntmps5
  go_wp2_with fail
  refine (HO1.out _ hR).mono ?_
  rintro x w' ⟨rfl, rfl⟩
  go_wp2_with fail
  refine (HO2.out _ hR').mono ?_
  rintro x w' ⟨rfl, rfl⟩
  go_wp2_with fail
  refine (HA.out _).mono ?_
  rintro x w2 ⟨rfl, hb2⟩
  replace hb := hb.next hb2; clear hb2
  go_wp2_with fail
  go_ret
  exact ⟨rfl, hb⟩
set_option maxRecDepth 100000 in
set_option maxHeartbeats 2000000 in
theorem one_bad_error (r f t : Int) (d : List Vl) (v : Value) (r' f' t' : Int) (d' : List Vl) (v' : Value) (s : ByteArray) (w : World) (hv : RowAt w v d) (hd : Oks d) (hv' : RowAt w v' d') (hd' : Oks d') (hs : s.size ≤ 140737488351232) (ho : overB d = false) (ho' : overB d' = false) (h6 : s.size ≤ 600) (q p : List UInt8) (e g : Int) (hq : putV ⟨r, f, t, d⟩ = (q, e)) (hp : putV ⟨r', f', t', d'⟩ = (p, g)) (he : e ≠ 0) (e2 : Int) (h2 : getV s = .error e2) : Calls Try.prog 5 #[.agg #[.int .i64 r, .int .i64 f, .int .i64 t, v], .agg #[.int .i64 r', .int .i64 f', .int .i64 t', v'], .string s] w (Ret (.bool true) w) := by
  have HO1 := Lib.hid (fun W h => over_any d v W h hd _ ho)
  have HO2 := Lib.hid (fun W h => over_any d' v' W h hd' _ ho')
  have HP := Lib.hid (fun W h => vput_at hq hd v W h)
  have HQ := Lib.hid (fun W h => vput_at hp hd' v' W h)
  simp only [] at HP HQ
  have hm : Hid (s.size ≤ maxLen) := by show _ ≤ _; unfold maxLen; omega
  have he0 : (e == 0) = false := by rw [beq_eq_false_iff_ne]; exact he
  have he1 : (e != 0) = true := by rw [bne_iff_ne]; exact he
  clear he
  have HG := Lib.hid (fun W => vget_error_at h2 W hm.out)
  have hz0 : (e2 == 0) = false ∧ (e2 != 0) = true := by
    have : e2 ≠ 0 := by
      intro h; subst h
      unfold getV at h2
      split at h2
      · cases h2
      · split at h2
        · cases h2
        · split at h2
          · rename_i hr; injection h2 with h2; have := getRow_error hr; omega
          · cases h2
    exact ⟨by rw [beq_eq_false_iff_ne]; exact this, by rw [bne_iff_ne]; exact this⟩
  obtain ⟨z0, z1⟩ := hz0
  clear h2
  clear hq hp
  have HA := Lib.hid awake50
  obtain ⟨ao, cap, rfl⟩ := hv.nil
  obtain ⟨ao', cap', rfl⟩ := hv'.nil
  have hA := (Blk.new w #[.int .i64 r, .int .i64 f, .int .i64 t, .slice ao d.length cap] 25).alloc (.cells #[.int .i64 r', .int .i64 f', .int .i64 t', .slice ao' d'.length cap'] 25)
  have hB := Blk.new (w.alloc (.cells #[.int .i64 r, .int .i64 f, .int .i64 t, .slice ao d.length cap] 25)) #[.int .i64 r', .int .i64 f', .int .i64 t', .slice ao' d'.length cap'] 25
  simp only [World.size_alloc] at hB
  have hb : Below w.heap.size w ((w.alloc (.cells #[.int .i64 r, .int .i64 f, .int .i64 t, .slice ao d.length cap] 25)).alloc (.cells #[.int .i64 r', .int .i64 f', .int .i64 t', .slice ao' d'.length cap'] 25)) := ((Below.refl _ _).alloc (Nat.le_refl _) _).alloc (by simp) _
  have hR := hv.below hb
  have hR' := hv'.below hb
  clear hv hv'
  obtain ⟨c0, c1, c2, c3⟩ := hA.four
  obtain ⟨d0, d1, d2, d3⟩ := hB.four
  go_enter Try.func5, Try.ntmps5
  go_wp2_with fail
  refine (HO1.out _ hR).mono ?_
  rintro x w' ⟨rfl, rfl⟩
  go_wp2_with fail
  refine (HO2.out _ hR').mono ?_
  rintro x w' ⟨rfl, rfl⟩
  go_wp2_with fail
  refine (HP.out _ hR).mono ?_
  rintro x w2 ⟨rfl, hb2⟩
  replace hA := hA.below hb2
  replace hB := hB.below hb2
  replace hR := hR.below hb2
  replace hR' := hR'.below hb2
  clear c0 c1 c2 c3 d0 d1 d2 d3
  obtain ⟨c0, c1, c2, c3⟩ := hA.four
  obtain ⟨d0, d1, d2, d3⟩ := hB.four
  replace hb := hb.next hb2; clear hb2
  go_wp2_with fail
  refine (HQ.out _ hR').mono ?_
  rintro x w3 ⟨rfl, hb2⟩
  replace hA := hA.below hb2
  replace hB := hB.below hb2
  replace hR := hR.below hb2
  replace hR' := hR'.below hb2
  clear c0 c1 c2 c3 d0 d1 d2 d3
  obtain ⟨c0, c1, c2, c3⟩ := hA.four
  obtain ⟨d0, d1, d2, d3⟩ := hB.four
  replace hb := hb.next hb2; clear hb2
  go_wp2_with fail
  clear c0 c1 c2 c3 d0 d1 d2 d3 hA hB hR hR'
  refine (HG.out _).mono ?_
  rintro x w7 ⟨rfl, hb2⟩
  replace hb := hb.next hb2; clear hb2
  go_wp2_with fail
  replace hb := hb.alloc hb.size (.cells #[.int .i64 0, .int .i64 0, .int .i64 0, .slice none 0 0] 25)
  refine (HA.out _).mono ?_
  rintro x w8 ⟨rfl, hb2⟩
  replace hb := hb.next hb2; clear hb2
  go_wp2_with fail
  go_ret
  exact ⟨by simp, hb⟩
set_option maxRecDepth 100000 in
set_option maxHeartbeats 2000000 in
theorem one_bad_ok (r f t : Int) (d : List Vl) (v : Value) (r' f' t' : Int) (d' : List Vl) (v' : Value) (s : ByteArray) (w : World) (hv : RowAt w v d) (hd : Oks d) (hv' : RowAt w v' d') (hd' : Oks d') (hs : s.size ≤ 140737488351232) (ho : overB d = false) (ho' : overB d' = false) (h6 : s.size ≤ 600) (q p : List UInt8) (e g : Int) (hq : putV ⟨r, f, t, d⟩ = (q, e)) (hp : putV ⟨r', f', t', d'⟩ = (p, g)) (he : e ≠ 0) (X : Vn) (h2 : getV s = .ok X) : Calls Try.prog 5 #[.agg #[.int .i64 r, .int .i64 f, .int .i64 t, v], .agg #[.int .i64 r', .int .i64 f', .int .i64 t', v'], .string s] w (Ret (.bool true) w) := by
  have HO1 := Lib.hid (fun W h => over_any d v W h hd _ ho)
  have HO2 := Lib.hid (fun W h => over_any d' v' W h hd' _ ho')
  have HP := Lib.hid (fun W h => vput_at hq hd v W h)
  have HQ := Lib.hid (fun W h => vput_at hp hd' v' W h)
  simp only [] at HP HQ
  have hm : Hid (s.size ≤ maxLen) := by show _ ≤ _; unfold maxLen; omega
  have he0 : (e == 0) = false := by rw [beq_eq_false_iff_ne]; exact he
  have he1 : (e != 0) = true := by rw [bne_iff_ne]; exact he
  clear he
  have HG := Lib.hid (fun W => vget_ok_at h2 W hm.out)
  have hXp := getV_back h2
  have hXd := rights_oks (putR_zero (putV_zero hXp).2.choose_spec.1).1
  obtain ⟨x0, x1, x2, xd⟩ := X
  have HPX := Lib.hid (fun v W h => vput_at hXp hXd v W h)
  simp only [] at HG HPX
  rw [Oct.S_of] at HPX
  clear h2 hXp hXd
  clear hq hp
  have HA := Lib.hid awake50
  obtain ⟨ao, cap, rfl⟩ := hv.nil
  obtain ⟨ao', cap', rfl⟩ := hv'.nil
  have hA := (Blk.new w #[.int .i64 r, .int .i64 f, .int .i64 t, .slice ao d.length cap] 25).alloc (.cells #[.int .i64 r', .int .i64 f', .int .i64 t', .slice ao' d'.length cap'] 25)
  have hB := Blk.new (w.alloc (.cells #[.int .i64 r, .int .i64 f, .int .i64 t, .slice ao d.length cap] 25)) #[.int .i64 r', .int .i64 f', .int .i64 t', .slice ao' d'.length cap'] 25
  simp only [World.size_alloc] at hB
  have hb : Below w.heap.size w ((w.alloc (.cells #[.int .i64 r, .int .i64 f, .int .i64 t, .slice ao d.length cap] 25)).alloc (.cells #[.int .i64 r', .int .i64 f', .int .i64 t', .slice ao' d'.length cap'] 25)) := ((Below.refl _ _).alloc (Nat.le_refl _) _).alloc (by simp) _
  have hR := hv.below hb
  have hR' := hv'.below hb
  clear hv hv'
  obtain ⟨c0, c1, c2, c3⟩ := hA.four
  obtain ⟨d0, d1, d2, d3⟩ := hB.four
  go_enter Try.func5, Try.ntmps5
  go_wp2_with fail
  refine (HO1.out _ hR).mono ?_
  rintro x w' ⟨rfl, rfl⟩
  go_wp2_with fail
  refine (HO2.out _ hR').mono ?_
  rintro x w' ⟨rfl, rfl⟩
  go_wp2_with fail
  refine (HP.out _ hR).mono ?_
  rintro x w2 ⟨rfl, hb2⟩
  replace hA := hA.below hb2
  replace hB := hB.below hb2
  replace hR := hR.below hb2
  replace hR' := hR'.below hb2
  clear c0 c1 c2 c3 d0 d1 d2 d3
  obtain ⟨c0, c1, c2, c3⟩ := hA.four
  obtain ⟨d0, d1, d2, d3⟩ := hB.four
  replace hb := hb.next hb2; clear hb2
  go_wp2_with fail
  refine (HQ.out _ hR').mono ?_
  rintro x w3 ⟨rfl, hb2⟩
  replace hA := hA.below hb2
  replace hB := hB.below hb2
  replace hR := hR.below hb2
  replace hR' := hR'.below hb2
  clear c0 c1 c2 c3 d0 d1 d2 d3
  obtain ⟨c0, c1, c2, c3⟩ := hA.four
  obtain ⟨d0, d1, d2, d3⟩ := hB.four
  replace hb := hb.next hb2; clear hb2
  go_wp2_with fail
  clear c0 c1 c2 c3 d0 d1 d2 d3 hA hB hR hR'
  refine (HG.out _).mono ?_
  rintro x w7 ⟨eo, ec, rfl, hb2, hY⟩
  have hal : Below w7.heap.size w7 (w7.alloc (.cells #[.int .i64 x0, .int .i64 x1, .int .i64 x2, .slice eo xd.length ec] 25)) := (Below.refl _ _).alloc (Nat.le_refl _) _
  have hM := Blk.new w7 #[.int .i64 x0, .int .i64 x1, .int .i64 x2, .slice eo xd.length ec] 25
  replace hY := hY.below hal
  obtain ⟨m0, m1, m2, m3⟩ := hM.four
  replace hb := hb.next hb2; clear hb2
  replace hb := hb.next hal
  clear hal
  go_wp2_with fail
  refine (HPX.out _ _ hY).mono ?_
  rintro x w8 ⟨rfl, hb2⟩
  clear m0 m1 m2 m3
  replace hb := hb.next hb2; clear hb2
  go_wp2_with fail
  refine (HA.out _).mono ?_
  rintro x w9 ⟨rfl, hb2⟩
  replace hb := hb.next hb2; clear hb2
  go_wp2_with fail
  go_ret
  exact ⟨by simp, hb⟩
set_option maxRecDepth 100000 in
set_option maxHeartbeats 2000000 in
theorem one_half_error (r f t : Int) (d : List Vl) (v : Value) (r' f' t' : Int) (d' : List Vl) (v' : Value) (s : ByteArray) (w : World) (hv : RowAt w v d) (hd : Oks d) (hv' : RowAt w v' d') (hd' : Oks d') (hs : s.size ≤ 140737488351232) (ho : overB d = false) (ho' : overB d' = false) (h6 : s.size ≤ 600) (q p : List UInt8) (e g : Int) (hq : putV ⟨r, f, t, d⟩ = (q, e)) (hp : putV ⟨r', f', t', d'⟩ = (p, g)) (he : e = 0) (hg : g ≠ 0) (e2 : Int) (h2 : getV s = .error e2) : Calls Try.prog 5 #[.agg #[.int .i64 r, .int .i64 f, .int .i64 t, v], .agg #[.int .i64 r', .int .i64 f', .int .i64 t', v'], .string s] w (Ret (.bool true) w) := by
  have HO1 := Lib.hid (fun W h => over_any d v W h hd _ ho)
  have HO2 := Lib.hid (fun W h => over_any d' v' W h hd' _ ho')
  have HP := Lib.hid (fun W h => vput_at hq hd v W h)
  have HQ := Lib.hid (fun W h => vput_at hp hd' v' W h)
  simp only [] at HP HQ
  have hm : Hid (s.size ≤ maxLen) := by show _ ≤ _; unfold maxLen; omega
  subst he
  have hql : (S q).size ≤ maxLen := by rw [Oct.S_size]; obtain ⟨_, p', h1, rfl, h3⟩ := putV_zero hq; rw [List.length_append, headL_len]; unfold maxLen; omega
  have HG1 := Lib.hid (fun W => vget_ok_at (getV_fwd hq) W hql)
  have HS1 := Lib.hid (fun v u W h1 h2 => same_at (sameB_self ⟨r, f, t, d⟩) hd hd v u W h1 h2)
  simp only [] at HG1 HS1
  clear hql
  have hg0 : (g == 0) = false := by rw [beq_eq_false_iff_ne]; exact hg
  have hg1 : (g != 0) = true := by rw [bne_iff_ne]; exact hg
  clear hg
  have HG := Lib.hid (fun W => vget_error_at h2 W hm.out)
  have hz0 : (e2 == 0) = false ∧ (e2 != 0) = true := by
    have : e2 ≠ 0 := by
      intro h; subst h
      unfold getV at h2
      split at h2
      · cases h2
      · split at h2
        · cases h2
        · split at h2
          · rename_i hr; injection h2 with h2; have := getRow_error hr; omega
          · cases h2
    exact ⟨by rw [beq_eq_false_iff_ne]; exact this, by rw [bne_iff_ne]; exact this⟩
  obtain ⟨z0, z1⟩ := hz0
  clear h2
  clear hq hp
  have HA := Lib.hid awake50
  obtain ⟨ao, cap, rfl⟩ := hv.nil
  obtain ⟨ao', cap', rfl⟩ := hv'.nil
  have hA := (Blk.new w #[.int .i64 r, .int .i64 f, .int .i64 t, .slice ao d.length cap] 25).alloc (.cells #[.int .i64 r', .int .i64 f', .int .i64 t', .slice ao' d'.length cap'] 25)
  have hB := Blk.new (w.alloc (.cells #[.int .i64 r, .int .i64 f, .int .i64 t, .slice ao d.length cap] 25)) #[.int .i64 r', .int .i64 f', .int .i64 t', .slice ao' d'.length cap'] 25
  simp only [World.size_alloc] at hB
  have hb : Below w.heap.size w ((w.alloc (.cells #[.int .i64 r, .int .i64 f, .int .i64 t, .slice ao d.length cap] 25)).alloc (.cells #[.int .i64 r', .int .i64 f', .int .i64 t', .slice ao' d'.length cap'] 25)) := ((Below.refl _ _).alloc (Nat.le_refl _) _).alloc (by simp) _
  have hR := hv.below hb
  have hR' := hv'.below hb
  clear hv hv'
  obtain ⟨c0, c1, c2, c3⟩ := hA.four
  obtain ⟨d0, d1, d2, d3⟩ := hB.four
  go_enter Try.func5, Try.ntmps5
  go_wp2_with fail
  refine (HO1.out _ hR).mono ?_
  rintro x w' ⟨rfl, rfl⟩
  go_wp2_with fail
  refine (HO2.out _ hR').mono ?_
  rintro x w' ⟨rfl, rfl⟩
  go_wp2_with fail
  refine (HP.out _ hR).mono ?_
  rintro x w2 ⟨rfl, hb2⟩
  replace hA := hA.below hb2
  replace hB := hB.below hb2
  replace hR := hR.below hb2
  replace hR' := hR'.below hb2
  clear c0 c1 c2 c3 d0 d1 d2 d3
  obtain ⟨c0, c1, c2, c3⟩ := hA.four
  obtain ⟨d0, d1, d2, d3⟩ := hB.four
  replace hb := hb.next hb2; clear hb2
  go_wp2_with fail
  refine (HQ.out _ hR').mono ?_
  rintro x w3 ⟨rfl, hb2⟩
  replace hA := hA.below hb2
  replace hB := hB.below hb2
  replace hR := hR.below hb2
  replace hR' := hR'.below hb2
  clear c0 c1 c2 c3 d0 d1 d2 d3
  obtain ⟨c0, c1, c2, c3⟩ := hA.four
  obtain ⟨d0, d1, d2, d3⟩ := hB.four
  replace hb := hb.next hb2; clear hb2
  go_wp2_with fail
  refine (HG1.out _).mono ?_
  rintro x w4 ⟨bo, bc, rfl, hb2, hX⟩
  replace hA := hA.below hb2
  replace hB := hB.below hb2
  replace hR := hR.below hb2
  replace hR' := hR'.below hb2
  have hal : Below w4.heap.size w4 (w4.alloc (.cells #[.int .i64 r, .int .i64 f, .int .i64 t, .slice bo d.length bc] 25)) := (Below.refl _ _).alloc (Nat.le_refl _) _
  have hN := Blk.new w4 #[.int .i64 r, .int .i64 f, .int .i64 t, .slice bo d.length bc] 25
  replace hA := hA.below hal
  replace hB := hB.below hal
  replace hR := hR.below hal
  replace hR' := hR'.below hal
  replace hX := hX.below hal
  clear c0 c1 c2 c3 d0 d1 d2 d3
  obtain ⟨c0, c1, c2, c3⟩ := hA.four
  obtain ⟨d0, d1, d2, d3⟩ := hB.four
  obtain ⟨N, HN⟩ : ∃ N, Hid (w4.heap.size = N) := ⟨_, rfl⟩
  have hN' := hN
  rw [HN.out] at hN'
  obtain ⟨n0, n1, n2, n3⟩ := hN'.four
  replace hb := hb.next hb2; clear hb2
  replace hb := hb.next hal
  clear hal
  go_wp2_with fail
  refine (HS1.out _ _ _ hX hR).mono ?_
  rintro x w5 ⟨rfl, hb2⟩
  replace hA := hA.below hb2
  replace hB := hB.below hb2
  replace hR := hR.below hb2
  replace hR' := hR'.below hb2
  clear c0 c1 c2 c3 d0 d1 d2 d3
  obtain ⟨c0, c1, c2, c3⟩ := hA.four
  obtain ⟨d0, d1, d2, d3⟩ := hB.four
  clear n0 n1 n2 n3 hN hN' hX
  replace hb := hb.next hb2; clear hb2
  go_wp2_with fail
  clear c0 c1 c2 c3 d0 d1 d2 d3 hA hB hR hR'
  refine (HG.out _).mono ?_
  rintro x w7 ⟨rfl, hb2⟩
  replace hb := hb.next hb2; clear hb2
  go_wp2_with fail
  replace hb := hb.alloc hb.size (.cells #[.int .i64 0, .int .i64 0, .int .i64 0, .slice none 0 0] 25)
  refine (HA.out _).mono ?_
  rintro x w8 ⟨rfl, hb2⟩
  replace hb := hb.next hb2; clear hb2
  go_wp2_with fail
  go_ret
  exact ⟨by simp, hb⟩
set_option maxRecDepth 100000 in
set_option maxHeartbeats 2000000 in
theorem one_half_ok (r f t : Int) (d : List Vl) (v : Value) (r' f' t' : Int) (d' : List Vl) (v' : Value) (s : ByteArray) (w : World) (hv : RowAt w v d) (hd : Oks d) (hv' : RowAt w v' d') (hd' : Oks d') (hs : s.size ≤ 140737488351232) (ho : overB d = false) (ho' : overB d' = false) (h6 : s.size ≤ 600) (q p : List UInt8) (e g : Int) (hq : putV ⟨r, f, t, d⟩ = (q, e)) (hp : putV ⟨r', f', t', d'⟩ = (p, g)) (he : e = 0) (hg : g ≠ 0) (X : Vn) (h2 : getV s = .ok X) : Calls Try.prog 5 #[.agg #[.int .i64 r, .int .i64 f, .int .i64 t, v], .agg #[.int .i64 r', .int .i64 f', .int .i64 t', v'], .string s] w (Ret (.bool true) w) := by
  have HO1 := Lib.hid (fun W h => over_any d v W h hd _ ho)
  have HO2 := Lib.hid (fun W h => over_any d' v' W h hd' _ ho')
  have HP := Lib.hid (fun W h => vput_at hq hd v W h)
  have HQ := Lib.hid (fun W h => vput_at hp hd' v' W h)
  simp only [] at HP HQ
  have hm : Hid (s.size ≤ maxLen) := by show _ ≤ _; unfold maxLen; omega
  subst he
  have hql : (S q).size ≤ maxLen := by rw [Oct.S_size]; obtain ⟨_, p', h1, rfl, h3⟩ := putV_zero hq; rw [List.length_append, headL_len]; unfold maxLen; omega
  have HG1 := Lib.hid (fun W => vget_ok_at (getV_fwd hq) W hql)
  have HS1 := Lib.hid (fun v u W h1 h2 => same_at (sameB_self ⟨r, f, t, d⟩) hd hd v u W h1 h2)
  simp only [] at HG1 HS1
  clear hql
  have hg0 : (g == 0) = false := by rw [beq_eq_false_iff_ne]; exact hg
  have hg1 : (g != 0) = true := by rw [bne_iff_ne]; exact hg
  clear hg
  have HG := Lib.hid (fun W => vget_ok_at h2 W hm.out)
  have hXp := getV_back h2
  have hXd := rights_oks (putR_zero (putV_zero hXp).2.choose_spec.1).1
  obtain ⟨x0, x1, x2, xd⟩ := X
  have HPX := Lib.hid (fun v W h => vput_at hXp hXd v W h)
  simp only [] at HG HPX
  rw [Oct.S_of] at HPX
  clear h2 hXp hXd
  clear hq hp
  have HA := Lib.hid awake50
  obtain ⟨ao, cap, rfl⟩ := hv.nil
  obtain ⟨ao', cap', rfl⟩ := hv'.nil
  have hA := (Blk.new w #[.int .i64 r, .int .i64 f, .int .i64 t, .slice ao d.length cap] 25).alloc (.cells #[.int .i64 r', .int .i64 f', .int .i64 t', .slice ao' d'.length cap'] 25)
  have hB := Blk.new (w.alloc (.cells #[.int .i64 r, .int .i64 f, .int .i64 t, .slice ao d.length cap] 25)) #[.int .i64 r', .int .i64 f', .int .i64 t', .slice ao' d'.length cap'] 25
  simp only [World.size_alloc] at hB
  have hb : Below w.heap.size w ((w.alloc (.cells #[.int .i64 r, .int .i64 f, .int .i64 t, .slice ao d.length cap] 25)).alloc (.cells #[.int .i64 r', .int .i64 f', .int .i64 t', .slice ao' d'.length cap'] 25)) := ((Below.refl _ _).alloc (Nat.le_refl _) _).alloc (by simp) _
  have hR := hv.below hb
  have hR' := hv'.below hb
  clear hv hv'
  obtain ⟨c0, c1, c2, c3⟩ := hA.four
  obtain ⟨d0, d1, d2, d3⟩ := hB.four
  go_enter Try.func5, Try.ntmps5
  go_wp2_with fail
  refine (HO1.out _ hR).mono ?_
  rintro x w' ⟨rfl, rfl⟩
  go_wp2_with fail
  refine (HO2.out _ hR').mono ?_
  rintro x w' ⟨rfl, rfl⟩
  go_wp2_with fail
  refine (HP.out _ hR).mono ?_
  rintro x w2 ⟨rfl, hb2⟩
  replace hA := hA.below hb2
  replace hB := hB.below hb2
  replace hR := hR.below hb2
  replace hR' := hR'.below hb2
  clear c0 c1 c2 c3 d0 d1 d2 d3
  obtain ⟨c0, c1, c2, c3⟩ := hA.four
  obtain ⟨d0, d1, d2, d3⟩ := hB.four
  replace hb := hb.next hb2; clear hb2
  go_wp2_with fail
  refine (HQ.out _ hR').mono ?_
  rintro x w3 ⟨rfl, hb2⟩
  replace hA := hA.below hb2
  replace hB := hB.below hb2
  replace hR := hR.below hb2
  replace hR' := hR'.below hb2
  clear c0 c1 c2 c3 d0 d1 d2 d3
  obtain ⟨c0, c1, c2, c3⟩ := hA.four
  obtain ⟨d0, d1, d2, d3⟩ := hB.four
  replace hb := hb.next hb2; clear hb2
  go_wp2_with fail
  refine (HG1.out _).mono ?_
  rintro x w4 ⟨bo, bc, rfl, hb2, hX⟩
  replace hA := hA.below hb2
  replace hB := hB.below hb2
  replace hR := hR.below hb2
  replace hR' := hR'.below hb2
  have hal : Below w4.heap.size w4 (w4.alloc (.cells #[.int .i64 r, .int .i64 f, .int .i64 t, .slice bo d.length bc] 25)) := (Below.refl _ _).alloc (Nat.le_refl _) _
  have hN := Blk.new w4 #[.int .i64 r, .int .i64 f, .int .i64 t, .slice bo d.length bc] 25
  replace hA := hA.below hal
  replace hB := hB.below hal
  replace hR := hR.below hal
  replace hR' := hR'.below hal
  replace hX := hX.below hal
  clear c0 c1 c2 c3 d0 d1 d2 d3
  obtain ⟨c0, c1, c2, c3⟩ := hA.four
  obtain ⟨d0, d1, d2, d3⟩ := hB.four
  obtain ⟨N, HN⟩ : ∃ N, Hid (w4.heap.size = N) := ⟨_, rfl⟩
  have hN' := hN
  rw [HN.out] at hN'
  obtain ⟨n0, n1, n2, n3⟩ := hN'.four
  replace hb := hb.next hb2; clear hb2
  replace hb := hb.next hal
  clear hal
  go_wp2_with fail
  refine (HS1.out _ _ _ hX hR).mono ?_
  rintro x w5 ⟨rfl, hb2⟩
  replace hA := hA.below hb2
  replace hB := hB.below hb2
  replace hR := hR.below hb2
  replace hR' := hR'.below hb2
  clear c0 c1 c2 c3 d0 d1 d2 d3
  obtain ⟨c0, c1, c2, c3⟩ := hA.four
  obtain ⟨d0, d1, d2, d3⟩ := hB.four
  clear n0 n1 n2 n3 hN hN' hX
  replace hb := hb.next hb2; clear hb2
  go_wp2_with fail
  clear c0 c1 c2 c3 d0 d1 d2 d3 hA hB hR hR'
  refine (HG.out _).mono ?_
  rintro x w7 ⟨eo, ec, rfl, hb2, hY⟩
  have hal : Below w7.heap.size w7 (w7.alloc (.cells #[.int .i64 x0, .int .i64 x1, .int .i64 x2, .slice eo xd.length ec] 25)) := (Below.refl _ _).alloc (Nat.le_refl _) _
  have hM := Blk.new w7 #[.int .i64 x0, .int .i64 x1, .int .i64 x2, .slice eo xd.length ec] 25
  replace hY := hY.below hal
  obtain ⟨m0, m1, m2, m3⟩ := hM.four
  replace hb := hb.next hb2; clear hb2
  replace hb := hb.next hal
  clear hal
  go_wp2_with fail
  refine (HPX.out _ _ hY).mono ?_
  rintro x w8 ⟨rfl, hb2⟩
  clear m0 m1 m2 m3
  replace hb := hb.next hb2; clear hb2
  go_wp2_with fail
  refine (HA.out _).mono ?_
  rintro x w9 ⟨rfl, hb2⟩
  replace hb := hb.next hb2; clear hb2
  go_wp2_with fail
  go_ret
  exact ⟨by simp, hb⟩
set_option maxRecDepth 100000 in
set_option maxHeartbeats 2000000 in
theorem one_both_error (r f t : Int) (d : List Vl) (v : Value) (r' f' t' : Int) (d' : List Vl) (v' : Value) (s : ByteArray) (w : World) (hv : RowAt w v d) (hd : Oks d) (hv' : RowAt w v' d') (hd' : Oks d') (hs : s.size ≤ 140737488351232) (ho : overB d = false) (ho' : overB d' = false) (h6 : s.size ≤ 600) (q p : List UInt8) (e g : Int) (hq : putV ⟨r, f, t, d⟩ = (q, e)) (hp : putV ⟨r', f', t', d'⟩ = (p, g)) (he : e = 0) (hg : g = 0) (e2 : Int) (h2 : getV s = .error e2) : Calls Try.prog 5 #[.agg #[.int .i64 r, .int .i64 f, .int .i64 t, v], .agg #[.int .i64 r', .int .i64 f', .int .i64 t', v'], .string s] w (Ret (.bool true) w) := by
  have HO1 := Lib.hid (fun W h => over_any d v W h hd _ ho)
  have HO2 := Lib.hid (fun W h => over_any d' v' W h hd' _ ho')
  have HP := Lib.hid (fun W h => vput_at hq hd v W h)
  have HQ := Lib.hid (fun W h => vput_at hp hd' v' W h)
  simp only [] at HP HQ
  have hm : Hid (s.size ≤ maxLen) := by show _ ≤ _; unfold maxLen; omega
  subst he
  have hql : (S q).size ≤ maxLen := by rw [Oct.S_size]; obtain ⟨_, p', h1, rfl, h3⟩ := putV_zero hq; rw [List.length_append, headL_len]; unfold maxLen; omega
  have HG1 := Lib.hid (fun W => vget_ok_at (getV_fwd hq) W hql)
  have HS1 := Lib.hid (fun v u W h1 h2 => same_at (sameB_self ⟨r, f, t, d⟩) hd hd v u W h1 h2)
  simp only [] at HG1 HS1
  clear hql
  subst hg
  have hst := put_same hq hp
  have HS2 := Lib.hid (fun v u W h1 h2 => same_at (x := ⟨r, f, t, d⟩) (y := ⟨r', f', t', d'⟩) rfl hd hd' v u W h1 h2)
  simp only [] at HS2
  obtain ⟨B, hBB⟩ : ∃ B, sameB ⟨r, f, t, d⟩ ⟨r', f', t', d'⟩ = B := ⟨_, rfl⟩
  rw [hBB] at hst HS2
  have xx : (B != B) = false := by cases B <;> rfl
  obtain ⟨s1, H1⟩ : ∃ s, Hid (S q = s) := ⟨_, rfl⟩
  obtain ⟨s2, H2⟩ : ∃ s, Hid (S p = s) := ⟨_, rfl⟩
  rw [H1.out] at HP HG1 hst
  rw [H2.out] at HQ hst
  clear hBB
  have HG := Lib.hid (fun W => vget_error_at h2 W hm.out)
  have hz0 : (e2 == 0) = false ∧ (e2 != 0) = true := by
    have : e2 ≠ 0 := by
      intro h; subst h
      unfold getV at h2
      split at h2
      · cases h2
      · split at h2
        · cases h2
        · split at h2
          · rename_i hr; injection h2 with h2; have := getRow_error hr; omega
          · cases h2
    exact ⟨by rw [beq_eq_false_iff_ne]; exact this, by rw [bne_iff_ne]; exact this⟩
  obtain ⟨z0, z1⟩ := hz0
  clear h2
  clear hq hp
  have HA := Lib.hid awake50
  obtain ⟨ao, cap, rfl⟩ := hv.nil
  obtain ⟨ao', cap', rfl⟩ := hv'.nil
  have hA := (Blk.new w #[.int .i64 r, .int .i64 f, .int .i64 t, .slice ao d.length cap] 25).alloc (.cells #[.int .i64 r', .int .i64 f', .int .i64 t', .slice ao' d'.length cap'] 25)
  have hB := Blk.new (w.alloc (.cells #[.int .i64 r, .int .i64 f, .int .i64 t, .slice ao d.length cap] 25)) #[.int .i64 r', .int .i64 f', .int .i64 t', .slice ao' d'.length cap'] 25
  simp only [World.size_alloc] at hB
  have hb : Below w.heap.size w ((w.alloc (.cells #[.int .i64 r, .int .i64 f, .int .i64 t, .slice ao d.length cap] 25)).alloc (.cells #[.int .i64 r', .int .i64 f', .int .i64 t', .slice ao' d'.length cap'] 25)) := ((Below.refl _ _).alloc (Nat.le_refl _) _).alloc (by simp) _
  have hR := hv.below hb
  have hR' := hv'.below hb
  clear hv hv'
  obtain ⟨c0, c1, c2, c3⟩ := hA.four
  obtain ⟨d0, d1, d2, d3⟩ := hB.four
  go_enter Try.func5, Try.ntmps5
  go_wp2_with fail
  refine (HO1.out _ hR).mono ?_
  rintro x w' ⟨rfl, rfl⟩
  go_wp2_with fail
  refine (HO2.out _ hR').mono ?_
  rintro x w' ⟨rfl, rfl⟩
  go_wp2_with fail
  refine (HP.out _ hR).mono ?_
  rintro x w2 ⟨rfl, hb2⟩
  replace hA := hA.below hb2
  replace hB := hB.below hb2
  replace hR := hR.below hb2
  replace hR' := hR'.below hb2
  clear c0 c1 c2 c3 d0 d1 d2 d3
  obtain ⟨c0, c1, c2, c3⟩ := hA.four
  obtain ⟨d0, d1, d2, d3⟩ := hB.four
  replace hb := hb.next hb2; clear hb2
  go_wp2_with fail
  refine (HQ.out _ hR').mono ?_
  rintro x w3 ⟨rfl, hb2⟩
  replace hA := hA.below hb2
  replace hB := hB.below hb2
  replace hR := hR.below hb2
  replace hR' := hR'.below hb2
  clear c0 c1 c2 c3 d0 d1 d2 d3
  obtain ⟨c0, c1, c2, c3⟩ := hA.four
  obtain ⟨d0, d1, d2, d3⟩ := hB.four
  replace hb := hb.next hb2; clear hb2
  go_wp2_with fail
  refine (HG1.out _).mono ?_
  rintro x w4 ⟨bo, bc, rfl, hb2, hX⟩
  replace hA := hA.below hb2
  replace hB := hB.below hb2
  replace hR := hR.below hb2
  replace hR' := hR'.below hb2
  have hal : Below w4.heap.size w4 (w4.alloc (.cells #[.int .i64 r, .int .i64 f, .int .i64 t, .slice bo d.length bc] 25)) := (Below.refl _ _).alloc (Nat.le_refl _) _
  have hN := Blk.new w4 #[.int .i64 r, .int .i64 f, .int .i64 t, .slice bo d.length bc] 25
  replace hA := hA.below hal
  replace hB := hB.below hal
  replace hR := hR.below hal
  replace hR' := hR'.below hal
  replace hX := hX.below hal
  clear c0 c1 c2 c3 d0 d1 d2 d3
  obtain ⟨c0, c1, c2, c3⟩ := hA.four
  obtain ⟨d0, d1, d2, d3⟩ := hB.four
  obtain ⟨N, HN⟩ : ∃ N, Hid (w4.heap.size = N) := ⟨_, rfl⟩
  have hN' := hN
  rw [HN.out] at hN'
  obtain ⟨n0, n1, n2, n3⟩ := hN'.four
  replace hb := hb.next hb2; clear hb2
  replace hb := hb.next hal
  clear hal
  go_wp2_with fail
  refine (HS1.out _ _ _ hX hR).mono ?_
  rintro x w5 ⟨rfl, hb2⟩
  replace hA := hA.below hb2
  replace hB := hB.below hb2
  replace hR := hR.below hb2
  replace hR' := hR'.below hb2
  clear c0 c1 c2 c3 d0 d1 d2 d3
  obtain ⟨c0, c1, c2, c3⟩ := hA.four
  obtain ⟨d0, d1, d2, d3⟩ := hB.four
  clear n0 n1 n2 n3 hN hN' hX
  replace hb := hb.next hb2; clear hb2
  go_wp2_with fail
  refine (HS2.out _ _ _ hR hR').mono ?_
  rintro x w6 ⟨rfl, hb2⟩
  replace hA := hA.below hb2
  replace hB := hB.below hb2
  replace hR := hR.below hb2
  replace hR' := hR'.below hb2
  clear c0 c1 c2 c3 d0 d1 d2 d3
  obtain ⟨c0, c1, c2, c3⟩ := hA.four
  obtain ⟨d0, d1, d2, d3⟩ := hB.four
  replace hb := hb.next hb2; clear hb2
  go_wp2_with fail
  clear c0 c1 c2 c3 d0 d1 d2 d3 hA hB hR hR'
  refine (HG.out _).mono ?_
  rintro x w7 ⟨rfl, hb2⟩
  replace hb := hb.next hb2; clear hb2
  go_wp2_with fail
  replace hb := hb.alloc hb.size (.cells #[.int .i64 0, .int .i64 0, .int .i64 0, .slice none 0 0] 25)
  refine (HA.out _).mono ?_
  rintro x w8 ⟨rfl, hb2⟩
  replace hb := hb.next hb2; clear hb2
  go_wp2_with fail
  go_ret
  exact ⟨by simp, hb⟩
set_option maxRecDepth 100000 in
set_option maxHeartbeats 2000000 in
theorem one_both_ok (r f t : Int) (d : List Vl) (v : Value) (r' f' t' : Int) (d' : List Vl) (v' : Value) (s : ByteArray) (w : World) (hv : RowAt w v d) (hd : Oks d) (hv' : RowAt w v' d') (hd' : Oks d') (hs : s.size ≤ 140737488351232) (ho : overB d = false) (ho' : overB d' = false) (h6 : s.size ≤ 600) (q p : List UInt8) (e g : Int) (hq : putV ⟨r, f, t, d⟩ = (q, e)) (hp : putV ⟨r', f', t', d'⟩ = (p, g)) (he : e = 0) (hg : g = 0) (X : Vn) (h2 : getV s = .ok X) : Calls Try.prog 5 #[.agg #[.int .i64 r, .int .i64 f, .int .i64 t, v], .agg #[.int .i64 r', .int .i64 f', .int .i64 t', v'], .string s] w (Ret (.bool true) w) := by
  have HO1 := Lib.hid (fun W h => over_any d v W h hd _ ho)
  have HO2 := Lib.hid (fun W h => over_any d' v' W h hd' _ ho')
  have HP := Lib.hid (fun W h => vput_at hq hd v W h)
  have HQ := Lib.hid (fun W h => vput_at hp hd' v' W h)
  simp only [] at HP HQ
  have hm : Hid (s.size ≤ maxLen) := by show _ ≤ _; unfold maxLen; omega
  subst he
  have hql : (S q).size ≤ maxLen := by rw [Oct.S_size]; obtain ⟨_, p', h1, rfl, h3⟩ := putV_zero hq; rw [List.length_append, headL_len]; unfold maxLen; omega
  have HG1 := Lib.hid (fun W => vget_ok_at (getV_fwd hq) W hql)
  have HS1 := Lib.hid (fun v u W h1 h2 => same_at (sameB_self ⟨r, f, t, d⟩) hd hd v u W h1 h2)
  simp only [] at HG1 HS1
  clear hql
  subst hg
  have hst := put_same hq hp
  have HS2 := Lib.hid (fun v u W h1 h2 => same_at (x := ⟨r, f, t, d⟩) (y := ⟨r', f', t', d'⟩) rfl hd hd' v u W h1 h2)
  simp only [] at HS2
  obtain ⟨B, hBB⟩ : ∃ B, sameB ⟨r, f, t, d⟩ ⟨r', f', t', d'⟩ = B := ⟨_, rfl⟩
  rw [hBB] at hst HS2
  have xx : (B != B) = false := by cases B <;> rfl
  obtain ⟨s1, H1⟩ : ∃ s, Hid (S q = s) := ⟨_, rfl⟩
  obtain ⟨s2, H2⟩ : ∃ s, Hid (S p = s) := ⟨_, rfl⟩
  rw [H1.out] at HP HG1 hst
  rw [H2.out] at HQ hst
  clear hBB
  have HG := Lib.hid (fun W => vget_ok_at h2 W hm.out)
  have hXp := getV_back h2
  have hXd := rights_oks (putR_zero (putV_zero hXp).2.choose_spec.1).1
  obtain ⟨x0, x1, x2, xd⟩ := X
  have HPX := Lib.hid (fun v W h => vput_at hXp hXd v W h)
  simp only [] at HG HPX
  rw [Oct.S_of] at HPX
  clear h2 hXp hXd
  clear hq hp
  have HA := Lib.hid awake50
  obtain ⟨ao, cap, rfl⟩ := hv.nil
  obtain ⟨ao', cap', rfl⟩ := hv'.nil
  have hA := (Blk.new w #[.int .i64 r, .int .i64 f, .int .i64 t, .slice ao d.length cap] 25).alloc (.cells #[.int .i64 r', .int .i64 f', .int .i64 t', .slice ao' d'.length cap'] 25)
  have hB := Blk.new (w.alloc (.cells #[.int .i64 r, .int .i64 f, .int .i64 t, .slice ao d.length cap] 25)) #[.int .i64 r', .int .i64 f', .int .i64 t', .slice ao' d'.length cap'] 25
  simp only [World.size_alloc] at hB
  have hb : Below w.heap.size w ((w.alloc (.cells #[.int .i64 r, .int .i64 f, .int .i64 t, .slice ao d.length cap] 25)).alloc (.cells #[.int .i64 r', .int .i64 f', .int .i64 t', .slice ao' d'.length cap'] 25)) := ((Below.refl _ _).alloc (Nat.le_refl _) _).alloc (by simp) _
  have hR := hv.below hb
  have hR' := hv'.below hb
  clear hv hv'
  obtain ⟨c0, c1, c2, c3⟩ := hA.four
  obtain ⟨d0, d1, d2, d3⟩ := hB.four
  go_enter Try.func5, Try.ntmps5
  go_wp2_with fail
  refine (HO1.out _ hR).mono ?_
  rintro x w' ⟨rfl, rfl⟩
  go_wp2_with fail
  refine (HO2.out _ hR').mono ?_
  rintro x w' ⟨rfl, rfl⟩
  go_wp2_with fail
  refine (HP.out _ hR).mono ?_
  rintro x w2 ⟨rfl, hb2⟩
  replace hA := hA.below hb2
  replace hB := hB.below hb2
  replace hR := hR.below hb2
  replace hR' := hR'.below hb2
  clear c0 c1 c2 c3 d0 d1 d2 d3
  obtain ⟨c0, c1, c2, c3⟩ := hA.four
  obtain ⟨d0, d1, d2, d3⟩ := hB.four
  replace hb := hb.next hb2; clear hb2
  go_wp2_with fail
  refine (HQ.out _ hR').mono ?_
  rintro x w3 ⟨rfl, hb2⟩
  replace hA := hA.below hb2
  replace hB := hB.below hb2
  replace hR := hR.below hb2
  replace hR' := hR'.below hb2
  clear c0 c1 c2 c3 d0 d1 d2 d3
  obtain ⟨c0, c1, c2, c3⟩ := hA.four
  obtain ⟨d0, d1, d2, d3⟩ := hB.four
  replace hb := hb.next hb2; clear hb2
  go_wp2_with fail
  refine (HG1.out _).mono ?_
  rintro x w4 ⟨bo, bc, rfl, hb2, hX⟩
  replace hA := hA.below hb2
  replace hB := hB.below hb2
  replace hR := hR.below hb2
  replace hR' := hR'.below hb2
  have hal : Below w4.heap.size w4 (w4.alloc (.cells #[.int .i64 r, .int .i64 f, .int .i64 t, .slice bo d.length bc] 25)) := (Below.refl _ _).alloc (Nat.le_refl _) _
  have hN := Blk.new w4 #[.int .i64 r, .int .i64 f, .int .i64 t, .slice bo d.length bc] 25
  replace hA := hA.below hal
  replace hB := hB.below hal
  replace hR := hR.below hal
  replace hR' := hR'.below hal
  replace hX := hX.below hal
  clear c0 c1 c2 c3 d0 d1 d2 d3
  obtain ⟨c0, c1, c2, c3⟩ := hA.four
  obtain ⟨d0, d1, d2, d3⟩ := hB.four
  obtain ⟨N, HN⟩ : ∃ N, Hid (w4.heap.size = N) := ⟨_, rfl⟩
  have hN' := hN
  rw [HN.out] at hN'
  obtain ⟨n0, n1, n2, n3⟩ := hN'.four
  replace hb := hb.next hb2; clear hb2
  replace hb := hb.next hal
  clear hal
  go_wp2_with fail
  refine (HS1.out _ _ _ hX hR).mono ?_
  rintro x w5 ⟨rfl, hb2⟩
  replace hA := hA.below hb2
  replace hB := hB.below hb2
  replace hR := hR.below hb2
  replace hR' := hR'.below hb2
  clear c0 c1 c2 c3 d0 d1 d2 d3
  obtain ⟨c0, c1, c2, c3⟩ := hA.four
  obtain ⟨d0, d1, d2, d3⟩ := hB.four
  clear n0 n1 n2 n3 hN hN' hX
  replace hb := hb.next hb2; clear hb2
  go_wp2_with fail
  refine (HS2.out _ _ _ hR hR').mono ?_
  rintro x w6 ⟨rfl, hb2⟩
  replace hA := hA.below hb2
  replace hB := hB.below hb2
  replace hR := hR.below hb2
  replace hR' := hR'.below hb2
  clear c0 c1 c2 c3 d0 d1 d2 d3
  obtain ⟨c0, c1, c2, c3⟩ := hA.four
  obtain ⟨d0, d1, d2, d3⟩ := hB.four
  replace hb := hb.next hb2; clear hb2
  go_wp2_with fail
  clear c0 c1 c2 c3 d0 d1 d2 d3 hA hB hR hR'
  refine (HG.out _).mono ?_
  rintro x w7 ⟨eo, ec, rfl, hb2, hY⟩
  have hal : Below w7.heap.size w7 (w7.alloc (.cells #[.int .i64 x0, .int .i64 x1, .int .i64 x2, .slice eo xd.length ec] 25)) := (Below.refl _ _).alloc (Nat.le_refl _) _
  have hM := Blk.new w7 #[.int .i64 x0, .int .i64 x1, .int .i64 x2, .slice eo xd.length ec] 25
  replace hY := hY.below hal
  obtain ⟨m0, m1, m2, m3⟩ := hM.four
  replace hb := hb.next hb2; clear hb2
  replace hb := hb.next hal
  clear hal
  go_wp2_with fail
  refine (HPX.out _ _ hY).mono ?_
  rintro x w8 ⟨rfl, hb2⟩
  clear m0 m1 m2 m3
  replace hb := hb.next hb2; clear hb2
  go_wp2_with fail
  refine (HA.out _).mono ?_
  rintro x w9 ⟨rfl, hb2⟩
  replace hb := hb.next hb2; clear hb2
  go_wp2_with fail
  go_ret
  exact ⟨by simp, hb⟩
theorem walk_VersionOne (r f t : Int) (d : List Vl) (v : Value) (r' f' t' : Int) (d' : List Vl) (v' : Value) (s : ByteArray) (w : World) (hv : RowAt w v d) (hd : Oks d) (hv' : RowAt w v' d') (hd' : Oks d') (hs : s.size ≤ 140737488351232) : Calls Try.prog 5 #[.agg #[.int .i64 r, .int .i64 f, .int .i64 t, v], .agg #[.int .i64 r', .int .i64 f', .int .i64 t', v'], .string s] w (Ret (.bool true) w) := by
  cases ho : overB d with
  | true => exact one_over r f t d v r' f' t' d' v' s w hv hd hv' hd' hs ho
  | false =>
    cases ho' : overB d' with
    | true => exact one_over' r f t d v r' f' t' d' v' s w hv hd hv' hd' hs ho ho'
    | false =>
      by_cases h6 : 600 < s.size
      · exact one_long r f t d v r' f' t' d' v' s w hv hd hv' hd' hs ho ho' h6
      · obtain ⟨q, e, hq⟩ : ∃ q e, putV ⟨r, f, t, d⟩ = (q, e) := ⟨_, _, rfl⟩
        obtain ⟨p, g, hp⟩ : ∃ q e, putV ⟨r', f', t', d'⟩ = (q, e) := ⟨_, _, rfl⟩
        have h6' : s.size ≤ 600 := by omega
        by_cases he : e = 0
        · by_cases hg : g = 0
          · cases h2 : getV s with
            | error e2 => exact one_both_error r f t d v r' f' t' d' v' s w hv hd hv' hd' hs ho ho' h6' q p e g hq hp he hg e2 h2
            | ok X => exact one_both_ok r f t d v r' f' t' d' v' s w hv hd hv' hd' hs ho ho' h6' q p e g hq hp he hg X h2
          · cases h2 : getV s with
            | error e2 => exact one_half_error r f t d v r' f' t' d' v' s w hv hd hv' hd' hs ho ho' h6' q p e g hq hp he hg e2 h2
            | ok X => exact one_half_ok r f t d v r' f' t' d' v' s w hv hd hv' hd' hs ho ho' h6' q p e g hq hp he hg X h2
        · cases h2 : getV s with
          | error e2 => exact one_bad_error r f t d v r' f' t' d' v' s w hv hd hv' hd' hs ho ho' h6' q p e g hq hp he e2 h2
          | ok X => exact one_bad_ok r f t d v r' f' t' d' v' s w hv hd hv' hd' hs ho ho' h6' q p e g hq hp he X h2
end Go.Proofs.Ytcboeggfincakaa
