/- Versions: which are the same; lists of held versions: Pick, SameHeld. -/
import Derived.Test.YtcboeggfincakaaVerR
import Derived.Test.YtcboeggfincakaaKitE
namespace Go.Proofs.Ytcboeggfincakaa
set_option linter.unusedVariables false
set_option linter.unusedSimpArgs false
open Go.RowKit Go.Sort
/-- Are two versions the same? -/
def sameB (x y : Vn) : Bool := x.r == y.r && (x.f == y.f && (x.t == y.t && (ordL x.d y.d == 0)))
theorem sameB_iff (x y : Vn) : sameB x y = true ↔ x = y := by
  obtain ⟨a, b, c, d⟩ := x
  obtain ⟨a', b', c', d'⟩ := y
  simp only [sameB, Bool.and_eq_true, beq_iff_eq, Vn.mk.injEq, ordL_zero]
theorem sameB_self (x : Vn) : sameB x x = true := (sameB_iff x x).2 rfl
theorem sameB_ne {x y : Vn} (h : x ≠ y) : sameB x y = false := by
  cases hs : sameB x y with
  | false => rfl
  | true => exact (h ((sameB_iff x y).1 hs)).elim
theorem same_any (x y : Vn) (v u : Value) (w : World) (hv : RowAt w v x.d) (hu : RowAt w u y.d) (hx : Oks x.d) (hy : Oks y.d) :
    Calls Try.prog 13 #[x.val v, y.val u] w (Ret (.bool (sameB x y)) w) := by
  obtain ⟨a, b, c, d⟩ := x
  obtain ⟨a', b', c', d'⟩ := y
  have HB : Hid (sameB ⟨a, b, c, d⟩ ⟨a', b', c', d'⟩ = (a == a' && (b == b' && (c == c' && (ordL d d' == 0))))) := rfl
  obtain ⟨B, hB⟩ : ∃ B, sameB ⟨a, b, c, d⟩ ⟨a', b', c', d'⟩ = B := ⟨_, rfl⟩
  rw [hB] at HB ⊢
  clear hB
  have HO := Lib.hid (fun W h1 h2 => rorders_any d d' v u W h1 h2 hx hy)
  show Calls Try.prog 13 #[.agg #[.int .i64 a, .int .i64 b, .int .i64 c, v], .agg #[.int .i64 a', .int .i64 b', .int .i64 c', u]] w (Ret (.bool B) w)
  have HV := Lib.hid hv
  have HU := Lib.hid hu
  obtain ⟨ao, cap, rfl⟩ := hv.nil
  obtain ⟨ao2, cap2, rfl⟩ := hu.nil
  clear hv hu hx hy
  have hb : Below w.heap.size w ((w.alloc (.cells #[.int .i64 a, .int .i64 b, .int .i64 c, .slice ao d.length cap] 25)).alloc (.cells #[.int .i64 a', .int .i64 b', .int .i64 c', .slice ao2 d'.length cap2] 25)) := ((Below.refl _ _).alloc (Nat.le_refl _) _).alloc (by simp) _
  cases h1 : a == a' with
  | false =>
    go_enter Try.func13, Try.ntmps13
    go_wp2_with fail
    go_ret
    exact ⟨ret_bool (by rw [HB.out, h1]; rfl), hb⟩
  | true =>
    cases h2 : b == b' with
    | false =>
      go_enter Try.func13, Try.ntmps13
      go_wp2_with fail
      go_ret
      exact ⟨ret_bool (by rw [HB.out, h1, h2]; rfl), hb⟩
    | true =>
      cases h3 : c == c' with
      | false =>
        go_enter Try.func13, Try.ntmps13
        go_wp2_with fail
        go_ret
        exact ⟨ret_bool (by rw [HB.out, h1, h2, h3]; rfl), hb⟩
      | true =>
        go_enter Try.func13, Try.ntmps13
        go_wp2_with fail
        refine (HO.out _ (HV.out.below hb) (HU.out.below hb)).mono ?_
        rintro e w2 ⟨rfl, hb2⟩
        replace hb := hb.next hb2
        go_wp2_with fail
        go_ret
        exact ⟨ret_bool (by rw [HB.out, h1, h2, h3]; rfl), hb⟩
/-- A held version: the version, its row's slice, where it lies. -/
structure Hd where
  x : Vn
  v : Value
  p : Int
  s : Int
def Hd.cells (h : Hd) : List Value := [.int .i64 h.x.r, .int .i64 h.x.f, .int .i64 h.x.t, h.v, .int .i64 h.p, .int .i64 h.s]
/-- A list of held versions. -/
structure HdAt (w : World) (v : Value) (l : List Hd) : Prop where
  el : ElAt w 6 v (l.map Hd.cells)
  rows : ∀ h ∈ l, RowAt w h.v h.x.d ∧ Oks h.x.d
theorem HdAt.below {w w1 : World} {v : Value} {l : List Hd} (h : HdAt w v l) (hb : Below w.heap.size w w1) : HdAt w1 v l := ⟨h.el.below hb, fun x hx => ⟨(h.rows x hx).1.below hb, (h.rows x hx).2⟩⟩
theorem HdAt.nil {w : World} {v : Value} {l : List Hd} (h : HdAt w v l) : ∃ ao cap, v = .slice ao l.length cap := by
  obtain ⟨ao, cap, hv⟩ := h.el.nil
  exact ⟨ao, cap, by rw [hv, List.length_map]⟩
theorem HdAt.small {w : World} {v : Value} {l : List Hd} (h : HdAt w v l) : l.length ≤ 140737488351232 := by have := h.el.small; rwa [List.length_map] at this
theorem HdAt.get {w : World} {v : Value} {l : List Hd} (h : HdAt w v l) (j : Nat) (hj : j < l.length) :
    ∃ b off cap, v = .slice (some ⟨b, off, none⟩) l.length cap ∧ b < w.heap.size ∧ w.cell? ⟨b, off + j * 6, none⟩ = some (.int .i64 l[j].x.r) ∧ w.cell? ⟨b, off + j * 6 + 1, none⟩ = some (.int .i64 l[j].x.f) ∧ w.cell? ⟨b, off + j * 6 + 2, none⟩ = some (.int .i64 l[j].x.t) ∧ w.cell? ⟨b, off + j * 6 + 3, none⟩ = some l[j].v ∧ w.cell? ⟨b, off + j * 6 + 4, none⟩ = some (.int .i64 l[j].p) ∧ w.cell? ⟨b, off + j * 6 + 5, none⟩ = some (.int .i64 l[j].s) := by
  obtain ⟨b, off, cap, hv, hlt, hc⟩ := h.el.get j (by rw [List.length_map]; exact hj)
  rw [List.length_map] at hv
  have e : (l.map Hd.cells)[j]'(by rw [List.length_map]; exact hj) = l[j].cells := by simp
  rw [e] at hc
  exact ⟨b, off, cap, hv, hlt, hc 0 _ rfl, hc 1 _ rfl, hc 2 _ rfl, hc 3 _ rfl, hc 4 _ rfl, hc 5 _ rfl⟩
theorem info_held : (Try.prog.info? 40).map (fun i => (i.zero, i.size, i.bytes)) = some (some (.agg #[.int .i64 0, .int .i64 0, .int .i64 0, .slice none 0 0, .int .i64 0, .int .i64 0]), 6, 64) := by kernel_rfl
def heldCells (l : List Hd) : List Value := (l.map Hd.cells).flatten
theorem heldCells_snoc (l : List Hd) (h : Hd) : heldCells (l ++ [h]) = heldCells l ++ h.cells := by simp [heldCells]
theorem held6 (l : List Hd) : ∀ c ∈ l.map Hd.cells, c.length = 6 := by
  intro c hc
  obtain ⟨h, _, rfl⟩ := List.mem_map.1 hc
  rfl
def picked (l : List Hd) (n : Int) (k : Nat) : List Hd := (l.take k).filter fun h => seenB h.x.f h.x.t n
theorem picked_yes {l : List Hd} {n : Int} {k : Nat} (hk : k < l.length) (h : seenB l[k].x.f l[k].x.t n = true) : picked l n (k + 1) = picked l n k ++ [l[k]] := by
  rw [picked, List.take_succ_eq_append_getElem hk, List.filter_append]; simp [picked, h]
theorem picked_no {l : List Hd} {n : Int} {k : Nat} (hk : k < l.length) (h : seenB l[k].x.f l[k].x.t n = false) : picked l n (k + 1) = picked l n k := by
  rw [picked, List.take_succ_eq_append_getElem hk, List.filter_append]; simp [picked, h]
theorem picked_all {l : List Hd} {n : Int} {k : Nat} (hk : ¬ k < l.length) : picked l n k = l.filter fun h => seenB h.x.f h.x.t n := by
  rw [picked, List.take_of_length_le (by omega)]
theorem picked_len {l : List Hd} {n : Int} {k : Nat} : (picked l n k).length ≤ l.length := by
  refine Nat.le_trans (List.length_filter_le _ _) ?_
  rw [List.length_take]; omega
theorem HdAt.picked {w w1 : World} {u : Value} {l : List Hd} {n : Int} {k B : Nat} (hk : ¬ k < l.length) (hr : ∀ h ∈ l, RowAt w h.v h.x.d ∧ Oks h.x.d) (hb : Below w.heap.size w w1) (ho : w1.ownsRow B 40 6 u (picked l n k).length (heldCells (picked l n k))) (hs : l.length ≤ 100) : HdAt w1 u (l.filter fun h => seenB h.x.f h.x.t n) := by
  rw [picked_all hk] at ho
  refine ⟨ElAt.owned (held6 _) (by rw [List.length_map]; exact ho) (by rw [List.length_map]; have := List.length_filter_le (fun h : Hd => seenB h.x.f h.x.t n) l; omega), fun h hh => ?_⟩
  have := hr h (List.mem_filter.1 hh).1
  exact ⟨this.1.below hb, this.2⟩
set_option maxHeartbeats 1000000 in
theorem pick_any (l : List Hd) (v : Value) (n : Int) (w : World) (hv : HdAt w v l) (hn : l.length ≤ 100) : Calls Try.prog 19 #[v, .int .i64 n] w fun x w' => ∃ u, x = .returned u ∧ Below w.heap.size w w' ∧ HdAt w' u (l.filter fun h => seenB h.x.f h.x.t n) := by
  have HR := Lib.hid hv.rows
  have HV := Lib.hid hv
  obtain ⟨ao, cap, rfl⟩ := hv.nil
  clear hv
  obtain ⟨B, HBB⟩ : ∃ B, Hid (w.heap.size = B) := ⟨_, rfl⟩
  go_enter Try.func19, Try.ntmps19
  go_wp2_with fail
  go_loopw [5, 10] (fun o i wr => ∃ (k : Nat) (ov : Value), ov = o ∧ k ≤ l.length ∧ i = .int .i64 k ∧ wr.ownsRow B 40 6 ov (picked l n k).length (heldCells (picked l n k)) ∧ Below w.heap.size w wr) (fun _ i _ => l.length - (intOf i).toNat)
  case atStart => exact ⟨0, _, rfl, Nat.zero_le _, rfl, World.ownsRow_nil _ _ _ _, Below.refl _ _⟩
  case round =>
    obtain ⟨k, o, rfl, hk, rfl, hown, hb⟩ := hrel
    by_cases hlt : k < l.length
    · obtain ⟨b, off, cap', hv2, hbl, c0, c1, c2, c3, c4, c5⟩ := (HV.out.below hb).get k hlt
      injection hv2 with h1 h2 h3
      subst h1
      subst h3
      obtain ⟨ho, hc, hhv⟩ := (HR.out _ (List.getElem_mem hlt)).1.nil
      obtain ⟨hm, hhm⟩ : ∃ m, l[k].x.d.length = m := ⟨_, rfl⟩
      rw [hhm] at hhv
      have hcells : l[k].cells = [.int .i64 l[k].x.r, .int .i64 l[k].x.f, .int .i64 l[k].x.t, l[k].v, .int .i64 l[k].p, .int .i64 l[k].s] := rfl
      rw [hhv] at c3 hcells
      obtain ⟨r, hr⟩ : ∃ r, l[k].x.r = r := ⟨_, rfl⟩
      obtain ⟨f, hf⟩ : ∃ r, l[k].x.f = r := ⟨_, rfl⟩
      obtain ⟨u, hu⟩ : ∃ r, l[k].x.t = r := ⟨_, rfl⟩
      obtain ⟨hp, hp'⟩ : ∃ r, l[k].p = r := ⟨_, rfl⟩
      obtain ⟨hs, hs'⟩ : ∃ r, l[k].s = r := ⟨_, rfl⟩
      rw [hr] at c0 hcells
      rw [hf] at c1 hcells
      rw [hu] at c2 hcells
      rw [hp'] at c4 hcells
      rw [hs'] at c5 hcells
      have HCL := Lib.hid hcells
      clear hcells hr hp' hs' hhm hhv
      have hb0 : Below wr.heap.size wr (wr.alloc (.cells #[.int .i64 r, .int .i64 f, .int .i64 u, .slice ho hm hc, .int .i64 hp, .int .i64 hs] 40)) := (Below.refl _ _).alloc (Nat.le_refl _) _
      have hN := Blk.new wr #[.int .i64 r, .int .i64 f, .int .i64 u, .slice ho hm hc, .int .i64 hp, .int .i64 hs] 40
      cases hsn : seenB f u n with
      | true =>
        have HS := Lib.hid (fun W => seen_any r f u n (.slice ho hm hc) ⟨_, _, _, rfl⟩ true hsn W)
        have HP := Lib.hid (picked_yes (n := n) hlt (by rw [hf, hu]; exact hsn))
        clear hsn hf hu
        go_wp2_with fail
        refine (HS.out _).mono ?_
        rintro e w5 ⟨rfl, hb5⟩
        have hN2 := hN.below hb5
        have n0 := hN2.cell 0 (v := .int .i64 r) rfl
        have n1 := hN2.cell 1 (v := .int .i64 f) rfl
        have n2 := hN2.cell 2 (v := .int .i64 u) rfl
        have n3 := hN2.cell 3 (v := .slice ho hm hc) rfl
        have n4 := hN2.cell 4 (v := .int .i64 hp) rfl
        have n5 := hN2.cell 5 (v := .int .i64 hs) rfl
        have hown5 := ownsRow_below (ownsRow_below hown hb0) hb5
        replace hb := (hb.next hb0).next hb5
        have HSZ : Hid (B ≤ w5.heap.size) := by show _ ≤ _; rw [← HBB.out]; exact hb.size
        clear hown
        go_wp2_with ((with_reducible refine wpList_append1 35 40 (.agg #[.int .i64 0, .int .i64 0, .int .i64 0, .slice none 0 0, .int .i64 0, .int .i64 0]) 6 64 Try.underlying35 info_held rfl (by decide) (by decide) ?_); refine ⟨B, o, (picked l n k).length, heldCells (picked l n k), _, _, [.int .i64 r, .int .i64 f, .int .i64 u, .slice ho hm hc, .int .i64 hp, .int .i64 hs], rfl, rfl, hown5.alloc _, rfl, new_cells _ _ [.int .i64 r, .int .i64 f, .int .i64 u, .slice ho hm hc, .int .i64 hp, .int .i64 hs], ?_, ?_, ?_, ?_⟩; (intro z hz; simp only [List.mem_cons, List.not_mem_nil, or_false] at hz; rcases hz with rfl | rfl | rfl | rfl | rfl | rfl <;> rfl); (have := picked_len (l := l) (n := n) (k := k); omega); (simp; have := HSZ.out; omega); intro v' w6 hown6 hb6 _)
        have hb7 := (hb.alloc hb.size _).trans (hb6.mono (by rw [HBB.out]; exact Nat.le_refl _))
        go_roundw
        case rel => exact ⟨k + 1, v', rfl, by omega, by go_num, by rw [HP.out, heldCells_snoc, List.length_append, HCL.out]; exact hown6, hb7⟩
        case measure => simp [intOf]; omega
      | false =>
        have HS := Lib.hid (fun W => seen_any r f u n (.slice ho hm hc) ⟨_, _, _, rfl⟩ false hsn W)
        have HP := Lib.hid (picked_no (n := n) hlt (by rw [hf, hu]; exact hsn))
        clear hsn hf hu
        go_wp2_with fail
        refine (HS.out _).mono ?_
        rintro e w5 ⟨rfl, hb5⟩
        have hN2 := hN.below hb5
        have n0 := hN2.cell 0 (v := .int .i64 r) rfl
        have n1 := hN2.cell 1 (v := .int .i64 f) rfl
        have n2 := hN2.cell 2 (v := .int .i64 u) rfl
        have n3 := hN2.cell 3 (v := .slice ho hm hc) rfl
        have n4 := hN2.cell 4 (v := .int .i64 hp) rfl
        have n5 := hN2.cell 5 (v := .int .i64 hs) rfl
        have hown5 := ownsRow_below (ownsRow_below hown hb0) hb5
        replace hb := (hb.next hb0).next hb5
        have HSZ : Hid (B ≤ w5.heap.size) := by show _ ≤ _; rw [← HBB.out]; exact hb.size
        clear hown
        clear HSZ
        go_wp2_with fail
        go_roundw
        case rel => exact ⟨k + 1, o, rfl, by omega, by go_num, by rw [HP.out]; exact hown5, hb⟩
        case measure => simp [intOf]; omega
    · have HF := Lib.hid (HdAt.picked (n := n) hlt HR.out hb hown hn)
      clear hown
      go_wp2_with fail
      go_ret
      exact ⟨_, rfl, hb, HF.out⟩
set_option maxHeartbeats 1000000 in
theorem rpick_any (l : List Hd) (v : Value) (n : Int) (w : World) (hv : HdAt w v l) (hn : l.length ≤ 100) : Calls Try.prog 20 #[v, .int .i64 n] w fun x w' => ∃ u, x = .returned u ∧ Below w.heap.size w w' ∧ HdAt w' u (l.filter fun h => seenB h.x.f h.x.t n) := by
  have HR := Lib.hid hv.rows
  have HV := Lib.hid hv
  obtain ⟨ao, cap, rfl⟩ := hv.nil
  clear hv
  obtain ⟨B, HBB⟩ : ∃ B, Hid (w.heap.size = B) := ⟨_, rfl⟩
  go_enter Try.func20, Try.ntmps20
  go_wp2_with fail
  go_loopw [5, 6] (fun o i wr => ∃ (k : Nat) (ov : Value), ov = o ∧ k ≤ l.length ∧ i = .int .i64 k ∧ wr.ownsRow B 40 6 ov (picked l n k).length (heldCells (picked l n k)) ∧ Below w.heap.size w wr) (fun _ i _ => l.length - (intOf i).toNat)
  case atStart => exact ⟨0, _, rfl, Nat.zero_le _, rfl, World.ownsRow_nil _ _ _ _, Below.refl _ _⟩
  case round =>
    obtain ⟨k, o, rfl, hk, rfl, hown, hb⟩ := hrel
    by_cases hlt : k < l.length
    · obtain ⟨b, off, cap', hv2, hbl, c0, c1, c2, c3, c4, c5⟩ := (HV.out.below hb).get k hlt
      injection hv2 with h1 h2 h3
      subst h1
      subst h3
      obtain ⟨ho, hc, hhv⟩ := (HR.out _ (List.getElem_mem hlt)).1.nil
      obtain ⟨hm, hhm⟩ : ∃ m, l[k].x.d.length = m := ⟨_, rfl⟩
      rw [hhm] at hhv
      have hcells : l[k].cells = [.int .i64 l[k].x.r, .int .i64 l[k].x.f, .int .i64 l[k].x.t, l[k].v, .int .i64 l[k].p, .int .i64 l[k].s] := rfl
      rw [hhv] at c3 hcells
      obtain ⟨r, hr⟩ : ∃ r, l[k].x.r = r := ⟨_, rfl⟩
      obtain ⟨f, hf⟩ : ∃ r, l[k].x.f = r := ⟨_, rfl⟩
      obtain ⟨u, hu⟩ : ∃ r, l[k].x.t = r := ⟨_, rfl⟩
      obtain ⟨hp, hp'⟩ : ∃ r, l[k].p = r := ⟨_, rfl⟩
      obtain ⟨hs, hs'⟩ : ∃ r, l[k].s = r := ⟨_, rfl⟩
      rw [hr] at c0 hcells
      rw [hf] at c1 hcells
      rw [hu] at c2 hcells
      rw [hp'] at c4 hcells
      rw [hs'] at c5 hcells
      have HCL := Lib.hid hcells
      clear hcells hr hp' hs' hhm hhv
      cases hsn : seenB f u n with
      | true =>
        have HS := Lib.hid (fun W => rseen_any r f u n (.slice ho hm hc) ⟨_, _, _, rfl⟩ true hsn W)
        have HP := Lib.hid (picked_yes (n := n) hlt (by rw [hf, hu]; exact hsn))
        clear hsn hf hu
        go_wp2_with fail
        refine (HS.out _).mono ?_
        rintro e w5 ⟨rfl, hb5⟩
        have n0 := cell_below c0 hb5
        have n1 := cell_below c1 hb5
        have n2 := cell_below c2 hb5
        have n3 := cell_below c3 hb5
        have n4 := cell_below c4 hb5
        have n5 := cell_below c5 hb5
        have hown5 := ownsRow_below hown hb5
        replace hb := hb.next hb5
        have HSZ : Hid (B ≤ w5.heap.size) := by show _ ≤ _; rw [← HBB.out]; exact hb.size
        clear hown
        go_wp2_with ((with_reducible refine wpList_append1 35 40 (.agg #[.int .i64 0, .int .i64 0, .int .i64 0, .slice none 0 0, .int .i64 0, .int .i64 0]) 6 64 Try.underlying35 info_held rfl (by decide) (by decide) ?_); refine ⟨B, o, (picked l n k).length, heldCells (picked l n k), _, _, [.int .i64 r, .int .i64 f, .int .i64 u, .slice ho hm hc, .int .i64 hp, .int .i64 hs], rfl, rfl, hown5.alloc _, rfl, new_cells _ _ [.int .i64 r, .int .i64 f, .int .i64 u, .slice ho hm hc, .int .i64 hp, .int .i64 hs], ?_, ?_, ?_, ?_⟩; (intro z hz; simp only [List.mem_cons, List.not_mem_nil, or_false] at hz; rcases hz with rfl | rfl | rfl | rfl | rfl | rfl <;> rfl); (have := picked_len (l := l) (n := n) (k := k); omega); (simp; have := HSZ.out; omega); intro v' w6 hown6 hb6 _)
        have hb7 := (hb.alloc hb.size _).trans (hb6.mono (by rw [HBB.out]; exact Nat.le_refl _))
        go_roundw
        case rel => exact ⟨k + 1, v', rfl, by omega, by go_num, by rw [HP.out, heldCells_snoc, List.length_append, HCL.out]; exact hown6, hb7⟩
        case measure => simp [intOf]; omega
      | false =>
        have HS := Lib.hid (fun W => rseen_any r f u n (.slice ho hm hc) ⟨_, _, _, rfl⟩ false hsn W)
        have HP := Lib.hid (picked_no (n := n) hlt (by rw [hf, hu]; exact hsn))
        clear hsn hf hu
        go_wp2_with fail
        refine (HS.out _).mono ?_
        rintro e w5 ⟨rfl, hb5⟩
        have n0 := cell_below c0 hb5
        have n1 := cell_below c1 hb5
        have n2 := cell_below c2 hb5
        have n3 := cell_below c3 hb5
        have n4 := cell_below c4 hb5
        have n5 := cell_below c5 hb5
        have hown5 := ownsRow_below hown hb5
        replace hb := hb.next hb5
        have HSZ : Hid (B ≤ w5.heap.size) := by show _ ≤ _; rw [← HBB.out]; exact hb.size
        clear hown
        clear HSZ
        go_wp2_with fail
        go_roundw
        case rel => exact ⟨k + 1, o, rfl, by omega, by go_num, by rw [HP.out]; exact hown5, hb⟩
        case measure => simp [intOf]; omega
    · have HF := Lib.hid (HdAt.picked (n := n) hlt HR.out hb hown hn)
      clear hown
      go_wp2_with fail
      go_ret
      exact ⟨_, rfl, hb, HF.out⟩
set_option maxHeartbeats 2000000 in
theorem sameHeld_any (l : List Hd) (va vb : Value) (w : World) (ha : HdAt w va l) (hb : HdAt w vb l) : Calls Try.prog 18 #[va, vb] w (Ret (.bool true) w) := by
  have HA := Lib.hid ha
  have HB := Lib.hid hb
  have hsm := ha.small
  obtain ⟨ao, cap, rfl⟩ := ha.nil
  obtain ⟨bo, cap2, rfl⟩ := hb.nil
  clear ha hb
  go_enter Try.func18, Try.ntmps18
  go_wp2_with fail
  go_loopw [5] (fun i wr => ∃ k : Nat, k ≤ l.length ∧ i = .int .i64 k ∧ Below w.heap.size w wr) (fun i _ => l.length - (intOf i).toNat)
  case atStart => exact ⟨0, Nat.zero_le _, rfl, Below.refl _ _⟩
  case round =>
    obtain ⟨k, hk, rfl, hb⟩ := hrel
    by_cases hlt : k < l.length
    · have hA := HA.out.below hb
      have hB := HB.out.below hb
      obtain ⟨b, off, cap', hv2, hbl, c0, c1, c2, c3, c4, c5⟩ := hA.get k hlt
      injection hv2 with h1 h2 h3
      subst h1
      subst h3
      obtain ⟨b2, off2, cap2', hv3, hbl2, d0, d1, d2, d3, d4, d5⟩ := hB.get k hlt
      injection hv3 with h1 h2 h3
      subst h1
      subst h3
      have hrow := hA.rows _ (List.getElem_mem hlt)
      have HS := Lib.hid (fun W (h : RowAt W (l[k]'hlt).v (l[k]'hlt).x.d) => same_any (l[k]'hlt).x (l[k]'hlt).x (l[k]'hlt).v (l[k]'hlt).v W h h hrow.2 hrow.2)
      rw [sameB_self] at HS
      have HROW := Lib.hid hrow.1
      have hvl : l[k].x.val l[k].v = .agg #[.int .i64 l[k].x.r, .int .i64 l[k].x.f, .int .i64 l[k].x.t, l[k].v] := rfl
      rw [hvl] at HS
      obtain ⟨ho, hc, hhv⟩ := hrow.1.nil
      obtain ⟨hm, hhm⟩ : ∃ m, l[k].x.d.length = m := ⟨_, rfl⟩
      obtain ⟨dd, hdd⟩ : ∃ m, l[k].x.d = m := ⟨_, rfl⟩
      rw [hhm] at hhv
      rw [hhv] at c3 d3 HS HROW
      rw [hdd] at HS HROW
      obtain ⟨r, hr⟩ : ∃ r, l[k].x.r = r := ⟨_, rfl⟩
      obtain ⟨f, hf⟩ : ∃ r, l[k].x.f = r := ⟨_, rfl⟩
      obtain ⟨u, hu⟩ : ∃ r, l[k].x.t = r := ⟨_, rfl⟩
      obtain ⟨hp, hp'⟩ : ∃ r, l[k].p = r := ⟨_, rfl⟩
      obtain ⟨hs, hs'⟩ : ∃ r, l[k].s = r := ⟨_, rfl⟩
      rw [hr] at c0 d0
      rw [hf] at c1 d1
      rw [hu] at c2 d2
      rw [hp'] at c4 d4
      rw [hs'] at c5 d5
      rw [hr, hf, hu] at HS
      have HS2 : Hid (∀ p : Regrown, Calls Try.prog 13 #[.agg #[.int .i64 r, .int .i64 f, .int .i64 u, .slice ho hm hc], .agg #[.int .i64 r, .int .i64 f, .int .i64 u, .slice ho hm hc]] (grow (redrawn wr p.d) p.os) (Ret (.bool true) (grow (redrawn wr p.d) p.os))) :=
        fun p => HS.out _ (HROW.out.below (below_regrown _ _ _))
      have e0 : ∀ p' : Regrown, (grow (redrawn wr p'.d) p'.os).cell? ⟨b, off + k * 6, none⟩ = some (.int .i64 r) := fun q => cell_regrown c0 q.d q.os
      have e1 : ∀ p' : Regrown, (grow (redrawn wr p'.d) p'.os).cell? ⟨b, off + k * 6 + 1, none⟩ = some (.int .i64 f) := fun q => cell_regrown c1 q.d q.os
      have e2 : ∀ p' : Regrown, (grow (redrawn wr p'.d) p'.os).cell? ⟨b, off + k * 6 + 2, none⟩ = some (.int .i64 u) := fun q => cell_regrown c2 q.d q.os
      have e3 : ∀ p' : Regrown, (grow (redrawn wr p'.d) p'.os).cell? ⟨b, off + k * 6 + 3, none⟩ = some (.slice ho hm hc) := fun q => cell_regrown c3 q.d q.os
      have e4 : ∀ p' : Regrown, (grow (redrawn wr p'.d) p'.os).cell? ⟨b, off + k * 6 + 4, none⟩ = some (.int .i64 hp) := fun q => cell_regrown c4 q.d q.os
      have e5 : ∀ p' : Regrown, (grow (redrawn wr p'.d) p'.os).cell? ⟨b, off + k * 6 + 5, none⟩ = some (.int .i64 hs) := fun q => cell_regrown c5 q.d q.os
      have j0 : ∀ p' : Regrown, (grow (redrawn wr p'.d) p'.os).cell? ⟨b2, off2 + k * 6, none⟩ = some (.int .i64 r) := fun q => cell_regrown d0 q.d q.os
      have j1 : ∀ p' : Regrown, (grow (redrawn wr p'.d) p'.os).cell? ⟨b2, off2 + k * 6 + 1, none⟩ = some (.int .i64 f) := fun q => cell_regrown d1 q.d q.os
      have j2 : ∀ p' : Regrown, (grow (redrawn wr p'.d) p'.os).cell? ⟨b2, off2 + k * 6 + 2, none⟩ = some (.int .i64 u) := fun q => cell_regrown d2 q.d q.os
      have j3 : ∀ p' : Regrown, (grow (redrawn wr p'.d) p'.os).cell? ⟨b2, off2 + k * 6 + 3, none⟩ = some (.slice ho hm hc) := fun q => cell_regrown d3 q.d q.os
      have j4 : ∀ p' : Regrown, (grow (redrawn wr p'.d) p'.os).cell? ⟨b2, off2 + k * 6 + 4, none⟩ = some (.int .i64 hp) := fun q => cell_regrown d4 q.d q.os
      have j5 : ∀ p' : Regrown, (grow (redrawn wr p'.d) p'.os).cell? ⟨b2, off2 + k * 6 + 5, none⟩ = some (.int .i64 hs) := fun q => cell_regrown d5 q.d q.os
      clear HS HROW hrow hvl hhv hhm hdd hr hf hu hp' hs' hA hB c0 c1 c2 c3 c4 c5 d0 d1 d2 d3 d4 d5
      go_wp2_with fail
      refine wp_region_quiet_below (by kernel_rfl) (by kernel_rfl) ?_
      repeat (go_big_quiet_step ((go_at_call 13; exact Ret.regrown (HS2.out ⟨_, _⟩))))
      refine wpQuiet_nil ?_
      intro w2 hw2
      have hb2 := below_of_regrown hw2
      clear hw2 e0 e1 e2 e3 e4 e5 j0 j1 j2 j3 j4 j5
      go_wp2_with fail
      go_roundw
      case rel => exact ⟨k + 1, by omega, by go_num, hb.next hb2⟩
      case measure => simp [intOf]; omega
    · go_wp2_with fail
      go_ret
      exact ⟨rfl, hb⟩
end Go.Proofs.Ytcboeggfincakaa
