/- The reference's Match: what it answers. -/
import Derived.Test.YtmkfgbbipckgiaaLikR
import Derived.Test.YtmkfgbbipckgiaaLikM
namespace Go.Proofs.Ytmkfgbbipckgiaa
set_option linter.unusedVariables false
set_option linter.unusedSimpArgs false
open Go.RowKit
open Oct (S)
open Lik (signsL special matchL M)
/-- Do the first i signs match the first n bytes? -/
def D (l : List Nat) (t : List UInt8) (i n : Nat) : Bool := matchL (l.take i) (t.take n)
def rowB (f : Nat → Bool) (N : Nat) : List Value := (List.range N).map fun n => .bool (f n)
theorem rowB_length (f : Nat → Bool) (N : Nat) : (rowB f N).length = N := by simp [rowB]
theorem rowB_get (f : Nat → Bool) (N k : Nat) (h : k < (rowB f N).length) : (rowB f N)[k] = .bool (f k) := by simp [rowB]
theorem rowB_set (f g : Nat → Bool) (N k : Nat) (v : Bool) (h1 : g k = v) (h2 : ∀ j, j ≠ k → g j = f j) : (rowB f N).set k (.bool v) = rowB g N := by
  apply List.ext_getElem
  · simp [rowB]
  · intro j h3 h4
    rw [List.getElem_set]
    simp only [rowB, List.getElem_map, List.getElem_range]
    split
    · rename_i e; subst e; rw [h1]
    · rename_i e; rw [h2 j (fun h => e h.symm)]
theorem rowB_replicate (N : Nat) : List.replicate N (Value.bool false) = rowB (fun _ => false) N := by
  apply List.ext_getElem
  · simp [rowB]
  · intro j h3 h4; simp [rowB]
theorem D_zero (l : List Nat) (t : List UInt8) (n : Nat) (h : n ≤ t.length) : D l t 0 n = decide (n = 0) := by
  have : M [] (t.take n) ↔ n = 0 := by
    rw [Lik.M_nil]
    constructor
    · intro e
      have := congrArg List.length e
      rw [List.length_take, List.length_nil] at this
      omega
    · rintro rfl; simp
  rw [D, List.take_zero, Bool.eq_iff_iff]
  simpa [M] using this
theorem take_snoc' {α : Type} {l : List α} {i : Nat} {x : α} (h : l[i]? = some x) : l.take (i + 1) = l.take i ++ [x] := by
  obtain ⟨hi, rfl⟩ := List.getElem?_eq_some_iff.1 h
  exact List.take_succ_eq_append_getElem hi
theorem D_any (l : List Nat) (t : List UInt8) (i n : Nat) (h : l[i]? = some 257) (hn : n ≤ t.length) : D l t (i + 1) n = (D l t i n || (decide (0 < n) && D l t (i + 1) (n - 1))) := by
  have e : ∀ m, m ≤ t.length → (D l t (i + 1) m = true ↔ ∃ k, k ≤ m ∧ D l t i k = true) := by
    intro m hm
    show M (l.take (i + 1)) (t.take m) ↔ _
    rw [take_snoc' h, Lik.M_snoc_any]
    constructor
    · rintro ⟨k, hk, h2⟩
      simp only [List.length_take] at hk
      exact ⟨k, by omega, by rw [List.take_take, Nat.min_eq_left (by omega)] at h2; exact h2⟩
    · rintro ⟨k, hk, h2⟩
      exact ⟨k, by rw [List.length_take]; omega, by rw [List.take_take, Nat.min_eq_left (by omega)]; exact h2⟩
  rw [Bool.eq_iff_iff, e n hn]
  simp only [Bool.or_eq_true, Bool.and_eq_true, decide_eq_true_eq]
  constructor
  · rintro ⟨k, hk, h2⟩
    by_cases hkn : k = n
    · subst hkn; exact .inl h2
    · exact .inr ⟨by omega, (e (n - 1) (by omega)).2 ⟨k, by omega, h2⟩⟩
  · rintro (h2 | ⟨h0, h2⟩)
    · exact ⟨n, Nat.le_refl _, h2⟩
    · obtain ⟨k, hk, h3⟩ := (e (n - 1) (by omega)).1 h2
      exact ⟨k, by omega, h3⟩
theorem D_none (l : List Nat) (t : List UInt8) (i : Nat) (x : Nat) (h : l[i]? = some x) (hx : x ≠ 257) : D l t (i + 1) 0 = false := by
  rw [D, take_snoc' h]
  have := Lik.M_snoc_nil (l.take i) x hx
  simpa [M] using this
theorem D_one (l : List Nat) (t : List UInt8) (i n : Nat) (x : Nat) (c : UInt8) (h : l[i]? = some x) (hx : x ≠ 257) (hc : t[n]? = some c) : D l t (i + 1) (n + 1) = ((x == 256 || x == c.toNat) && D l t i n) := by
  rw [D, D, take_snoc' h, take_snoc' hc]
  have := Lik.M_snoc_one (l.take i) x hx (t.take n) c
  rw [Bool.eq_iff_iff]
  simpa [M] using this
theorem info_bool : (Try.prog.info? 4).map (fun i => (i.zero, i.size, i.bytes)) = some (some (.bool false), 1, 1) := by kernel_rfl
theorem intRow_get (l : List Nat) (k : Nat) (x : Nat) (h : l[k]? = some x) : (intRow l)[k]? = some (.int .i64 (x : Int)) := by
  simp [intRow, h]
set_option maxHeartbeats 1000000 in
set_option maxRecDepth 100000 in
theorem rmatch_core (s p : ByteArray) (l : List Nat) (w : World) (hs : s.size ≤ 100000) (hp : p.size ≤ 100000) (HL : Hid (signsL p.data.toList = l)) (hl : l.length ≤ 100000) :
    Calls Try.prog 11 #[.string s, .string p] w (Ret (.bool (matchL l s.data.toList)) w) := by
  obtain ⟨t, HT⟩ : ∃ t, Hid (t = s.data.toList) := ⟨_, rfl⟩
  rw [← HT.out]
  have HN : Hid (t.length = s.size) := by show _ = _; rw [HT.out]; simp
  go_enter Try.func11, Try.ntmps11
  go_wp2_with fail
  refine (rsigns_any p _ hp).mono ?_
  rintro e w1 ⟨v, rfl, hown, hb1⟩
  rw [HL.out] at hown
  obtain ⟨ao, cap, rfl, hcap, hrows⟩ := ownsRow_shape hown
  clear hown
  go_wp2_with ((with_reducible refine wpList_makeVals 37 4 (.bool false) 1 rfl (by decide) Try.underlying37 info_bool ?_); refine ⟨s.size + 1, _, _, _, _, rfl, rfl, by omega, by omega, by omega, ?_⟩; intro g w2 hg hg2 hb2 hv; have hc0 := (hv 0 (by simp)).1; have hf0 := (hv 0 (by simp)).2; rw [List.getElem_replicate] at hc0)
  have HR0 : Hid ((List.replicate (s.size + 1) (Value.bool false)).set 0 (.bool true) = rowB (D l t 0) (s.size + 1)) := by
    show _ = _
    have e : rowB (D l t 0) (s.size + 1) = rowB (fun n => decide (n = 0)) (s.size + 1) := by
      apply List.map_congr_left
      intro n hn
      rw [D_zero l t n (by rw [HN.out]; have := List.mem_range.1 hn; omega)]
    rw [e, rowB_replicate]
    exact rowB_set _ _ _ 0 true (by simp) (fun j hj => by simp [hj])
  have hv0 := hv.set 0 (by simp) (.bool true)
  rw [HR0.out] at hv0
  have hz0 : g < (w2.setCell ⟨g, 0, none⟩ (.bool true)).heap.size := by simpa using hg2
  have hbb : Below w1.heap.size w1 (w2.setCell ⟨g, 0, none⟩ (.bool true)) := hb2.setCell hg _
  clear hc0 hf0 hv HR0
  go_loopw [6, 7, 8, 9] (fun a i _ _ wr => ∃ (k g : Nat), k ≤ l.length ∧ i = .int .i64 k ∧ a = .slice (some ⟨g, 0, none⟩) (s.size + 1) (s.size + 1) ∧ w1.heap.size ≤ g ∧ g < wr.heap.size ∧ Below w1.heap.size w1 wr ∧ ValsAt wr g (rowB (D l t k) (s.size + 1))) (fun _ i _ _ _ => l.length - (intOf i).toNat)
  case atStart => exact ⟨0, g, Nat.zero_le _, rfl, rfl, hg, hz0, hbb, hv0⟩
  case round =>
    clear hv0 hz0 hbb hb2 hg hg2
    obtain ⟨k, g, hk, rfl, rfl, hg, hz, hb, hv⟩ := hrel
    by_cases hlt : k < l.length
    · obtain ⟨x, HX⟩ : ∃ x, Hid (l[k]? = some x) := ⟨l[k], List.getElem?_eq_getElem hlt⟩
      have hx257 : x ≤ 257 := by
        have h := Lik.signs_le p.data.toList x (by rw [HL.out]; exact List.mem_of_getElem? HX.out)
        exact h
      go_wp2_with ((with_reducible refine wpList_makeVals 37 4 (.bool false) 1 rfl (by decide) Try.underlying37 info_bool ?_); refine ⟨s.size + 1, _, _, _, _, rfl, rfl, by omega, by omega, by omega, ?_⟩; intro gn w3 hgn hgn2 hb3 hvn)
      obtain ⟨wo, rfl⟩ : ∃ wo : World, wo = wr := ⟨_, rfl⟩
      have hne : gn ≠ g := by omega
      have hgn1 : w1.heap.size ≤ gn := by omega
      have hv3 : ValsAt w3 g (rowB (D l t k) (s.size + 1)) := hv.below hb3 hz
      have hb4 : Below w1.heap.size w1 w3 := hb.trans (hb3.mono hb.size)
      rw [rowB_replicate] at hvn
      have hz3 : g < w3.heap.size := by omega
      clear hv hb hb3 hz
      go_loopw [9] (fun n wr => ∃ m : Nat, m ≤ s.size + 1 ∧ n = .int .i64 m ∧ g < wr.heap.size ∧ gn < wr.heap.size ∧ Below w1.heap.size w1 wr ∧ ValsAt wr g (rowB (D l t k) (s.size + 1)) ∧ ValsAt wr gn (rowB (fun j => decide (j < m) && D l t (k + 1) j) (s.size + 1))) (fun n _ => s.size + 1 - (intOf n).toNat)
      case atStart => exact ⟨0, Nat.zero_le _, rfl, hz3, hgn2, hb4, hv3, by simpa using hvn⟩
      case round =>
        clear hv3 hb4 hvn hz3
        obtain ⟨m, hm, rfl, hz, hzn, hb, hv, hvn⟩ := hrel
        by_cases hmt : m ≤ s.size
        · have hcA := (hv m (by rw [rowB_length]; omega)).1
          rw [rowB_get] at hcA
          have hcN := (hvn m (by rw [rowB_length]; omega)).1
          have hfN := (hvn m (by rw [rowB_length]; omega)).2
          rw [rowB_get] at hcN
          simp only [Nat.lt_irrefl, decide_false, Bool.false_and] at hcN
          have hcM : 0 < m → wr.cell? ⟨gn, m - 1, none⟩ = some (.bool (D l t (k + 1) (m - 1))) := fun h0 => by
            have := (hvn (m - 1) (by rw [rowB_length]; omega)).1
            rw [rowB_get, decide_eq_true (show m - 1 < m from by omega), Bool.true_and] at this
            exact this
          have hcAM : 0 < m → wr.cell? ⟨g, m - 1, none⟩ = some (.bool (D l t k (m - 1))) := fun h0 => by
            have := (hv (m - 1) (by rw [rowB_length]; omega)).1
            rw [rowB_get] at this
            exact this
          obtain ⟨gs, rfl, hgs, hcs⟩ := hrows.below hb (by omega)
          have hcX := hcs k _ (intRow_get l k x HX.out)
          clear hcs
          have NEXT : ∀ v : Bool, D l t (k + 1) m = v → ∀ wx, ValsAt wx gn ((rowB (fun j => decide (j < m) && D l t (k + 1) j) (s.size + 1)).set m (.bool v)) → ValsAt wx gn (rowB (fun j => decide (j < m + 1) && D l t (k + 1) j) (s.size + 1)) := by
            intro v hv2 wx h
            rw [rowB_set (g := fun j => decide (j < m + 1) && D l t (k + 1) j)] at h
            · exact h
            · rw [← hv2]; simp
            · intro j hj
              have : (decide (j < m + 1)) = decide (j < m) := by rw [decide_eq_decide]; omega
              rw [this]
          have NX := Lib.hid NEXT
          have KEEP : D l t (k + 1) m = false → Hid (rowB (fun j => decide (j < m) && D l t (k + 1) j) (s.size + 1) = rowB (fun j => decide (j < m + 1) && D l t (k + 1) j) (s.size + 1)) := by
            intro h
            show _ = _
            apply List.map_congr_left
            intro j hj
            by_cases hjm : j = m
            · subst hjm; simp [h]
            · have : (decide (j < m + 1)) = decide (j < m) := by rw [decide_eq_decide]; omega
              dsimp only
              rw [this]
          have KP := Lib.hid KEEP
          clear NEXT KEEP
          have hlN : m < (rowB (fun j => decide (j < m) && D l t (k + 1) j) (s.size + 1)).length := by rw [rowB_length]; omega
          by_cases hx : x = 257
          · have hcX' : wr.cell? ⟨gs, k, none⟩ = some (.int .i64 257) := by rw [hcX, hx]; rfl
            have HD := Lib.hid (D_any l t k m (by rw [HX.out, hx]) (by rw [HN.out]; omega))
            clear hcX hcAM hx
            cases hA : D l t k m with
            | true =>
              rw [hA] at hcA
              have HA := Lib.hid hA
              clear hA hcM
              go_wp2
              go_roundw
              case rel => exact ⟨m + 1, by omega, by go_num, by simpa using hz, by simpa using hzn, hb.setCell hgn1 _, hv.other hne _ _, NX.out true (by rw [HD.out, HA.out]; rfl) _ (hvn.set m hlN _)⟩
              case measure => simp [intOf]; omega
            | false =>
              rw [hA] at hcA
              have HA := Lib.hid hA
              clear hA
              by_cases h0 : 0 < m
              · have hcM' := hcM h0
                clear hcM
                obtain ⟨v, HV⟩ : ∃ v, Hid (D l t (k + 1) (m - 1) = v) := ⟨_, rfl⟩
                rw [HV.out] at hcM'
                go_wp2
                go_roundw
                case rel => exact ⟨m + 1, by omega, by go_num, by simpa using hz, by simpa using hzn, hb.setCell hgn1 _, hv.other hne _ _, NX.out v (by rw [HD.out, HA.out, HV.out]; simp [h0]) _ (hvn.set m hlN _)⟩
                case measure => simp [intOf]; omega
              · clear hcM
                have hm0 : m = 0 := by omega
                have HM := Lib.hid hm0
                clear hm0
                go_wp2
                go_roundw
                case rel => exact ⟨m + 1, by omega, by go_num, by simpa using hz, by simpa using hzn, hb.setCell hgn1 _, hv.other hne _ _, NX.out false (by rw [HD.out, HA.out]; simp [h0]) _ (hvn.set m hlN _)⟩
                case measure => simp [intOf]; omega
          · have t1 : ((x : Int) == 257) = false := by rw [beq_eq_false_iff_ne]; omega
            by_cases h0 : 0 < m
            · have hcA' := hcAM h0
              obtain ⟨v, HV⟩ : ∃ v, Hid (D l t k (m - 1) = v) := ⟨_, rfl⟩
              rw [HV.out] at hcA'
              clear hcM hcAM hcA
              have hmt2 : m - 1 < s.size := by omega
              have hcs : t[m - 1]? = some (s[m - 1]'hmt2) := by
                have := HT.out
                subst this
                rw [List.getElem?_eq_getElem (by simpa using hmt2)]
                simp; rfl
              have HD := Lib.hid (D_one l t k (m - 1) x _ HX.out hx hcs)
              rw [show m - 1 + 1 = m from by omega] at HD
              clear hcs hx
              have hbyte : (s[m - 1]'hmt2).toNat < 256 := UInt8.toNat_lt _
              have f1 : (0 : Int) < (m : Int) := by omega
              have f2 : IntKind.i64.wrap ((m : Int) - 1) = (m : Int) - 1 := IntWalk.i64_in _ (by omega)
              have f3 : (0 : Int) ≤ (m : Int) - 1 := by omega
              have f3a : (1 : Int) ≤ (m : Int) := by omega
              have f3b : 1 ≤ m := h0
              have f4 : ((m : Int) - 1).toNat = m - 1 := by omega
              have f5 : (m : Int) - 1 < s.size := by omega
              have f6 : IntKind.i64.wrap (((s[m - 1]'hmt2).toNat : Nat) : Int) = (((s[m - 1]'hmt2).toNat : Nat) : Int) := IntWalk.i64_in _ (by omega)
              by_cases hx6 : x = 256
              · have t2 : ((x : Int) == 256) = true := by rw [hx6]; rfl
                have t3 : D l t (k + 1) m = v := by rw [HD.out, HV.out, hx6]; simp
                have T3 := Lib.hid t3
                clear hx6 t3
                go_wp2
                go_quiet (fail)
                clear f2 f6
                go_wp2
                go_roundw
                case rel => exact ⟨m + 1, by omega, by go_num, by simpa using hz, by simpa using hzn, (hb.drewN _).setCell hgn1 _, (hv.drewN _).other hne _ _, NX.out v T3.out _ ((hvn.drewN _).set m hlN _)⟩
                case measure => simp [intOf]; omega
              · have t2 : ((x : Int) == 256) = false := by rw [beq_eq_false_iff_ne]; omega
                by_cases hxc : x = (s[m - 1]'hmt2).toNat
                · have t4 : ((x : Int) == ((s[m - 1]'hmt2).toNat : Int)) = true := by rw [hxc]; simp
                  have t3 : D l t (k + 1) m = v := by rw [HD.out, HV.out, ← hxc]; simp
                  have T3 := Lib.hid t3
                  clear hx6 t3 hxc
                  go_wp2
                  go_quiet (fail)
                  clear f2 f6
                  go_wp2
                  go_roundw
                  case rel => exact ⟨m + 1, by omega, by go_num, by simpa using hz, by simpa using hzn, (hb.drewN _).setCell hgn1 _, (hv.drewN _).other hne _ _, NX.out v T3.out _ ((hvn.drewN _).set m hlN _)⟩
                  case measure => simp [intOf]; omega
                · have t4 : ((x : Int) == ((s[m - 1]'hmt2).toNat : Int)) = false := by rw [beq_eq_false_iff_ne]; omega
                  have t3 : D l t (k + 1) m = false := by rw [HD.out]; simp [hx6, hxc]
                  have T3 := Lib.hid t3
                  clear hx6 t3 hxc
                  go_wp2
                  go_quiet (fail)
                  clear f2 f6
                  go_wp2
                  go_roundw
                  case rel => exact ⟨m + 1, by omega, by go_num, hz, hzn, hb.drewN _, hv.drewN _, by rw [← (KP.out T3.out).out]; exact hvn.drewN _⟩
                  case measure => simp [intOf]; omega
            · have hm0 : m = 0 := by omega
              have t3 : D l t (k + 1) m = false := by rw [hm0]; exact D_none l t k x HX.out hx
              have T3 := Lib.hid t3
              have f1 : decide ((0 : Int) < (m : Int)) = false := by rw [hm0]; rfl
              clear hm0 t3 hcM hcAM hx
              go_wp2
              go_quiet (fail)
              clear f1
              go_wp2
              go_roundw
              case rel => exact ⟨m + 1, by omega, by go_num, hz, hzn, hb.drewN _, hv.drewN _, by rw [← (KP.out T3.out).out]; exact hvn.drewN _⟩
              case measure => simp [intOf]; omega
        · have hm1 : m = s.size + 1 := by omega
          have HE : Hid (rowB (fun j => decide (j < m) && D l t (k + 1) j) (s.size + 1) = rowB (D l t (k + 1)) (s.size + 1)) := by
            show _ = _
            apply List.map_congr_left
            intro n hn
            have := List.mem_range.1 hn
            simp [show n < m from by omega]
          rw [HE.out] at hvn
          clear hm1
          go_wp2
          go_roundw
          case rel => exact ⟨k + 1, gn, by omega, by go_num, rfl, hgn1, hzn, hb, hvn⟩
          case measure => simp [intOf]; omega
    · have hkk : k = l.length := by omega
      have hcl := (hv s.size (by rw [rowB_length]; omega)).1
      rw [rowB_get] at hcl
      have HE : Hid (D l t k s.size = matchL l t) := by
        show _ = _
        rw [D, hkk, List.take_length, ← HN.out, List.take_length]
      rw [HE.out] at hcl
      clear hkk
      go_wp2
      go_ret
      exact ⟨rfl, hb1.next hb⟩
/-- The reference's Match answers as the definition says. -/
theorem rmatch_any (s p : ByteArray) (w : World) (hs : s.size ≤ 100000) (hp : p.size ≤ 100000) :
    Calls Try.prog 11 #[.string s, .string p] w (Ret (.bool (matchL (signsL p.data.toList) s.data.toList)) w) :=
  rmatch_core s p _ w hs hp rfl (by have := Lik.signs_length p.data.toList; simp at this; have h2 : p.data.size = p.size := rfl; omega)
end Go.Proofs.Ytmkfgbbipckgiaa
