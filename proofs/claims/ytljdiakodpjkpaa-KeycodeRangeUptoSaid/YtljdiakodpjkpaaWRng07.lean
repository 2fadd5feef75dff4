/- The walks of KeycodeRises and KeycodeRange. -/
import Derived.Test.YtljdiakodpjkpaaWBck07
namespace Go.Proofs.Ytljdiakodpjkpaa
set_option linter.unusedVariables false
set_option linter.unusedSimpArgs false
open Go.RowKit
open Oct (S S_size S_data)
open Lib (compareBytes)
set_option maxHeartbeats 2000000 in
theorem walk_KeycodeRises (a : List Vl) (va : Value) (b : List Vl) (vb : Value) (w : World) (ha : RowAt w va a) (hoa : Oks a) (hla : a.length ≤ 1048576) (hb : RowAt w vb b) (hob : Oks b) (hlb : b.length ≤ 1048576) : Calls Try.prog 6 #[va, vb] w (Ret (.bool true) w) := by
  have HW := Lib.hid (fun W => awake7_any W)
  have HRA := Lib.hid (fun W h => rights_any a va W h hoa)
  have HRB := Lib.hid (fun W h => rights_any b vb W h hob)
  have HO := Lib.hid (fun W h1 h2 => orders_any a b va vb W h1 h2)
  have HA := Lib.hid ha
  have HB := Lib.hid hb
  obtain ⟨ao, cap, rfl⟩ := ha.nil
  obtain ⟨bo, cap2, rfl⟩ := hb.nil
  have HPA := Lib.hid (fun W h => kput_any a _ W h hoa (by omega) : ∀ W, RowAt W (.slice ao a.length cap) a → _)
  have HPB := Lib.hid (fun W h => kput_any b _ W h hob (by omega) : ∀ W, RowAt W (.slice bo b.length cap2) b → _)
  clear ha hb hoa hob
  have hb1 := Below.refl w.heap.size w
  cases hra : rightsL a with
  | false =>
    rw [hra] at HRA
    clear hra HRB HPA HPB HO
    go_enter Try.func6, Try.ntmps6
    go_wp2_with fail
    refine (HRA.out _ HA.out).mono ?_
    rintro e w1 ⟨rfl, hb2⟩
    replace hb1 := hb1.next hb2; clear hb2
    go_wp2_with fail
    refine (HW.out _).mono ?_
    rintro e w2 ⟨rfl, hb2⟩
    replace hb1 := hb1.next hb2; clear hb2
    go_wp2_with fail
    go_ret
    exact ⟨rfl, hb1⟩
  | true =>
    rw [hra] at HRA
    cases hrb : rightsL b with
    | false =>
      rw [hrb] at HRB
      clear hra hrb HPA HPB HO
      go_enter Try.func6, Try.ntmps6
      go_wp2_with fail
      refine (HRA.out _ HA.out).mono ?_
      rintro e w3 ⟨rfl, hb2⟩
      replace HB := Lib.hid (HB.out.below hb2)
      replace hb1 := hb1.next hb2; clear hb2
      go_wp2_with fail
      refine (HRB.out _ HB.out).mono ?_
      rintro e w4 ⟨rfl, hb2⟩
      replace hb1 := hb1.next hb2; clear hb2
      go_wp2_with fail
      refine (HW.out _).mono ?_
      rintro e w5 ⟨rfl, hb2⟩
      replace hb1 := hb1.next hb2; clear hb2
      go_wp2_with fail
      go_ret
      exact ⟨rfl, hb1⟩
    | true =>
      rw [hrb] at HRB
      rw [key_of hra] at HPA
      rw [key_of hrb] at HPB
      have HS := Lib.hid (fun W => sign_any (S (encL a)) (S (encL b)) W)
      rw [S_data, S_data, cmpB_rows a b hra hrb] at HS
      generalize ordL a b = r at HS HO
      generalize S (encL a) = p at HPA HS
      generalize S (encL b) = q at HPB HS
      clear hra hrb
      go_enter Try.func6, Try.ntmps6
      go_wp2_with fail
      refine (HRA.out _ HA.out).mono ?_
      rintro e w6 ⟨rfl, hb2⟩
      replace HA := Lib.hid (HA.out.below hb2)
      replace HB := Lib.hid (HB.out.below hb2)
      replace hb1 := hb1.next hb2; clear hb2
      go_wp2_with fail
      refine (HRB.out _ HB.out).mono ?_
      rintro e w7 ⟨rfl, hb2⟩
      replace HA := Lib.hid (HA.out.below hb2)
      replace HB := Lib.hid (HB.out.below hb2)
      replace hb1 := hb1.next hb2; clear hb2
      go_wp2_with fail
      refine (HW.out _).mono ?_
      rintro e w8 ⟨rfl, hb2⟩
      replace HA := Lib.hid (HA.out.below hb2)
      replace HB := Lib.hid (HB.out.below hb2)
      replace hb1 := hb1.next hb2; clear hb2
      go_wp2_with fail
      refine (HPA.out _ HA.out).mono ?_
      rintro e w9 ⟨rfl, hb2⟩
      replace HA := Lib.hid (HA.out.below hb2)
      replace HB := Lib.hid (HB.out.below hb2)
      replace hb1 := hb1.next hb2; clear hb2
      go_wp2_with fail
      refine (HPB.out _ HB.out).mono ?_
      rintro e w10 ⟨rfl, hb2⟩
      replace HA := Lib.hid (HA.out.below hb2)
      replace HB := Lib.hid (HB.out.below hb2)
      replace hb1 := hb1.next hb2; clear hb2
      go_wp2_with fail
      refine (HS.out _).mono ?_
      rintro e w11 ⟨rfl, hb2⟩
      replace HA := Lib.hid (HA.out.below hb2)
      replace HB := Lib.hid (HB.out.below hb2)
      replace hb1 := hb1.next hb2; clear hb2
      go_wp2_with fail
      refine (HO.out _ HA.out HB.out).mono ?_
      rintro e w12 ⟨rfl, hb2⟩
      replace hb1 := hb1.next hb2; clear hb2
      go_wp2_with fail
      go_ret
      exact ⟨rfl, hb1⟩
theorem rowCells_inv (l : List Vl) : ∀ (j : Nat) (u : Value), (rowCells l)[j]? = some u → ∃ (q i : Nat) (hq : q < l.length), j = q * 3 + i ∧ (l[q].cells)[i]? = some u := by
  induction l with
  | nil => intro j u h; simp [rowCells] at h
  | cons v l ih =>
    intro j u h
    simp only [rowCells, List.flatMap_cons] at h
    have e : v.cells.length = 3 := rfl
    by_cases hj : j < 3
    · rw [List.getElem?_append_left (by rw [e]; exact hj)] at h
      exact ⟨0, j, by simp, by omega, h⟩
    · rw [List.getElem?_append_right (by rw [e]; omega), e] at h
      obtain ⟨q, i, hq, e1, h2⟩ := ih (j - 3) u h
      exact ⟨q + 1, i, by simpa using hq, by omega, by simpa using h2⟩
theorem rowCells_one (l : List Vl) : ∀ u ∈ rowCells l, u.oneCell' = true := by
  intro u hu
  simp only [rowCells, List.mem_flatMap, Vl.cells, List.mem_cons, List.not_mem_nil, or_false] at hu
  obtain ⟨v, _, rfl | rfl | rfl⟩ := hu <;> rfl
theorem rowCells_append (a b : List Vl) : rowCells (a ++ b) = rowCells a ++ rowCells b := by simp [rowCells]
/-- 'append(out, r...)', out the call's own, r a row. -/
theorem wpList_appendRow {w : World} {ops : Array Oper} {rest : List Oper} {a : Act} {Q : Exit → Act → World → Prop} {d : Option Tmp} {s x : Operand} {ty : TypeId} {p : String} {af : Array Edge}
    (hh : ∃ (B : Nat) (v vx : Value) (m l : List Vl), a.eval s = v ∧ a.eval x = vx ∧ RowAt w vx l ∧ w.ownsRow B 41 3 v m.length (rowCells m) ∧ m.length + l.length ≤ 1000000000 ∧ B ≤ w.heap.size ∧
      ∀ v' w1, w1.ownsRow B 41 3 v' (m ++ l).length (rowCells (m ++ l)) → Below B w w1 → wpList Try.prog ops Q rest (a.put d v') w1) :
    wpList Try.prog ops Q (⟨d, .call { callee := .builtin .append, args := #[s, x], argTypes := #[28, 28] }, ty, p, af, none⟩ :: rest) a w := by
  obtain ⟨B, v, vx, m, l, hs, hx, hr, hown, hl, hB, h⟩ := hh
  obtain ⟨i, hi0, hz, hsz1, hby1⟩ := info_parts info_value
  obtain ⟨_, ao, cap, rfl, hc⟩ := hr
  cases ao with
  | none =>
    have h0 : l = [] := by
      cases l with
      | nil => rfl
      | cons u l => obtain ⟨b, off, e, _⟩ := hc (by simp); cases e
    subst h0
    have hrun : (Builtin.append_ #[28, 28] ty #[v, .slice none 0 cap]).run Try.prog w = .ok v w := by
      rcases hown.2 with ⟨rfl, _⟩ | ⟨g, c2, cur, rfl, _, _, hnc, _⟩
      · simp [Builtin.append_, run_underlying Try.underlying28, sizeOf, typeInfo, hi0, Builtin.lenOf, Builtin.firstCells]
      · simp [Builtin.append_, run_underlying Try.underlying28, sizeOf, typeInfo, hi0, Builtin.lenOf, Builtin.firstCells, hnc, storeCells]
    refine wpList_plain rfl fun K hK => ?_
    unfold Oper.wp execOp
    simp only [resolve, invoke, builtin, Sem.run_bind, Sem.run_pure, Result.andThen_ok, List.map_toArray, List.map_cons, List.map_nil, hs, hx, List.length_nil, hrun]
    exact hK _ _ (h v w (by simpa using hown) (Below.refl _ _))
  | some ad =>
    refine wpList_append_own w rfl s x 28 rfl B 41 i _ 3 32 Try.underlying28 hi0 hz hsz1 hby1 rfl (by decide) v m.length _ hs hown ad l.length cap (rowCells l) hx (rowCells_len l) (fun j u hu => ?_) (rowCells_one l) (by unfold maxLen; omega) (by omega) hB ?_
    · obtain ⟨q, i, hq, rfl, h2⟩ := rowCells_inv l j u hu
      obtain ⟨b, off, e, _, hcell⟩ := hc (by omega)
      injection e with e
      subst e
      rw [Addr.add_lit, ← Nat.add_assoc]
      exact hcell q hq i u h2
    · intro v' w1 ho hg hn
      refine h v' w1 (by rw [rowCells_append, List.length_append]; exact ho) ((Below.refl _ _).grown hg hB (fun k hk => (hown.lt k hk).1))
theorem RowAt.pre {w : World} {ao : Option Addr} {cap : Nat} {l : List Vl} {n : Nat} (h : RowAt w (.slice ao l.length cap) l) (hn : n ≤ l.length) : RowAt w (.slice ao n cap) (l.take n) := by
  obtain ⟨hs, ao2, cap2, hv, hc⟩ := h
  injection hv with h1 _ h3
  subst h1
  have hl : (l.take n).length = n := by rw [List.length_take]; omega
  refine ⟨by omega, ao, cap, by rw [hl], fun h0 => ?_⟩
  obtain ⟨b, off, e, hlt, hcell⟩ := hc (by omega)
  refine ⟨b, off, e, hlt, fun j hj i u hu => hcell j (by omega) i u (by rw [List.getElem_take] at hu; exact hu)⟩
theorem in_range (a b : List Vl) (h : List UInt8) (ha : rightsL a = true) (hb : rightsL b = true) (hh : afterF (encL a) = some h) :
    (0 ≤ compareBytes (encL b) (encL a) ∧ compareBytes (encL b) h < 0) ↔ a.length ≤ b.length ∧ b.take a.length = a := by
  rw [← prefix_rows a b ha hb, ← after_law, hh]
  simp
theorem in_more (a m : List Vl) (h : List UInt8) (hh : afterF (encL a) = some h) : 0 ≤ compareBytes (encL (a ++ m)) (encL a) ∧ compareBytes (encL (a ++ m)) h < 0 := by
  have := (after_law (encL a) (encL (a ++ m))).2 (by rw [encL_append]; exact List.prefix_append _ _)
  exact ⟨this.1, this.2 h hh⟩
set_option maxHeartbeats 4000000 in
set_option maxRecDepth 100000 in
theorem walk_KeycodeRange (a : List Vl) (va : Value) (b : List Vl) (vb : Value) (m : List Vl) (vm : Value) (w : World) (ha : RowAt w va a) (hoa : Oks a) (hla : a.length ≤ 1048576) (hb : RowAt w vb b) (hob : Oks b) (hlb : b.length ≤ 1048576)
    (hm : RowAt w vm m) (hom : Oks m) (hlm : m.length ≤ 1048576) (hcb : ∀ ao n cap, vb = .slice ao n cap → n ≤ cap) : Calls Try.prog 7 #[va, vb, vm] w (Ret (.bool true) w) := by
  have HW := Lib.hid (fun W => awake7_any W)
  have HRA := Lib.hid (fun W h => rights_any a va W h hoa)
  have HRB := Lib.hid (fun W h => rights_any b vb W h hob)
  have HRM := Lib.hid (fun W h => rights_any m vm W h hom)
  have HA := Lib.hid ha
  have HB := Lib.hid hb
  have HM := Lib.hid hm
  obtain ⟨ao, cap, rfl⟩ := ha.nil
  obtain ⟨bo, cap2, rfl⟩ := hb.nil
  obtain ⟨mo, cap3, rfl⟩ := hm.nil
  have hcap := hcb _ _ _ rfl
  have HPA := Lib.hid (fun W h => kput_any a _ W h hoa (by omega) : ∀ W, RowAt W (.slice ao a.length cap) a → _)
  have HPB := Lib.hid (fun W h => kput_any b _ W h hob (by omega) : ∀ W, RowAt W (.slice bo b.length cap2) b → _)
  have HPY := Lib.hid (fun v W h => kput_any (a ++ m) v W h (fun x hx => by rcases List.mem_append.1 hx with h1 | h1; exact hoa x h1; exact hom x h1) (by rw [List.length_append]; omega))
  clear ha hb hm hoa hob hom hcb
  have hb1 := Below.refl w.heap.size w
  cases hra : rightsL a with
  | false =>
    rw [hra] at HRA
    clear hra HRB HRM HPA HPB HPY hcap
    go_enter Try.func7, Try.ntmps7
    go_wp2_with fail
    refine (HRA.out _ HA.out).mono ?_
    rintro e w13 ⟨rfl, hb2⟩
    replace hb1 := hb1.next hb2; clear hb2
    go_wp2_with fail
    refine (HW.out _).mono ?_
    rintro e w14 ⟨rfl, hb2⟩
    replace hb1 := hb1.next hb2; clear hb2
    go_wp2_with fail
    go_ret
    exact ⟨rfl, hb1⟩
  | true =>
    rw [hra] at HRA
    cases hrb : rightsL b with
    | false =>
      rw [hrb] at HRB
      clear hra hrb HRM HPA HPB HPY hcap
      go_enter Try.func7, Try.ntmps7
      go_wp2_with fail
      refine (HRA.out _ HA.out).mono ?_
      rintro e w15 ⟨rfl, hb2⟩
      replace HB := Lib.hid (HB.out.below hb2)
      replace hb1 := hb1.next hb2; clear hb2
      go_wp2_with fail
      refine (HRB.out _ HB.out).mono ?_
      rintro e w16 ⟨rfl, hb2⟩
      replace hb1 := hb1.next hb2; clear hb2
      go_wp2_with fail
      refine (HW.out _).mono ?_
      rintro e w17 ⟨rfl, hb2⟩
      replace hb1 := hb1.next hb2; clear hb2
      go_wp2_with fail
      go_ret
      exact ⟨rfl, hb1⟩
    | true =>
      rw [hrb] at HRB
      cases hrm : rightsL m with
      | false =>
        rw [hrm] at HRM
        clear hra hrb hrm HPA HPB HPY hcap
        go_enter Try.func7, Try.ntmps7
        go_wp2_with fail
        refine (HRA.out _ HA.out).mono ?_
        rintro e w18 ⟨rfl, hb2⟩
        replace HB := Lib.hid (HB.out.below hb2)
        replace HM := Lib.hid (HM.out.below hb2)
        replace hb1 := hb1.next hb2; clear hb2
        go_wp2_with fail
        refine (HRB.out _ HB.out).mono ?_
        rintro e w19 ⟨rfl, hb2⟩
        replace HM := Lib.hid (HM.out.below hb2)
        replace hb1 := hb1.next hb2; clear hb2
        go_wp2_with fail
        refine (HRM.out _ HM.out).mono ?_
        rintro e w20 ⟨rfl, hb2⟩
        replace hb1 := hb1.next hb2; clear hb2
        go_wp2_with fail
        refine (HW.out _).mono ?_
        rintro e w21 ⟨rfl, hb2⟩
        replace hb1 := hb1.next hb2; clear hb2
        go_wp2_with fail
        go_ret
        exact ⟨rfl, hb1⟩
      | true =>
        rw [hrm] at HRM
        by_cases h0 : a.length = 0
        · have h0b : ((a.length : Int) == 0) = true := by simp [h0]
          clear hra hrb hrm HPA HPB HPY hcap h0
          go_enter Try.func7, Try.ntmps7
          go_wp2_with fail
          refine (HRA.out _ HA.out).mono ?_
          rintro e w22 ⟨rfl, hb2⟩
          replace HB := Lib.hid (HB.out.below hb2)
          replace HM := Lib.hid (HM.out.below hb2)
          replace hb1 := hb1.next hb2; clear hb2
          go_wp2_with fail
          refine (HRB.out _ HB.out).mono ?_
          rintro e w23 ⟨rfl, hb2⟩
          replace HM := Lib.hid (HM.out.below hb2)
          replace hb1 := hb1.next hb2; clear hb2
          go_wp2_with fail
          refine (HRM.out _ HM.out).mono ?_
          rintro e w24 ⟨rfl, hb2⟩
          replace hb1 := hb1.next hb2; clear hb2
          go_wp2_with fail
          refine (HW.out _).mono ?_
          rintro e w25 ⟨rfl, hb2⟩
          replace hb1 := hb1.next hb2; clear hb2
          go_wp2_with fail
          go_ret
          exact ⟨rfl, hb1⟩
        · have h0b : ((a.length : Int) == 0) = false := by rw [beq_eq_false_iff_ne]; omega
          have hap : 0 < a.length := by omega
          obtain ⟨h, hh⟩ := after_row a hra (fun e => h0 (by rw [e]; rfl))
          have hir := in_range a b h hra hrb hh
          obtain ⟨hy1, hy2⟩ := in_more a m h hh
          rw [key_of hra] at HPA
          rw [key_of hrb] at HPB
          rw [key_of (rights_append.2 ⟨hra, hrm⟩)] at HPY
          have HAF := Lib.hid (fun W => after_any (S (encL a)) W (by have := enc_big a hra hla; unfold maxLen; omega))
          rw [S_data, hh] at HAF
          simp only [Option.getD_some, Option.isSome_some] at HAF
          have HS1 := Lib.hid (fun W => sign_any (S (encL b)) (S (encL a)) W)
          have HS2 := Lib.hid (fun W => sign_any (S (encL b)) (S h) W)
          have HS3 := Lib.hid (fun W => sign_any (S (encL (a ++ m))) (S (encL a)) W)
          have HS4 := Lib.hid (fun W => sign_any (S (encL (a ++ m))) (S h) W)
          simp only [S_data] at HS1 HS2 HS3 HS4
          have HO := Lib.hid (fun W h1 h2 => orders_any (b.take a.length) a (.slice bo a.length cap2) (.slice ao a.length cap) W h1 h2)
          have hoz : ordL (b.take a.length) a = 0 ↔ b.take a.length = a := ordL_zero _ _
          generalize ordL (b.take a.length) a = r0 at HO hoz
          generalize compareBytes (encL b) (encL a) = r at HS1 hir
          generalize compareBytes (encL b) h = r2 at HS2 hir
          generalize compareBytes (encL (a ++ m)) (encL a) = r3 at HS3 hy1
          generalize compareBytes (encL (a ++ m)) h = r4 at HS4 hy2
          generalize S (encL a) = p at HPA HAF HS1 HS3
          generalize S (encL b) = q at HPB HS1 HS2
          generalize S (encL (a ++ m)) = y at HPY HS3 HS4
          generalize S h = z at HAF HS2 HS4
          clear hra hrb hrm hh h h0
          have HL : Hid (a.length ≤ 1048576 ∧ m.length ≤ 1048576) := ⟨hla, hlm⟩
          by_cases hle : a.length ≤ b.length
          · have hac : a.length ≤ cap2 := by omega
            by_cases hz : r0 = 0
            · obtain ⟨hr, hr2⟩ := hir.2 ⟨hle, hoz.1 hz⟩
              have hzb : (r0 == 0) = true := by simp [hz]
              clear hir hoz hz hla hlm hlb hcap
              go_enter Try.func7, Try.ntmps7
              go_wp2_with fail
              refine (HRA.out _ HA.out).mono ?_
              rintro e w26 ⟨rfl, hb2⟩
              replace HA := Lib.hid (HA.out.below hb2)
              replace HB := Lib.hid (HB.out.below hb2)
              replace HM := Lib.hid (HM.out.below hb2)
              replace hb1 := hb1.next hb2; clear hb2
              go_wp2_with fail
              refine (HRB.out _ HB.out).mono ?_
              rintro e w27 ⟨rfl, hb2⟩
              replace HA := Lib.hid (HA.out.below hb2)
              replace HB := Lib.hid (HB.out.below hb2)
              replace HM := Lib.hid (HM.out.below hb2)
              replace hb1 := hb1.next hb2; clear hb2
              go_wp2_with fail
              refine (HRM.out _ HM.out).mono ?_
              rintro e w28 ⟨rfl, hb2⟩
              replace HA := Lib.hid (HA.out.below hb2)
              replace HB := Lib.hid (HB.out.below hb2)
              replace HM := Lib.hid (HM.out.below hb2)
              replace hb1 := hb1.next hb2; clear hb2
              go_wp2_with fail
              refine (HPA.out _ HA.out).mono ?_
              rintro e w29 ⟨rfl, hb2⟩
              replace HA := Lib.hid (HA.out.below hb2)
              replace HB := Lib.hid (HB.out.below hb2)
              replace HM := Lib.hid (HM.out.below hb2)
              replace hb1 := hb1.next hb2; clear hb2
              go_wp2_with fail
              refine (HAF.out _).mono ?_
              rintro e w30 ⟨rfl, hb2⟩
              replace HA := Lib.hid (HA.out.below hb2)
              replace HB := Lib.hid (HB.out.below hb2)
              replace HM := Lib.hid (HM.out.below hb2)
              replace hb1 := hb1.next hb2; clear hb2
              go_wp2_with fail
              refine (HPB.out _ HB.out).mono ?_
              rintro e u ⟨rfl, hb2⟩
              replace HA := Lib.hid (HA.out.below hb2)
              replace HB := Lib.hid (HB.out.below hb2)
              replace HM := Lib.hid (HM.out.below hb2)
              replace hb1 := hb1.next hb2; clear hb2
              have hO : (u.alloc (.cells #[] 41)).ownsRow u.heap.size 41 3 (.slice (some ⟨u.heap.size, 0, none⟩) 0 0) ([] : List Vl).length (rowCells []) := ⟨rfl, .inr ⟨u.heap.size, 0, #[], rfl, Nat.le_refl _, Blk.new u #[] _, Nat.le_refl _, Nat.zero_le _, rfl, rfl⟩⟩
              have hbu : Below u.heap.size u (u.alloc (.cells #[] 41)) := (Below.refl _ _).alloc (Nat.le_refl _) _
              have HA1 := Lib.hid (HA.out.below hbu)
              go_wp2_with (first
                | ((with_reducible refine wpList_appendRow ?_); refine ⟨u.heap.size, _, _, ([] : List Vl), a, rfl, rfl, HA1.out, hO, by have := HL.out; simp; omega, hbu.size, ?_⟩; intro va wa hva hba; clear hO; have hbu2 := hbu.trans hba; have HM1 := Lib.hid (HM.out.below hbu2))
                | ((with_reducible refine wpList_appendRow ?_); refine ⟨u.heap.size, _, _, ([] : List Vl) ++ a, m, rfl, rfl, HM1.out, hva, by have := HL.out; simp; omega, hbu2.size, ?_⟩; intro vy wy hvy hby; have hbu3 := hbu2.trans hby; have HY := Lib.hid (RowAt.owned (l := a ++ m) hvy (by have := HL.out; rw [List.length_append]; omega)); clear hva hvy))
              clear hbu hba hbu2 hby HA1 HM1
              refine (HPY.out _ _ HY.out).mono ?_
              rintro e u2 ⟨rfl, hb2⟩
              have hbu4 := hbu3.next hb2
              clear hb2 hbu3 HY
              have HA2 := Lib.hid (HA.out.below hbu4)
              replace hb1 := hb1.next hbu4
              have HB2 := Lib.hid ((HB.out.below hbu4).pre hle)
              clear hbu4
              go_wp2_with fail
              refine (HO.out _ HB2.out HA2.out).mono ?_
              rintro e w31 ⟨rfl, hb2⟩
              replace hb1 := hb1.next hb2; clear hb2
              go_wp2_with fail
              refine (HW.out _).mono ?_
              rintro e w32 ⟨rfl, hb2⟩
              replace hb1 := hb1.next hb2; clear hb2
              go_wp2_with fail
              refine (HS1.out _).mono ?_
              rintro e w33 ⟨rfl, hb2⟩
              replace hb1 := hb1.next hb2; clear hb2
              go_wp2_with fail
              refine (HS2.out _).mono ?_
              rintro e w34 ⟨rfl, hb2⟩
              replace hb1 := hb1.next hb2; clear hb2
              go_wp2_with fail
              refine (HS3.out _).mono ?_
              rintro e w35 ⟨rfl, hb2⟩
              replace hb1 := hb1.next hb2; clear hb2
              go_wp2_with fail
              refine (HS4.out _).mono ?_
              rintro e w36 ⟨rfl, hb2⟩
              replace hb1 := hb1.next hb2; clear hb2
              go_wp2_with fail
              go_ret
              exact ⟨rfl, hb1⟩
            · have hn : ¬ (0 ≤ r ∧ r2 < 0) := fun h => hz (hoz.2 (hir.1 h).2)
              have hzb : (r0 == 0) = false := by simp [hz]
              by_cases hr : 0 ≤ r
              · have hr2 : decide (r2 < 0) = false := decide_eq_false (fun h => hn ⟨hr, h⟩)
                clear hir hoz hz hla hlm hlb hcap hn
                go_enter Try.func7, Try.ntmps7
                go_wp2_with fail
                refine (HRA.out _ HA.out).mono ?_
                rintro e w37 ⟨rfl, hb2⟩
                replace HA := Lib.hid (HA.out.below hb2)
                replace HB := Lib.hid (HB.out.below hb2)
                replace HM := Lib.hid (HM.out.below hb2)
                replace hb1 := hb1.next hb2; clear hb2
                go_wp2_with fail
                refine (HRB.out _ HB.out).mono ?_
                rintro e w38 ⟨rfl, hb2⟩
                replace HA := Lib.hid (HA.out.below hb2)
                replace HB := Lib.hid (HB.out.below hb2)
                replace HM := Lib.hid (HM.out.below hb2)
                replace hb1 := hb1.next hb2; clear hb2
                go_wp2_with fail
                refine (HRM.out _ HM.out).mono ?_
                rintro e w39 ⟨rfl, hb2⟩
                replace HA := Lib.hid (HA.out.below hb2)
                replace HB := Lib.hid (HB.out.below hb2)
                replace HM := Lib.hid (HM.out.below hb2)
                replace hb1 := hb1.next hb2; clear hb2
                go_wp2_with fail
                refine (HPA.out _ HA.out).mono ?_
                rintro e w40 ⟨rfl, hb2⟩
                replace HA := Lib.hid (HA.out.below hb2)
                replace HB := Lib.hid (HB.out.below hb2)
                replace HM := Lib.hid (HM.out.below hb2)
                replace hb1 := hb1.next hb2; clear hb2
                go_wp2_with fail
                refine (HAF.out _).mono ?_
                rintro e w41 ⟨rfl, hb2⟩
                replace HA := Lib.hid (HA.out.below hb2)
                replace HB := Lib.hid (HB.out.below hb2)
                replace HM := Lib.hid (HM.out.below hb2)
                replace hb1 := hb1.next hb2; clear hb2
                go_wp2_with fail
                refine (HPB.out _ HB.out).mono ?_
                rintro e u ⟨rfl, hb2⟩
                replace HA := Lib.hid (HA.out.below hb2)
                replace HB := Lib.hid (HB.out.below hb2)
                replace HM := Lib.hid (HM.out.below hb2)
                replace hb1 := hb1.next hb2; clear hb2
                have hO : (u.alloc (.cells #[] 41)).ownsRow u.heap.size 41 3 (.slice (some ⟨u.heap.size, 0, none⟩) 0 0) ([] : List Vl).length (rowCells []) := ⟨rfl, .inr ⟨u.heap.size, 0, #[], rfl, Nat.le_refl _, Blk.new u #[] _, Nat.le_refl _, Nat.zero_le _, rfl, rfl⟩⟩
                have hbu : Below u.heap.size u (u.alloc (.cells #[] 41)) := (Below.refl _ _).alloc (Nat.le_refl _) _
                have HA1 := Lib.hid (HA.out.below hbu)
                go_wp2_with (first
                  | ((with_reducible refine wpList_appendRow ?_); refine ⟨u.heap.size, _, _, ([] : List Vl), a, rfl, rfl, HA1.out, hO, by have := HL.out; simp; omega, hbu.size, ?_⟩; intro va wa hva hba; clear hO; have hbu2 := hbu.trans hba; have HM1 := Lib.hid (HM.out.below hbu2))
                  | ((with_reducible refine wpList_appendRow ?_); refine ⟨u.heap.size, _, _, ([] : List Vl) ++ a, m, rfl, rfl, HM1.out, hva, by have := HL.out; simp; omega, hbu2.size, ?_⟩; intro vy wy hvy hby; have hbu3 := hbu2.trans hby; have HY := Lib.hid (RowAt.owned (l := a ++ m) hvy (by have := HL.out; rw [List.length_append]; omega)); clear hva hvy))
                clear hbu hba hbu2 hby HA1 HM1
                refine (HPY.out _ _ HY.out).mono ?_
                rintro e u2 ⟨rfl, hb2⟩
                have hbu4 := hbu3.next hb2
                clear hb2 hbu3 HY
                have HA2 := Lib.hid (HA.out.below hbu4)
                replace hb1 := hb1.next hbu4
                have HB2 := Lib.hid ((HB.out.below hbu4).pre hle)
                clear hbu4
                go_wp2_with fail
                refine (HO.out _ HB2.out HA2.out).mono ?_
                rintro e w42 ⟨rfl, hb2⟩
                replace hb1 := hb1.next hb2; clear hb2
                go_wp2_with fail
                refine (HW.out _).mono ?_
                rintro e w43 ⟨rfl, hb2⟩
                replace hb1 := hb1.next hb2; clear hb2
                go_wp2_with fail
                refine (HS1.out _).mono ?_
                rintro e w44 ⟨rfl, hb2⟩
                replace hb1 := hb1.next hb2; clear hb2
                go_wp2_with fail
                refine (HS2.out _).mono ?_
                rintro e w45 ⟨rfl, hb2⟩
                replace hb1 := hb1.next hb2; clear hb2
                go_wp2_with fail
                refine (HS3.out _).mono ?_
                rintro e w46 ⟨rfl, hb2⟩
                replace hb1 := hb1.next hb2; clear hb2
                go_wp2_with fail
                refine (HS4.out _).mono ?_
                rintro e w47 ⟨rfl, hb2⟩
                replace hb1 := hb1.next hb2; clear hb2
                go_wp2_with fail
                go_ret
                exact ⟨rfl, hb1⟩
              · clear hir hoz hz hla hlm hlb hcap hn HS2
                go_enter Try.func7, Try.ntmps7
                go_wp2_with fail
                refine (HRA.out _ HA.out).mono ?_
                rintro e w48 ⟨rfl, hb2⟩
                replace HA := Lib.hid (HA.out.below hb2)
                replace HB := Lib.hid (HB.out.below hb2)
                replace HM := Lib.hid (HM.out.below hb2)
                replace hb1 := hb1.next hb2; clear hb2
                go_wp2_with fail
                refine (HRB.out _ HB.out).mono ?_
                rintro e w49 ⟨rfl, hb2⟩
                replace HA := Lib.hid (HA.out.below hb2)
                replace HB := Lib.hid (HB.out.below hb2)
                replace HM := Lib.hid (HM.out.below hb2)
                replace hb1 := hb1.next hb2; clear hb2
                go_wp2_with fail
                refine (HRM.out _ HM.out).mono ?_
                rintro e w50 ⟨rfl, hb2⟩
                replace HA := Lib.hid (HA.out.below hb2)
                replace HB := Lib.hid (HB.out.below hb2)
                replace HM := Lib.hid (HM.out.below hb2)
                replace hb1 := hb1.next hb2; clear hb2
                go_wp2_with fail
                refine (HPA.out _ HA.out).mono ?_
                rintro e w51 ⟨rfl, hb2⟩
                replace HA := Lib.hid (HA.out.below hb2)
                replace HB := Lib.hid (HB.out.below hb2)
                replace HM := Lib.hid (HM.out.below hb2)
                replace hb1 := hb1.next hb2; clear hb2
                go_wp2_with fail
                refine (HAF.out _).mono ?_
                rintro e w52 ⟨rfl, hb2⟩
                replace HA := Lib.hid (HA.out.below hb2)
                replace HB := Lib.hid (HB.out.below hb2)
                replace HM := Lib.hid (HM.out.below hb2)
                replace hb1 := hb1.next hb2; clear hb2
                go_wp2_with fail
                refine (HPB.out _ HB.out).mono ?_
                rintro e u ⟨rfl, hb2⟩
                replace HA := Lib.hid (HA.out.below hb2)
                replace HB := Lib.hid (HB.out.below hb2)
                replace HM := Lib.hid (HM.out.below hb2)
                replace hb1 := hb1.next hb2; clear hb2
                have hO : (u.alloc (.cells #[] 41)).ownsRow u.heap.size 41 3 (.slice (some ⟨u.heap.size, 0, none⟩) 0 0) ([] : List Vl).length (rowCells []) := ⟨rfl, .inr ⟨u.heap.size, 0, #[], rfl, Nat.le_refl _, Blk.new u #[] _, Nat.le_refl _, Nat.zero_le _, rfl, rfl⟩⟩
                have hbu : Below u.heap.size u (u.alloc (.cells #[] 41)) := (Below.refl _ _).alloc (Nat.le_refl _) _
                have HA1 := Lib.hid (HA.out.below hbu)
                go_wp2_with (first
                  | ((with_reducible refine wpList_appendRow ?_); refine ⟨u.heap.size, _, _, ([] : List Vl), a, rfl, rfl, HA1.out, hO, by have := HL.out; simp; omega, hbu.size, ?_⟩; intro va wa hva hba; clear hO; have hbu2 := hbu.trans hba; have HM1 := Lib.hid (HM.out.below hbu2))
                  | ((with_reducible refine wpList_appendRow ?_); refine ⟨u.heap.size, _, _, ([] : List Vl) ++ a, m, rfl, rfl, HM1.out, hva, by have := HL.out; simp; omega, hbu2.size, ?_⟩; intro vy wy hvy hby; have hbu3 := hbu2.trans hby; have HY := Lib.hid (RowAt.owned (l := a ++ m) hvy (by have := HL.out; rw [List.length_append]; omega)); clear hva hvy))
                clear hbu hba hbu2 hby HA1 HM1
                refine (HPY.out _ _ HY.out).mono ?_
                rintro e u2 ⟨rfl, hb2⟩
                have hbu4 := hbu3.next hb2
                clear hb2 hbu3 HY
                have HA2 := Lib.hid (HA.out.below hbu4)
                replace hb1 := hb1.next hbu4
                have HB2 := Lib.hid ((HB.out.below hbu4).pre hle)
                clear hbu4
                go_wp2_with fail
                refine (HO.out _ HB2.out HA2.out).mono ?_
                rintro e w53 ⟨rfl, hb2⟩
                replace hb1 := hb1.next hb2; clear hb2
                go_wp2_with fail
                refine (HW.out _).mono ?_
                rintro e w54 ⟨rfl, hb2⟩
                replace hb1 := hb1.next hb2; clear hb2
                go_wp2_with fail
                refine (HS1.out _).mono ?_
                rintro e w55 ⟨rfl, hb2⟩
                replace hb1 := hb1.next hb2; clear hb2
                go_wp2_with fail
                refine (HS3.out _).mono ?_
                rintro e w56 ⟨rfl, hb2⟩
                replace hb1 := hb1.next hb2; clear hb2
                go_wp2_with fail
                refine (HS4.out _).mono ?_
                rintro e w57 ⟨rfl, hb2⟩
                replace hb1 := hb1.next hb2; clear hb2
                go_wp2_with fail
                go_ret
                exact ⟨rfl, hb1⟩
          · have hn : ¬ (0 ≤ r ∧ r2 < 0) := fun h => hle (hir.1 h).1
            by_cases hr : 0 ≤ r
            · have hr2 : decide (r2 < 0) = false := decide_eq_false (fun h => hn ⟨hr, h⟩)
              clear hir hoz hla hlm hlb hcap hn HO
              go_enter Try.func7, Try.ntmps7
              go_wp2_with fail
              refine (HRA.out _ HA.out).mono ?_
              rintro e w58 ⟨rfl, hb2⟩
              replace HA := Lib.hid (HA.out.below hb2)
              replace HB := Lib.hid (HB.out.below hb2)
              replace HM := Lib.hid (HM.out.below hb2)
              replace hb1 := hb1.next hb2; clear hb2
              go_wp2_with fail
              refine (HRB.out _ HB.out).mono ?_
              rintro e w59 ⟨rfl, hb2⟩
              replace HA := Lib.hid (HA.out.below hb2)
              replace HB := Lib.hid (HB.out.below hb2)
              replace HM := Lib.hid (HM.out.below hb2)
              replace hb1 := hb1.next hb2; clear hb2
              go_wp2_with fail
              refine (HRM.out _ HM.out).mono ?_
              rintro e w60 ⟨rfl, hb2⟩
              replace HA := Lib.hid (HA.out.below hb2)
              replace HB := Lib.hid (HB.out.below hb2)
              replace HM := Lib.hid (HM.out.below hb2)
              replace hb1 := hb1.next hb2; clear hb2
              go_wp2_with fail
              refine (HPA.out _ HA.out).mono ?_
              rintro e w61 ⟨rfl, hb2⟩
              replace HA := Lib.hid (HA.out.below hb2)
              replace HB := Lib.hid (HB.out.below hb2)
              replace HM := Lib.hid (HM.out.below hb2)
              replace hb1 := hb1.next hb2; clear hb2
              go_wp2_with fail
              refine (HAF.out _).mono ?_
              rintro e w62 ⟨rfl, hb2⟩
              replace HA := Lib.hid (HA.out.below hb2)
              replace HB := Lib.hid (HB.out.below hb2)
              replace HM := Lib.hid (HM.out.below hb2)
              replace hb1 := hb1.next hb2; clear hb2
              go_wp2_with fail
              refine (HPB.out _ HB.out).mono ?_
              rintro e u ⟨rfl, hb2⟩
              replace HA := Lib.hid (HA.out.below hb2)
              replace HB := Lib.hid (HB.out.below hb2)
              replace HM := Lib.hid (HM.out.below hb2)
              replace hb1 := hb1.next hb2; clear hb2
              have hO : (u.alloc (.cells #[] 41)).ownsRow u.heap.size 41 3 (.slice (some ⟨u.heap.size, 0, none⟩) 0 0) ([] : List Vl).length (rowCells []) := ⟨rfl, .inr ⟨u.heap.size, 0, #[], rfl, Nat.le_refl _, Blk.new u #[] _, Nat.le_refl _, Nat.zero_le _, rfl, rfl⟩⟩
              have hbu : Below u.heap.size u (u.alloc (.cells #[] 41)) := (Below.refl _ _).alloc (Nat.le_refl _) _
              have HA1 := Lib.hid (HA.out.below hbu)
              go_wp2_with (first
                | ((with_reducible refine wpList_appendRow ?_); refine ⟨u.heap.size, _, _, ([] : List Vl), a, rfl, rfl, HA1.out, hO, by have := HL.out; simp; omega, hbu.size, ?_⟩; intro va wa hva hba; clear hO; have hbu2 := hbu.trans hba; have HM1 := Lib.hid (HM.out.below hbu2))
                | ((with_reducible refine wpList_appendRow ?_); refine ⟨u.heap.size, _, _, ([] : List Vl) ++ a, m, rfl, rfl, HM1.out, hva, by have := HL.out; simp; omega, hbu2.size, ?_⟩; intro vy wy hvy hby; have hbu3 := hbu2.trans hby; have HY := Lib.hid (RowAt.owned (l := a ++ m) hvy (by have := HL.out; rw [List.length_append]; omega)); clear hva hvy))
              clear hbu hba hbu2 hby HA1 HM1
              refine (HPY.out _ _ HY.out).mono ?_
              rintro e u2 ⟨rfl, hb2⟩
              have hbu4 := hbu3.next hb2
              clear hb2 hbu3 HY
              have HA2 := Lib.hid (HA.out.below hbu4)
              replace hb1 := hb1.next hbu4
              clear hbu4
              go_wp2_with fail
              refine (HW.out _).mono ?_
              rintro e w63 ⟨rfl, hb2⟩
              replace hb1 := hb1.next hb2; clear hb2
              go_wp2_with fail
              refine (HS1.out _).mono ?_
              rintro e w64 ⟨rfl, hb2⟩
              replace hb1 := hb1.next hb2; clear hb2
              go_wp2_with fail
              refine (HS2.out _).mono ?_
              rintro e w65 ⟨rfl, hb2⟩
              replace hb1 := hb1.next hb2; clear hb2
              go_wp2_with fail
              refine (HS3.out _).mono ?_
              rintro e w66 ⟨rfl, hb2⟩
              replace hb1 := hb1.next hb2; clear hb2
              go_wp2_with fail
              refine (HS4.out _).mono ?_
              rintro e w67 ⟨rfl, hb2⟩
              replace hb1 := hb1.next hb2; clear hb2
              go_wp2_with fail
              go_ret
              exact ⟨rfl, hb1⟩
            · clear hir hoz hla hlm hlb hcap hn HO HS2
              go_enter Try.func7, Try.ntmps7
              go_wp2_with fail
              refine (HRA.out _ HA.out).mono ?_
              rintro e w68 ⟨rfl, hb2⟩
              replace HA := Lib.hid (HA.out.below hb2)
              replace HB := Lib.hid (HB.out.below hb2)
              replace HM := Lib.hid (HM.out.below hb2)
              replace hb1 := hb1.next hb2; clear hb2
              go_wp2_with fail
              refine (HRB.out _ HB.out).mono ?_
              rintro e w69 ⟨rfl, hb2⟩
              replace HA := Lib.hid (HA.out.below hb2)
              replace HB := Lib.hid (HB.out.below hb2)
              replace HM := Lib.hid (HM.out.below hb2)
              replace hb1 := hb1.next hb2; clear hb2
              go_wp2_with fail
              refine (HRM.out _ HM.out).mono ?_
              rintro e w70 ⟨rfl, hb2⟩
              replace HA := Lib.hid (HA.out.below hb2)
              replace HB := Lib.hid (HB.out.below hb2)
              replace HM := Lib.hid (HM.out.below hb2)
              replace hb1 := hb1.next hb2; clear hb2
              go_wp2_with fail
              refine (HPA.out _ HA.out).mono ?_
              rintro e w71 ⟨rfl, hb2⟩
              replace HA := Lib.hid (HA.out.below hb2)
              replace HB := Lib.hid (HB.out.below hb2)
              replace HM := Lib.hid (HM.out.below hb2)
              replace hb1 := hb1.next hb2; clear hb2
              go_wp2_with fail
              refine (HAF.out _).mono ?_
              rintro e w72 ⟨rfl, hb2⟩
              replace HA := Lib.hid (HA.out.below hb2)
              replace HB := Lib.hid (HB.out.below hb2)
              replace HM := Lib.hid (HM.out.below hb2)
              replace hb1 := hb1.next hb2; clear hb2
              go_wp2_with fail
              refine (HPB.out _ HB.out).mono ?_
              rintro e u ⟨rfl, hb2⟩
              replace HA := Lib.hid (HA.out.below hb2)
              replace HB := Lib.hid (HB.out.below hb2)
              replace HM := Lib.hid (HM.out.below hb2)
              replace hb1 := hb1.next hb2; clear hb2
              have hO : (u.alloc (.cells #[] 41)).ownsRow u.heap.size 41 3 (.slice (some ⟨u.heap.size, 0, none⟩) 0 0) ([] : List Vl).length (rowCells []) := ⟨rfl, .inr ⟨u.heap.size, 0, #[], rfl, Nat.le_refl _, Blk.new u #[] _, Nat.le_refl _, Nat.zero_le _, rfl, rfl⟩⟩
              have hbu : Below u.heap.size u (u.alloc (.cells #[] 41)) := (Below.refl _ _).alloc (Nat.le_refl _) _
              have HA1 := Lib.hid (HA.out.below hbu)
              go_wp2_with (first
                | ((with_reducible refine wpList_appendRow ?_); refine ⟨u.heap.size, _, _, ([] : List Vl), a, rfl, rfl, HA1.out, hO, by have := HL.out; simp; omega, hbu.size, ?_⟩; intro va wa hva hba; clear hO; have hbu2 := hbu.trans hba; have HM1 := Lib.hid (HM.out.below hbu2))
                | ((with_reducible refine wpList_appendRow ?_); refine ⟨u.heap.size, _, _, ([] : List Vl) ++ a, m, rfl, rfl, HM1.out, hva, by have := HL.out; simp; omega, hbu2.size, ?_⟩; intro vy wy hvy hby; have hbu3 := hbu2.trans hby; have HY := Lib.hid (RowAt.owned (l := a ++ m) hvy (by have := HL.out; rw [List.length_append]; omega)); clear hva hvy))
              clear hbu hba hbu2 hby HA1 HM1
              refine (HPY.out _ _ HY.out).mono ?_
              rintro e u2 ⟨rfl, hb2⟩
              have hbu4 := hbu3.next hb2
              clear hb2 hbu3 HY
              have HA2 := Lib.hid (HA.out.below hbu4)
              replace hb1 := hb1.next hbu4
              clear hbu4
              go_wp2_with fail
              refine (HW.out _).mono ?_
              rintro e w73 ⟨rfl, hb2⟩
              replace hb1 := hb1.next hb2; clear hb2
              go_wp2_with fail
              refine (HS1.out _).mono ?_
              rintro e w74 ⟨rfl, hb2⟩
              replace hb1 := hb1.next hb2; clear hb2
              go_wp2_with fail
              refine (HS3.out _).mono ?_
              rintro e w75 ⟨rfl, hb2⟩
              replace hb1 := hb1.next hb2; clear hb2
              go_wp2_with fail
              refine (HS4.out _).mono ?_
              rintro e w76 ⟨rfl, hb2⟩
              replace hb1 := hb1.next hb2; clear hb2
              go_wp2_with fail
              go_ret
              exact ⟨rfl, hb1⟩
end Go.Proofs.Ytljdiakodpjkpaa
