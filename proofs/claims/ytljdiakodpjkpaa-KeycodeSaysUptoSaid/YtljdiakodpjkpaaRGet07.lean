/- The reference's Get of keys. -/
import Derived.Test.YtljdiakodpjkpaaRFst
namespace Go.Proofs.Ytljdiakodpjkpaa
set_option linter.unusedVariables false
set_option linter.unusedSimpArgs false
open Go.RowKit
open Oct (S S_size S_data beN)
theorem rkget_any (s : ByteArray) (w : World) (hs : s.size ≤ 200000000) :
    Calls Try.prog 12 #[.string s] w (GetA (getK s.data.toList) w) := by
  obtain ⟨l0, rfl⟩ : ∃ l, s = S l := ⟨s.data.toList, (Oct.S_of s).symm⟩
  rw [S_data]
  rw [S_size] at hs
  obtain ⟨res, hres⟩ : ∃ r, getK l0 = r := ⟨_, rfl⟩
  rw [hres]
  have HR : Hid (getF (l0.drop 0).length (l0.drop 0) [] = res) := hres
  have HT := Lib.hid (fun c r W h => first_any c r W h)
  have HV := Lib.hid (fun v W h b hb => rright_any v W h b hb)
  have hsz := S_size l0
  have hO : (w.alloc (.cells #[] 41)).ownsRow w.heap.size 41 3 (.slice (some ⟨w.heap.size, 0, none⟩) 0 0) 0 (rowCells []) :=
    ⟨rfl, .inr ⟨w.heap.size, 0, #[], rfl, Nat.le_refl _, Blk.new w #[] _, Nat.le_refl _, Nat.zero_le _, rfl, rfl⟩⟩
  have hb0 : Below w.heap.size w (w.alloc (.cells #[] 41)) := (Below.refl _ _).alloc (Nat.le_refl _) _
  clear hres
  go_enter Try.func12, Try.ntmps12
  go_wp2_with fail
  go_loopw [4, 5] (fun o x wr => ∃ (k : Nat) (acc : List Vl) (ov : Value), ov = o ∧ x = .int .i64 (k : Int) ∧ k ≤ l0.length ∧ acc.length ≤ k ∧ wr.ownsRow w.heap.size 41 3 ov acc.length (rowCells acc) ∧ Below w.heap.size w wr ∧ Hid (getF (l0.drop k).length (l0.drop k) acc = res)) (fun _ x _ => l0.length - (intOf x).toNat)
  case atStart => exact ⟨0, [], _, rfl, rfl, Nat.zero_le _, Nat.le_refl _, hO, hb0, HR⟩
  case round =>
    clear hO hb0
    obtain ⟨k, acc, o, rfl, rfl, hk, hacc, hown, hb, hF⟩ := hrel
    by_cases hlt : k < l0.length
    · obtain ⟨c, r, hcr⟩ : ∃ c r, l0.drop k = c :: r := ⟨_, _, List.drop_eq_getElem_cons hlt⟩
      have hrl : r.length + 1 + k = l0.length := by
        have := congrArg List.length hcr
        rw [List.length_drop, List.length_cons] at this
        omega
      have HE : Hid ((S l0).extract k l0.length = S (c :: r)) := by show _ = _; rw [← hcr]; exact S_drop l0 k hk
      have hF2 : Hid ((if (takeK (c :: r)).2.2 = true ∧ rightV (takeK (c :: r)).1 = true then getF (takeK (c :: r)).2.1.length (takeK (c :: r)).2.1 (acc ++ [(takeK (c :: r)).1]) else none) = res) := by
        show _ = _; rw [← getF_step, ← hcr]; exact hF.out
      have hft := first_take c r
      have hT := HT.out c r
      have hok := takeK_ok c r (by omega)
      have hdr : ∀ n, (c :: r).drop n = l0.drop (k + n) := fun n => by rw [← hcr, List.drop_drop]
      clear hcr hF
      have hk0 : (0 : Int) ≤ k := by omega
      have hk1 : (k : Int) ≤ l0.length := by omega
      obtain ⟨⟨v, n⟩, hvn⟩ : ∃ t, firstK (c :: r) = t := ⟨_, rfl⟩
      obtain ⟨⟨u, q, ok⟩, hq⟩ : ∃ t, takeK (c :: r) = t := ⟨_, rfl⟩
      rw [hvn, hq] at hft
      rw [hvn] at hT
      rw [hq] at hF2 hok
      simp only at hft hT hF2 hok
      have HT1 := Lib.hid hT
      clear hT hq hvn HT
      rcases hft with ⟨rfl, hn⟩ | ⟨hn0, hn1, rfl, rfl, rfl⟩
      · have hF3 : none = res := by have := hF2.out; rwa [if_neg hn] at this
        subst hF3
        clear hn hF2 hdr
        go_wp2_with fail
        rw [HE.out]
        refine (HT1.out _ (by omega)).mono ?_
        rintro e w5 ⟨rfl, hb5⟩
        replace hb := hb.next hb5
        simp only [Vl.cells]
        go_wp2_with fail
        exact bodyPost_ret (v := .tuple #[.slice none 0 0, .bool false]) (by simp [results, Try.results12, go_sem]) rfl ⟨hb.alloc hb.size _, .slice none 0 0, rfl, RowAt.void _⟩
      · have HV1 := Lib.hid (fun W => HV.out v W hok (rightV v) rfl)
        obtain ⟨rv, hrv⟩ : ∃ rv, rightV v = rv := ⟨_, rfl⟩
        rw [hrv] at HV1
        have hF3 : Hid ((if rv = true then getF (l0.drop (k + n)).length (l0.drop (k + n)) (acc ++ [v]) else none) = res) := by
          have := hF2.out; rw [hrv, hdr] at this; show _ = _; simpa using this
        simp only [Vl.cells] at HV1
        have hn2 : ((n : Int) == 0) = false := by simp; omega
        clear hF2 hrv hdr
        go_wp2_with fail
        rw [HE.out]
        refine (HT1.out _ (by omega)).mono ?_
        rintro e w5 ⟨rfl, hb5⟩
        have hown5 := ownsRow_below hown hb5
        have hb6 := hb.next hb5
        clear hown
        simp only [Vl.cells]
        go_wp2_with fail
        generalize hW6 : w5.alloc (.cells #[.int .i64 v.k, .int .i64 v.n, .string v.s] 41) = W6
        have hV6 : Blk W6 w5.heap.size #[.int .i64 v.k, .int .i64 v.n, .string v.s] 41 := by subst hW6; exact Blk.new _ _ _
        have hb7 : Below w.heap.size w W6 := by subst hW6; exact hb6.alloc hb6.size _
        have hown6 : W6.ownsRow w.heap.size 41 3 o acc.length (rowCells acc) := by subst hW6; exact ownsRow_below hown5 ((Below.refl _ _).alloc (Nat.le_refl _) _)
        clear hW6 hown5 hb6
        refine (HV1.out _).mono ?_
        rintro e w7 ⟨rfl, hb8⟩
        replace hV6 := hV6.below hb8
        replace hb7 := hb7.next hb8
        replace hown6 := ownsRow_below hown6 hb8
        obtain ⟨z0, z1, z2, f0, f1, f2⟩ := hV6.val
        clear hb8
        cases rv with
        | false =>
          have hF4 : none = res := by have := hF3.out; simpa using this
          subst hF4
          go_wp2_with fail
          exact bodyPost_ret (v := .tuple #[.slice none 0 0, .bool false]) (by simp [results, Try.results12, go_sem]) rfl ⟨hb7, .slice none 0 0, rfl, RowAt.void _⟩
        | true =>
          have hF4 : Hid (getF (l0.drop (k + n)).length (l0.drop (k + n)) (acc ++ [v]) = res) := by have := hF3.out; rwa [if_pos rfl] at this
          have hsz7 := hb7.size
          go_wp2_with ((with_reducible refine wpList_append1 28 41 (.agg #[.int .i64 0, .int .i64 0, .string ⟨#[]⟩]) 3 32 Try.underlying28 info_value rfl (by decide) (by decide) ?_); refine ⟨w.heap.size, o, acc.length, rowCells acc, _, _, v.cells, rfl, rfl, hown6.alloc _, rfl, new_cells _ _ v.cells, ?_, ?_, ?_, ?_⟩; (intro u hu; simp only [Vl.cells, List.mem_cons, List.not_mem_nil, or_false] at hu; rcases hu with rfl | rfl | rfl <;> rfl); omega; (simp; omega); intro v' w8 hown8 hb8 _)
          exact ⟨⟨k + n, acc ++ [v], v', rfl, by go_num, by omega, by simp; omega, by rw [rowCells_snoc]; simpa using hown8, (hb7.alloc hb7.size _).trans hb8, hF4⟩, by simp [intOf]; omega⟩
    · obtain rfl : k = l0.length := by omega
      have hF2 : some acc = res := by have := hF.out; rw [List.drop_length] at this; rwa [List.length_nil, getF_nil] at this
      subst hF2
      go_wp2_with fail
      exact bodyPost_ret (v := .tuple #[o, .bool true]) (by simp [results, Try.results12, go_sem]) rfl ⟨hb, o, rfl, (RowAt.owned (l := acc) hown (by omega) : RowAt wr o acc)⟩
end Go.Proofs.Ytljdiakodpjkpaa
