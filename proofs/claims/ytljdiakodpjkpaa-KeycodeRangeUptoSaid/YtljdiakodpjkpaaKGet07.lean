/- keycode.Get: the row of a key. -/
import Derived.Test.YtljdiakodpjkpaaTake07
namespace Go.Proofs.Ytljdiakodpjkpaa
set_option linter.unusedVariables false
set_option linter.unusedSimpArgs false
open Go.RowKit
open Oct (S S_size S_data beN)
/-- The values from some bytes on, behind those of acc. -/
def getF : Nat → List UInt8 → List Vl → Option (List Vl)
  | 0, l, acc => if l = [] then some acc else none
  | f + 1, l, acc => if l = [] then some acc else if (takeK l).2.2 = true ∧ rightV (takeK l).1 = true then getF f (takeK l).2.1 (acc ++ [(takeK l).1]) else none
def getK (l : List UInt8) : Option (List Vl) := getF l.length l []
theorem cutB_len (l : List UInt8) (c : UInt8) : (cutB l c).2.1.length ≤ l.length := by
  unfold cutB; split <;> simp
theorem takeK_len (c : UInt8) (r : List UInt8) : (takeK (c :: r)).2.1.length ≤ r.length := by
  unfold takeK
  simp only
  split; exact Nat.le_refl _
  split
  · cases r with
    | nil => simp
    | cons d q => simp
  split
  · split <;> simp
  split
  · exact cutB_len r 0
  · simp
theorem getF_succ (f : Nat) (c : UInt8) (r : List UInt8) (acc : List Vl) : getF (f + 1) (c :: r) acc = if (takeK (c :: r)).2.2 = true ∧ rightV (takeK (c :: r)).1 = true then getF f (takeK (c :: r)).2.1 (acc ++ [(takeK (c :: r)).1]) else none := by
  rw [getF, if_neg (by simp)]
theorem getF_more (f g : Nat) (l : List UInt8) (acc : List Vl) (h1 : l.length ≤ f) (h2 : l.length ≤ g) : getF f l acc = getF g l acc := by
  induction f generalizing g l acc with
  | zero =>
    have : l = [] := List.eq_nil_of_length_eq_zero (by omega)
    subst this
    cases g <;> simp [getF]
  | succ f ih =>
    cases l with
    | nil => cases g <;> simp [getF]
    | cons c r =>
      cases g with
      | zero => simp at h2
      | succ g =>
        have hlen := takeK_len c r
        simp only [List.length_cons] at h1 h2
        rw [getF_succ, getF_succ]
        split
        · exact ih g _ _ (by omega) (by omega)
        · rfl
theorem getF_step (c : UInt8) (r : List UInt8) (acc : List Vl) : getF (c :: r).length (c :: r) acc = if (takeK (c :: r)).2.2 = true ∧ rightV (takeK (c :: r)).1 = true then getF (takeK (c :: r)).2.1.length (takeK (c :: r)).2.1 (acc ++ [(takeK (c :: r)).1]) else none := by
  rw [List.length_cons, getF_succ]
  split
  · exact getF_more _ _ _ _ (takeK_len c r) (Nat.le_refl _)
  · rfl
theorem getF_nil (acc : List Vl) : getF 0 [] acc = some acc := by simp [getF]
/-- What Get answers. -/
def GetA (r : Option (List Vl)) (w : World) (x : Ending) (w' : World) : Prop := Below w.heap.size w w' ∧ ∃ v, x = .returned (.tuple #[v, .bool r.isSome]) ∧ RowAt w' v (r.getD [])
theorem cutB_len1 (l : List UInt8) (c : UInt8) : (cutB l c).1.length ≤ l.length := by
  unfold cutB; split
  · simp
  · rw [List.length_take]; omega
theorem ok_small (k n : Int) (s : ByteArray) (h1 : -9223372036854775808 ≤ k ∧ k ≤ 9223372036854775807) (h2 : -9223372036854775808 ≤ n ∧ n ≤ 9223372036854775807) (h3 : s.size ≤ maxLen) : (Vl.mk k n s).ok := by
  refine ⟨?_, ?_, h3⟩
  · simp [Lit.wf, show IntKind.i64.min = -9223372036854775808 by decide, show IntKind.i64.max = 9223372036854775807 by decide]; omega
  · simp [Lit.wf, show IntKind.i64.min = -9223372036854775808 by decide, show IntKind.i64.max = 9223372036854775807 by decide]; omega
theorem takeK_ok (c : UInt8) (r : List UInt8) (hr : r.length ≤ 200000000) : (takeK (c :: r)).1.ok := by
  have hz : (ByteArray.mk #[]).size ≤ maxLen := by decide
  have z : (Vl.mk 0 0 ⟨#[]⟩).ok := ok_small 0 0 _ (by omega) (by omega) hz
  unfold takeK
  simp only
  split; exact z
  split
  · cases r with
    | nil => exact z
    | cons d q => exact ok_small 1 d.toNat _ (by omega) (by have := d.toNat_lt; omega) hz
  split
  · split
    · rename_i h8
      have hlt := Oct.beN_lt (r.take 8)
      have h9 : (r.take 8).length = 8 := by rw [List.length_take]; omega
      rw [h9] at hlt
      have hlt2 : beN (r.take 8) < 18446744073709551616 := by simpa using hlt
      exact ok_small 2 _ _ (by omega) (by unfold unoff; omega) hz
    · exact z
  split
  · exact ok_small 3 0 _ (by omega) (by omega) (by rw [S_size]; have := cutB_len1 r 0; unfold maxLen; omega)
  · exact z
theorem kget_any (s : ByteArray) (w : World) (hs : s.size ≤ 200000000) :
    Calls Try.prog 11 #[.string s] w (GetA (getK s.data.toList) w) := by
  obtain ⟨l0, rfl⟩ : ∃ l, s = S l := ⟨s.data.toList, (Oct.S_of s).symm⟩
  rw [S_data]
  rw [S_size] at hs
  obtain ⟨res, hres⟩ : ∃ r, getK l0 = r := ⟨_, rfl⟩
  rw [hres]
  have HR : Hid (getF l0.length l0 [] = res) := hres
  have HT := Lib.hid (fun c r W h => take_any c r W h)
  have HV := Lib.hid (fun v W h => right_any v W h)
  clear hres
  go_enter Try.func11, Try.ntmps11
  go_wp2_with fail
  go_loopw [4, 5] (fun o x wr => ∃ (l : List UInt8) (acc : List Vl) (ov : Value), ov = o ∧ x = .string (S l) ∧ acc.length + l.length ≤ 200000000 ∧ wr.ownsRow w.heap.size 41 3 ov acc.length (rowCells acc) ∧ Below w.heap.size w wr ∧ Hid (getF l.length l acc = res)) (fun _ x _ => match x with | .string q => q.size | _ => 0)
  case atStart => exact ⟨l0, [], _, rfl, rfl, by simpa using hs, World.ownsRow_nil _ _ _ _, Below.refl _ _, HR⟩
  case round =>
    obtain ⟨l, acc, o, rfl, rfl, hln, hown, hb, hF⟩ := hrel
    cases l with
    | nil =>
      have hF2 : some acc = res := by rw [← getF_nil acc]; exact hF.out
      subst hF2
      have hz : (S []).size = 0 := rfl
      go_wp2_with fail
      exact bodyPost_ret (v := .tuple #[o, .bool true]) (by simp [results, Try.results11, go_sem]) rfl ⟨hb, o, rfl, (RowAt.owned (l := acc) hown (by omega) : RowAt wr o acc)⟩
    | cons c r =>
      have hsz : (S (c :: r)).size = r.length + 1 := by rw [S_size]; rfl
      simp only [List.length_cons] at hln
      have hF2 : Hid ((if (takeK (c :: r)).2.2 = true ∧ rightV (takeK (c :: r)).1 = true then getF (takeK (c :: r)).2.1.length (takeK (c :: r)).2.1 (acc ++ [(takeK (c :: r)).1]) else none) = res) := by
        show _ = _; rw [← getF_step]; exact hF.out
      have hT := HT.out c r
      have hlen := takeK_len c r
      have hok := takeK_ok c r (by omega)
      obtain ⟨⟨v, q, ok⟩, hq⟩ : ∃ t, takeK (c :: r) = t := ⟨_, rfl⟩
      rw [hq] at hT hF2 hlen hok
      simp only at hT hF2 hlen hok
      have HT1 := Lib.hid hT
      clear hT hF hq
      go_wp2_with fail
      refine (HT1.out _ (by omega)).mono ?_
      rintro e w5 ⟨rfl, hb5⟩
      simp only [Vl.cells]
      have hown5 := ownsRow_below hown hb5
      have hb6 := hb.next hb5
      clear hown
      cases ok with
      | false =>
        have hF3 : none = res := by have := hF2.out; simpa using this
        subst hF3
        go_wp2_with fail
        exact bodyPost_ret (v := .tuple #[.slice none 0 0, .bool false]) (by simp [results, Try.results11, go_sem]) rfl ⟨hb6.alloc hb6.size _, .slice none 0 0, rfl, RowAt.void _⟩
      | true =>
        have HV1 := Lib.hid (fun W => HV.out v W hok)
        obtain ⟨rv, hrv⟩ : ∃ rv, rightV v = rv := ⟨_, rfl⟩
        rw [hrv] at HV1
        have hF3 : Hid ((if rv = true then getF q.length q (acc ++ [v]) else none) = res) := by
          have := hF2.out; rw [hrv] at this; show _ = _; simpa using this
        simp only [Vl.val] at HV1
        clear hF2 hrv
        go_wp2_with fail
        generalize hW6 : w5.alloc (.cells #[.int .i64 v.k, .int .i64 v.n, .string v.s] 41) = W6
        have hV6 : Blk W6 w5.heap.size #[.int .i64 v.k, .int .i64 v.n, .string v.s] 41 := by subst hW6; exact Blk.new _ _ _
        have hb7 : Below w.heap.size w W6 := by subst hW6; exact hb6.alloc hb6.size _
        have hown6 : W6.ownsRow w.heap.size 41 3 o acc.length (rowCells acc) := by subst hW6; exact ownsRow_below hown5 ((Below.refl _ _).alloc (Nat.le_refl _) _)
        clear hW6 hown5 hb6
        refine (HV1.out _).mono ?_
        rintro e w7 ⟨rfl, hb8⟩
        replace hV6 := hV6.below hb8
        replace hb7 := hb7.next hb8
        replace hown6 := ownsRow_below hown6 hb8
        obtain ⟨z0, z1, z2, f0, f1, f2⟩ := hV6.val
        clear hb8
        cases rv with
        | false =>
          have hF4 : none = res := by have := hF3.out; simpa using this
          subst hF4
          go_wp2_with fail
          exact bodyPost_ret (v := .tuple #[.slice none 0 0, .bool false]) (by simp [results, Try.results11, go_sem]) rfl ⟨hb7, .slice none 0 0, rfl, RowAt.void _⟩
        | true =>
          have hF4 : Hid (getF q.length q (acc ++ [v]) = res) := by have := hF3.out; rwa [if_pos rfl] at this
          have hsz7 := hb7.size
          go_wp2_with ((with_reducible refine wpList_append1 28 41 (.agg #[.int .i64 0, .int .i64 0, .string ⟨#[]⟩]) 3 32 Try.underlying28 info_value rfl (by decide) (by decide) ?_); refine ⟨w.heap.size, o, acc.length, rowCells acc, _, _, v.cells, rfl, rfl, hown6.alloc _, rfl, new_cells _ _ v.cells, ?_, ?_, ?_, ?_⟩; (intro u hu; simp only [Vl.cells, List.mem_cons, List.not_mem_nil, or_false] at hu; rcases hu with rfl | rfl | rfl <;> rfl); omega; (simp; omega); intro v' w8 hown8 hb8 _)
          exact ⟨⟨q, acc ++ [v], v', rfl, rfl, by simp; omega, by rw [rowCells_snoc]; simpa using hown8, (hb7.alloc hb7.size _).trans hb8, hF4⟩, by show (S q).size < (S (c :: r)).size; rw [S_size, hsz]; omega⟩
end Go.Proofs.Ytljdiakodpjkpaa
