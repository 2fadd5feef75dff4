/- Rows of values in memory, and value.Rights. -/
import Derived.Test.YtljdiakodpjkpaaVal
namespace Go.Proofs.Ytljdiakodpjkpaa
set_option linter.unusedVariables false
set_option linter.unusedSimpArgs false
open Go.RowKit
def Vl.cells (v : Vl) : List Value := [.int .i64 v.k, .int .i64 v.n, .string v.s]
theorem Vl.val_eq (v : Vl) : v.val = .agg v.cells.toArray := rfl
/-- A slice of values, to be read. -/
structure RowAt (w : World) (v : Value) (l : List Vl) : Prop where
  small : l.length ≤ 140737488351232
  sh : ∃ ao cap, v = .slice ao l.length cap ∧ (0 < l.length → ∃ b off, ao = some ⟨b, off, none⟩ ∧ b < w.heap.size ∧
    ∀ j (hj : j < l.length) i u, (l[j].cells)[i]? = some u → w.cell? ⟨b, off + j * 3 + i, none⟩ = some u)
theorem RowAt.below {w w1 : World} {v : Value} {l : List Vl} (h : RowAt w v l) (hb : Below w.heap.size w w1) : RowAt w1 v l := by
  obtain ⟨hs, ao, cap, hv, hc⟩ := h
  refine ⟨hs, ao, cap, hv, fun h0 => ?_⟩
  obtain ⟨b, off, ha, hlt, hcell⟩ := hc h0
  exact ⟨b, off, ha, Nat.lt_of_lt_of_le hlt hb.size, fun j hj i u hu => (hb.cell (p := ⟨b, off + j * 3 + i, none⟩) hlt).trans (hcell j hj i u hu)⟩
/-- The j-th value's cells. -/
theorem RowAt.get {w : World} {v : Value} {l : List Vl} (h : RowAt w v l) (j : Nat) (hj : j < l.length) :
    ∃ b off cap, v = .slice (some ⟨b, off, none⟩) l.length cap ∧ w.cell? ⟨b, off + j * 3, none⟩ = some (.int .i64 l[j].k) ∧ w.cell? ⟨b, off + j * 3 + 1, none⟩ = some (.int .i64 l[j].n) ∧ w.cell? ⟨b, off + j * 3 + 2, none⟩ = some (.string l[j].s) := by
  obtain ⟨hs, ao, cap, hv, hc⟩ := h
  obtain ⟨b, off, ha, hlt, hcell⟩ := hc (by omega)
  subst ha
  exact ⟨b, off, cap, hv, hcell j hj 0 _ rfl, hcell j hj 1 _ rfl, hcell j hj 2 _ rfl⟩
theorem RowAt.nil {w : World} {v : Value} {l : List Vl} (h : RowAt w v l) : ∃ ao cap, v = .slice ao l.length cap := let ⟨_, ao, cap, hv, _⟩ := h; ⟨ao, cap, hv⟩
def Oks (l : List Vl) : Prop := ∀ v ∈ l, v.ok
theorem rights1_any (v : Vl) (w : World) (hv : v.ok) (b : Bool) (hb : Hid (rightV v = b)) : Calls Try.prog 33 #[.agg v.cells.toArray] w (Ret (.bool !b) w) := by
  have hr := fun W => right_any v W hv
  rw [hb.out] at hr
  have HR := Lib.hid hr
  clear hr
  show Calls Try.prog 33 #[.agg #[.int .i64 v.k, .int .i64 v.n, .string v.s]] w _
  go_enter Try.func33, Try.ntmps33
  go_wp2_with fail
  refine (HR.out _).mono ?_
  rintro e w1 ⟨rfl, hb1⟩
  go_wp2_with fail
  go_ret
  exact ⟨rfl, below_new hb1⟩
def rightsL (l : List Vl) : Bool := l.all rightV
theorem rightsL_no {l : List Vl} {k : Nat} (hk : k < l.length) (h : rightV l[k] = false) : rightsL l = false := by
  cases hr : rightsL l with
  | false => rfl
  | true =>
    have := List.all_eq_true.1 hr _ (List.getElem_mem hk)
    rw [h] at this
    cases this
theorem rightsL_yes {l : List Vl} (h : ∀ k (hk : k < l.length), rightV l[k] = true) : rightsL l = true := by
  apply List.all_eq_true.2
  intro v hv
  obtain ⟨k, hk, rfl⟩ := List.getElem_of_mem hv
  exact h k hk
set_option maxHeartbeats 1000000 in
theorem indexRow_any (l : List Vl) (v : Value) (w : World) (hv : RowAt w v l) (hl : Oks l) : Calls Try.prog 50 #[v, .func (.func 33) #[] #[]] w
    fun e w' => ∃ r : Int, e = .returned (.int .i64 r) ∧ decide (0 ≤ r) = !rightsL l ∧ Below w.heap.size w w' := by
  obtain ⟨ao, cap, rfl⟩ := hv.nil
  have hsm := hv.small
  go_enter Try.func50, Try.ntmps50
  go_wp2_with fail
  go_loopw [8] (fun i wr => ∃ k : Nat, k ≤ l.length ∧ i = .int .i64 k ∧ Below w.heap.size w wr ∧ Hid (∀ j (hj : j < l.length), j < k → rightV l[j] = true)) (fun i _ => l.length - (intOf i).toNat)
  case atStart => exact ⟨0, Nat.zero_le _, rfl, Below.refl _ _, fun j _ h => by omega⟩
  case round =>
    obtain ⟨k, hk, rfl, hb, HA⟩ := hrel
    by_cases hlt : k < l.length
    · obtain ⟨b, off, cap', hv2, c0, c1, c2⟩ := (hv.below hb).get k hlt
      injection hv2 with h1 h2 h3
      subst h1
      subst h3
      have hok := hl l[k] (List.getElem_mem hlt)
      cases hr : rightV l[k] with
      | true =>
        have HC := rights1_any l[k] wr hok _ hr
        have HN : Hid (∀ j (hj : j < l.length), j < k + 1 → rightV l[j] = true) := by
          intro j hj hjk
          by_cases e : j = k
          · subst e; exact hr
          · exact HA.out j hj (by omega)
        clear hr hv hok
        go_wp2_with (go_at_call 33; refine HC.mono ?_; rintro e W' ⟨rfl, hbc⟩)
        go_roundw
        case rel => exact ⟨k + 1, by omega, by go_num, hb.next hbc, HN⟩
        case measure => simp [intOf]; omega
      | false =>
        have HC := rights1_any l[k] wr hok _ hr
        have HN := Lib.hid (rightsL_no hlt hr)
        clear hr hv hok
        go_wp2_with (go_at_call 33; refine HC.mono ?_; rintro e W' ⟨rfl, hbc⟩)
        go_ret
        exact ⟨_, rfl, by rw [HN.out]; simp, hb.next hbc⟩
    · have HN := Lib.hid (rightsL_yes (l := l) fun j hj => HA.out j hj (by omega))
      go_wp2_with fail
      go_ret
      exact ⟨_, rfl, by rw [HN.out]; rfl, hb⟩
theorem containsRow_any (l : List Vl) (v : Value) (w : World) (hv : RowAt w v l) (hl : Oks l) : Calls Try.prog 32 #[v, .func (.func 33) #[] #[]] w (Ret (.bool (!rightsL l)) w) := by
  have HI := indexRow_any l v w hv hl
  obtain ⟨ao, cap, rfl⟩ := hv.nil
  clear hv
  go_enter Try.func32, Try.ntmps32
  go_wp2_with fail
  refine HI.mono ?_
  rintro e w1 ⟨r, rfl, hr, hb⟩
  go_wp2_with fail
  go_ret
  exact ⟨ret_bool (by rw [← hr]), hb⟩
theorem rights_any (l : List Vl) (v : Value) (w : World) (hv : RowAt w v l) (hl : Oks l) : Calls Try.prog 17 #[v] w (Ret (.bool (rightsL l)) w) := by
  have HI := containsRow_any l v w hv hl
  obtain ⟨ao, cap, rfl⟩ := hv.nil
  clear hv
  go_enter Try.func17, Try.ntmps17
  go_wp2_with fail
  refine HI.mono ?_
  rintro e w1 ⟨rfl, hb⟩
  go_wp2_with fail
  go_ret
  exact ⟨ret_bool (by simp), hb⟩
end Go.Proofs.Ytljdiakodpjkpaa
