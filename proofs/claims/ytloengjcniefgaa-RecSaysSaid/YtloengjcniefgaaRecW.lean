/- rec: within, number, paged, slot: what they answer. -/
import Derived.Test.YtloengjcniefgaaRecP
import Derived.Test.YtloengjcniefgaaKitA
import Derived.BigQuiet
namespace Go.Proofs.Ytloengjcniefgaa.Rec
set_option linter.unusedVariables false
set_option linter.unusedSimpArgs false
open Go.RowKit
open Oct (S beN putL U I getI sumN S_size S_data)
def inC (ns : List Int) : List (List Value) := ns.map fun n => [.int .i64 n]
theorem inC_len (ns : List Int) : (inC ns).length = ns.length := List.length_map ..
theorem inC_get (l : List Int) (j : Nat) (h : j < l.length) : (inC l)[j]'(by rw [inC_len]; exact h) = [.int .i64 l[j]] := by simp [inC]
set_option maxRecDepth 100000 in
theorem within1_any (n most : Int) (p : Nat) (w : World) (hp : w.cell? ⟨p, 0, none⟩ = some (.int .i64 most)) :
    Calls Try.prog 76 #[.int .i64 n, .pointer (some ⟨p, 0, none⟩)] w (Eq1 (.bool (!inB most n)) w) := by
  have HB : Hid (inB most n = (decide (0 ≤ n) && decide (n ≤ most))) := rfl
  by_cases h0 : n < 0
  · go_enter Try.func76, Try.ntmps76
    go_wp2_with fail
    go_ret
    exact ⟨ret_bool (by rw [HB.out]; simp; omega), rfl⟩
  · by_cases h1 : most < n
    · go_enter Try.func76, Try.ntmps76
      go_wp2_with fail
      go_ret
      exact ⟨ret_bool (by rw [HB.out]; simp; omega), rfl⟩
    · go_enter Try.func76, Try.ntmps76
      go_wp2_with fail
      go_ret
      exact ⟨ret_bool (by rw [HB.out]; simp; omega), rfl⟩
set_option maxHeartbeats 1000000 in
set_option maxRecDepth 100000 in
theorem index_any (ns : List Int) (v : Value) (most : Int) (p : Nat) (w : World) (hv : ElAt w 1 v (inC ns)) (hp : w.cell? ⟨p, 0, none⟩ = some (.int .i64 most)) (hs : ns.length ≤ 1000) :
    Calls Try.prog 79 #[v, .func (.func 76) #[] #[.pointer (some ⟨p, 0, none⟩)]] w fun e w' => w' = w ∧ ∃ k : Int, e = .returned (.int .i64 k) ∧ decide (0 ≤ k) = !(ns.all (inB most)) := by
  have HV := Lib.hid hv
  have HW := Lib.hid (fun n => within1_any n most p w hp)
  obtain ⟨ao, cap, rfl⟩ := hv.nil
  rw [inC_len] at *
  clear hv
  go_enter Try.func79, Try.ntmps79
  go_wp2_with fail
  go_loop [5, 8] (fun _ iv => ∃ i : Nat, i ≤ ns.length ∧ iv = .int .i64 (i : Int) ∧ Hid ((ns.take i).all (inB most) = true)) (fun _ iv => ns.length - (intOf iv).toNat)
  case atStart => exact ⟨0, Nat.zero_le _, rfl, by show _ = _; simp⟩
  case round =>
    obtain ⟨i, hi, rfl, HT⟩ := hrel
    by_cases hlt : i < ns.length
    · obtain ⟨b, off, c1, hv1, _, hc⟩ := HV.out.get i (by rw [inC_len]; exact hlt)
      rw [inC_len] at hv1
      injection hv1 with e1 _ e3
      subst e1 e3
      rw [inC_get ns i hlt] at hc
      have d0 : w.cell? ⟨b, off + i * 1, none⟩ = some (.int .i64 ns[i]) := hc 0 _ rfl
      have HNX : Hid ((ns.take (i + 1)).all (inB most) = ((ns.take i).all (inB most) && inB most ns[i])) := by
        show _ = _
        rw [List.take_succ_eq_append_getElem hlt, List.all_append]
        simp
      have HALL : Hid (inB most ns[i] = false → ns.all (inB most) = false) := by
        show _ → _
        intro h
        rw [List.all_eq_false]
        exact ⟨_, List.getElem_mem hlt, by rw [h]; simp⟩
      obtain ⟨n, hn⟩ : ∃ n, ns[i] = n := ⟨_, rfl⟩
      rw [hn] at d0 HNX HALL
      have hi0 : (0 : Int) ≤ i := by omega
      have hi1 : (i : Int) < ns.length := by omega
      rw [Nat.mul_one] at d0
      clear hc hn
      cases hin : inB most n with
      | true =>
        have HWN := Lib.hid (HW.out n)
        rw [hin] at HWN HNX
        have HT2 : Hid ((ns.take (i + 1)).all (inB most) = true) := by show _ = _; rw [HNX.out, HT.out]; rfl
        clear hin HALL HNX HT HW
        go_wp2_with fail
        refine HWN.out.mono ?_
        rintro e w1 ⟨rfl, rfl⟩
        go_wp2_with fail
        go_round
        case rel => exact ⟨i + 1, by omega, by go_num, HT2⟩
        case measure => simp [intOf]; omega
      | false =>
        have HWN := Lib.hid (HW.out n)
        rw [hin] at HWN
        have HF := Lib.hid (HALL.out hin)
        clear hin HALL HNX HT HW
        go_wp2_with fail
        refine HWN.out.mono ?_
        rintro e w1 ⟨rfl, rfl⟩
        go_wp2_with fail
        go_ret
        exact ⟨rfl, _, rfl, by rw [HF.out]; simp⟩
    · have HF : Hid (ns.all (inB most) = true) := by
        show _ = _
        have := HT.out
        rwa [List.take_of_length_le (by omega)] at this
      clear HT HV HW
      go_wp2_with fail
      go_ret
      exact ⟨rfl, _, rfl, by rw [HF.out]; decide⟩
set_option maxRecDepth 100000 in
theorem contains_any (ns : List Int) (v : Value) (most : Int) (p : Nat) (w : World) (hv : ElAt w 1 v (inC ns)) (hp : w.cell? ⟨p, 0, none⟩ = some (.int .i64 most)) (hs : ns.length ≤ 1000) :
    Calls Try.prog 75 #[v, .func (.func 76) #[] #[.pointer (some ⟨p, 0, none⟩)]] w (Eq1 (.bool (!(ns.all (inB most)))) w) := by
  have HI := Lib.hid (index_any ns v most p w hv hp hs)
  obtain ⟨ao, cap, rfl⟩ := hv.nil
  clear hv
  go_enter Try.func75, Try.ntmps75
  go_wp2_with fail
  refine HI.out.mono ?_
  rintro e w1 ⟨rfl, k, rfl, hk⟩
  have HK := Lib.hid hk
  clear hk
  go_wp2_with fail
  go_ret
  exact ⟨ret_bool (by rw [← HK.out]), rfl⟩
theorem within_any (ns : List Int) (v : Value) (most : Int) (w : World) (hv : ElAt w 1 v (inC ns)) (hs : ns.length ≤ 1000) :
    Calls Try.prog 64 #[.int .i64 most, v] w (Ret (.bool (ns.all (inB most))) w) := by
  have hmf : ∀ (fn : Fn) (first cap : Array Value) (w : World), (Instr.makeFunc fn first cap).run Try.prog w = .ok (.func fn first cap) w := fun _ _ _ _ => rfl
  have hb := (Below.refl w.heap.size w).alloc (Nat.le_refl _) (.cells #[.int .i64 most] 3)
  have HC := Lib.hid (contains_any ns v most w.heap.size _ (hv.below hb) ((Blk.new w #[.int .i64 most] 3).cell 0 rfl) hs)
  obtain ⟨ao, cap, rfl⟩ := hv.nil
  clear hv
  go_enter Try.func64, Try.ntmps64
  go_wp2_with fail
  refine HC.out.mono ?_
  rintro e w1 ⟨rfl, rfl⟩
  go_wp2_with fail
  go_ret
  exact ⟨ret_bool (by simp), hb⟩
theorem number_any (ns : List Int) (v : Value) (w : World) (hv : ElAt w 1 v (inC ns)) (hs : ns.length ≤ 1000) :
    Calls Try.prog 29 #[v] w (Ret (.bool (ns.all numB)) w) := by
  have HC := Lib.hid (within_any ns v 1099511627775 w hv hs)
  obtain ⟨ao, cap, rfl⟩ := hv.nil
  clear hv
  go_enter Try.func29, Try.ntmps29
  go_wp2_with fail
  refine HC.out.mono ?_
  rintro e w1 ⟨rfl, hb⟩
  go_wp2_with fail
  go_ret
  exact ⟨rfl, hb⟩
theorem paged_any (ns : List Int) (v : Value) (w : World) (hv : ElAt w 1 v (inC ns)) (hs : ns.length ≤ 1000) :
    Calls Try.prog 30 #[v] w (Ret (.bool (ns.all pageB)) w) := by
  have HC := Lib.hid (within_any ns v 8388607 w hv hs)
  obtain ⟨ao, cap, rfl⟩ := hv.nil
  clear hv
  go_enter Try.func30, Try.ntmps30
  go_wp2_with fail
  refine HC.out.mono ?_
  rintro e w1 ⟨rfl, hb⟩
  go_wp2_with fail
  go_ret
  exact ⟨rfl, hb⟩
theorem slot_any (ns : List Int) (v : Value) (w : World) (hv : ElAt w 1 v (inC ns)) (hs : ns.length ≤ 1000) :
    Calls Try.prog 65 #[v] w (Ret (.bool (ns.all slotB)) w) := by
  have HC := Lib.hid (within_any ns v 32767 w hv hs)
  obtain ⟨ao, cap, rfl⟩ := hv.nil
  clear hv
  go_enter Try.func65, Try.ntmps65
  go_wp2_with fail
  refine HC.out.mono ?_
  rintro e w1 ⟨rfl, hb⟩
  go_wp2_with fail
  go_ret
  exact ⟨rfl, hb⟩
end Go.Proofs.Ytloengjcniefgaa.Rec
