/- Disks: May. -/
import Derived.Test.YthliialieogakaaDskA
namespace Go.Proofs.Ythliialieogakaa
set_option linter.unusedVariables false
set_option linter.unusedSimpArgs false
open Go.RowKit
open Oct (S)
set_option maxHeartbeats 1000000 in
theorem may_any (d : Dk) (v : Value) (w : World) (hv : SecAt w v d.s) :
    Calls Try.prog 24 #[d.val v] w (Ret (.bool d.may) w) := by
  have hsm := hv.small
  obtain ⟨s, a, c⟩ := d
  obtain ⟨ao, cap, rfl⟩ := hv.nil
  obtain ⟨V, hV⟩ : ∃ V, (Dk.mk s a c).may = V := ⟨_, rfl⟩
  rw [hV]
  have HV : Hid ((s.all (fun s => s.size == 128) && (decide (1 ≤ s.length) && (decide (s.length ≤ 65536) && (decide (-1 ≤ a) && (!c || decide (a = 0)))))) = V) := hV
  clear hV
  show Calls Try.prog 24 #[.agg #[.slice ao s.length cap, .int .i64 a, .bool c]] w _
  have H1 := Lib.hid hv
  have hb0 := bx_below w ao s.length cap a c
  have hX0 := Blk.new w #[.slice ao s.length cap, .int .i64 a, .bool c] 25
  clear hv
  obtain ⟨n, hn⟩ : ∃ n, s.length = n := ⟨_, rfl⟩
  rw [hn] at H1 hb0 hX0 HV ⊢
  simp only [hn] at hsm
  have HN := Lib.hid hn
  clear hn
  go_enter Try.func24, Try.ntmps24
  go_wp2_with fail
  go_loopw [3] (fun i wr => ∃ (k : Nat), k ≤ n ∧ i = .int .i64 k ∧ Below w.heap.size w wr ∧ Blk wr w.heap.size #[.slice ao n cap, .int .i64 a, .bool c] 25 ∧ Hid (∀ j p, j < k → s[j]? = some p → p.size = 128)) (fun i _ => n - (intOf i).toNat)
  case atStart => exact ⟨0, by omega, rfl, hb0, hX0, fun j p hj => by omega⟩
  case round =>
    clear hb0 hX0
    obtain ⟨k, hk, rfl, hb, hX, HE⟩ := hrel
    obtain ⟨x0, x1, x2, _, _, _⟩ := hX.dval
    by_cases hlt : k < n
    · have hs1 : k < s.length := by rw [HN.out]; exact hlt
      obtain ⟨b1, o1, cp1, he1, hlt1, hc1⟩ := SecAt.get H1.out k hs1
      injection he1 with he1 u1 u2
      clear u1 u2
      subst he1
      have hw2 : IntKind.i64.wrap ((k : Int) + 1) = k + 1 := IntWalk.i64_in _ (by omega)
      have q1 := (hb.cell (p := ⟨b1, o1 + k, none⟩) hlt1).trans (hc1 k hs1)
      have e1 : Hid (s[k]? = some (s[k]'hs1)) := by show _ = _; simp [hs1]
      obtain ⟨p1, hp1⟩ : ∃ p, s[k]'hs1 = p := ⟨_, rfl⟩
      rw [hp1] at q1 e1
      have hk0 : (0 : Int) ≤ k := by omega
      have hk1 : (k : Int) < n := by omega
      clear hp1 hc1 hs1
      by_cases hpp : p1.size = 128
      · go_wp2_with fail
        go_roundw
        case rel =>
          refine ⟨k + 1, by omega, by go_num, hb, hX, fun j p hj hp => ?_⟩
          by_cases hjk : j < k
          · exact HE.out j p hjk hp
          · have : j = k := by omega
            subst this
            rw [e1.out] at hp
            injection hp with hp
            subst hp
            exact hpp
        case measure => simp [intOf]; omega
      · have hV := HV.out
        have hst : s.all (fun s => s.size == 128) = false := by
          rw [List.all_eq_false]
          exact ⟨p1, List.mem_of_getElem? e1.out, by simpa using hpp⟩
        rw [hst, Bool.false_and] at hV
        subst hV
        clear hst
        go_wp2_with fail
        go_ret
        exact ⟨rfl, hb⟩
    · have hk : k = n := by omega
      subst hk
      have hV := HV.out
      have hst : s.all (fun s => s.size == 128) = true := by
        rw [List.all_eq_true]
        intro p hp
        obtain ⟨j, hj, he⟩ := List.getElem_of_mem hp
        have := HE.out j p (by rw [← HN.out]; exact hj) (by rw [← he]; simp [hj])
        simpa using this
      rw [hst, Bool.true_and] at hV
      have HV2 := Lib.hid hV
      clear hst hV
      by_cases h1 : 1 ≤ k
      · by_cases h2 : k ≤ 65536
        · by_cases h3 : -1 ≤ a
          · cases c with
            | false =>
              go_wp2_with fail
              go_ret
              exact ⟨ret_bool (by rw [← HV2.out]; simp [h1, h2, h3]), hb⟩
            | true =>
              go_wp2_with fail
              go_ret
              exact ⟨ret_bool (by rw [← HV2.out]; simp [h1, h2, h3] <;> rfl), hb⟩
          · go_wp2_with fail
            go_ret
            exact ⟨ret_bool (by rw [← HV2.out]; simp [h1, h2]; intro h; omega), hb⟩
        · go_wp2_with fail
          go_ret
          exact ⟨ret_bool (by rw [← HV2.out]; simp [h1]; intro h; omega), hb⟩
      · go_wp2_with fail
        go_ret
        exact ⟨ret_bool (by rw [← HV2.out]; simp [h1]), hb⟩
end Go.Proofs.Ythliialieogakaa
