/- Disks: Same, May. -/
import Derived.Test.YthliialieogakaaDskA
namespace Go.Proofs.Ythliialieogakaa
set_option linter.unusedVariables false
set_option linter.unusedSimpArgs false
open Go.RowKit
open Oct (S)
theorem bx3_facts (w : World) (ao : Option Addr) (n cap : Nat) (a : Int) (c : Bool) (ao2 : Option Addr) (n2 cap2 : Nat) (a2 : Int) (c2 : Bool) :
    Below w.heap.size w ((w.alloc (.cells #[.slice ao n cap, .int .i64 a, .bool c] 25)).alloc (.cells #[.slice ao2 n2 cap2, .int .i64 a2, .bool c2] 25)) ∧
    Blk ((w.alloc (.cells #[.slice ao n cap, .int .i64 a, .bool c] 25)).alloc (.cells #[.slice ao2 n2 cap2, .int .i64 a2, .bool c2] 25)) w.heap.size #[.slice ao n cap, .int .i64 a, .bool c] 25 ∧
    Blk ((w.alloc (.cells #[.slice ao n cap, .int .i64 a, .bool c] 25)).alloc (.cells #[.slice ao2 n2 cap2, .int .i64 a2, .bool c2] 25)) (w.heap.size + 1) #[.slice ao2 n2 cap2, .int .i64 a2, .bool c2] 25 := by
  refine ⟨((Below.refl _ _).alloc (Nat.le_refl _) _).alloc (by simp) _, (Blk.new w _ _).alloc _, ?_⟩
  have := Blk.new (w.alloc (.cells #[.slice ao n cap, .int .i64 a, .bool c] 25)) #[.slice ao2 n2 cap2, .int .i64 a2, .bool c2] 25
  simpa using this
theorem same_no (s t : List ByteArray) (a a2 : Int) (c c2 : Bool) (v u : Value) (w : World) (hv : SecAt w v s) (hu : SecAt w u t) (h : ¬ (s.length = t.length ∧ a = a2 ∧ c = c2)) :
    Calls Try.prog 10 #[(Dk.mk s a c).val v, (Dk.mk t a2 c2).val u] w (Ret (.bool false) w) := by
  obtain ⟨ao, cap, rfl⟩ := hv.nil
  obtain ⟨ao2, cap2, rfl⟩ := hu.nil
  show Calls Try.prog 10 #[.agg #[.slice ao s.length cap, .int .i64 a, .bool c], .agg #[.slice ao2 t.length cap2, .int .i64 a2, .bool c2]] w _
  obtain ⟨n, hn⟩ : ∃ n, s.length = n := ⟨_, rfl⟩
  obtain ⟨m, hm⟩ : ∃ m, t.length = m := ⟨_, rfl⟩
  rw [hn, hm] at h ⊢
  clear hn hm hv hu
  by_cases h1 : n = m
  · by_cases h2 : a = a2
    · have h3 : (c == c2) = false := by
        cases hc : c == c2 with
        | false => rfl
        | true => exact (h ⟨h1, h2, by simpa using hc⟩).elim
      clear h
      subst h2
      subst h1
      obtain ⟨hb, hX, hY⟩ := bx3_facts w ao n cap a c ao2 n cap2 a c2
      clear hX hY
      go_enter Try.func10, Try.ntmps10
      go_wp2_with fail
      go_ret
      exact ⟨rfl, hb⟩
    · clear h
      have h2' : (a == a2) = false := by simpa using h2
      subst h1
      obtain ⟨hb, hX, hY⟩ := bx3_facts w ao n cap a c ao2 n cap2 a2 c2
      clear hX hY
      go_enter Try.func10, Try.ntmps10
      go_wp2_with fail
      go_ret
      exact ⟨rfl, hb⟩
  · clear h
    obtain ⟨hb, hX, hY⟩ := bx3_facts w ao n cap a c ao2 m cap2 a2 c2
    clear hX hY
    go_enter Try.func10, Try.ntmps10
    go_wp2_with fail
    go_ret
    exact ⟨rfl, hb⟩
set_option maxHeartbeats 1000000 in
theorem same_go (s t : List ByteArray) (a : Int) (c : Bool) (v u : Value) (w : World) (hv : SecAt w v s) (hu : SecAt w u t) (h : s.length = t.length) (hl : s.length ≤ 100000) :
    Calls Try.prog 10 #[(Dk.mk s a c).val v, (Dk.mk t a c).val u] w (Ret (.bool (decide (s = t))) w) := by
  obtain ⟨ao, cap, rfl⟩ := hv.nil
  obtain ⟨ao2, cap2, rfl⟩ := hu.nil
  obtain ⟨V, hV⟩ : ∃ V, decide (s = t) = V := ⟨_, rfl⟩
  rw [hV]
  have HV := Lib.hid hV
  clear hV
  show Calls Try.prog 10 #[.agg #[.slice ao s.length cap, .int .i64 a, .bool c], .agg #[.slice ao2 t.length cap2, .int .i64 a, .bool c]] w _
  have H1 := Lib.hid hv
  have H2 := Lib.hid hu
  obtain ⟨n, hn⟩ : ∃ n, s.length = n := ⟨_, rfl⟩
  have ht := h.symm.trans hn
  rw [hn] at H1 hl ⊢
  rw [ht] at H2 ⊢
  have HN := Lib.hid hn
  have HT := Lib.hid ht
  clear hn ht h
  have HB := Lib.hid (bx3_facts w ao n cap a c ao2 n cap2 a c)
  clear hv hu
  have hc : (c == c) = true := by simp
  go_enter Try.func10, Try.ntmps10
  go_wp2_with fail
  go_loopw [5] (fun i wr => ∃ (k : Nat), k ≤ n ∧ i = .int .i64 k ∧ Below w.heap.size w wr ∧ Blk wr w.heap.size #[.slice ao n cap, .int .i64 a, .bool c] 25 ∧ Blk wr (w.heap.size + 1) #[.slice ao2 n cap2, .int .i64 a, .bool c] 25 ∧ Hid (∀ j, j < k → s[j]? = t[j]?)) (fun i _ => n - (intOf i).toNat)
  case atStart => exact ⟨0, by omega, rfl, HB.out.1, HB.out.2.1, HB.out.2.2, fun j hj => by omega⟩
  case round =>
    obtain ⟨k, hk, rfl, hb, hX, hY, HE⟩ := hrel
    obtain ⟨x0, x1, x2, _, _, _⟩ := hX.dval
    obtain ⟨y0, y1, y2, _, _, _⟩ := hY.dval
    by_cases hlt : k < n
    · have hs1 : k < s.length := by rw [HN.out]; exact hlt
      have ht1 : k < t.length := by rw [HT.out]; exact hlt
      obtain ⟨b1, o1, cp1, he1, hlt1, hc1⟩ := SecAt.get H1.out k (by rw [HN.out]; exact hlt)
      obtain ⟨b2, o2, cp2, he2, hlt2, hc2⟩ := SecAt.get H2.out k (by rw [HT.out]; exact hlt)
      injection he1 with he1 u1 u2
      injection he2 with he2 u3 u4
      clear u1 u2 u3 u4
      subst he1
      subst he2
      have hw2 : IntKind.i64.wrap ((k : Int) + 1) = k + 1 := IntWalk.i64_in _ (by omega)
      have q1 := (hb.cell (p := ⟨b1, o1 + k, none⟩) hlt1).trans (hc1 k hs1)
      have q2 := (hb.cell (p := ⟨b2, o2 + k, none⟩) hlt2).trans (hc2 k ht1)
      have e1 : Hid (s[k]? = some s[k]) := by show _ = _; simp [hs1]
      have e2 : Hid (t[k]? = some (t[k]'ht1)) := by show _ = _; simp [ht1]
      obtain ⟨p1, hp1⟩ : ∃ p, s[k]'hs1 = p := ⟨_, rfl⟩
      obtain ⟨p2, hp2⟩ : ∃ p, t[k]'ht1 = p := ⟨_, rfl⟩
      rw [hp1] at q1 e1
      rw [hp2] at q2 e2
      have hk0 : (0 : Int) ≤ k := by omega
      have hk1 : (k : Int) < n := by omega
      clear hp1 hp2 hc1 hc2 hs1 ht1
      by_cases hpp : p1 = p2
      · subst hpp
        go_wp2
        go_quiet (fail)
        go_wp2_with fail
        go_roundw
        case rel =>
          refine ⟨k + 1, by omega, by go_num, hb.drewN nq, hX, hY, fun j hj => ?_⟩
          by_cases hjk : j < k
          · exact HE.out j hjk
          · have : j = k := by omega
            subst this
            exact e1.out.trans e2.out.symm
        case measure => simp [intOf]; omega
      · have hne : (p1.toList == p2.toList) = false := by
          rw [beq_eq_false_iff_ne, ByteArray.toList_eq, ByteArray.toList_eq]
          exact fun e => hpp (ByteArray.ext (Array.toList_inj.1 e))
        have hV := HV.out
        have hst : ¬ s = t := by
          intro e
          subst e
          have h1 := e1.out
          rw [e2.out] at h1
          injection h1 with h1
          exact hpp h1.symm
        rw [decide_eq_false hst] at hV
        subst hV
        clear hst
        go_wp2
        go_quiet (fail)
        go_wp2_with fail
        go_ret
        exact ⟨rfl, hb.drewN nq⟩
    · have hk : k = n := by omega
      subst hk
      have hV := HV.out
      have hst : s = t := by
        apply List.ext_getElem?
        intro j
        by_cases hj : j < k
        · exact HE.out j hj
        · rw [List.getElem?_eq_none (by rw [HN.out]; omega), List.getElem?_eq_none (by rw [HT.out]; omega)]
      rw [decide_eq_true hst] at hV
      subst hV
      clear hst
      go_wp2_with fail
      go_ret
      exact ⟨rfl, hb⟩
/-- Same: are they the same? -/
theorem same_any (d x : Dk) (v u : Value) (w : World) (hv : SecAt w v d.s) (hu : SecAt w u x.s) (hl : d.s.length ≤ 100000) :
    Calls Try.prog 10 #[d.val v, x.val u] w (Ret (.bool (decide (d = x))) w) := by
  obtain ⟨s, a, c⟩ := d
  obtain ⟨t, a2, c2⟩ := x
  by_cases h : s.length = t.length ∧ a = a2 ∧ c = c2
  · obtain ⟨h1, rfl, rfl⟩ := h
    have e : decide (Dk.mk s a c = Dk.mk t a c) = decide (s = t) := by simp
    rw [e]
    exact same_go s t a c v u w hv hu h1 hl
  · have e : decide (Dk.mk s a c = Dk.mk t a2 c2) = false := by
      apply decide_eq_false
      intro e
      injection e with e1 e2 e3
      exact h ⟨by rw [e1], e2, e3⟩
    rw [e]
    exact same_no s t a a2 c c2 v u w hv hu h
end Go.Proofs.Ythliialieogakaa
