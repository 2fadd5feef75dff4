/- KeycodeAfter's walk. -/
import Derived.Test.YtljdiakodpjkpaaAwk07
import Derived.Test.YtljdiakodpjkpaaKeyL
namespace Go.Proofs.Ytljdiakodpjkpaa
set_option linter.unusedVariables false
set_option linter.unusedSimpArgs false
open Go.RowKit
open Oct (S S_size S_data)
open Lib (compareBytes)
theorem beq_pre (s t : ByteArray) (h : s.size ≤ t.size) : ((t.extract 0 s.size).toList == s.toList) = decide (s.data.toList <+: t.data.toList) := by
  have e1 : t.extract 0 s.size = S (t.data.toList.take s.data.toList.length) := by
    have h1 : s.data.toList.length = s.size := by simp
    have h2 : t.data.toList.length = t.size := by simp
    have := S_take t.data.toList s.size (by omega)
    rw [Oct.S_of] at this
    rw [this, h1]
  rw [e1, ByteArray.toList_eq, ByteArray.toList_eq, S_data]
  rw [Bool.eq_iff_iff, beq_iff_eq, decide_eq_true_iff, List.prefix_iff_eq_take]
  exact eq_comm
set_option maxHeartbeats 2000000 in
set_option maxRecDepth 100000 in
theorem walk_KeycodeAfter (s t : ByteArray) (w : World) (hs : s.size ≤ 140737488351232) (ht : t.size ≤ 140737488351232) : Calls Try.prog 3 #[.string s, .string t] w (Ret (.bool true) w) := by
  have HA := Lib.hid (fun W => after_any s W (by unfold maxLen; omega))
  have HS := Lib.hid (fun a b W => sign_any a b W)
  have HW := Lib.hid (fun W => awake7_any W)
  have hlaw := after_law s.data.toList t.data.toList
  have habove := after_above s.data.toList
  have hle : s.data.toList <+: t.data.toList → s.size ≤ t.size := fun h => by
    have := h.length_le
    simpa using this
  have hpre := beq_pre s t
  obtain ⟨r, hr⟩ : ∃ r, compareBytes t.data.toList s.data.toList = r := ⟨_, rfl⟩
  rw [hr] at hlaw
  have HR := Lib.hid (fun W => by have := HS.out t s W; rw [hr] at this; exact this)
  clear hr
  cases ha : afterF s.data.toList with
  | none =>
    rw [ha] at HA hlaw
    simp only [Option.getD_none, Option.isSome_none] at HA
    have hl2 : 0 ≤ r ↔ s.data.toList <+: t.data.toList := by rw [← hlaw]; simp
    clear hlaw habove ha
    by_cases hp : s.data.toList <+: t.data.toList
    · have hr0 := hl2.2 hp
      have hle1 := hle hp
      have hb := hpre hle1
      rw [decide_eq_true hp] at hb
      clear hl2 hle hpre hp HS
      go_enter Try.func3, Try.ntmps3
      go_wp2_with fail
      refine (HA.out _).mono ?_
      rintro e w1 ⟨rfl, hb1⟩
      go_wp2_with fail
      refine (HR.out _).mono ?_
      rintro e w2 ⟨rfl, hb2⟩
      replace hb1 := hb1.next hb2; clear hb2
      go_wp2_with fail
      refine (HW.out _).mono ?_
      rintro e w2 ⟨rfl, hb2⟩
      replace hb1 := hb1.next hb2; clear hb2
      go_wp2_with fail
      go_ret
      exact ⟨rfl, hb1⟩
    · have hr0 : ¬ 0 ≤ r := fun h => hp (hl2.1 h)
      rw [decide_eq_false hp] at hpre
      clear hl2 hle hp HS
      by_cases hle1 : s.size ≤ t.size
      · have hb := hpre hle1
        clear hpre
        go_enter Try.func3, Try.ntmps3
        go_wp2_with fail
        refine (HA.out _).mono ?_
        rintro e w1 ⟨rfl, hb1⟩
        go_wp2_with fail
        refine (HR.out _).mono ?_
        rintro e w2 ⟨rfl, hb2⟩
        replace hb1 := hb1.next hb2; clear hb2
        go_wp2_with fail
        refine (HW.out _).mono ?_
        rintro e w2 ⟨rfl, hb2⟩
        replace hb1 := hb1.next hb2; clear hb2
        go_wp2_with fail
        go_ret
        exact ⟨rfl, hb1⟩
      · clear hpre
        go_enter Try.func3, Try.ntmps3
        go_wp2_with fail
        refine (HA.out _).mono ?_
        rintro e w1 ⟨rfl, hb1⟩
        go_wp2_with fail
        refine (HR.out _).mono ?_
        rintro e w2 ⟨rfl, hb2⟩
        replace hb1 := hb1.next hb2; clear hb2
        go_wp2_with fail
        refine (HW.out _).mono ?_
        rintro e w2 ⟨rfl, hb2⟩
        replace hb1 := hb1.next hb2; clear hb2
        go_wp2_with fail
        go_ret
        exact ⟨rfl, hb1⟩
  | some a =>
    rw [ha] at HA hlaw
    simp only [Option.getD_some, Option.isSome_some] at HA
    obtain ⟨r2, hr2⟩ : ∃ r, compareBytes t.data.toList a = r := ⟨_, rfl⟩
    obtain ⟨r3, hr3⟩ : ∃ r, compareBytes a s.data.toList = r := ⟨_, rfl⟩
    have hl2 : (0 ≤ r ∧ r2 < 0) ↔ s.data.toList <+: t.data.toList := by rw [← hlaw, ← hr2]; simp
    have hr30 : 0 < r3 := by rw [← hr3]; exact habove a ha
    have HR2 := Lib.hid (fun W => by have := HS.out t (S a) W; rw [S_data, hr2] at this; exact this)
    have HR3 := Lib.hid (fun W => by have := HS.out (S a) s W; rw [S_data, hr3] at this; exact this)
    generalize S a = q at HA HR2 HR3
    clear hlaw habove ha hr2 hr3
    by_cases hp : s.data.toList <+: t.data.toList
    · obtain ⟨hr0, hr2⟩ := hl2.2 hp
      have hle1 := hle hp
      have hb := hpre hle1
      rw [decide_eq_true hp] at hb
      clear hl2 hle hpre hp HS
      go_enter Try.func3, Try.ntmps3
      go_wp2_with fail
      refine (HA.out _).mono ?_
      rintro e w1 ⟨rfl, hb1⟩
      go_wp2_with fail
      refine (HR.out _).mono ?_
      rintro e w2 ⟨rfl, hb2⟩
      replace hb1 := hb1.next hb2; clear hb2
      go_wp2_with fail
      refine (HR2.out _).mono ?_
      rintro e w2 ⟨rfl, hb2⟩
      replace hb1 := hb1.next hb2; clear hb2
      go_wp2_with fail
      refine (HW.out _).mono ?_
      rintro e w2 ⟨rfl, hb2⟩
      replace hb1 := hb1.next hb2; clear hb2
      go_wp2_with fail
      refine (HR3.out _).mono ?_
      rintro e w2 ⟨rfl, hb2⟩
      replace hb1 := hb1.next hb2; clear hb2
      go_wp2_with fail
      go_ret
      exact ⟨rfl, hb1⟩
    · rw [decide_eq_false hp] at hpre
      by_cases hr0 : 0 ≤ r
      · have hr2 : 0 ≤ r2 := by
          have : ¬ r2 < 0 := fun h => hp (hl2.1 ⟨hr0, h⟩)
          omega
        clear hl2 hle hp HS
        by_cases hle1 : s.size ≤ t.size
        · have hb := hpre hle1
          clear hpre
          go_enter Try.func3, Try.ntmps3
          go_wp2_with fail
          refine (HA.out _).mono ?_
          rintro e w1 ⟨rfl, hb1⟩
          go_wp2_with fail
          refine (HR.out _).mono ?_
          rintro e w2 ⟨rfl, hb2⟩
          replace hb1 := hb1.next hb2; clear hb2
          go_wp2_with fail
          refine (HR2.out _).mono ?_
          rintro e w2 ⟨rfl, hb2⟩
          replace hb1 := hb1.next hb2; clear hb2
          go_wp2_with fail
          refine (HW.out _).mono ?_
          rintro e w2 ⟨rfl, hb2⟩
          replace hb1 := hb1.next hb2; clear hb2
          go_wp2_with fail
          refine (HR3.out _).mono ?_
          rintro e w2 ⟨rfl, hb2⟩
          replace hb1 := hb1.next hb2; clear hb2
          go_wp2_with fail
          go_ret
          exact ⟨by show Ending.returned (.bool (!decide (r2 < 0))) = _; rw [decide_eq_false (by omega)]; rfl, hb1⟩
        · clear hpre
          go_enter Try.func3, Try.ntmps3
          go_wp2_with fail
          refine (HA.out _).mono ?_
          rintro e w1 ⟨rfl, hb1⟩
          go_wp2_with fail
          refine (HR.out _).mono ?_
          rintro e w2 ⟨rfl, hb2⟩
          replace hb1 := hb1.next hb2; clear hb2
          go_wp2_with fail
          refine (HR2.out _).mono ?_
          rintro e w2 ⟨rfl, hb2⟩
          replace hb1 := hb1.next hb2; clear hb2
          go_wp2_with fail
          refine (HW.out _).mono ?_
          rintro e w2 ⟨rfl, hb2⟩
          replace hb1 := hb1.next hb2; clear hb2
          go_wp2_with fail
          refine (HR3.out _).mono ?_
          rintro e w2 ⟨rfl, hb2⟩
          replace hb1 := hb1.next hb2; clear hb2
          go_wp2_with fail
          go_ret
          exact ⟨by show Ending.returned (.bool (!decide (r2 < 0))) = _; rw [decide_eq_false (by omega)]; rfl, hb1⟩
      · clear hl2 hle hp HS HR2
        by_cases hle1 : s.size ≤ t.size
        · have hb := hpre hle1
          clear hpre
          go_enter Try.func3, Try.ntmps3
          go_wp2_with fail
          refine (HA.out _).mono ?_
          rintro e w1 ⟨rfl, hb1⟩
          go_wp2_with fail
          refine (HR.out _).mono ?_
          rintro e w2 ⟨rfl, hb2⟩
          replace hb1 := hb1.next hb2; clear hb2
          go_wp2_with fail
          refine (HW.out _).mono ?_
          rintro e w2 ⟨rfl, hb2⟩
          replace hb1 := hb1.next hb2; clear hb2
          go_wp2_with fail
          refine (HR3.out _).mono ?_
          rintro e w2 ⟨rfl, hb2⟩
          replace hb1 := hb1.next hb2; clear hb2
          go_wp2_with fail
          go_ret
          exact ⟨rfl, hb1⟩
        · clear hpre
          go_enter Try.func3, Try.ntmps3
          go_wp2_with fail
          refine (HA.out _).mono ?_
          rintro e w1 ⟨rfl, hb1⟩
          go_wp2_with fail
          refine (HR.out _).mono ?_
          rintro e w2 ⟨rfl, hb2⟩
          replace hb1 := hb1.next hb2; clear hb2
          go_wp2_with fail
          refine (HW.out _).mono ?_
          rintro e w2 ⟨rfl, hb2⟩
          replace hb1 := hb1.next hb2; clear hb2
          go_wp2_with fail
          refine (HR3.out _).mono ?_
          rintro e w2 ⟨rfl, hb2⟩
          replace hb1 := hb1.next hb2; clear hb2
          go_wp2_with fail
          go_ret
          exact ⟨rfl, hb1⟩
end Go.Proofs.Ytljdiakodpjkpaa
