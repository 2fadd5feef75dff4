/- The reference's sign. -/
import Derived.Test.YtonpiacpgfibpaaLexZ
import Derived.Test.YtonpiacpgfibpaaLexS
import Derived.Test.YtonpiacpgfibpaaLexV
import Derived.Test.YtonpiacpgfibpaaLexB
namespace Go.Proofs.Ytonpiacpgfibpaa.Lex
set_option linter.unusedVariables false
set_option linter.unusedSimpArgs false
open Go.RowKit
open Oct (S S_size S_data)
def twos : List (List UInt8) := [[124, 124], [60, 62], [60, 61], [62, 61]]
def ones : List UInt8 := [40, 41, 44, 46, 59, 43, 45, 42, 47, 37, 61, 60, 62]
theorem signs_two (c d : UInt8) : signN c d = 2 ↔ [c, d] ∈ twos := by
  simp only [twos, List.mem_cons, List.not_mem_nil, or_false, List.cons.injEq, and_true]
  unfold signN
  split
  · split <;> simp_all
  · split
    · split <;> simp_all
    · split
      · split <;> simp_all
      · split <;> simp_all
theorem signs_one (c d : UInt8) (h : signN c d ≠ 2) : signN c d = if c ∈ ones then 1 else 0 := by
  simp only [ones, List.mem_cons, List.not_mem_nil, or_false]
  unfold signN at h ⊢
  split
  · simp_all
  · split
    · simp_all
    · split
      · simp_all
      · split <;> simp_all
theorem signF_two (l : List UInt8) (a : Nat) (ha : a < l.length) (t : List UInt8) (ht : t ∈ twos) (h2 : a + 2 ≤ l.length) (he : (l.drop a).take 2 = t) : signF l[a] (l.drop (a + 1)) = ⟨5, 2, 0, t, 0⟩ := by
  have hd := List.drop_eq_getElem_cons ha
  have hd1 := List.drop_eq_getElem_cons (show a + 1 < l.length by omega)
  have e2 : (l.drop a).take 2 = [l[a], l[a + 1]] := by rw [hd, hd1]; rfl
  have h := signF_z (c := l[a]) (r := l.drop (a + 1)) (z := 2) (by rw [hd1, List.headD_cons, signs_two, ← e2, he]; exact ht) (by decide)
  rw [h, ← hd, he]
theorem signF_no (l : List UInt8) (a : Nat) (ha : a < l.length) (h : ∀ t ∈ twos, a + 2 ≤ l.length → (l.drop a).take 2 ≠ t) : signF l[a] (l.drop (a + 1)) = if l[a] ∈ ones then ⟨5, 1, 0, [l[a]], 0⟩ else bad 2 := by
  have hd := List.drop_eq_getElem_cons ha
  have hn : signN l[a] ((l.drop (a + 1)).headD 0) ≠ 2 := by
    rw [Ne, signs_two]
    intro hm
    by_cases h2 : a + 2 ≤ l.length
    · have hd1 := List.drop_eq_getElem_cons (show a + 1 < l.length by omega)
      rw [hd1, List.headD_cons] at hm
      exact h _ hm h2 (by rw [hd, hd1]; rfl)
    · rw [List.drop_of_length_le (by omega)] at hm
      simp [twos] at hm
  have h1 := signs_one _ _ hn
  split
  · next hc => rw [if_pos hc] at h1; rw [signF_z h1 (by decide)]; rfl
  · next hc => rw [if_neg hc] at h1; exact signF_0 h1
theorem twos_len : twos.length = 4 := rfl
theorem ones_len : ones.length = 13 := rfl
theorem pre2_eq (l t : List UInt8) (a : Nat) (h : a + 2 ≤ l.length) : (((S l).extract a (a + 2)).toList == (S t).toList) = decide ((l.drop a).take 2 = t) := by
  rw [S_cut l a (a + 2) h, ByteArray.toList_eq, ByteArray.toList_eq, S_data, S_data]
  have e : a + 2 - a = 2 := by omega
  rw [e]
  exact Bool.eq_iff_iff.2 (by simp)
set_option maxHeartbeats 8000000 in
set_option maxRecDepth 100000 in
theorem rsign_any (l : List UInt8) (a : Nat) (w : World) (ha : a < l.length) (hl : l.length ≤ 100000) : Calls Try.prog 36 #[.string (S l), .int .i64 (a : Int)] w (PcR (signF l[a] (l.drop (a + 1))) a w) := by
  have hsz := S_size l
  have HTW := Lib.hid (fun t ht h2 he => signF_two l a ha t ht h2 he)
  have HNO := Lib.hid (fun h => signF_no l a ha h)
  have HPR := Lib.hid (fun t h => pre2_eq l t a h)
  have hc0 : a < (S l).size := by omega
  have hce : (((S l)[a]'hc0).toNat : Int) = (l[a]).toNat := by rw [S_at l a ha]
  obtain ⟨p, hp⟩ : ∃ p, signF l[a] (l.drop (a + 1)) = p := ⟨_, rfl⟩
  rw [hp] at HTW HNO ⊢
  clear hp
  obtain ⟨c, hc⟩ : ∃ c, l[a] = c := ⟨_, rfl⟩
  rw [hc] at HNO hce
  clear hc
  have HBD := Lib.hid (fun W => rbad_any (a : Int) 2 W)
  have ha0 : (0 : Int) ≤ a := by omega
  have ha1 : (a : Int) < l.length := by omega
  obtain ⟨hv0, hb0⟩ := tnew w
  have hv1 := hv0.alloc (.cells #[.string ⟨#[124, 124]⟩, .string ⟨#[60, 62]⟩, .string ⟨#[60, 61]⟩, .string ⟨#[62, 61]⟩] 9)
  have hT1 := Blk.new (w.alloc (.cells #[.int .i64 0, .int .i64 0, .int .i64 0, .int .i64 0, .string ⟨#[]⟩] 24)) #[.string ⟨#[124, 124]⟩, .string ⟨#[60, 62]⟩, .string ⟨#[60, 61]⟩, .string ⟨#[62, 61]⟩] 9
  have hb1 := hb0.alloc (by simp) (.cells #[.string ⟨#[124, 124]⟩, .string ⟨#[60, 62]⟩, .string ⟨#[60, 61]⟩, .string ⟨#[62, 61]⟩] 9)
  have HTC : Hid (∀ k (hk : k < twos.length), (#[.string ⟨#[124, 124]⟩, .string ⟨#[60, 62]⟩, .string ⟨#[60, 61]⟩, .string ⟨#[62, 61]⟩] : Array Value)[k]? = some (.string (S twos[k]))) := by
    show ∀ k (hk : k < twos.length), _
    intro k hk
    rw [twos_len] at hk
    rcases k with _ | _ | _ | _ | k
    all_goals first | rfl | omega
  simp only [World.size_alloc] at hT1
  go_enter Try.func36, Try.ntmps36
  go_wp2_with fail
  generalize hW1 : ((w.alloc (.cells #[.int .i64 0, .int .i64 0, .int .i64 0, .int .i64 0, .string ⟨#[]⟩] 24)).alloc (.cells #[.string ⟨#[124, 124]⟩, .string ⟨#[60, 62]⟩, .string ⟨#[60, 61]⟩, .string ⟨#[62, 61]⟩] 9)) = W1 at hv1 hT1 hb1 ⊢
  clear hW1 hv0 hb0
  generalize hcs : (#[.string ⟨#[124, 124]⟩, .string ⟨#[60, 62]⟩, .string ⟨#[60, 61]⟩, .string ⟨#[62, 61]⟩] : Array Value) = cs at hT1 HTC
  clear hcs
  go_loopw [7] (fun iv wr => ∃ (j : Nat), iv = .int .i64 (j : Int) ∧ j ≤ 4 ∧ Below W1.heap.size W1 wr ∧ Hid (∀ k (hk : k < twos.length), k < j → a + 2 ≤ l.length → (l.drop a).take 2 ≠ twos[k])) (fun iv _ => 4 - (intOf iv).toNat)
  case atStart => exact ⟨0, rfl, by omega, Below.refl _ _, fun k hk h => by omega⟩
  case round =>
    obtain ⟨j, rfl, hj, hbw, HN⟩ := hrel
    have hv := hv1.below hbw
    have hT := hT1.below hbw
    have hb := hb1.trans (hbw.mono hb1.size)
    by_cases hlt : j < 4
    · have hjl : j < twos.length := hlt
      have hce1 := hT.cell j (HTC.out j hjl)
      have hfz := hT.free j
      have HTW2 := Lib.hid (HTW.out twos[j] (List.getElem_mem hjl))
      have HPR2 := Lib.hid (HPR.out twos[j])
      have HNX : Hid ((a + 2 ≤ l.length → (l.drop a).take 2 ≠ twos[j]) → ∀ k (hk : k < twos.length), k < j + 1 → a + 2 ≤ l.length → (l.drop a).take 2 ≠ twos[k]) := by
        show _ → _
        intro h k hk hkj h2
        by_cases e : k = j
        · subst e; exact h h2
        · exact HN.out k hk (by omega) h2
      obtain ⟨t, ht⟩ : ∃ t, twos[j] = t := ⟨_, rfl⟩
      rw [ht] at hce1 HTW2 HPR2 HNX
      clear ht HTW HNO HN
      have hj0 : (0 : Int) ≤ j := by omega
      have hj1 : (j : Int) < 4 := by omega
      obtain ⟨st, hst⟩ : ∃ s, S t = s := ⟨_, rfl⟩
      rw [hst] at hce1 HPR2
      have HST := Lib.hid hst
      clear hst
      by_cases h2 : a + 2 ≤ l.length
      · have ht2 := HPR2.out h2
        have hq2 : decide ((a : Int) + 2 ≤ (l.length : Int)) = true := decide_eq_true (by omega)
        cases hdc : decide ((l.drop a).take 2 = t) with
        | true =>
          rw [hdc] at ht2
          obtain rfl := HTW2.out h2 (of_decide_eq_true hdc)
          clear hdc HPR2 HTW2 HNX
          obtain ⟨z0, z1, z2, z3, z4, f0, f1, f2, f3, f4⟩ := tval hv
          go_wp2_with fail
          go_quiet (fail)
          go_wp2_with fail
          obtain ⟨hbE, e0, e1, e2, e3, e4⟩ := tfin (W := wr.drewN nq) (hv.below ⟨rfl, rfl, rfl, Nat.le_refl _, fun _ _ => rfl⟩) (hb.drewN nq) (Nat.le_refl _) (.int .i64 5) (.int .i64 (a : Int)) (.int .i64 2) (.int .i64 0) (.string st)
          exact bodyPost_ret (v := .tuple #[.agg #[.int .i64 5, .int .i64 (a : Int), .int .i64 2, .int .i64 0, .string st], .int .i64 0]) (by simp [results, Try.results36, go_sem, e0, e1, e2, e3, e4]) rfl ⟨by rw [← HST.out]; rfl, hbE⟩
        | false =>
          rw [hdc] at ht2
          have HNZ := Lib.hid (HNX.out (fun _ => of_decide_eq_false hdc))
          clear hdc HPR2 HTW2 HNX
          go_wp2_with fail
          go_quiet (fail)
          go_wp2_with fail
          go_roundw
          case rel => exact ⟨j + 1, by go_num, by omega, hbw.drewN _, HNZ⟩
          case measure => simp [intOf]; omega
      · have HNZ := Lib.hid (HNX.out (fun h => absurd h h2))
        have hq2 : decide ((a : Int) + 2 ≤ (l.length : Int)) = false := decide_eq_false (by omega)
        clear HPR2 HTW2 HNX
        go_wp2_with fail
        go_quiet (fail)
        go_wp2_with fail
        go_roundw
        case rel => exact ⟨j + 1, by go_num, by omega, hbw.drewN _, HNZ⟩
        case measure => simp [intOf]; omega
    · have hj4 : j = 4 := by omega
      subst hj4
      have HP : Hid (p = if c ∈ ones then ⟨5, 1, 0, [c], 0⟩ else bad 2) := HNO.out (fun t ht h2 => by
        obtain ⟨k, hk, rfl⟩ := List.getElem_of_mem ht
        exact HN.out k hk hk h2)
      clear HN HNO HTW HPR HTC hT hbw hv1 hb1 hT1
      obtain ⟨uw, huw⟩ : ∃ x, x = S ones := ⟨_, rfl⟩
      have HU := Lib.hid huw
      have huz : uw.size = 13 := by rw [huw]; exact S_size ones
      clear huw
      go_wp2_with fail
      rw [show (⟨#[40, 41, 44, 46, 59, 43, 45, 42, 47, 37, 61, 60, 62]⟩ : ByteArray) = uw from by rw [HU.out]; rfl]
      go_loopw [9] (fun iv wq => ∃ (j : Nat), iv = .int .i64 (j : Int) ∧ j ≤ 13 ∧ Below wr.heap.size wr wq ∧ Hid (∀ k (hk : k < ones.length), k < j → ones[k] ≠ c)) (fun iv _ => 13 - (intOf iv).toNat)
      case atStart => exact ⟨0, rfl, by omega, Below.refl _ _, fun k hk h => by omega⟩
      case round =>
        obtain ⟨j, rfl, hj2, hbq, HN⟩ := hrel
        have hv2 := hv.below hbq
        have hb2 := hb.trans (hbq.mono hb.size)
        by_cases hlt2 : j < 13
        · have hjl : j < ones.length := hlt2
          have hju : j < uw.size := by omega
          have hue : (((uw)[j]'hju).toNat : Int) = (ones[j]).toNat := by
            have e : (uw)[j]'hju = (S ones)[j]'(by rw [S_size]; exact hjl) := by
              have := HU.out
              subst this
              rfl
            rw [e, S_at ones j hjl]
          have hmem : ones[j] ∈ ones := List.getElem_mem hjl
          have HCUT : Hid (uw.extract j (j + 1) = S [ones[j]]) := by show _ = _; rw [HU.out, S_cut ones j (j + 1) hjl, List.drop_eq_getElem_cons hjl, Nat.add_sub_cancel_left]; rfl
          have HNX : Hid (ones[j] ≠ c → ∀ k (hk : k < ones.length), k < j + 1 → ones[k] ≠ c) := by
            show _ → _
            intro h k hk hkj
            by_cases e : k = j
            · subst e; exact h
            · exact HN.out k hk (by omega)
          obtain ⟨d, hd⟩ : ∃ d, ones[j] = d := ⟨_, rfl⟩
          rw [hd] at hue hmem HCUT HNX
          have HM := Lib.hid hmem
          clear hd hmem HN
          have hj0 : (0 : Int) ≤ j := by omega
          have hj1 : (j : Int) < 13 := by omega
          by_cases hdc : d = c
          · subst hdc
            have hcc : ((d.toNat : Int) == (d.toNat : Int)) = true := by simp
            obtain rfl : (⟨5, 1, 0, [d], 0⟩ : Pc) = p := by rw [HP.out, if_pos HM.out]
            clear HP HM HNX
            obtain ⟨z0, z1, z2, z3, z4, f0, f1, f2, f3, f4⟩ := tval hv2
            go_wp2_with fail
            go_quiet (fail)
            go_wp2_with fail
            rw [HCUT.out]
            obtain ⟨hbE, e0, e1, e2, e3, e4⟩ := tfin (W := wr.drewN nq) (hv2.below ⟨rfl, rfl, rfl, Nat.le_refl _, fun _ _ => rfl⟩) (hb2.drewN nq) (Nat.le_refl _) (.int .i64 5) (.int .i64 (a : Int)) (.int .i64 1) (.int .i64 0) (.string (S [d]))
            exact bodyPost_ret (v := .tuple #[.agg #[.int .i64 5, .int .i64 (a : Int), .int .i64 1, .int .i64 0, .string (S [d])], .int .i64 0]) (by simp [results, Try.results36, go_sem, e0, e1, e2, e3, e4]) rfl ⟨rfl, hbE⟩
          · have hcc : ((d.toNat : Int) == (c.toNat : Int)) = false := neq8 hdc
            have HNZ := Lib.hid (HNX.out hdc)
            clear HNX HM hdc
            go_wp2_with fail
            go_quiet (fail)
            go_wp2_with fail
            go_roundw
            case rel => exact ⟨j + 1, by go_num, by omega, hbq.drewN _, HNZ⟩
            case measure => simp [intOf]; omega
        · have hj13 : j = 13 := by omega
          subst hj13
          obtain rfl : bad 2 = p := by
            rw [HP.out, if_neg]
            intro hm
            obtain ⟨k, hk, h⟩ := List.getElem_of_mem hm
            exact HN.out k hk hk h
          clear HP HN
          go_wp2_with fail
          refine (HBD.out _).mono ?_
          rintro e w2 ⟨rfl, hb5⟩
          have hv3 := hv2.below hb5
          have hb3 := hb2.next hb5
          obtain ⟨z0, z1, z2, z3, z4, f0, f1, f2, f3, f4⟩ := tval hv3
          go_wp2_with fail
          obtain ⟨hbE, e0, e1, e2, e3, e4⟩ := tfin hv3 hb3 (Nat.le_refl _) (.int .i64 0) (.int .i64 (a : Int)) (.int .i64 0) (.int .i64 0) (.string ⟨#[]⟩)
          exact bodyPost_ret (v := .tuple #[.agg #[.int .i64 0, .int .i64 (a : Int), .int .i64 0, .int .i64 0, .string ⟨#[]⟩], .int .i64 2]) (by simp [results, Try.results36, go_sem, e0, e1, e2, e3, e4]) rfl ⟨rfl, hbE⟩
end Go.Proofs.Ytonpiacpgfibpaa.Lex
