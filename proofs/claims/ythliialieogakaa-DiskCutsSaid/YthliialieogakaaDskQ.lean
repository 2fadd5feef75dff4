/- Disks: the reference's ReadPage. -/
import Derived.Test.YthliialieogakaaDskR
namespace Go.Proofs.Ythliialieogakaa
set_option linter.unusedVariables false
set_option linter.unusedSimpArgs false
open Go.RowKit
open Oct (S)
/-- The first read is refused. -/
theorem rreadPage_first (d : Dk) (v : Value) (k : Int) (e : Int) (w : World) (h : SecAt w v d.s) (hk : -9223372036854775808 ≤ k ∧ k ≤ 9223372036854775807) (he0 : e ≠ 0) (he : d.read (if 1099511627776 < k then 1099511627776 else k) = (⟨#[]⟩, e)) :
    Calls Try.prog 19 #[d.val v, .int .i64 k] w (Ret (.tuple #[.string ⟨#[]⟩, .int .i64 e]) w) := by
  obtain ⟨q, hq⟩ : ∃ q, (if 1099511627776 < k then 1099511627776 else k) = q := ⟨_, rfl⟩
  rw [hq] at he
  have HH := Lib.hid (fun W h => rread_any d v q W h)
  rw [he] at HH
  obtain ⟨s, a, c⟩ := d
  obtain ⟨ao, cap, rfl⟩ := h.nil
  have HS := Lib.hid h
  show Calls Try.prog 19 #[.agg #[.slice ao s.length cap, .int .i64 a, .bool c], .int .i64 k] w _
  change Hid (∀ W, _ → Calls Try.prog 14 #[.agg #[.slice ao s.length cap, .int .i64 a, .bool c], .int .i64 q] W (Ret (.tuple #[.string ⟨#[]⟩, .int .i64 e]) W)) at HH
  have hb0 := bx_below w ao s.length cap a c
  have hX0 := Blk.new w #[.slice ao s.length cap, .int .i64 a, .bool c] 25
  clear h he
  have HQ := Lib.hid hq
  clear hq
  go_enter Try.func19, Try.ntmps19
  go_wp2_with fail
  go_loopw [1, 7] (fun x i wr => x = .int .i64 k ∧ i = .int .i64 0 ∧ Below w.heap.size w wr ∧ Blk wr w.heap.size #[.slice ao s.length cap, .int .i64 a, .bool c] 25) (fun _ i _ => 4 - (intOf i).toNat)
  case atStart => exact ⟨rfl, rfl, hb0, hX0⟩
  case round =>
    clear hb0 hX0
    obtain ⟨rfl, rfl, hb, hX⟩ := hrel
    obtain ⟨x0, x1, x2, _, _, _⟩ := hX.dval
    by_cases hc : 1099511627776 < k
    · have hq := HQ.out
      rw [if_pos hc] at hq
      subst hq
      go_wp2_with fail
      refine (HH.out _ (HS.out.below hb)).mono ?_
      rintro e w2 ⟨rfl, hb2⟩
      replace hb := hb.next hb2
      go_wp2_with fail
      go_ret2
      exact ⟨rfl, hb⟩
    · have hq := HQ.out
      rw [if_neg hc] at hq
      subst hq
      have hw : IntKind.i64.wrap (k + 0) = k := by rw [Int.add_zero]; exact IntWalk.i64_in _ hk
      go_wp2_with fail
      refine (HH.out _ (HS.out.below hb)).mono ?_
      rintro e w2 ⟨rfl, hb2⟩
      replace hb := hb.next hb2
      go_wp2_with fail
      go_ret2
      exact ⟨rfl, hb⟩
set_option maxHeartbeats 1000000 in
/-- The first read is answered: k is below 2^40. -/
theorem rreadPage_go (s : List ByteArray) (a : Int) (v : Value) (j : Nat) (w : World) (h : SecAt w v s) (hl : s.length ≤ 100000) (hsz : ∀ x ∈ s, x.size ≤ 1000) (hj : j < s.length) :
    Calls Try.prog 19 #[(Dk.mk s a false).val v, .int .i64 j] w (Ret (.tuple #[.string (if j + 4 ≤ s.length then ⟨(secs s j 4).toArray⟩ else ⟨#[]⟩), .int .i64 (if j + 4 ≤ s.length then 0 else 1)]) w) := by
  have HR : Hid (∀ (k : Nat) (q : Int) W, q = j + k → SecAt W v s → Calls Try.prog 14 #[(Dk.mk s a false).val v, .int .i64 q] W (Ret (.tuple #[.string (if j + k < s.length then s[j + k]?.getD ⟨#[]⟩ else ⟨#[]⟩), .int .i64 (if j + k < s.length then 0 else 1)]) W)) := by
    intro k q W hq hW
    have := rread_any (Dk.mk s a false) v q W hW
    have e : (Dk.mk s a false).read q = (if j + k < s.length then s[j + k]?.getD ⟨#[]⟩ else ⟨#[]⟩, if j + k < s.length then 0 else 1) := by
      subst hq
      by_cases hi : j + k < s.length
      · have hi' : (Dk.mk s a false).is (j + k) = true := by simp [Dk.is]; omega
        simp only [Dk.read, hi']
        simp [hi]
        rw [show ((j : Int) + k).toNat = j + k from by omega]
        simp [hi]
      · have hi' : (Dk.mk s a false).is (j + k) = false := by simp [Dk.is]; omega
        simp only [Dk.read, hi']
        simp [hi]
    rw [e] at this
    exact this
  obtain ⟨ao, cap, rfl⟩ := h.nil
  have HS := Lib.hid h
  obtain ⟨V, hV⟩ : ∃ V, (if j + 4 ≤ s.length then (⟨(secs s j 4).toArray⟩ : ByteArray) else ⟨#[]⟩) = V := ⟨_, rfl⟩
  obtain ⟨E, hE⟩ : ∃ E : Int, (if j + 4 ≤ s.length then (0 : Int) else 1) = E := ⟨_, rfl⟩
  rw [hV, hE]
  have HV := Lib.hid hV
  have HEE := Lib.hid hE
  clear hV hE
  show Calls Try.prog 19 #[.agg #[.slice ao s.length cap, .int .i64 a, .bool false], .int .i64 j] w _
  change Hid (∀ (k : Nat) (q : Int) W, _ → _ → Calls Try.prog 14 #[.agg #[.slice ao s.length cap, .int .i64 a, .bool false], .int .i64 q] W _) at HR
  have hb0 := bx_below w ao s.length cap a false
  have hX0 := Blk.new w #[.slice ao s.length cap, .int .i64 a, .bool false] 25
  have HZ := Lib.hid (fun n => (show (s[j + n]?.getD ⟨#[]⟩).size ≤ 1000 from by
    cases e : s[j + n]? with
    | none => show (0 : Nat) ≤ 1000; omega
    | some x => exact hsz x (List.mem_of_getElem? e)))
  clear hsz
  have hj40 : (j : Int) ≤ 1099511627776 := by omega
  clear h
  go_enter Try.func19, Try.ntmps19
  go_wp2_with fail
  go_loopw [1, 6, 7] (fun x o i wr => ∃ (k : Nat) (l : ByteArray), k ≤ 4 ∧ j + k ≤ s.length ∧ x = .int .i64 j ∧ o = .string l ∧ i = .int .i64 k ∧ Below w.heap.size w wr ∧ Blk wr w.heap.size #[.slice ao s.length cap, .int .i64 a, .bool false] 25 ∧ l.size ≤ 1000 * k ∧ Hid ((⟨(secs s j k).toArray⟩ : ByteArray) = l)) (fun _ _ i _ => 4 - (intOf i).toNat)
  case atStart => exact ⟨0, _, by omega, by omega, rfl, rfl, rfl, hb0, hX0, by simp [secs, ByteArray.size], rfl⟩
  case round =>
    clear hb0 hX0
    obtain ⟨k, l, hk, hjk, rfl, rfl, rfl, hb, hX, hls, HL⟩ := hrel
    obtain ⟨x0, x1, x2, _, _, _⟩ := hX.dval
    by_cases hlt : k < 4
    · have hw : IntKind.i64.wrap ((j : Int) + (k : Int)) = j + k := IntWalk.i64_in _ (by omega)
      have hw2 : IntKind.i64.wrap ((k : Int) + 1) = k + 1 := IntWalk.i64_in _ (by omega)
      have HR2 := Lib.hid (HR.out k (j + k) wr rfl (HS.out.below hb))
      by_cases hin : j + k < s.length
      · rw [if_pos hin, if_pos hin] at HR2
        have HL2 : Hid ((⟨(secs s j (k + 1)).toArray⟩ : ByteArray) = l ++ s[j + k]?.getD ⟨#[]⟩) := by
          show _ = _
          rw [← HL.out]
          apply ByteArray.ext
          simp [secs]
        obtain ⟨t, ht⟩ : ∃ t, s[j + k]?.getD ⟨#[]⟩ = t := ⟨_, rfl⟩
        have hz := HZ.out k
        rw [ht] at HR2 HL2 hz
        clear ht
        have hlt2 : (l ++ t).size ≤ 1000 * (k + 1) := by rw [ByteArray.size_append]; omega
        have hlt3 : l.size + t.size ≤ 100000 := by omega
        go_wp2_with fail
        refine HR2.out.mono ?_
        rintro e w3 ⟨rfl, hb3⟩
        replace hX := hX.below hb3
        replace hb := hb.next hb3
        clear hb3 x0 x1 x2
        go_wp2_with fail
        go_roundw
        case rel => exact ⟨k + 1, _, by omega, by omega, rfl, rfl, by go_num, hb, hX, hlt2, HL2⟩
        case measure => simp [intOf]; omega
      · rw [if_neg hin, if_neg hin] at HR2
        have h4 : ¬ j + 4 ≤ s.length := by omega
        have hV := HV.out
        have hE := HEE.out
        rw [if_neg h4] at hV hE
        subst hV
        subst hE
        go_wp2_with fail
        refine HR2.out.mono ?_
        rintro e w3 ⟨rfl, hb3⟩
        replace hb := hb.next hb3
        go_wp2_with fail
        go_ret2
        exact ⟨rfl, hb⟩
    · have hk4 : k = 4 := by omega
      subst hk4
      have hV := HV.out
      have hE := HEE.out
      rw [if_pos hjk] at hV hE
      subst hE
      rw [HL.out] at hV
      subst hV
      go_wp2_with fail
      go_ret2
      exact ⟨rfl, hb⟩
theorem rreadPage_any (d : Dk) (v : Value) (k : Int) (w : World) (h : SecAt w v d.s) (hk : -9223372036854775808 ≤ k ∧ k ≤ 9223372036854775807) (hl : d.s.length ≤ 100000) (hsz : ∀ x ∈ d.s, x.size ≤ 1000) :
    Calls Try.prog 19 #[d.val v, .int .i64 k] w (Ret (.tuple #[.string (d.readPage k).1, .int .i64 (d.readPage k).2]) w) := by
  obtain ⟨s, a, c⟩ := d
  cases c with
  | true => exact rreadPage_first (Dk.mk s a true) v k 20 w h hk (by decide) rfl
  | false =>
    by_cases hi : (Dk.mk s a false).is k = true
    · have hi' := hi
      simp only [Dk.is, Bool.and_eq_true, decide_eq_true_eq] at hi'
      obtain ⟨j, rfl⟩ : ∃ j : Nat, k = j := ⟨k.toNat, by omega⟩
      have e : (Dk.mk s a false).readPage j = (if j + 4 ≤ s.length then ⟨(secs s j 4).toArray⟩ else ⟨#[]⟩, if j + 4 ≤ s.length then 0 else 1) := by
        rw [secs4 s j a false]
        by_cases h4 : j + 4 ≤ s.length
        · have hf : (Dk.mk s a false).fits j = true := by simp [Dk.fits]; omega
          simp [Dk.readPage, hf, h4]
        · have hf : (Dk.mk s a false).fits j = false := by simp [Dk.fits]; omega
          simp [Dk.readPage, hf, h4]
      rw [e]
      exact rreadPage_go s a v j w h hl hsz (by omega)
    · have hi : (Dk.mk s a false).is k = false := by simpa using hi
      have hf : (Dk.mk s a false).fits k = false := by
        simp only [Dk.is, Dk.fits, Bool.and_eq_false_iff, decide_eq_false_iff_not] at hi ⊢; omega
      have e : (Dk.mk s a false).readPage k = (⟨#[]⟩, 1) := by simp [Dk.readPage, hf]
      rw [e]
      refine rreadPage_first (Dk.mk s a false) v k 1 w h hk (by decide) ?_
      have hq : (Dk.mk s a false).is (if 1099511627776 < k then 1099511627776 else k) = false := by
        simp only at hl
        split
        · simp [Dk.is]; omega
        · exact hi
      simp [Dk.read, hq]
end Go.Proofs.Ythliialieogakaa
