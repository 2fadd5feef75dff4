/- Disks: ReadPage. -/
import Derived.Test.YthliialieogakaaDskX
import Derived.Test.YthliialieogakaaBldS
namespace Go.Proofs.Ythliialieogakaa
set_option linter.unusedVariables false
set_option linter.unusedSimpArgs false
open Go.RowKit
open Oct (S)
theorem readPage_down (s : List ByteArray) (a : Int) (v : Value) (k : Int) (w : World) (h : SecAt w v s) (hk : -9223372036854775808 ≤ k ∧ k ≤ 9223372036854775807) :
    Calls Try.prog 18 #[(Dk.mk s a true).val v, .int .i64 k] w (Ret (.tuple #[.string ⟨#[]⟩, .int .i64 20]) w) := by
  have HH := Lib.hid (fun W h => read_any (Dk.mk s a true) v k W h)
  obtain ⟨ao, cap, rfl⟩ := h.nil
  have HS := Lib.hid h
  show Calls Try.prog 18 #[.agg #[.slice ao s.length cap, .int .i64 a, .bool true], .int .i64 k] w _
  change Hid (∀ W, _ → Calls Try.prog 13 #[.agg #[.slice ao s.length cap, .int .i64 a, .bool true], .int .i64 k] W (Ret (.tuple #[.string ⟨#[]⟩, .int .i64 20]) W)) at HH
  have hb0 := bx_below w ao s.length cap a true
  have hX0 := Blk.new w #[.slice ao s.length cap, .int .i64 a, .bool true] 25
  clear h
  have hw : IntKind.i64.wrap (k + 0) = k := by rw [Int.add_zero]; exact IntWalk.i64_in _ hk
  go_enter Try.func18, Try.ntmps18
  go_wp2_with fail
  go_loopw [19] (fun i wr => i = .int .i64 0 ∧ Below w.heap.size w wr ∧ Blk wr w.heap.size #[.slice ao s.length cap, .int .i64 a, .bool true] 25) (fun i _ => 4 - (intOf i).toNat)
  case atStart => exact ⟨rfl, hb0.alloc (by simp) _, hX0.alloc _⟩
  case round =>
    clear hb0 hX0
    obtain ⟨rfl, hb, hX⟩ := hrel
    obtain ⟨x0, x1, x2, _, _, _⟩ := hX.dval
    go_wp2_with fail
    refine (HH.out _ (HS.out.below hb)).mono ?_
    rintro e w2 ⟨rfl, hb2⟩
    replace hb := hb.next hb2
    go_wp2_with fail
    go_ret2
    exact ⟨rfl, hb⟩
theorem readPage_no (s : List ByteArray) (a : Int) (v : Value) (k : Int) (w : World) (h : SecAt w v s) (hf : (Dk.mk s a false).fits k = false) :
    Calls Try.prog 18 #[(Dk.mk s a false).val v, .int .i64 k] w (Ret (.tuple #[.string ⟨#[]⟩, .int .i64 1]) w) := by
  have HH := Lib.hid (fun W h => fits_any (Dk.mk s a false) v k W h)
  rw [hf] at HH
  obtain ⟨ao, cap, rfl⟩ := h.nil
  have HS := Lib.hid h
  show Calls Try.prog 18 #[.agg #[.slice ao s.length cap, .int .i64 a, .bool false], .int .i64 k] w _
  change Hid (∀ W, _ → Calls Try.prog 32 #[.agg #[.slice ao s.length cap, .int .i64 a, .bool false], .int .i64 k] W _) at HH
  have hb := bx_below w ao s.length cap a false
  clear h hf
  go_enter Try.func18, Try.ntmps18
  go_wp2_with fail
  refine (HH.out _ (HS.out.below hb)).mono ?_
  rintro e w2 ⟨rfl, hb2⟩
  replace hb := hb.next hb2
  go_wp2_with fail
  go_ret2
  exact ⟨rfl, hb⟩
/-- The bytes of the first n sectors from the j-th on. -/
def secs (s : List ByteArray) (j : Nat) : Nat → List UInt8
  | 0 => []
  | n + 1 => secs s j n ++ (s[j + n]?.getD ⟨#[]⟩).data.toList
theorem secs_len (s : List ByteArray) (j n : Nat) (h : ∀ x ∈ s, x.size ≤ 1000) : (secs s j n).length ≤ n * 1000 := by
  induction n with
  | zero => simp [secs]
  | succ n ih =>
    have : (s[j + n]?.getD ⟨#[]⟩).data.toList.length ≤ 1000 := by
      cases e : s[j + n]? with
      | none => simp
      | some x => exact h x (List.mem_of_getElem? e)
    simp only [secs, List.length_append]
    omega
set_option maxHeartbeats 1000000 in
theorem readPage_yes (s : List ByteArray) (a : Int) (v : Value) (j : Nat) (w : World) (h : SecAt w v s) (hf : j + 4 ≤ s.length) (hsz : ∀ x ∈ s, x.size ≤ 1000) :
    Calls Try.prog 18 #[(Dk.mk s a false).val v, .int .i64 j] w (Ret (.tuple #[.string ⟨(secs s j 4).toArray⟩, .int .i64 0]) w) := by
  have hsm := h.small
  have HF := Lib.hid (fun W h => fits_any (Dk.mk s a false) v j W h)
  have e : (Dk.mk s a false).fits j = true := by simp [Dk.fits]; omega
  rw [e] at HF
  clear e
  have HR : Hid (∀ (k : Nat) (q : Int) W, q = j + k → k < 4 → SecAt W v s → Calls Try.prog 13 #[(Dk.mk s a false).val v, .int .i64 q] W (Ret (.tuple #[.string (s[j + k]?.getD ⟨#[]⟩), .int .i64 0]) W)) := by
    intro k q W hq hk hW
    have := read_any (Dk.mk s a false) v q W hW
    have e : (Dk.mk s a false).read q = (s[j + k]?.getD ⟨#[]⟩, 0) := by
      subst hq
      have hi : (Dk.mk s a false).is (j + k) = true := by simp [Dk.is]; omega
      simp only [Dk.read, hi]
      simp
      rw [show ((j : Int) + k).toNat = j + k from by omega]
    rw [e] at this
    exact this
  obtain ⟨ao, cap, rfl⟩ := h.nil
  have HS := Lib.hid h
  show Calls Try.prog 18 #[.agg #[.slice ao s.length cap, .int .i64 a, .bool false], .int .i64 j] w _
  change Hid (∀ W, _ → Calls Try.prog 32 #[.agg #[.slice ao s.length cap, .int .i64 a, .bool false], .int .i64 j] W _) at HF
  change Hid (∀ (k : Nat) (q : Int) W, _ → _ → _ → Calls Try.prog 13 #[.agg #[.slice ao s.length cap, .int .i64 a, .bool false], .int .i64 q] W _) at HR
  have hb := bx_below w ao s.length cap a false
  have hX := Blk.new w #[.slice ao s.length cap, .int .i64 a, .bool false] 25
  have HL := Lib.hid (fun n => secs_len s j n hsz)
  have HZ := Lib.hid (fun n => (show (s[j + n]?.getD ⟨#[]⟩).size ≤ 1000 from by
    cases e : s[j + n]? with
    | none => show (0 : Nat) ≤ 1000; omega
    | some x => exact hsz x (List.mem_of_getElem? e)))
  clear h hsz
  go_enter Try.func18, Try.ntmps18
  go_wp2_with fail
  refine (HF.out _ (HS.out.below hb)).mono ?_
  rintro e w2 ⟨rfl, hb2⟩
  replace hX := hX.below hb2
  replace hb := hb.next hb2
  clear hb2
  obtain ⟨B, hB⟩ : ∃ B, w2.heap.size = B := ⟨_, rfl⟩
  have hXB : w.heap.size < B := by rw [← hB]; exact hX.lt
  have hBd := BldAt.fresh w2
  have hbB : Below w.heap.size w (w2.alloc (.cells #[.pointer none, .slice none 0 0] 54)) := hb.alloc hb.size _
  have hX2 := hX.alloc (.cells #[.pointer none, .slice none 0 0] 54)
  have hsz3 : B ≤ (w2.alloc (.cells #[.pointer none, .slice none 0 0] 54)).heap.size := by simp; omega
  rw [hB] at hBd
  clear hb hX
  go_wp2_with fail
  try rw [hB]
  clear hB
  go_loopw [19] (fun i wr => ∃ (k : Nat) (l : List UInt8), k ≤ 4 ∧ i = .int .i64 k ∧ Below w.heap.size w wr ∧ Blk wr w.heap.size #[.slice ao s.length cap, .int .i64 a, .bool false] 25 ∧ BldAt wr B B l ∧ B ≤ wr.heap.size ∧ Hid (secs s j k = l)) (fun i _ => 4 - (intOf i).toNat)
  case atStart => exact ⟨0, [], by omega, rfl, hbB, hX2, hBd, hsz3, rfl⟩
  case round =>
    clear hbB hX2 hBd hsz3
    obtain ⟨k, l, hk, rfl, hb, hX, hBd, hBw, HE⟩ := hrel
    have hll : l.length ≤ k * 1000 := by rw [← HE.out]; exact HL.out k
    obtain ⟨x0, x1, x2, _, _, _⟩ := hX.dval
    by_cases hlt : k < 4
    · have hw : IntKind.i64.wrap ((j : Int) + (k : Int)) = j + k := IntWalk.i64_in _ (by omega)
      have hw2 : IntKind.i64.wrap ((k : Int) + 1) = k + 1 := IntWalk.i64_in _ (by omega)
      go_wp2_with fail
      refine (HR.out k _ _ (by first | rfl | omega) hlt (HS.out.below hb)).mono ?_
      rintro e w3 ⟨rfl, hb3⟩
      have hz := HZ.out k
      obtain ⟨t, ht⟩ : ∃ t, s[j + k]?.getD ⟨#[]⟩ = t := ⟨_, rfl⟩
      have hn : secs s j (k + 1) = l ++ t.data.toList := by rw [← HE.out, ← ht]; rfl
      rw [ht] at hz ⊢
      clear ht
      have hBd3 := hBd.below hb3
      have hX3 := hX.below hb3
      have hb4 := hb.next hb3
      have hBw3 : B ≤ w3.heap.size := Nat.le_trans hBw hb3.size
      clear hBd hX hb hb3 x0 x1 x2
      have HN2 := Lib.hid hn
      clear hn
      go_wp2_with fail
      refine (writeString_any B B l t w3 hBd3 (by omega) hBw3).mono ?_
      rintro e w4 ⟨rfl, hBd4, hb5, _⟩
      have hX4 := hX3.belowB hb5 hXB
      have hb6 := hb4.trans (hb5.mono (Nat.le_of_lt hXB))
      have hBw4 : B ≤ w4.heap.size := Nat.le_trans hBw3 hb5.size
      clear hb5 hX3 hBd3 hb4
      go_wp2_with fail
      go_roundw
      case rel => exact ⟨k + 1, _, by omega, by go_num, hb6, hX4, hBd4, hBw4, HN2.out⟩
      case measure => simp [intOf]; omega
    · have hk4 : k = 4 := by omega
      subst hk4
      go_wp2_with fail
      refine (bldString_any B B l _ hBd hBw).mono ?_
      rintro e w3 ⟨rfl, _, hb3, _⟩
      replace hb := hb.trans (hb3.mono (Nat.le_of_lt hXB))
      go_wp2_with fail
      go_ret2
      exact ⟨by rw [HE.out]; rfl, hb⟩
theorem secs4 (s : List ByteArray) (j : Nat) (a : Int) (c : Bool) : (⟨(secs s j 4).toArray⟩ : ByteArray) = (Dk.mk s a c).at4 j ++ (Dk.mk s a c).at4 (j + 1) ++ (Dk.mk s a c).at4 (j + 2) ++ (Dk.mk s a c).at4 (j + 3) := by
  apply ByteArray.ext
  simp [secs, Dk.at4]
theorem readPage_any (d : Dk) (v : Value) (k : Int) (w : World) (h : SecAt w v d.s) (hk : -9223372036854775808 ≤ k ∧ k ≤ 9223372036854775807) (hsz : ∀ x ∈ d.s, x.size ≤ 1000) :
    Calls Try.prog 18 #[d.val v, .int .i64 k] w (Ret (.tuple #[.string (d.readPage k).1, .int .i64 (d.readPage k).2]) w) := by
  obtain ⟨s, a, c⟩ := d
  cases c with
  | true => exact readPage_down s a v k w h hk
  | false =>
    by_cases hf : (Dk.mk s a false).fits k = true
    · have hf' := hf
      simp only [Dk.fits, Bool.and_eq_true, decide_eq_true_eq] at hf'
      obtain ⟨j, rfl⟩ : ∃ j : Nat, k = j := ⟨k.toNat, by omega⟩
      have e : (Dk.mk s a false).readPage j = (⟨(secs s j 4).toArray⟩, 0) := by
        rw [secs4 s j a false]; simp [Dk.readPage, hf]
      rw [e]
      exact readPage_yes s a v j w h (by omega) hsz
    · have hf : (Dk.mk s a false).fits k = false := by simpa using hf
      have e : (Dk.mk s a false).readPage k = (⟨#[]⟩, 1) := by simp [Dk.readPage, hf]
      rw [e]
      exact readPage_no s a v k w h hf
end Go.Proofs.Ythliialieogakaa
