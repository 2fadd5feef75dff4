/- The reference's Get: what it answers. -/
import Derived.Test.YtcboeggfincakaaRGet06
import Derived.Test.YtcboeggfincakaaGet06
import Derived.Test.YtcboeggfincakaaKitE
namespace Go.Proofs.Ytcboeggfincakaa
set_option linter.unusedVariables false
set_option linter.unusedSimpArgs false
open Go.RowKit Go.Sort
theorem byte0 (s : ByteArray) (h : 0 < s.size) : byteAt s 0 = (s[0]'h).toNat := byteAt_eq s 0 h
theorem rget_long (s : ByteArray) (w : World) (h : 400 < s.size) (hs : s.size ≤ maxLen) : Calls Try.prog 29 #[.string s] w (GetP s w) := by
  unfold maxLen at hs
  have HG : Hid (getRow s = .error 4) := by show _ = _; rw [getRow, if_pos h]
  go_enter Try.func29, Try.ntmps29
  go_wp2_with fail
  go_ret2
  exact ⟨Below.refl _ _, .inl ⟨4, HG.out, rfl⟩⟩
theorem rget_empty (s : ByteArray) (w : World) (h : s.size = 0) : Calls Try.prog 29 #[.string s] w (GetP s w) := by
  have HG : Hid (getRow s = .error 3) := by show _ = _; rw [getRow, if_neg (by omega), if_pos h]
  go_enter Try.func29, Try.ntmps29
  go_wp2_with fail
  go_ret2
  exact ⟨Below.refl _ _, .inl ⟨3, HG.out, rfl⟩⟩
theorem rget_big (s : ByteArray) (w : World) (h0 : 0 < s.size) (h : s.size ≤ 400) (h2 : 32 < byteAt s 0) : Calls Try.prog 29 #[.string s] w (GetP s w) := by
  have HG : Hid (getRow s = .error 4) := by show _ = _; rw [getRow, if_neg (by omega), if_neg (by omega), if_pos h2]
  rw [byte0 s h0] at h2
  have hz : ((s.size : Int) == 0) = false := by rw [beq_eq_false_iff_ne]; omega
  go_enter Try.func29, Try.ntmps29
  go_wp2_with fail
  go_ret2
  exact ⟨Below.refl _ _, .inl ⟨4, HG.out, rfl⟩⟩
theorem GetQ.pos {s : ByteArray} {N k b : Nat} {l : List Vl} (h : GetQ s N k b 0 l) : takeR s b = takeR s b := rfl
set_option maxHeartbeats 1000000 in
theorem rget_loop (s : ByteArray) (w : World) (h0 : 0 < s.size) (h : s.size ≤ 400) (h2 : byteAt s 0 ≤ 32) : Calls Try.prog 29 #[.string s] w (GetP s w) := by
  have HQ : Hid (GetQ s (byteAt s 0) 0 1 0 []) := GetQ.start h0 h h2
  have hz : ((s.size : Int) == 0) = false := by rw [beq_eq_false_iff_ne]; omega
  have hz2 : (s.size == 0) = false := by rw [beq_eq_false_iff_ne]; omega
  have HB := Lib.hid (byte0 s h0)
  rw [HB.out] at h2 HQ
  obtain ⟨n, HN⟩ : ∃ n, Hid ((s[0]'h0).toNat = n) := ⟨_, rfl⟩
  have hlt : (s[0]'h0).toNat < 256 := UInt8.toNat_lt _
  have hle : decide ((32 : Int) < ((s[0]'h0).toNat : Int)) = false := decide_eq_false (by omega)
  clear HB
  obtain ⟨B, HBB⟩ : ∃ B, Hid (w.heap.size = B) := ⟨_, rfl⟩
  go_enter Try.func29, Try.ntmps29
  go_wp2_with fail
  go_loopw [4, 5, 6] (fun o at_ i wr => ∃ (k b : Nat) (l : List Vl) (ov : Value), ov = o ∧ k ≤ (s[0]'h0).toNat ∧ i = .int .i64 k ∧ at_ = .int .i64 b ∧ wr.ownsRow B 49 3 ov k (rowCells l) ∧ Below w.heap.size w wr ∧ Hid (GetQ s (s[0]'h0).toNat k b 0 l)) (fun _ _ i _ => (s[0]'h0).toNat - (intOf i).toNat)
  case atStart => exact ⟨0, 1, [], _, rfl, Nat.zero_le _, rfl, rfl, World.ownsRow_nil _ _ _ _, Below.refl _ _, HQ⟩
  case round =>
    clear HQ
    obtain ⟨k, b, l, o, rfl, hk, rfl, rfl, hown, hb, HQ⟩ := hrel
    have hno := GetQ.noE HQ.out
    by_cases hkN : k < (s[0]'h0).toNat
    · have HT := rtake_any s b wr (by omega) (by omega)
      have HBW : Hid (B ≤ wr.heap.size) := by show _ ≤ _; rw [← HBB.out]; exact hb.size
      cases ht : takeR s b with
      | error e =>
        have he := take_error ht
        have HE := Lib.hid (GetQ.bad (GetQ.next (v := noVl) (b' := 0) HQ.out hkN (.inr ⟨ht, by omega⟩)) (by omega))
        have he0 : (e == 0) = false := by simp; omega
        rw [ht] at HT
        have HT2 : Calls Try.prog 43 #[.string s, .int .i64 b] wr (Ret (.tuple #[.agg #[.int .i64 0, .int .i64 0, .string ⟨#[]⟩], .int .i64 0, .int .i64 e]) wr) := HT
        clear HT ht he hown HQ
        go_wp2_with fail
        refine HT2.mono ?_
        rintro x w5 ⟨rfl, hb5⟩
        go_wp2_with fail
        go_ret2
        exact ⟨(hb.next hb5).alloc (hb.next hb5).size _, .inl ⟨e, HE.out, rfl⟩⟩
      | ok y =>
        obtain ⟨v, b5⟩ := y
        rw [ht] at HT
        have HT2 : Calls Try.prog 43 #[.string s, .int .i64 b] wr (Ret (.tuple #[.agg #[.int .i64 v.k, .int .i64 v.n, .string v.s], .int .i64 b5, .int .i64 0]) wr) := HT
        have HQ2 := Lib.hid (GetQ.next HQ.out hkN (.inl ⟨ht, rfl⟩))
        have hll : l.length = k := HQ.out.1
        clear HT ht HQ
        go_wp2_with fail
        refine HT2.mono ?_
        rintro x w5 ⟨rfl, hb5⟩
        have hown5 := ownsRow_below hown hb5
        have HSZ : Hid (B ≤ w5.heap.size) := Nat.le_trans HBW.out hb5.size
        replace hb := hb.next hb5
        clear hown hb5
        go_wp2_with ((with_reducible refine wpList_append1 23 49 (.agg #[.int .i64 0, .int .i64 0, .string ⟨#[]⟩]) 3 32 Try.underlying23 info_value rfl (by decide) (by decide) ?_); refine ⟨B, o, k, rowCells l, _, _, v.cells, rfl, rfl, (hown5.alloc _).alloc _, rfl, new_cells_at _ _ v.cells _ (by simp), ?_, ?_, ?_, ?_⟩; (intro u hu; simp only [Vl.cells, List.mem_cons, List.not_mem_nil, or_false] at hu; rcases hu with rfl | rfl | rfl <;> rfl); omega; (simp; have := HSZ.out; omega); intro v' w6 hown6 hb6 _)
        have hs5 := HSZ.out
        have hb7 := ((hb.alloc hb.size _).alloc (by have := hb.size; simp; omega) _).trans (hb6.mono (by rw [HBB.out]; exact Nat.le_refl _))
        go_roundw
        case rel => exact ⟨k + 1, b5, l ++ [v], v', rfl, by omega, by go_num, rfl, by rw [rowCells_snoc]; exact hown6, hb7, HQ2⟩
        case measure => simp [intOf]; omega
    · by_cases hbs : b < s.size
      · have hdl : decide ((b : Int) < (s.size : Int)) = true := decide_eq_true (by omega)
        have HE := Lib.hid (GetQ.less HQ.out (by omega) hbs)
        clear hown HQ
        go_wp2_with fail
        go_ret2
        exact ⟨hb, .inl ⟨2, HE.out, rfl⟩⟩
      · have hdl : decide ((b : Int) < (s.size : Int)) = false := decide_eq_false (by omega)
        have HE := Lib.hid (GetQ.full HQ.out (by omega) hbs)
        have hll : l.length = k := HQ.out.1
        have HR := Lib.hid (RowAt.owned (w := wr) (v := o) (l := l) (B := B) (by rw [hll]; exact hown) (by omega))
        clear hown HQ hll
        go_wp2_with fail
        go_ret2
        exact ⟨hb, .inr ⟨l, _, HE.out, rfl, HR.out⟩⟩
theorem rget_any (s : ByteArray) (w : World) (hs : s.size ≤ maxLen) : Calls Try.prog 29 #[.string s] w (GetP s w) := by
  by_cases h : 400 < s.size
  · exact rget_long s w h hs
  · by_cases h0 : s.size = 0
    · exact rget_empty s w h0
    · by_cases h2 : 32 < byteAt s 0
      · exact rget_big s w (by omega) (by omega) h2
      · exact rget_loop s w (by omega) (by omega) (by omega)
end Go.Proofs.Ytcboeggfincakaa
