/- Disks: a sector of zeros; a page of one byte. -/
import Derived.Test.YthliialieogakaaDskP
namespace Go.Proofs.Ythliialieogakaa
set_option linter.unusedVariables false
set_option linter.unusedSimpArgs false
open Go.RowKit
open Oct (S)
theorem info_u8p : (Try.prog.info? 5).map (fun i => (i.zero, i.size, i.bytes)) = some (some (.int .u8 0), 1, 1) := by kernel_rfl
theorem zeros_any (w : World) : Calls Try.prog 27 #[] w (Ret (.string (S (zer 128))) w) := by
  obtain ⟨l, hl⟩ : ∃ l, List.replicate 128 (0 : UInt8) = l := ⟨_, rfl⟩
  have HL : Hid (l = zer 128) := hl.symm
  have HN : Hid (l.length = 128) := by show _ = _; rw [← hl]; simp
  go_enter Try.func27, Try.ntmps27
  go_wp2_with (first | ((with_reducible refine wpList_makeBytes 43 5 Try.underlying43 info_u8p ?_); refine ⟨128, _, _, rfl, rfl, by omega, ?_⟩; intro g w1 hg hz hb1 hcl; rw [hl] at hcl) | ((with_reducible refine wpList_stringOf 43 9 5 Try.underlying43 Try.underlying5 Try.underlying9 l ?_); refine ⟨g, _, _, rfl, HN.out.symm, hcl, ?_⟩))
  go_ret
  exact ⟨by rw [HL.out]; rfl, hb1⟩
/-- A page of bytes c. -/
def pg (c : UInt8) : List UInt8 := List.replicate 512 c
theorem page_any (c : UInt8) (w : World) : Calls Try.prog 16 #[.int .u8 (c.toNat : Int)] w (Ret (.string (S (pg c))) w) := by
  obtain ⟨z, hz0⟩ : ∃ z : List UInt8, List.replicate 512 (0 : UInt8) = z := ⟨_, rfl⟩
  have HZ := Lib.hid hz0
  go_enter Try.func16, Try.ntmps16
  go_wp2_with ((with_reducible refine wpList_makeBytes 43 5 Try.underlying43 info_u8p ?_); refine ⟨512, _, _, rfl, rfl, by omega, ?_⟩; intro g w1 hg hz hb1 hcl; rw [hz0] at hcl)
  clear hz0
  go_loopw [4] (fun i wr => ∃ k : Nat, k ≤ 512 ∧ i = .int .i64 k ∧ Below w.heap.size w wr ∧ ∃ l, BytesAt wr g l ∧ Hid (l = List.replicate k c ++ List.replicate (512 - k) 0)) (fun i _ => 512 - (intOf i).toNat)
  case atStart => exact ⟨0, by omega, rfl, hb1, z, hcl, by show _ = _; rw [List.replicate_zero, List.nil_append, Nat.sub_zero]; exact HZ.out.symm⟩
  case round =>
    obtain ⟨k, hk, rfl, hb, l, hc, HL⟩ := hrel
    have hll : l.length = 512 := by rw [HL.out]; simp; omega
    by_cases hlt : k < 512
    · obtain ⟨hc1, hc2⟩ := hc k (by omega)
      have hc5 := hc.set k (by omega) c
      have HL2 : Hid (l.set k c = List.replicate (k + 1) c ++ List.replicate (512 - (k + 1)) 0) := by
        show _ = _
        rw [HL.out]
        apply List.ext_getElem?
        intro j
        by_cases h1 : j < k
        · rw [List.getElem?_set_ne (by omega)]; simp [List.getElem?_append, h1, show j < k + 1 from by omega]
        · by_cases h2 : j = k
          · subst h2; simp [List.getElem?_append, List.getElem?_set]; omega
          · rw [List.getElem?_set_ne (by omega), List.getElem?_append_right (by simp; omega), List.getElem?_append_right (by simp; omega)]
            simp [List.getElem?_replicate]
            by_cases h3 : j < 512
            · rw [if_pos (by omega), if_pos (by omega)]
            · rw [if_neg (by omega), if_neg (by omega)]
      have hw2 : IntKind.i64.wrap ((k : Int) + 1) = k + 1 := IntWalk.i64_in _ (by omega)
      have hk0 : (0 : Int) ≤ k := by omega
      have hk1 : (k : Int) < 512 := by omega
      go_wp2
      go_roundw
      case rel => exact ⟨k + 1, by omega, by go_num, hb.setCell hg _, _, hc5, HL2⟩
      case measure => simp [intOf]; omega
    · have hk4 : k = 512 := by omega
      subst hk4
      have HL3 : Hid (l = pg c) := by show _ = _; rw [HL.out, Nat.sub_self, List.replicate_zero, List.append_nil]; rfl
      go_wp2_with ((with_reducible refine wpList_stringOf 43 9 5 Try.underlying43 Try.underlying5 Try.underlying9 l ?_); refine ⟨g, _, _, rfl, hll.symm, hc, ?_⟩)
      go_ret
      exact ⟨by rw [HL3.out]; rfl, hb⟩
end Go.Proofs.Ythliialieogakaa
