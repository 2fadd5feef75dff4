/- The reference's After. -/
import Derived.Test.YtljdiakodpjkpaaAftW
import Derived.Deep.CutRange
namespace Go.Proofs.Ytljdiakodpjkpaa
set_option linter.unusedVariables false
set_option linter.unusedSimpArgs false
open Go.RowKit
open Oct (S S_size S_data)
theorem S_take (l : List UInt8) (k : Nat) (hk : k ≤ l.length) : (S l).extract 0 k = S (l.take k) := by
  apply ByteArray.ext
  apply Array.ext'
  simp [S, ByteArray.data_extract]
theorem S_at (l : List UInt8) (k : Nat) (hk : k < l.length) (h : k < (S l).size) : (S l)[k]'h = l[k] := by
  show l.toArray[k]'(by simpa using hk) = l[k]
  simp
theorem rafter_any (s : ByteArray) (w : World) (hs : s.size ≤ 140737488351232) :
    Calls Try.prog 13 #[.string s] w (Ret (.tuple #[.string (S ((afterF s.data.toList).getD [])), .bool (afterF s.data.toList).isSome]) w) := by
  obtain ⟨l0, rfl⟩ : ∃ l, s = S l := ⟨s.data.toList, (Oct.S_of s).symm⟩
  rw [S_data]
  obtain ⟨r, hr⟩ : ∃ r, afterF l0 = r := ⟨_, rfl⟩
  rw [hr]
  have HR : Hid (afterF (l0.take l0.length) = r) := by rw [List.take_length]; exact hr
  rw [S_size] at hs
  have hsz : (S l0).size = l0.length := S_size l0
  clear hr
  go_enter Try.func13, Try.ntmps13
  go_wp2_with fail
  go_loopw [4] (fun x wr => ∃ k : Nat, x = .int .i64 (k : Int) ∧ wr = w ∧ k ≤ l0.length ∧ Hid (afterF (l0.take k) = r)) (fun x _ => (intOf x).toNat)
  case atStart => exact ⟨l0.length, by simp, rfl, Nat.le_refl _, HR⟩
  case round =>
    obtain ⟨k, rfl, rfl, hk, hA⟩ := hrel
    by_cases h0 : k = 0
    · subst h0
      obtain rfl : none = r := hA.out
      go_wp2_with fail
      go_ret2
      exact ⟨rfl, Below.refl _ _⟩
    · obtain ⟨m, rfl⟩ : ∃ m, k = m + 1 := ⟨k - 1, by omega⟩
      have hmk : m < l0.length := by omega
      have htk : l0.take (m + 1) = l0.take m ++ [l0[m]] := by rw [List.take_add_one, List.getElem?_eq_getElem hmk]; rfl
      have hw1 : IntKind.i64.wrap (((m + 1 : Nat) : Int) - 1) = (m : Int) := by rw [IntWalk.i64_in _ (by omega)]; omega
      have hc0 : m < (S l0).size := by omega
      have hce : (((S l0)[m]'hc0).toNat : Int) = (l0[m]).toNat := by rw [S_at l0 m hmk]
      have hp0 : (0 : Int) ≤ m := by omega
      have hp1 : (m : Int) < l0.length := by omega
      obtain ⟨c, hcc⟩ : ∃ c, l0[m] = c := ⟨_, rfl⟩
      rw [hcc] at htk hce
      rw [htk] at hA
      by_cases hc : c = 255
      · subst hc
        have hA2 : Hid (afterF (l0.take m) = r) := by have := hA.out; rw [afterF_full] at this; exact this
        go_wp2_with fail
        exact ⟨⟨m, rfl, trivial, by omega, hA2⟩, by simp [intOf]⟩
      · obtain rfl : some (l0.take m ++ [c + 1]) = r := by rw [← afterF_last _ c hc]; exact hA.out
        have hn1 : ¬ (c.toNat : Int) = 255 := fun e => hc (UInt8.toNat_inj.1 (by show c.toNat = 255; omega))
        have hn2 : ((c.toNat : Int) == 255) = false := by simp [hn1]
        have hq1 : (0 : Int) ≤ (m : Int) + 1 := by omega
        have hq2 : (m : Int) + 1 ≤ l0.length := by omega
        have hex : (S l0).extract 0 (m + 1) = S (l0.take m ++ [c]) := by rw [S_take l0 (m + 1) hk, htk]
        have htl : (l0.take m).length = m := by rw [List.length_take]; omega
        have hll : (l0.take m ++ [c]).length = m + 1 := by simp; omega
        have hget : (l0.take m ++ [c])[m]'(by omega) = c := by rw [List.getElem_append_right (by omega)]; simp [htl]
        have hset : (l0.take m ++ [c]).set m (c + 1) = l0.take m ++ [c + 1] := by rw [List.set_append_right _ _ (by omega)]; simp [htl]
        have hx : IntKind.u8.wrap ((c.toNat : Int) + 1) = ((c + 1).toNat : Int) := by
          have h1 := succ_toNat hc
          have h2 := (c + 1).toNat_lt
          rw [IntWalk.u8_in _ (by omega), h1]
          rfl
        have HX := Lib.hid hx
        have HS := Lib.hid hset
        have HE := Lib.hid hex
        clear hset hx hex
        have hm1 : (m : Int) < (m : Int) + 1 := by omega
        go_upto_region 7 with ((with_reducible refine wpList_bytes 9 38 5 Try.underlying9 Try.underlying38 Try.underlying5 ?_); refine ⟨_, rfl, ?_⟩; intro g cap w1 hg hz hb1 hcl; rw [HE.out, S_data] at hcl)
        obtain ⟨hc1, hc2⟩ := hcl m (by omega)
        rw [hget] at hc1
        have hc5 := hcl.set m (by omega) (c + 1)
        rw [HS.out] at hc5
        have hmd : ((c + 1).toNat : Int) = ((c.toNat : Int) + 1) % 256 := by
          have h1 := succ_toNat hc
          have h2 := (c + 1).toNat_lt
          omega
        rw [hmd] at hc5
        have hlen : m + 1 = (l0.take m ++ [c + 1]).length := by simp; omega
        have HLN := Lib.hid hlen
        clear hlen hmd
        have hbE : Below wr.heap.size wr (w1.setCell ⟨g, m, none⟩ (.int .u8 (((c.toNat : Int) + 1) % 256))) := hb1.setCell hg _
        go_wp2_with ((with_reducible refine wpList_stringOf 38 9 5 Try.underlying38 Try.underlying5 Try.underlying9 (l0.take m ++ [c + 1]) ?_); refine ⟨g, _, _, rfl, HLN.out, hc5, ?_⟩)
        go_ret2
        exact ⟨rfl, hbE⟩
end Go.Proofs.Ytljdiakodpjkpaa
