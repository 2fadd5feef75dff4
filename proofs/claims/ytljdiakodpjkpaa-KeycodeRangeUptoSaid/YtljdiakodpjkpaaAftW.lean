/- keycode.After and the reference's. -/
import Derived.Test.YtljdiakodpjkpaaAftP
import Derived.Test.YtljdiakodpjkpaaOctP
import Derived.Test.YtljdiakodpjkpaaBld
import Derived.BigQuiet
import Derived.StillTailTactics
namespace Go.Proofs.Ytljdiakodpjkpaa
set_option linter.unusedVariables false
set_option linter.unusedSimpArgs false
open Go.RowKit
open Oct (S S_size S_data)
theorem S_last (m : List UInt8) (c : UInt8) (h : m.length < (S (m ++ [c])).size) : (S (m ++ [c]))[m.length]'h = c := by
  show (m ++ [c]).toArray[m.length]'(by simp) = c
  simp
theorem S_front (m : List UInt8) (c : UInt8) : (S (m ++ [c])).extract 0 m.length = S m := by
  apply ByteArray.ext
  apply Array.ext'
  simp [S, ByteArray.data_extract]
set_option maxHeartbeats 4000000 in
theorem after_any (s : ByteArray) (w : World) (hs : s.size ≤ maxLen) :
    Calls Try.prog 8 #[.string s] w (Ret (.tuple #[.string (S ((afterF s.data.toList).getD [])), .bool (afterF s.data.toList).isSome]) w) := by
  obtain ⟨l0, rfl⟩ : ∃ l, s = S l := ⟨s.data.toList, (Oct.S_of s).symm⟩
  rw [S_data]
  obtain ⟨r, hr⟩ : ∃ r, afterF l0 = r := ⟨_, rfl⟩
  rw [hr]
  have HR := Lib.hid hr
  rw [S_size] at hs
  unfold maxLen at hs
  clear hr
  go_enter Try.func8, Try.ntmps8
  go_wp2_with fail
  go_loopw [0] (fun x wr => ∃ l : List UInt8, x = .string (S l) ∧ wr = w ∧ l.length ≤ l0.length ∧ Hid (afterF l = r)) (fun x _ => match x with | .string q => q.size | _ => 0)
  case atStart => exact ⟨l0, rfl, rfl, Nat.le_refl _, HR⟩
  case round =>
    obtain ⟨l, rfl, rfl, hl, hA⟩ := hrel
    rcases List.eq_nil_or_concat l with rfl | ⟨m, c, rfl⟩
    · obtain rfl : none = r := hA.out
      have hz : (S []).size = 0 := rfl
      go_wp2_with fail
      go_ret2
      exact ⟨rfl, Below.refl _ _⟩
    · rw [List.concat_eq_append] at hl hA ⊢
      have hlm : m.length + 1 ≤ l0.length := by simpa using hl
      have hsz : (S (m ++ [c])).size = m.length + 1 := by rw [S_size]; simp
      have hfr := S_front m c
      have hc0 : m.length < (S (m ++ [c])).size := by omega
      have hce : (((S (m ++ [c]))[m.length]'hc0).toNat : Int) = c.toNat := by rw [S_last]
      have hw1 : IntKind.i64.wrap (((m.length + 1 : Nat) : Int) - 1) = (m.length : Int) := by rw [IntWalk.i64_in _ (by omega)]; omega
      have hw2 : IntKind.i64.wrap (m.length : Int) = (m.length : Int) := IntWalk.i64_in _ (by omega)
      have hp0 : (0 : Int) ≤ m.length := by omega
      have hp1 : (m.length : Int) ≤ (m.length : Int) + 1 := by omega
      have hp2 : (m.length : Int) < (m.length : Int) + 1 := by omega
      by_cases hc : c = 255
      · subst hc
        have hA2 : Hid (afterF m = r) := by have := hA.out; rw [afterF_full] at this; exact this
        go_wp2_with fail
        exact ⟨⟨m, rfl, trivial, by omega, hA2⟩, by show (S m).size < (S (m ++ [255])).size; rw [hsz, S_size]; omega⟩
      · obtain rfl : some (m ++ [c + 1]) = r := by rw [← afterF_last m c hc]; exact hA.out
        have hn1 : ¬ (c.toNat : Int) = 255 := fun e => hc (UInt8.toNat_inj.1 (by show c.toNat = 255; omega))
        have hn2 : ((c.toNat : Int) == 255) = false := by simp [hn1]
        have hie : (m ++ [c]).isEmpty = false := by simp
        have hx : IntKind.u8.wrap ((c.toNat : Int) + 1) = ((c + 1).toNat : Int) := by
          have h1 := succ_toNat hc
          have h2 := (c + 1).toNat_lt
          rw [IntWalk.u8_in _ (by omega), h1]
          rfl
        have hcv : Sem.run Try.prog (convert 38 9 (.slice (some ⟨wr.heap.size, 0, none⟩) 1 1)) (wr.alloc (.cells #[.int .u8 (IntKind.u8.wrap ((c.toNat : Int) + 1))] 5)).drew = .ok (.string (S [c + 1])) (wr.alloc (.cells #[.int .u8 (IntKind.u8.wrap ((c.toNat : Int) + 1))] 5)).drew :=
          run_convert_bytes_back (P := Try.prog) (wr.alloc (.cells #[.int .u8 (IntKind.u8.wrap ((c.toNat : Int) + 1))] 5)).drew 38 9 5 ⟨wr.heap.size, 0, none⟩ 1 [c + 1] Try.underlying38 Try.underlying5 Try.underlying9 (fun j hj => by
            have := ((bytesAt_one wr 5 _ (c + 1) hx) j hj).1
            simpa [Addr.add_lit] using this)
        have hss : (S [c + 1]).size = 1 := rfl
        have hms : (S m).size = m.length := S_size m
        have hln : ¬ 9223372036854775807 < m.length + 1 := by omega
        have hb9 : Below wr.heap.size wr (wr.alloc (.cells #[.int .u8 (IntKind.u8.wrap ((c.toNat : Int) + 1))] 5)).drew := ((Below.refl _ _).alloc (Nat.le_refl _) _).drew
        clear hx
        go_wp2_with fail
        go_region
        all_goals (try simp [go_sem])
        all_goals (try go_wp2)
        all_goals go_ret2
        all_goals exact ⟨by simp [Oct.S_append], hb9⟩
end Go.Proofs.Ytljdiakodpjkpaa
