/- The walk of OctetGets. -/
import Derived.Test.YtlnanbajbkbcaaaOctA
namespace Go.Proofs.Ytlnanbajbkbcaaa
set_option linter.unusedVariables false
set_option linter.unusedSimpArgs false
open Go.RowKit
open Oct (S beN putL U I getI sumN)
theorem walk_OctetGets (s : ByteArray) (at_ size : Int) (w : World) (hs : s.size ≤ 140737488351232) (h1 : (Lit.int .i64 at_).wf = true) (h2 : (Lit.int .i64 size).wf = true) :
    Calls Try.prog 4 #[.string s, .int .i64 at_, .int .i64 size] w (Ret (.bool true) w) := by
  obtain ⟨r, HR⟩ : ∃ r, Hid (r = getR s.data.toList at_ size) := ⟨_, rfl⟩
  obtain ⟨n, b⟩ := r
  go_enter Try.func4, Try.ntmps4
  go_wp2_with fail
  refine (get_any s at_ size _ (by unfold maxLen; omega) h1 h2).mono ?_
  rintro e w1 ⟨rfl, hb1⟩
  rw [← HR.out]
  go_wp2_with fail
  refine (rget_any s at_ size _ (by unfold maxLen; omega) h1 h2).mono ?_
  rintro e w2 ⟨rfl, rfl⟩
  rw [← HR.out]
  go_wp2_with fail
  refine (awake_any _).mono ?_
  rintro e w2 ⟨rfl, hb⟩
  replace hb1 := hb1.next hb
  go_wp2_with fail
  go_ret
  exact ⟨rfl, hb1⟩
end Go.Proofs.Ytlnanbajbkbcaaa
