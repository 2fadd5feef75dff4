/- KeycodeSays' walk. -/
import Derived.Test.YtljdiakodpjkpaaAwk07
import Derived.Test.YtljdiakodpjkpaaRGet07
import Derived.Test.YtljdiakodpjkpaaRKey
namespace Go.Proofs.Ytljdiakodpjkpaa
set_option linter.unusedVariables false
set_option linter.unusedSimpArgs false
open Go.RowKit
open Oct (S S_size S_data)
set_option maxHeartbeats 2000000 in
set_option maxRecDepth 100000 in
theorem walk_KeycodeSays (l : List Vl) (v : Value) (s : ByteArray) (w : World) (hv : RowAt w v l) (hl : Oks l) (hll : l.length ≤ 1048576) (hs : s.size ≤ 1048576) : Calls Try.prog 4 #[v, .string s] w (Ret (.bool true) w) := by
  have HG := Lib.hid (fun W => kget_any s W (by omega))
  have HH := Lib.hid (fun W => rkget_any s W (by omega))
  have HA := Lib.hid (fun W => after_any s W (by unfold maxLen; omega))
  have HB := Lib.hid (fun W => rafter_any s W (by omega))
  have HW := Lib.hid (fun W => awake7_any W)
  have HP := Lib.hid (fun W h => kput_any l v W h hl (by omega))
  have HQ := Lib.hid (fun W h => rkput_any l v W h hl (by omega))
  have HO := Lib.hid (fun a b va vb W ha hb => orders_any a b va vb W ha hb)
  have HV := Lib.hid hv
  obtain ⟨ao, cap, rfl⟩ := hv.nil
  clear hv
  generalize S (keyR l) = key at *
  generalize getK s.data.toList = g at *
  generalize afterF s.data.toList = f at *
  go_enter Try.func4, Try.ntmps4
  go_wp2_with fail
  refine (HG.out _).mono ?_
  rintro e w1 ⟨hb1, v1, rfl, hr1⟩
  have HV1 := Lib.hid (HV.out.below hb1)
  go_wp2_with fail
  refine (HH.out _).mono ?_
  rintro e w2 ⟨hb2, v2, rfl, hr2⟩
  replace HV1 := Lib.hid (HV1.out.below hb2)
  replace hr1 := hr1.below hb2
  replace hb1 := hb1.next hb2; clear hb2
  go_wp2_with fail
  refine (HA.out _).mono ?_
  rintro e w3 ⟨rfl, hb2⟩
  replace HV1 := Lib.hid (HV1.out.below hb2)
  replace hr1 := hr1.below hb2
  replace hr2 := hr2.below hb2
  replace hb1 := hb1.next hb2; clear hb2
  go_wp2_with fail
  refine (HB.out _).mono ?_
  rintro e w4 ⟨rfl, hb2⟩
  replace HV1 := Lib.hid (HV1.out.below hb2)
  replace hr1 := hr1.below hb2
  replace hr2 := hr2.below hb2
  replace hb1 := hb1.next hb2; clear hb2
  go_wp2_with fail
  refine (HW.out _).mono ?_
  rintro e w5 ⟨rfl, hb2⟩
  replace HV1 := Lib.hid (HV1.out.below hb2)
  replace hr1 := hr1.below hb2
  replace hr2 := hr2.below hb2
  replace hb1 := hb1.next hb2; clear hb2
  go_wp2_with fail
  refine (HP.out _ HV1.out).mono ?_
  rintro e w6 ⟨rfl, hb2⟩
  replace HV1 := Lib.hid (HV1.out.below hb2)
  replace hr1 := hr1.below hb2
  replace hr2 := hr2.below hb2
  replace hb1 := hb1.next hb2; clear hb2
  go_wp2_with fail
  refine (HQ.out _ HV1.out).mono ?_
  rintro e w7 ⟨rfl, hb2⟩
  replace HV1 := Lib.hid (HV1.out.below hb2)
  replace hr1 := hr1.below hb2
  replace hr2 := hr2.below hb2
  replace hb1 := hb1.next hb2; clear hb2
  have HOO := Lib.hid (HO.out _ _ _ _ _ hr1 hr2)
  rw [ordL_self] at HOO
  go_wp2_with fail
  refine HOO.out.mono ?_
  rintro e w8 ⟨rfl, hb2⟩
  replace hb1 := hb1.next hb2; clear hb2
  clear hr1 hr2
  go_wp2_with fail
  go_ret
  exact ⟨rfl, hb1⟩
end Go.Proofs.Ytljdiakodpjkpaa
