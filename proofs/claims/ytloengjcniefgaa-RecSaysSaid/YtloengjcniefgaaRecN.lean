/- rec: Right: what it answers of any record. -/
import Derived.Test.YtloengjcniefgaaRecNa
import Derived.Test.YtloengjcniefgaaRecNb
import Derived.Test.YtloengjcniefgaaRecNc
import Derived.Test.YtloengjcniefgaaRecNd
namespace Go.Proofs.Ytloengjcniefgaa.Rec
set_option linter.unusedVariables false
set_option linter.unusedSimpArgs false
open Go.RowKit
open Oct (S beN putL U I getI sumN S_size S_data)
set_option maxHeartbeats 4000000 in
set_option maxRecDepth 100000 in
theorem right_out (r : Rc) (vt vd : Value) (w : World) (hv : ElAt w 4 vt (txC r.txns)) (hd : ElAt w 2 vd (dyC r.dirty)) (hk : isF r.kind = false) :
    Calls Try.prog 13 #[.agg (rcC r vt vd)] w (Ret (.bool (rightR r)) w) := by
  have hR : rightR r = false := by rw [rightR, hk]; rfl
  rw [hR]
  have HOF := fun W => of_any r.kind W
  simp only [formV] at HOF
  rw [hk] at HOF
  obtain ⟨ao, cap, rfl⟩ := hv.nil
  obtain ⟨bo, cap2, rfl⟩ := hd.nil
  clear hv hd hk hR
  obtain ⟨lsn, prev, txn, kind, page, next, num, ok, os, old, new, how, root, key, rp, rs, txns, dirty⟩ := r
  simp only [rcC] at *
  obtain ⟨b0, h0⟩ : ∃ x, chF kind = x := ⟨_, rfl⟩
  obtain ⟨b1, h1⟩ : ∃ x, hoF kind = x := ⟨_, rfl⟩
  obtain ⟨b2, h2⟩ : ∃ x, neF kind = x := ⟨_, rfl⟩
  obtain ⟨b3, h3⟩ : ∃ x, liF kind = x := ⟨_, rfl⟩
  rw [h0, h1, h2, h3] at HOF
  clear h0 h1 h2 h3
  obtain ⟨s1, e1⟩ : ∃ x, S old = x := ⟨_, rfl⟩
  obtain ⟨s2, e2⟩ : ∃ x, S new = x := ⟨_, rfl⟩
  obtain ⟨s3, e3⟩ : ∃ x, S key = x := ⟨_, rfl⟩
  obtain ⟨n1, hn1⟩ : ∃ x, (txC txns).length = x := ⟨_, rfl⟩
  obtain ⟨n2, hn2⟩ : ∃ x, (dyC dirty).length = x := ⟨_, rfl⟩
  simp only [e1, e2, e3, hn1, hn2]
  clear e1 e2 e3 hn1 hn2
  replace HOF := Lib.hid HOF
  have hb0 := (Below.refl w.heap.size w).alloc (Nat.le_refl _) (.cells #[.int .i64 lsn, .int .i64 prev, .int .i64 txn, .int .i64 kind, .int .i64 page, .int .i64 next, .int .i64 num, .int .i64 ok, .int .i64 os, .string s1, .string s2, .int .i64 how, .int .i64 root, .string s3, .int .i64 rp, .int .i64 rs, .slice ao n1 cap, .slice bo n2 cap2] 31)
  go_enter Try.func13, Try.ntmps13
  go_wp2_with fail
  refine (HOF.out _).mono ?_
  rintro e w1 ⟨rfl, hb1⟩
  have hw1 := hb0.next hb1
  have hw2 := hw1.alloc hw1.size (.cells #[.bool b0, .bool b1, .bool b2, .bool b3, .bool false] 60)
  clear hb0 hb1 hw1
  go_wp2_with fail
  go_ret
  exact ⟨rfl, hw2⟩
theorem right_any (r : Rc) (vt vd : Value) (w : World) (hv : ElAt w 4 vt (txC r.txns)) (hd : ElAt w 2 vd (dyC r.dirty)) (hs : r.txns.length ≤ 100000) (hs2 : r.dirty.length ≤ 100000) :
    Calls Try.prog 13 #[.agg (rcC r vt vd)] w (Ret (.bool (rightR r)) w) := by
  cases hk : isF r.kind with
  | false => exact right_out r vt vd w hv hd hk
  | true =>
    have h : 1 ≤ r.kind ∧ r.kind ≤ 9 := by simpa [isF] using hk
    obtain h | h | h | h | h | h | h | h | h : r.kind = 1 ∨ r.kind = 2 ∨ r.kind = 3 ∨ r.kind = 4 ∨ r.kind = 5 ∨ r.kind = 6 ∨ r.kind = 7 ∨ r.kind = 8 ∨ r.kind = 9 := by omega
    · exact right_none r vt vd w hv hd hs hs2 (by rw [h]; rfl) (by rw [h]; rfl) (by rw [h]; rfl) (by rw [h]; rfl) hk
    · exact right_ch r vt vd w hv hd hs hs2 (by rw [h]; rfl) (by rw [h]; rfl) (by rw [h]; rfl) (by rw [h]; rfl) hk
    · exact right_cn r vt vd w hv hd hs hs2 (by rw [h]; rfl) (by rw [h]; rfl) (by rw [h]; rfl) (by rw [h]; rfl) hk
    · exact right_n r vt vd w hv hd hs hs2 (by rw [h]; rfl) (by rw [h]; rfl) (by rw [h]; rfl) (by rw [h]; rfl) hk
    · exact right_none r vt vd w hv hd hs hs2 (by rw [h]; rfl) (by rw [h]; rfl) (by rw [h]; rfl) (by rw [h]; rfl) hk
    · exact right_none r vt vd w hv hd hs hs2 (by rw [h]; rfl) (by rw [h]; rfl) (by rw [h]; rfl) (by rw [h]; rfl) hk
    · exact right_none r vt vd w hv hd hs hs2 (by rw [h]; rfl) (by rw [h]; rfl) (by rw [h]; rfl) (by rw [h]; rfl) hk
    · exact right_c r vt vd w hv hd hs hs2 (by rw [h]; rfl) (by rw [h]; rfl) (by rw [h]; rfl) (by rw [h]; rfl) hk
    · exact right_l r vt vd w hv hd hs hs2 (by rw [h]; rfl) (by rw [h]; rfl) (by rw [h]; rfl) (by rw [h]; rfl) hk
end Go.Proofs.Ytloengjcniefgaa.Rec
