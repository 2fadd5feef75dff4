/- rec: small: has a record not too much to be gone through? -/
import Derived.Test.YtloengjcniefgaaRecNk
namespace Go.Proofs.Ytloengjcniefgaa.Rec
set_option linter.unusedVariables false
set_option linter.unusedSimpArgs false
open Go.RowKit
open Oct (S beN putL U I getI sumN S_size S_data)
def smallB (r : Rc) : Bool := decide (r.old.length < 2000) && decide (r.new.length < 2000) && decide (r.key.length < 2000) && decide (r.txns.length < 1100) && decide (r.dirty.length < 2100)
set_option maxHeartbeats 4000000 in
set_option maxRecDepth 100000 in
theorem small_any (r : Rc) (vt vd : Value) (w : World) (hv : ElAt w 4 vt (txC r.txns)) (hd : ElAt w 2 vd (dyC r.dirty)) :
    Calls Try.prog 7 #[.agg (rcC r vt vd)] w (Ret (.bool (smallB r)) w) := by
  have HB : Hid (smallB r = (decide (r.old.length < 2000) && decide (r.new.length < 2000) && decide (r.key.length < 2000) && decide (r.txns.length < 1100) && decide (r.dirty.length < 2100))) := rfl
  obtain ⟨R, hR⟩ : ∃ R, smallB r = R := ⟨_, rfl⟩
  rw [hR] at HB ⊢
  obtain ⟨ao, cap, rfl⟩ := hv.nil
  obtain ⟨bo, cap2, rfl⟩ := hd.nil
  clear hv hd hR
  obtain ⟨lsn, prev, txn, kind, page, next, num, ok, os, old, new, how, root, key, rp, rs, txns, dirty⟩ := r
  simp only [rcC, txC_len, dyC_len] at *
  have z1 := S_size old
  have z2 := S_size new
  have z3 := S_size key
  obtain ⟨s1, e1⟩ : ∃ x, S old = x := ⟨_, rfl⟩
  obtain ⟨s2, e2⟩ : ∃ x, S new = x := ⟨_, rfl⟩
  obtain ⟨s3, e3⟩ : ∃ x, S key = x := ⟨_, rfl⟩
  simp only [e1, e2, e3] at z1 z2 z3 ⊢
  rw [← z1, ← z2, ← z3] at HB
  obtain ⟨n1, hn1⟩ : ∃ n, txns.length = n := ⟨_, rfl⟩
  obtain ⟨n2, hn2⟩ : ∃ n, dirty.length = n := ⟨_, rfl⟩
  rw [hn1, hn2] at HB ⊢
  clear e1 e2 e3 hn1 hn2 z1 z2 z3
  have hb := (Below.refl w.heap.size w).alloc (Nat.le_refl _) (.cells #[.int .i64 lsn, .int .i64 prev, .int .i64 txn, .int .i64 kind, .int .i64 page, .int .i64 next, .int .i64 num, .int .i64 ok, .int .i64 os, .string s1, .string s2, .int .i64 how, .int .i64 root, .string s3, .int .i64 rp, .int .i64 rs, .slice ao n1 cap, .slice bo n2 cap2] 31)
  have hN := Blk.new w #[.int .i64 lsn, .int .i64 prev, .int .i64 txn, .int .i64 kind, .int .i64 page, .int .i64 next, .int .i64 num, .int .i64 ok, .int .i64 os, .string s1, .string s2, .int .i64 how, .int .i64 root, .string s3, .int .i64 rp, .int .i64 rs, .slice ao n1 cap, .slice bo n2 cap2] 31
  obtain ⟨c0, c1, c2, c3, c4, c5, c6, c7, c8, c9, c10, c11, c12, c13, c14, c15, c16, c17⟩ := Blk18 hN
  clear hN c0 c1 c2 c3 c4 c5 c6 c7 c8 c11 c12 c14 c15
  go_enter Try.func7, Try.ntmps7
  go_upto_region 1 with fail
  generalize (w.alloc _) = W at hb c9 c10 c13 c16 c17 ⊢
  by_cases h1 : (s1.size : Int) < 2000
  · by_cases h2 : (s2.size : Int) < 2000
    · by_cases h3 : (s3.size : Int) < 2000
      · by_cases h4 : (n1 : Int) < 1100
        · by_cases h5 : (n2 : Int) < 2100
          · go_wp2_with fail
            go_ret
            exact ⟨ret_bool (by rw [HB.out]; simp; omega), hb⟩
          · go_wp2_with fail
            go_ret
            exact ⟨ret_bool (by rw [HB.out]; simp; omega), hb⟩
        · go_wp2_with fail
          go_ret
          exact ⟨ret_bool (by rw [HB.out]; simp; omega), hb⟩
      · go_wp2_with fail
        go_ret
        exact ⟨ret_bool (by rw [HB.out]; simp; omega), hb⟩
    · go_wp2_with fail
      go_ret
      exact ⟨ret_bool (by rw [HB.out]; simp; omega), hb⟩
  · go_wp2_with fail
    go_ret
    exact ⟨ret_bool (by rw [HB.out]; simp; omega), hb⟩
end Go.Proofs.Ytloengjcniefgaa.Rec
