/- rec: Get: what it answers of any bytes. -/
import Derived.Test.YtloengjcniefgaaRecU
import Derived.Test.YtloengjcniefgaaRecRd
import Derived.Deep.CutRange
import Derived.Test.YtloengjcniefgaaRecRl
namespace Go.Proofs.Ytloengjcniefgaa.Rec
set_option linter.unusedVariables false
set_option linter.unusedSimpArgs false
open Go.RowKit
open Oct (S beN putL U I getI sumN S_size S_data)
theorem record_any (l : List UInt8) (s : ByteArray) (hsl : S l = s) (hl : l.length ≤ 1000000) (g : Nat) (w : World) (hR : Blk w g (rdC s (0, false)) 56) :
    Calls Try.prog 25 #[.pointer (some ⟨g, 0, none⟩)] w (RecA (recF l) g w) := by
  obtain ⟨k, hk⟩ : ∃ k, (numF l (0, false) 1).1 = k := ⟨_, rfl⟩
  by_cases h : k = 2
  · exact record_chho l s hsl hl g w hR (by rw [hk, h]; rfl) (by rw [hk, h]; rfl) (by rw [hk, h]; rfl) (by rw [hk, h]; rfl)
  by_cases h : k = 3
  · exact record_chne l s hsl hl g w hR (by rw [hk, h]; rfl) (by rw [hk, h]; rfl) (by rw [hk, h]; rfl) (by rw [hk, h]; rfl)
  by_cases h : k = 4
  · exact record_ne l s hsl hl g w hR (by rw [hk, h]; rfl) (by rw [hk, h]; rfl) (by rw [hk, h]; rfl) (by rw [hk, h]; rfl)
  by_cases h : k = 8
  · exact record_c l s hsl hl g w hR (by rw [hk, h]; rfl) (by rw [hk, h]; rfl) (by rw [hk, h]; rfl) (by rw [hk, h]; rfl)
  by_cases h : k = 9
  · exact record_l l s hsl hl g w hR (by rw [hk, h]; rfl) (by rw [hk, h]; rfl) (by rw [hk, h]; rfl) (by rw [hk, h]; rfl)
  exact record_none l s hsl hl g w hR (by rw [hk]; simp [chF, *]) (by rw [hk]; simp [hoF, *]) (by rw [hk]; simp [neF, *]) (by rw [hk]; simp [liF, *])
theorem txsG_len (num : NumT) : ∀ (n : Nat) (s : Rd) (acc : List Tx), (txsG num n s acc).1.length ≤ acc.length + n := by
  intro n
  induction n with
  | zero => intro s acc; simp [txsG]
  | succ n ih =>
    intro s acc
    unfold txsG
    split
    · simp
    · refine Nat.le_trans (ih _ _) ?_
      simp
      omega
theorem dysG_len (num : NumT) : ∀ (n : Nat) (s : Rd) (acc : List Dy), (dysG num n s acc).1.length ≤ acc.length + n := by
  intro n
  induction n with
  | zero => intro s acc; simp [dysG]
  | succ n ih =>
    intro s acc
    unfold dysG
    split
    · simp
    · refine Nat.le_trans (ih _ _) ?_
      simp
      omega
theorem liG_len (l : List UInt8) (s : Rd) : (liG (numF l) s).2.1.length ≤ 100000 ∧ (liG (numF l) s).2.2.length ≤ 100000 := by
  simp only [liG]
  constructor
  · refine Nat.le_trans (txsG_len _ _ _ _) ?_
    obtain ⟨r, h1, h2⟩ := numF_two l (numF l s 6).2
    rw [h1]
    simp
    omega
  · refine Nat.le_trans (dysG_len _ _ _ _) ?_
    obtain ⟨r, h1, h2⟩ := numF_two l (txsG (numF l) (numF l (numF l s 6).2 2).1.toNat (numF l (numF l s 6).2 2).2 []).2
    rw [h1]
    simp
    omega
theorem rec_sizes (l : List UInt8) : (recF l).txns.length ≤ 100000 ∧ (recF l).dirty.length ≤ 100000 := by
  unfold recF recG tailG
  simp only
  split
  · exact liG_len _ _
  · simp
/-- A record, a place, an error. -/
def GetA (q : Rc × Int × Int) (w : World) (e : Ending) (w' : World) : Prop :=
  ∃ vt vd, e = .returned (.tuple #[.agg (rcC q.1 vt vd), .int .i64 q.2.1, .int .i64 q.2.2]) ∧ ElAt w' 4 vt (txC q.1.txns) ∧ ElAt w' 2 vd (dyC q.1.dirty) ∧ Below w.heap.size w w'
theorem getA_zero {w W9 : World} (n er : Int) (hb : Below w.heap.size w W9) : GetA (zeroR, n, er) w (.returned (.tuple #[.agg zs18, .int .i64 n, .int .i64 er])) W9 :=
  ⟨.slice none 0 0, .slice none 0 0, rfl, ElAt.empty _ _, ElAt.empty _ _, hb⟩
def getB (l2 : List UInt8) (at_ : Int) : Rc × Int × Int :=
  if l2.length < 8 ∨ l2.length - 8 < beN (l2.take 4) then (zeroR, 0, 3) else
  if ¬ beN ((l2.drop 4).take 4) = sumN ((l2.drop 8).take (beN (l2.take 4))) then (zeroR, 0, 19) else
  if rightR (recF ((l2.drop 8).take (beN (l2.take 4)))) = true ∧ bodyL (recF ((l2.drop 8).take (beN (l2.take 4)))) = (l2.drop 8).take (beN (l2.take 4)) then
    (recF ((l2.drop 8).take (beN (l2.take 4))), at_ + 8 + (beN (l2.take 4) : Nat), 0) else (zeroR, 0, 2)
theorem getF_in (l : List UInt8) (a : Nat) (h : a ≤ l.length) : getF l (a : Nat) = getB (l.drop a) a := by
  unfold getF getB
  rw [if_neg (by omega)]
  simp only [Int.toNat_natCast]
theorem getF_out (l : List UInt8) (at_ : Int) (h : at_ < 0 ∨ (l.length : Int) < at_) : getF l at_ = (zeroR, 0, 1) := by
  unfold getF
  rw [if_pos h]
theorem drop_S (l : List UInt8) (a : Nat) : (S l).extract a (S l).size = S (l.drop a) := by
  apply ByteArray.ext
  apply Array.toList_inj.1
  rw [S_size]
  simp [S, List.extract_eq_take_drop]
  apply List.take_of_length_le
  simp
theorem take_S (l : List UInt8) (n : Nat) : (S l).extract 4 (8 + n) = S ((l.drop 4).take (4 + n)) := by
  apply ByteArray.ext
  apply Array.toList_inj.1
  simp [S, List.extract_eq_take_drop]
  congr 1
  omega
set_option maxHeartbeats 4000000 in
set_option maxRecDepth 100000 in
theorem recget_out (l : List UInt8) (at_ : Int) (w : World) (hl : l.length ≤ 1000000) (h : at_ < 0 ∨ (l.length : Int) < at_) :
    Calls Try.prog 11 #[.string (S l), .int .i64 at_] w (GetA (getF l at_) w) := by
  rw [getF_out l at_ h]
  have hz := S_size l
  obtain ⟨s, hs⟩ : ∃ s, S l = s := ⟨_, rfl⟩
  rw [hs] at hz ⊢
  have hres := Blk.new w zs18 31
  have hb0 := (Below.refl w.heap.size w).alloc (Nat.le_refl _) (.cells zs18 31)
  have hsz0 : w.heap.size ≤ (w.alloc (.cells zs18 31)).heap.size := by simp
  unfold zs18 at hres hb0 hsz0
  clear hs
  by_cases h0 : at_ < 0
  · clear h
    go_enter Try.func11, Try.ntmps11
    go_wp2_with (first | ((with_reducible refine wpList_store18 hres (by kernel_rfl) (by kernel_rfl) (by kernel_rfl) rfl _ _ rfl rfl rfl ?_); intro W9 hW9 hgr9))
    have HV := rec_val hW9 rfl
    refine bodyPost_ret (v := .tuple #[.agg zs18, .int .i64 0, .int .i64 1]) ?_ rfl (getA_zero 0 1 (Below.ofGrown hb0 hgr9 (Nat.le_refl _) hsz0))
    simp [results, Try.results11, asAddr, Act.put, HV]
    rfl
  · have h1 : (s.size : Int) < at_ := by omega
    have h2 : (at_ < 0) = False := by simp; omega
    clear h
    go_enter Try.func11, Try.ntmps11
    go_wp2_with (first | ((with_reducible refine wpList_store18 hres (by kernel_rfl) (by kernel_rfl) (by kernel_rfl) rfl _ _ rfl rfl rfl ?_); intro W9 hW9 hgr9))
    have HV := rec_val hW9 rfl
    refine bodyPost_ret (v := .tuple #[.agg zs18, .int .i64 0, .int .i64 1]) ?_ rfl (getA_zero 0 1 (Below.ofGrown hb0 hgr9 (Nat.le_refl _) hsz0))
    simp [results, Try.results11, asAddr, Act.put, HV]
    rfl
theorem getR_no4 (l : List UInt8) (h : l.length < 4) : getR l 0 4 = (0, false) := by
  rw [getR, if_neg (by omega)]
theorem getR_yes4 (l : List UInt8) (h : 4 ≤ l.length) : getR l 0 4 = (((beN (l.take 4) : Nat) : Int), true) := by
  have h1 := Oct.beN_lt (l.take 4)
  have h2 : (l.take 4).length = 4 := by simp; omega
  rw [h2] at h1
  have h5 : (256 : Nat) ^ 4 = 4294967296 := by decide
  rw [getR, if_pos (by omega)]
  simp only [getI, show (0 : Int).toNat = 0 from rfl, show (4 : Int).toNat = 4 from rfl, List.drop_zero]
  rw [Oct.I_small _ (by omega)]
theorem beN4_lt (l : List UInt8) : beN (l.take 4) < 4294967296 := by
  have h1 := Oct.beN_lt (l.take 4)
  have h2 : (l.take 4).length ≤ 4 := by simp; omega
  have h3 : 256 ^ (l.take 4).length ≤ 256 ^ 4 := Nat.pow_le_pow_right (by omega) h2
  have h5 : (256 : Nat) ^ 4 = 4294967296 := by decide
  omega
theorem openR_of (l2 : List UInt8) (n : Nat) (h : 8 + n ≤ l2.length) : openR ((l2.drop 4).take (4 + n)) = if beN ((l2.drop 4).take 4) = sumN ((l2.drop 8).take n) then ((l2.drop 8).take n, true) else ([], false) := by
  have e1 : ((l2.drop 4).take (4 + n)).take 4 = (l2.drop 4).take 4 := by rw [List.take_take]; congr 1; omega
  have e2 : ((l2.drop 4).take (4 + n)).drop 4 = (l2.drop 8).take n := by rw [List.drop_take, List.drop_drop]; congr 1; omega
  unfold openR
  rw [e1, e2]
  by_cases hq : beN ((l2.drop 4).take 4) = sumN ((l2.drop 8).take n)
  · rw [if_pos ⟨by rw [List.length_take, List.length_drop]; omega, hq⟩, if_pos hq]
  · rw [if_neg (fun h => hq h.2), if_neg hq]
set_option maxHeartbeats 8000000 in
set_option maxRecDepth 100000 in
theorem recget_in (l : List UInt8) (a : Nat) (w : World) (hl : l.length ≤ 1000000) (ha : a ≤ l.length) :
    Calls Try.prog 11 #[.string (S l), .int .i64 (a : Int)] w (GetA (getB (l.drop a) (a : Int)) w) := by
  have hz := S_size l
  have hx := drop_S l a
  obtain ⟨s, hs⟩ : ∃ s, S l = s := ⟨_, rfl⟩
  rw [hs] at hz hx ⊢
  have hl2 : (l.drop a).length ≤ 1000000 := by rw [List.length_drop]; omega
  have hl2a : (l.drop a).length + a = l.length := by rw [List.length_drop]; omega
  obtain ⟨l2, hl2e⟩ : ∃ l2, l.drop a = l2 := ⟨_, rfl⟩
  rw [hl2e] at hl2 hl2a hx ⊢
  have hz2 := S_size l2
  have HX4 := Lib.hid (fun n => take_S l2 n)
  obtain ⟨s2, hs2⟩ : ∃ s, S l2 = s := ⟨_, rfl⟩
  rw [hs2] at hz2 hx HX4
  have HG := Lib.hid (fun W => get_any s2 0 4 W (by unfold maxLen; omega) wf0 wf4)
  rw [← hs2] at HG
  simp only [S_data] at HG
  rw [hs2] at HG
  have ha2 : a ≤ s.size := by omega
  have hss : s.size ≤ 1000000 := by omega
  have haI : (a : Int) ≤ 1000000 := by omega
  clear hs hl2e hs2 hz hl ha
  replace hx := Lib.hid hx
  have hn4 := beN4_lt l2
  obtain ⟨n, hn⟩ : ∃ n, beN (l2.take 4) = n := ⟨_, rfl⟩
  rw [hn] at hn4
  have HB : Hid (getB l2 (a : Int) = if l2.length < 8 ∨ l2.length - 8 < n then (zeroR, 0, 3) else
    if ¬ beN ((l2.drop 4).take 4) = sumN ((l2.drop 8).take n) then (zeroR, 0, 19) else
    if rightR (recF ((l2.drop 8).take n)) = true ∧ bodyL (recF ((l2.drop 8).take n)) = (l2.drop 8).take n then
      (recF ((l2.drop 8).take n), (a : Int) + 8 + (n : Nat), 0) else (zeroR, 0, 2)) := by
    show _ = _
    unfold getB
    rw [hn]
  obtain ⟨q, hq⟩ : ∃ q, getB l2 (a : Int) = q := ⟨_, rfl⟩
  rw [hq] at HB ⊢
  clear hq
  have hres := Blk.new w zs18 31
  have hb0 := (Below.refl w.heap.size w).alloc (Nat.le_refl _) (.cells zs18 31)
  have hsz0 : w.heap.size ≤ (w.alloc (.cells zs18 31)).heap.size := by simp
  unfold zs18 at hres hb0 hsz0
  have h1 : ¬ (s.size : Int) < (a : Int) := by omega
  go_enter Try.func11, Try.ntmps11
  go_upto_region 4 with fail
  rw [hx.out]
  clear hx h1 ha2 hss
  by_cases h8 : l2.length < 8 ∨ l2.length - 8 < n
  · obtain rfl : (zeroR, 0, 3) = q := by rw [HB.out, if_pos h8]
    clear HB
    by_cases h4 : l2.length < 4
    · rw [getR_no4 l2 h4] at HG
      clear hn h4 h8
      go_wp2_with fail
      refine (HG.out _).mono ?_
      rintro e w1 ⟨rfl, hb1⟩
      have hres1 := hres.below hb1
      have hw1 := hb0.next hb1
      clear hres hb1
      go_wp2_with (first | ((with_reducible refine wpList_store18 hres1 (by kernel_rfl) (by kernel_rfl) (by kernel_rfl) rfl _ _ rfl rfl rfl ?_); intro W9 hW9 hgr9))
      have HV := rec_val hW9 rfl
      refine bodyPost_ret (v := .tuple #[.agg zs18, .int .i64 0, .int .i64 3]) ?_ rfl (getA_zero 0 3 (Below.ofGrown hw1 hgr9 (Nat.le_refl _) hw1.size))
      simp [results, Try.results11, asAddr, Act.put, HV]
      rfl
    · rw [getR_yes4 l2 (by omega), hn] at HG
      by_cases h7 : l2.length < 8
      · have h7s : (s2.size : Int) < 8 := by omega
        clear hn h4 h8 h7
        go_wp2_with fail
        refine (HG.out _).mono ?_
        rintro e w1 ⟨rfl, hb1⟩
        have hres1 := hres.below hb1
        have hw1 := hb0.next hb1
        clear hres hb1
        go_wp2_with (first | ((with_reducible refine wpList_store18 hres1 (by kernel_rfl) (by kernel_rfl) (by kernel_rfl) rfl _ _ rfl rfl rfl ?_); intro W9 hW9 hgr9))
        have HV := rec_val hW9 rfl
        refine bodyPost_ret (v := .tuple #[.agg zs18, .int .i64 0, .int .i64 3]) ?_ rfl (getA_zero 0 3 (Below.ofGrown hw1 hgr9 (Nat.le_refl _) hw1.size))
        simp [results, Try.results11, asAddr, Act.put, HV]
        rfl
      · have h7s : ¬ (s2.size : Int) < 8 := by omega
        have h7t : (s2.size : Int) - 8 < (n : Int) := by omega
        clear hn h4 h8 h7
        go_wp2_with fail
        refine (HG.out _).mono ?_
        rintro e w1 ⟨rfl, hb1⟩
        have hres1 := hres.below hb1
        have hw1 := hb0.next hb1
        clear hres hb1
        go_wp2_with (first | ((with_reducible refine wpList_store18 hres1 (by kernel_rfl) (by kernel_rfl) (by kernel_rfl) rfl _ _ rfl rfl rfl ?_); intro W9 hW9 hgr9))
        have HV := rec_val hW9 rfl
        refine bodyPost_ret (v := .tuple #[.agg zs18, .int .i64 0, .int .i64 3]) ?_ rfl (getA_zero 0 3 (Below.ofGrown hw1 hgr9 (Nat.le_refl _) hw1.size))
        simp [results, Try.results11, asAddr, Act.put, HV]
        rfl
  · rw [if_neg h8] at HB
    rw [getR_yes4 l2 (by omega), hn] at HG
    have h7s : ¬ (s2.size : Int) < 8 := by omega
    have h7t : ¬ (s2.size : Int) - 8 < (n : Int) := by omega
    have hn8 : 8 + n ≤ s2.size := by omega
    have HOR := Lib.hid (openR_of l2 n (by omega))
    have hbl : ((l2.drop 8).take n).length ≤ 1000000 := by rw [List.length_take, List.length_drop]; omega
    have hml : ((l2.drop 4).take (4 + n)).length ≤ 1000000 := by rw [List.length_take, List.length_drop]; omega
    have hx4 := HX4.out n
    have hmz := S_size ((l2.drop 4).take (4 + n))
    obtain ⟨mm, hmm⟩ : ∃ m, (l2.drop 4).take (4 + n) = m := ⟨_, rfl⟩
    rw [hmm] at HOR hx4 hmz hml
    obtain ⟨bl, hbe⟩ : ∃ b, (l2.drop 8).take n = b := ⟨_, rfl⟩
    rw [hbe] at HOR HB hbl
    obtain ⟨sm, hsm⟩ : ∃ s, S mm = s := ⟨_, rfl⟩
    rw [hsm] at hx4 hmz
    have HOP := Lib.hid (fun W => open_any sm W (by unfold maxLen; omega))
    rw [← hsm] at HOP
    simp only [S_data] at HOP
    rw [HOR.out, hsm] at HOP
    clear h8 hn HX4 hmm hbe hsm HOR hl2a hmz hml
    replace hx4 := Lib.hid hx4
    go_wp2_with fail
    refine (HG.out _).mono ?_
    rintro e w1 ⟨rfl, hb1⟩
    have hres1 := hres.below hb1
    have hw1 := hb0.next hb1
    clear hres hb1 HG hb0 hsz0
    by_cases hsum : beN ((l2.drop 4).take 4) = sumN bl
    · rw [if_neg (by simpa using hsum)] at HB
      rw [if_pos hsum] at HOP
      simp only at HOP
      clear hsum
      have hbs := S_size bl
      obtain ⟨sb, hsb⟩ : ∃ s, S bl = s := ⟨_, rfl⟩
      rw [hsb] at HOP hbs
      have HSB := Lib.hid hsb
      have HREC := Lib.hid (fun g W h => record_any bl sb hsb hbl g W h)
      obtain ⟨x, hxr⟩ : ∃ x, recF bl = x := ⟨_, rfl⟩
      rw [hxr] at HREC HB
      have HRGT := Lib.hid (fun W vt vd h1 h2 h3 h4 => right_any x vt vd W h1 h2 h3 h4)
      have HBDY := Lib.hid (fun W vt vd h1 h2 h3 => body_any x vt vd W h1 h2 h3)
      have hxt : x.txns.length ≤ 100000 ∧ x.dirty.length ≤ 100000 := by rw [← hxr]; exact rec_sizes bl
      clear hxr hsb hbl
      go_wp2_with (go_at_call 24; rw [hx4.out])
      refine (HOP.out _).mono ?_
      rintro e w2 ⟨rfl, hb2⟩
      have hres2 := hres1.below hb2
      have hw2 := hw1.next hb2
      clear hres1 hb2 HOP hw1 hx4
      have hres3 := hres2.alloc (.cells #[.string sb, .int .i64 0, .bool false] 56)
      have hrd := Blk.new w2 #[.string sb, .int .i64 0, .bool false] 56
      have hw3 := hw2.alloc hw2.size (.cells #[.string sb, .int .i64 0, .bool false] 56)
      have hlt2 := hres2.lt
      go_wp2_with fail
      refine (HREC.out _ _ hrd).mono ?_
      rintro e w4 ⟨vt, vd, rfl, ⟨hrt, htl⟩, ⟨hrd2, hdl⟩, hg4⟩
      have hw4 := Below.ofGrown hw3 hg4 hw2.size hw3.size
      have hres4 := hres3.grown hg4 (by intro e; injection e; omega)
      have hbase : w.heap.size < (w2.alloc (.cells #[.string sb, .int .i64 0, .bool false] 56)).heap.size := by simp; omega
      have hown1 : w4.ownsRow (w.heap.size + 1) 67 4 vt x.txns.length (txC x.txns).flatten := row_lower hrt (by omega)
      have hown2 : w4.ownsRow (w.heap.size + 1) 71 2 vd x.dirty.length (dyC x.dirty).flatten := row_lower hrd2 (by omega)
      clear hrd hres3 hw3 hg4 HREC hrt hrd2 hbase
      have hvt : ElAt w4 4 vt (txC x.txns) := ElAt.owned (txC_each _) (by rw [txC_len]; exact hown1) (by rw [txC_len]; omega)
      have hvd : ElAt w4 2 vd (dyC x.dirty) := ElAt.owned (dyC_each _) (by rw [dyC_len]; exact hown2) (by rw [dyC_len]; omega)
      have HR2 := HRGT.out
      have HB2 := HBDY.out
      clear HRGT HBDY
      obtain ⟨xa, xcap, hva⟩ := hvt.nil
      obtain ⟨xb, xcap2, hvb⟩ := hvd.nil
      rw [txC_len] at hva
      rw [dyC_len] at hvb
      subst hva hvb
      replace HR2 := fun W h1 h2 => HR2 W (.slice xa x.txns.length xcap) (.slice xb x.dirty.length xcap2) h1 h2 hxt.1 hxt.2
      replace HB2 := fun W h1 h2 h3 => HB2 W (.slice xa x.txns.length xcap) (.slice xb x.dirty.length xcap2) h1 h2 h3
      have HFX : Hid (∀ (w' W9 : World) (n : Int), w.heap.size ≤ w'.heap.size → w'.ownsRow (w.heap.size + 1) 67 4 (.slice xa x.txns.length xcap) x.txns.length (txC x.txns).flatten → w'.ownsRow (w.heap.size + 1) 71 2 (.slice xb x.dirty.length xcap2) x.dirty.length (dyC x.dirty).flatten → w'.grownBy W9 (some w.heap.size) → Below w.heap.size w W9 → GetA (x, n, 0) w (.returned (.tuple #[.agg (rcC x (.slice xa x.txns.length xcap) (.slice xb x.dirty.length xcap2)), .int .i64 n, .int .i64 0])) W9) := by
        show ∀ _, _
        intro w' W9 n _ h1 h2 h3 h4
        have k1 := h1.kept h3 (.inr fun e => by have := (h1.lt _ e).1; omega)
        have k2 := h2.kept h3 (.inr fun e => by have := (h2.lt _ e).1; omega)
        exact ⟨_, _, rfl, ElAt.owned (txC_each _) (by rw [txC_len]; exact k1) (by rw [txC_len]; exact Nat.le_trans htl (by omega)), ElAt.owned (dyC_each _) (by rw [dyC_len]; exact k2) (by rw [dyC_len]; exact Nat.le_trans hdl (by omega)), h4⟩
      have HLN := Lib.hid (fun h => (right_len (r := x) h).2)
      obtain ⟨rb, hrb⟩ : ∃ b, rightR x = b := ⟨_, rfl⟩
      rw [hrb] at HB HR2 HB2 HLN
      obtain ⟨bx, hbx⟩ : ∃ b, bodyL x = b := ⟨_, rfl⟩
      rw [hbx] at HB HB2 HLN
      have HVT := Lib.hid hvt
      have HVD := Lib.hid hvd
      have HO1 := Lib.hid hown1
      have HO2 := Lib.hid hown2
      obtain ⟨n1, hn1⟩ : ∃ n, x.txns.length = n := ⟨_, rfl⟩
      obtain ⟨n2, hn2⟩ : ∃ n, x.dirty.length = n := ⟨_, rfl⟩
      rw [hn1] at HR2 HB2 HFX HVT HO1
      rw [hn2] at HR2 HB2 HFX HVD HO2
      rw [hn1, hn2]
      clear hrb hbx hvt hvd hown1 hown2 hxt htl hdl hn1 hn2
      obtain ⟨X, hX⟩ : ∃ X, X = x := ⟨_, rfl⟩
      rw [← hX] at HB
      rw [← hX] at HVT HVD HO1 HO2
      have HXX : Hid ((X, (a : Int) + 8 + (n : Nat), (0 : Int)) = (x, (a : Int) + 8 + (n : Nat), 0)) := by show _ = _; rw [hX]
      have HVT2 : Hid (∀ W, Below w4.heap.size w4 W → ElAt W 4 (.slice xa n1 xcap) (txC x.txns)) := fun W h => hX ▸ HVT.out.below h
      have HVD2 : Hid (∀ W, Below w4.heap.size w4 W → ElAt W 2 (.slice xb n2 xcap2) (dyC x.dirty)) := fun W h => hX ▸ HVD.out.below h
      have HO : Hid (∀ W, Below w4.heap.size w4 W → W.ownsRow (w.heap.size + 1) 67 4 (.slice xa n1 xcap) n1 (txC x.txns).flatten ∧ W.ownsRow (w.heap.size + 1) 71 2 (.slice xb n2 xcap2) n2 (dyC x.dirty).flatten) := fun W h => hX ▸ ⟨ownsRow_below HO1.out h, ownsRow_below HO2.out h⟩
      clear hX HVT HVD HO1 HO2
      obtain ⟨lsn, prev, txn, kind, page, next, num, ok, os, old, new, how, root, key, rp, rs, txns, dirty⟩ := x
      simp only [rcC] at HR2 HB2 HFX ⊢
      obtain ⟨s1, e1⟩ : ∃ x, S old = x := ⟨_, rfl⟩
      obtain ⟨s2', e2⟩ : ∃ x, S new = x := ⟨_, rfl⟩
      obtain ⟨s3, e3⟩ : ∃ x, S key = x := ⟨_, rfl⟩
      simp only [e1, e2, e3] at HR2 HB2 HFX ⊢
      clear e1 e2 e3
      replace HR2 := Lib.hid HR2
      replace HB2 := Lib.hid HB2
      have hXC := Blk.new w4 #[.int .i64 lsn, .int .i64 prev, .int .i64 txn, .int .i64 kind, .int .i64 page, .int .i64 next, .int .i64 num, .int .i64 ok, .int .i64 os, .string s1, .string s2', .int .i64 how, .int .i64 root, .string s3, .int .i64 rp, .int .i64 rs, .slice xa n1 xcap, .slice xb n2 xcap2] 31
      have hb5 := (Below.refl w4.heap.size w4).alloc (Nat.le_refl _) (.cells #[.int .i64 lsn, .int .i64 prev, .int .i64 txn, .int .i64 kind, .int .i64 page, .int .i64 next, .int .i64 num, .int .i64 ok, .int .i64 os, .string s1, .string s2', .int .i64 how, .int .i64 root, .string s3, .int .i64 rp, .int .i64 rs, .slice xa n1 xcap, .slice xb n2 xcap2] 31)
      have hres5 := hres4.alloc (.cells #[.int .i64 lsn, .int .i64 prev, .int .i64 txn, .int .i64 kind, .int .i64 page, .int .i64 next, .int .i64 num, .int .i64 ok, .int .i64 os, .string s1, .string s2', .int .i64 how, .int .i64 root, .string s3, .int .i64 rp, .int .i64 rs, .slice xa n1 xcap, .slice xb n2 xcap2] 31)
      have hw5 := hw4.alloc hw4.size (.cells #[.int .i64 lsn, .int .i64 prev, .int .i64 txn, .int .i64 kind, .int .i64 page, .int .i64 next, .int .i64 num, .int .i64 ok, .int .i64 os, .string s1, .string s2', .int .i64 how, .int .i64 root, .string s3, .int .i64 rp, .int .i64 rs, .slice xa n1 xcap, .slice xb n2 xcap2] 31)
      have hne : w.heap.size < w4.heap.size := hres4.lt
      clear hres4 hw4
      go_wp2_with (first | (with_reducible refine wpList_load18 hXC (by kernel_rfl) _ rfl rfl ?_))
      refine (HR2.out _ (HVT2.out _ hb5) (HVD2.out _ hb5)).mono ?_
      rintro e w6 ⟨rfl, hb6⟩
      have hXC6 := hXC.below hb6
      have hres6 := hres5.below hb6
      have hw6 := hw5.next hb6
      have hbb6 := hb5.next hb6
      clear hXC hres5 hw5 hb5 hb6 HR2
      cases rb with
      | false =>
        have hqv : (zeroR, 0, 2) = q := by rw [HB.out]; simp
        subst hqv
        go_wp2_with (first | ((with_reducible refine wpList_store18 hres6 (by kernel_rfl) (by kernel_rfl) (by kernel_rfl) rfl _ _ rfl rfl rfl ?_); intro W9 hW9 hgr9))
        have HV := rec_val hW9 rfl
        refine bodyPost_ret (v := .tuple #[.agg zs18, .int .i64 0, .int .i64 2]) ?_ rfl (getA_zero 0 2 (Below.ofGrown hw6 hgr9 (Nat.le_refl _) hw6.size))
        simp [results, Try.results11, asAddr, Act.put, HV]
        rfl
      | true =>
        go_wp2_with (first | (with_reducible refine wpList_load18 hXC6 (by kernel_rfl) _ rfl rfl ?_))
        refine (HB2.out _ (HVT2.out _ hbb6) (HVD2.out _ hbb6) (by first | rfl | trivial)).mono ?_
        rintro e w7 ⟨rfl, hb7⟩
        have hXC7 := hXC6.below hb7
        have hres7 := hres6.below hb7
        have hw7 := hw6.next hb7
        have hbb7 := hbb6.next hb7
        clear hXC6 hres6 hw6 hbb6 hb7 HB2
        by_cases hcmp : bx = bl
        · have hqv : (X, (a : Int) + 8 + (n : Nat), (0 : Int)) = q := by rw [HB.out]; simp [hcmp]
          have hsx : S bx = sb := by rw [hcmp]; exact HSB.out
          rw [hsx]
          clear HB hcmp hsx
          have HOO := Lib.hid (HO.out _ hbb7)
          clear HO HVT2 HVD2
          go_wp2_with (first | (with_reducible refine wpList_load18 hXC7 (by kernel_rfl) _ rfl rfl ?_) | ((with_reducible refine wpList_store18 hres7 (by kernel_rfl) (by kernel_rfl) (by kernel_rfl) rfl _ _ rfl rfl rfl ?_); intro W9 hW9 hgr9))
          have HV := rec_val hW9 rfl
          have hfin := HFX.out _ _ ((a : Int) + 8 + (n : Nat)) hw7.size HOO.out.1 HOO.out.2 hgr9 (Below.ofGrown hw7 hgr9 (Nat.le_refl _) hw7.size)
          rw [← HXX.out, hqv] at hfin
          refine bodyPost_ret (v := .tuple #[.agg #[.int .i64 lsn, .int .i64 prev, .int .i64 txn, .int .i64 kind, .int .i64 page, .int .i64 next, .int .i64 num, .int .i64 ok, .int .i64 os, .string s1, .string s2', .int .i64 how, .int .i64 root, .string s3, .int .i64 rp, .int .i64 rs, .slice xa n1 xcap, .slice xb n2 xcap2], .int .i64 ((a : Int) + 8 + (n : Nat)), .int .i64 0]) ?_ rfl hfin
          simp [results, Try.results11, asAddr, Act.put, HV]
        · have hqv : (zeroR, 0, 2) = q := by rw [HB.out]; simp [hcmp]
          subst hqv
          have hns : ¬ (S bx).toList = sb.toList := by
            intro e
            rw [ByteArray.toList_eq, ByteArray.toList_eq, ← HSB.out, S_data, S_data] at e
            exact hcmp e
          obtain ⟨sx, hsx⟩ : ∃ s, S bx = s := ⟨_, rfl⟩
          rw [hsx] at hns ⊢
          have hns2 : (sx.toList != sb.toList) = true := by simp [hns]
          have hns3 : (sx.toList == sb.toList) = false := by simp [hns]
          have hns4 : ¬ sx = sb := fun e => hns (by rw [e])
          have hns7 : decide (sx = sb) = false := by simp [hns4]
          clear hsx hcmp HB
          go_wp2_with (first | ((with_reducible refine wpList_store18 hres7 (by kernel_rfl) (by kernel_rfl) (by kernel_rfl) rfl _ _ rfl rfl rfl ?_); intro W9 hW9 hgr9))
          have HV := rec_val hW9 rfl
          refine bodyPost_ret (v := .tuple #[.agg zs18, .int .i64 0, .int .i64 2]) ?_ rfl (getA_zero 0 2 (Below.ofGrown hw7 hgr9 (Nat.le_refl _) hw7.size))
          simp [results, Try.results11, asAddr, Act.put, HV]
          rfl
    · obtain rfl : (zeroR, 0, 19) = q := by rw [HB.out, if_pos (by simpa using hsum)]
      rw [if_neg hsum] at HOP
      simp only at HOP
      rw [show S [] = ⟨#[]⟩ from rfl] at HOP
      clear hsum HB
      go_wp2_with (go_at_call 24; rw [hx4.out])
      refine (HOP.out _).mono ?_
      rintro e w2 ⟨rfl, hb2⟩
      have hres2 := hres1.below hb2
      have hw2 := hw1.next hb2
      clear hres1 hb2 HOP hw1 hx4
      go_wp2_with (first | ((with_reducible refine wpList_store18 hres2 (by kernel_rfl) (by kernel_rfl) (by kernel_rfl) rfl _ _ rfl rfl rfl ?_); intro W9 hW9 hgr9))
      have HV := rec_val hW9 rfl
      refine bodyPost_ret (v := .tuple #[.agg zs18, .int .i64 0, .int .i64 19]) ?_ rfl (getA_zero 0 19 (Below.ofGrown hw2 hgr9 (Nat.le_refl _) hw2.size))
      simp [results, Try.results11, asAddr, Act.put, HV]
      rfl
theorem recget_any (l : List UInt8) (at_ : Int) (w : World) (hl : l.length ≤ 1000000) : Calls Try.prog 11 #[.string (S l), .int .i64 at_] w (GetA (getF l at_) w) := by
  by_cases h : at_ < 0 ∨ (l.length : Int) < at_
  · exact recget_out l at_ w hl h
  · obtain ⟨a, rfl⟩ := Int.eq_ofNat_of_zero_le (show 0 ≤ at_ by omega)
    show Calls _ _ _ _ (GetA (getF l ((a : Nat) : Int)) w)
    rw [getF_in l a (by omega)]
    exact recget_in l a w hl (by omega)
end Go.Proofs.Ytloengjcniefgaa.Rec
