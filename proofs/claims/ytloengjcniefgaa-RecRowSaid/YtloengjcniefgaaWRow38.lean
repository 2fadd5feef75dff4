/- The walk of RecRow. -/
import Derived.Test.YtloengjcniefgaaRecA
import Derived.Test.YtloengjcniefgaaRecZ
import Derived.Test.YtloengjcniefgaaKitA
import Derived.Test.YtloengjcniefgaaOpenRec
import Derived.Test.YtloengjcniefgaaWBck38
import Derived.Deep.RegionLaw
namespace Go.Proofs.Ytloengjcniefgaa.Rec
set_option linter.unusedVariables false
set_option linter.unusedSimpArgs false
open Go.RowKit
open Oct (S beN putL U I getI sumN S_size S_data)
abbrev RV := Rc × Value × Value
def flatR (l : List RV) : List UInt8 := (l.map fun x => recL x.1).flatten
theorem flatR_step (l : List RV) (j : Nat) (h : j < l.length) : flatR (l.take (j + 1)) = flatR (l.take j) ++ recL l[j].1 := by
  simp only [flatR, List.take_succ_eq_append_getElem h, List.map_append, List.flatten_append, List.map_cons, List.map_nil, List.flatten_cons, List.flatten_nil, List.append_nil]
theorem flatR_cut (l : List RV) (j : Nat) (h : j < l.length) : flatR l = flatR (l.take j) ++ recL l[j].1 ++ flatR (l.drop (j + 1)) := by
  rw [← flatR_step l j h, flatR, flatR, flatR, ← List.flatten_append, ← List.map_append, List.take_append_drop]
theorem flatR_len (l : List RV) (h : ∀ x ∈ l, rightR x.1 = true) : (flatR l).length ≤ 40008 * l.length := by
  induction l with
  | nil => simp [flatR]
  | cons x l ih =>
    have h1 := ih fun y hy => h y (List.mem_cons_of_mem _ hy)
    have h2 := (right_len (h x (List.mem_cons_self ..))).2
    have h3 := recL_len x.1
    have h4 : flatR (x :: l) = recL x.1 ++ flatR l := by simp [flatR]
    rw [h4, List.length_append, List.length_cons]
    omega
theorem S_app (a b : List UInt8) : S a ++ S b = S (a ++ b) := by
  apply ByteArray.ext
  apply Array.toList_inj.1
  simp [S]
/-- A record that lies in a list is loaded. -/
theorem wpList_load18m {ops : Array Oper} {rest : List Oper} {op : Oper} {a : Act} {W : World} {Q : Exit → Act → World → Prop} {b off : Nat} {x0 x1 x2 x3 x4 x5 x6 x7 x8 x9 x10 x11 x12 x13 x14 x15 x16 x17 : Value} (h : W.rangeAt b off [x0, x1, x2, x3, x4, x5, x6, x7, x8, x9, x10, x11, x12, x13, x14, x15, x16, x17])
    (hw : Region.wanted op (yielded ops a.tmps) = true) (x : Operand) (ho : op.op = .load 31 x) (hx : a.eval x = .pointer (some ⟨b, off, none⟩))
    (hn : wpList Try.prog ops Q rest (a.put op.dst (.agg #[x0, x1, x2, x3, x4, x5, x6, x7, x8, x9, x10, x11, x12, x13, x14, x15, x16, x17])) W) : wpList Try.prog ops Q (op :: rest) a W := by
  refine wpList_step fun K hK => ?_
  rw [if_pos hw]
  exact wp_load_mid 31 x ho b off hx [x0, x1, x2, x3, x4, x5, x6, x7, x8, x9, x10, x11, x12, x13, x14, x15, x16, x17] _ h Try.underlying31 rfl size_rec (hK _ _ hn)
/-- What comes behind a region is hidden while one walks it by hand. -/
theorem wp_hide {P : Program} {c : Code} {Q : Exit → Act → World → Prop} {a : Act} {w : World} (hp : ∀ e a (d : Tmp) v w, Q (.panic e) (a.put (some d) v) w → Q (.panic e) a w)
    (h : ∀ Q0 : Exit → Act → World → Prop, (∀ e a (d : Tmp) v w, Q0 (.panic e) (a.put (some d) v) w → Q0 (.panic e) a w) → (∀ e a w, Q e a w → Q0 e a w) → Code.wp P c Q0 a w) : Code.wp P c Q a w := h Q hp (fun _ _ _ h => h)
theorem any_load18 {ops : Array Oper} {o : Oper} {a : Act} {W : World} {K : Act → World → Prop} {Q : Exit → Act → World → Prop} {b off : Nat} {x0 x1 x2 x3 x4 x5 x6 x7 x8 x9 x10 x11 x12 x13 x14 x15 x16 x17 : Value} (h : W.rangeAt b off [x0, x1, x2, x3, x4, x5, x6, x7, x8, x9, x10, x11, x12, x13, x14, x15, x16, x17])
    (hw : Region.wanted o (yielded ops a.tmps) = true) (x : Operand) (ho : o.op = .load 31 x) (hx : a.eval x = .pointer (some ⟨b, off, none⟩))
    (hn : K (a.put o.dst (.agg #[x0, x1, x2, x3, x4, x5, x6, x7, x8, x9, x10, x11, x12, x13, x14, x15, x16, x17])) W) : if Region.wanted o (yielded ops a.tmps) = true then Oper.wp Try.prog o a W K Q else K (a.put o.dst undef) W := by
  rw [if_pos hw]
  exact wp_load_mid 31 x ho b off hx [x0, x1, x2, x3, x4, x5, x6, x7, x8, x9, x10, x11, x12, x13, x14, x15, x16, x17] _ h Try.underlying31 rfl size_rec hn
theorem range_below {w w1 : World} {b o : Nat} {cs : List Value} (h : w.rangeAt b o cs) (hlt : b < w.heap.size) (hb : Below w.heap.size w w1) : w1.rangeAt b o cs := fun j v hv => (hb.cell (p := ⟨b, o + j, none⟩) hlt).trans (h j v hv)
set_option maxHeartbeats 8000000 in
set_option maxRecDepth 100000 in
theorem walk_RecRow (l : List RV) (av : Value) (w : World) (hok : ∀ x ∈ l, RecOk w x) (hA : ElAt w 18 av (l.map fun x => (rcC x.1 x.2.1 x.2.2).toList)) :
    Calls Try.prog 6 #[av] w (Ret (.bool true) w) := by
  have HA := Lib.hid (fun W => awake_any W)
  obtain ⟨ao, cap, hav⟩ := hA.nil
  rw [List.length_map] at hav
  have hsm := hA.small
  rw [List.length_map] at hsm
  obtain ⟨m, hm⟩ : ∃ m, l.length = m := ⟨_, rfl⟩
  rw [hm] at hav hsm
  have HM := Lib.hid hm
  have HEL := Lib.hid hA
  have HOK := Lib.hid hok
  subst hav
  clear hA hok hm
  have hb := Below.refl w.heap.size w
  by_cases h20 : (20 : Int) < (m : Int)
  · go_enter Try.func6, Try.ntmps6
    go_wp2_with fail
    refine (HA.out _).mono ?_
    rintro e w9 ⟨rfl, hb9⟩
    go_wp2_with fail
    go_ret
    exact ⟨rfl, hb.next hb9⟩
  go_enter Try.func6, Try.ntmps6
  go_wp2_with fail
  go_loopw [3, 4] (fun alv iv wr => ∃ j : Nat, j ≤ m ∧ iv = .int .i64 (j : Int) ∧ alv = .string (S (flatR (l.take j))) ∧ Below w.heap.size w wr ∧ Hid (∀ x ∈ l.take j, rightR x.1 = true)) (fun _ iv _ => m - (intOf iv).toNat)
  case atStart => exact ⟨0, Nat.zero_le _, rfl, rfl, hb, fun x hx => by simp at hx⟩
  case round =>
    clear hb
    obtain ⟨j, hj, rfl, rfl, hb, HR⟩ := hrel
    have hflat := flatR_len _ HR.out
    rw [List.length_take] at hflat
    have hflz : (S (flatR (l.take j))).size = (flatR (l.take j)).length := S_size _
    by_cases hjm : j < m
    · have hjl : j < l.length := by have := HM.out; omega
      obtain ⟨bb, off, c1, hv1, hbb, hc⟩ := HEL.out.get j (by rw [List.length_map]; exact hjl)
      rw [List.length_map, HM.out] at hv1
      injection hv1 with e1 _ e3
      subst e1 e3
      rw [List.getElem_map] at hc
      have hst := flatR_step l j hjl
      have HRN : Hid (rightR l[j].1 = true → ∀ x ∈ l.take (j + 1), rightR x.1 = true) := fun h x hx => by
        rw [List.take_succ_eq_append_getElem hjl] at hx
        rcases List.mem_append.1 hx with h1 | h1
        · exact HR.out x h1
        · obtain rfl := List.mem_singleton.1 h1
          exact h
      have hokj := HOK.out l[j] (List.getElem_mem hjl)
      obtain ⟨AL, hAL⟩ : ∃ AL, flatR (l.take j) = AL := ⟨_, rfl⟩
      rw [hAL] at hst hflat hflz
      rw [hAL]
      obtain ⟨⟨r, vt, vd⟩, hq⟩ : ∃ q, l[j] = q := ⟨_, rfl⟩
      rw [hq] at hc hst HRN hokj
      obtain ⟨ht, hd⟩ := hokj
      simp only at hc hst HRN ht hd
      clear hq hAL hjl
      have HSR := Lib.hid (fun W h1 h2 => small_any r vt vd W h1 h2)
      have HPR := Lib.hid (fun W h1 h2 h3 h4 => recput_any r vt vd W h1 h2 h3 h4)
      have HRR := Lib.hid (fun W h1 h2 h3 h4 => right_any r vt vd W h1 h2 h3 h4)
      have HSMR : Hid (smallB r = true → r.txns.length ≤ 100000 ∧ r.dirty.length ≤ 100000) := fun h => by simp [smallB] at h; omega
      obtain ⟨x0, x1, x2, x3, x4, x5, x6, x7, x8, x9, x10, x11, x12, x13, x14, x15, x16, x17, hX⟩ := name18 r vt vd
      rw [hX] at HSR HPR HRR hc
      clear hX
      have hrg : wr.rangeAt bb (off + j * 18) [x0, x1, x2, x3, x4, x5, x6, x7, x8, x9, x10, x11, x12, x13, x14, x15, x16, x17] := range_below hc hbb hb
      have hbbr : bb < wr.heap.size := Nat.lt_of_lt_of_le hbb hb.size
      have HT := Lib.hid (ht.below hb)
      have HD := Lib.hid (hd.below hb)
      have HST := Lib.hid hst
      clear hc hst ht hd
      have hjI : (j : Int) < (m : Int) := by omega
      go_wp2_with (first | (with_reducible refine wpList_load18m hrg (by kernel_rfl) _ rfl rfl ?_))
      refine (HSR.out _ HT.out HD.out).mono ?_
      rintro e w1 ⟨rfl, hb1⟩
      replace hrg := range_below hrg hbbr hb1
      replace hbbr : bb < w1.heap.size := Nat.lt_of_lt_of_le hbbr hb1.size
      replace hb := hb.next hb1
      replace HT := Lib.hid (HT.out.below hb1)
      replace HD := Lib.hid (HD.out.below hb1)
      clear hb1 HSR
      cases hsr : smallB r with
      | false =>
        go_wp2_with fail
        refine (HA.out _).mono ?_
        rintro e w9 ⟨rfl, hb9⟩
        go_wp2_with fail
        go_ret
        exact ⟨rfl, hb.next hb9⟩
      | true =>
        have hsr2 := HSMR.out hsr
        clear hsr HSMR
        have HRR2 := Lib.hid (HRR.out w1 HT.out HD.out hsr2.1 hsr2.2)
        have HPR2 := Lib.hid (fun W h1 h2 => HPR.out W h1 h2 hsr2.1 hsr2.2)
        clear HPR HRR hsr2
        go_wp2_with (first | (with_reducible refine wpList_load18m hrg (by kernel_rfl) _ rfl rfl ?_))
        refine HRR2.out.mono ?_
        rintro e w2 ⟨rfl, hb1⟩
        replace hrg := range_below hrg hbbr hb1
        replace hbbr : bb < w2.heap.size := Nat.lt_of_lt_of_le hbbr hb1.size
        replace hb := hb.next hb1
        replace HT := Lib.hid (HT.out.below hb1)
        replace HD := Lib.hid (HD.out.below hb1)
        clear hb1 HRR2
        cases hrr : rightR r with
        | false =>
          go_wp2_with fail
          refine (HA.out _).mono ?_
          rintro e w9 ⟨rfl, hb9⟩
          go_wp2_with fail
          go_ret
          exact ⟨rfl, hb.next hb9⟩
        | true =>
          rw [put_right hrr] at HPR2
          simp only at HPR2
          have hlen := (right_len hrr).2
          have hrl := recL_len r
          have HX : Hid (∀ x ∈ l.take (j + 1), rightR x.1 = true) := HRN.out hrr
          obtain ⟨L, hL⟩ : ∃ L, recL r = L := ⟨_, rfl⟩
          rw [hL] at HPR2 HST hrl
          have hzL : (S L).size = L.length := S_size _
          have HAP : Hid (S AL ++ S L = S (flatR (l.take (j + 1)))) := by show _ = _; rw [S_app, HST.out]
          obtain ⟨sL, hsL⟩ : ∃ x, S L = x := ⟨_, rfl⟩
          obtain ⟨sA, hsA⟩ : ∃ x, S AL = x := ⟨_, rfl⟩
          rw [hsL] at HPR2 HAP hzL
          rw [hsA] at HAP hflz
          rw [hsA]
          have hzz : sA.size + sL.size ≤ 9223372036854775807 := by omega
          clear hrr hlen hrl hL hsL hsA hzL hflz hflat HRN HST
          go_wp2_with (first | (with_reducible refine wpList_load18m hrg (by kernel_rfl) _ rfl rfl ?_))
          refine (HPR2.out _ HT.out HD.out).mono ?_
          rintro e w3 ⟨rfl, hb1⟩
          replace hb := hb.next hb1
          clear hb1 HPR2 HT HD hrg hbbr
          go_wp2_with ((with_reducible refine wpList_concat _ ?_); refine ⟨_, _, rfl, rfl, hzz, ?_⟩; rw [HAP.out])
          go_roundw
          case rel => exact ⟨j + 1, by omega, by go_num, rfl, hb, HX⟩
          case measure => simp [intOf]; omega
    · have hjn : j = m := by omega
      subst hjn
      have htk : l.take j = l := List.take_of_length_le (by have := HM.out; omega)
      rw [htk] at HR hflat hflz
      rw [htk]
      clear htk hjm
      have hfl : (flatR l).length ≤ 1000000 := by omega
      have HFL := Lib.hid hfl
      have HFZ := Lib.hid (S_size (flatR l))
      obtain ⟨sl, hsl⟩ : ∃ x, S (flatR l) = x := ⟨_, rfl⟩
      have HSL := Lib.hid hsl
      rw [hsl]
      clear hflat hfl hflz hsl
      go_wp2_with fail
      go_loopw [7, 8] (fun atv iv wr => ∃ k : Nat, k ≤ j ∧ iv = .int .i64 (k : Int) ∧ atv = .int .i64 ((flatR (l.take k)).length : Int) ∧ Below w.heap.size w wr) (fun _ iv _ => j - (intOf iv).toNat)
      case atStart => exact ⟨0, Nat.zero_le _, rfl, rfl, hb⟩
      case round =>
        clear hb
        obtain ⟨k, hk, rfl, rfl, hb⟩ := hrel
        by_cases hkm : k < j
        · have hkl : k < l.length := by have := HM.out; omega
          obtain ⟨bb, off, c1, hv1, hbb, hc⟩ := HEL.out.get k (by rw [List.length_map]; exact hkl)
          rw [List.length_map, HM.out] at hv1
          injection hv1 with e1 _ e3
          subst e1 e3
          rw [List.getElem_map] at hc
          have hst := flatR_step l k hkl
          have hct := flatR_cut l k hkl
          have hrr := HR.out l[k] (List.getElem_mem hkl)
          have hokj := HOK.out l[k] (List.getElem_mem hkl)
          obtain ⟨⟨r, vt, vd⟩, hq⟩ : ∃ q, l[k] = q := ⟨_, rfl⟩
          rw [hq] at hc hst hct hrr hokj
          obtain ⟨ht, hd⟩ := hokj
          simp only at hc hst hct hrr ht hd
          clear hq hkl
          have hlen := (right_len hrr).2
          have hgp := get_put r (flatR (l.take k)) (flatR (l.drop (k + 1))) hrr hlen
          rw [← hct] at hgp
          have hrk := right_kind hrr
          have HG := Lib.hid (fun W => recget_any (flatR l) ((flatR (l.take k)).length : Nat) W HFL.out)
          rw [hgp, HSL.out] at HG
          have hnx : ((flatR (l.take k)).length : Int) + ((recL r).length : Int) = ((flatR (l.take (k + 1))).length : Int) := by rw [hst, List.length_append]; omega
          have hp8 : ((flatR (l.take k)).length : Int) + 8 ≤ ((flatR (l.take (k + 1))).length : Int) := by rw [← hnx, recL_len]; omega
          rw [hnx] at HG
          have HSX := Lib.hid (fun W va vb h1 h2 h3 h4 => same_any r r va vb vt vd W h1 h2 h3 h4 (Nat.le_trans hrk.2.1 (by omega)) (Nat.le_trans hrk.2.2 (by omega)))
          obtain ⟨p, hp⟩ : ∃ p, (flatR (l.take k)).length = p := ⟨_, rfl⟩
          obtain ⟨n, hn⟩ : ∃ n, (flatR (l.take (k + 1))).length = n := ⟨_, rfl⟩
          rw [hp, hn] at HG hp8
          rw [hp]
          have HN := Lib.hid hn
          clear hst hct hrr hlen hgp hnx hp hn hrk
          obtain ⟨x0, x1, x2, x3, x4, x5, x6, x7, x8, x9, x10, x11, x12, x13, x14, x15, x16, x17, hX⟩ := name18 r vt vd
          rw [hX] at HSX hc
          clear hX
          have hrg : wr.rangeAt bb (off + k * 18) [x0, x1, x2, x3, x4, x5, x6, x7, x8, x9, x10, x11, x12, x13, x14, x15, x16, x17] := range_below hc hbb hb
          have hbbr : bb < wr.heap.size := Nat.lt_of_lt_of_le hbb hb.size
          have HT := Lib.hid (ht.below hb)
          have HD := Lib.hid (hd.below hb)
          clear hc ht hd
          have hkI : (k : Int) < (j : Int) := by omega
          go_wp2_with fail
          refine (HG.out _).mono ?_
          rintro e w6 ⟨v1, v2, rfl, k1, k2, hb1⟩
          replace hrg := range_below hrg hbbr hb1
          replace hbbr : bb < w6.heap.size := Nat.lt_of_lt_of_le hbbr hb1.size
          replace hb := hb.next hb1
          replace HT := Lib.hid (HT.out.below hb1)
          replace HD := Lib.hid (HD.out.below hb1)
          clear hb1 HG
          obtain ⟨ya, ycap, rfl⟩ := k1.nil
          obtain ⟨yb, ycap2, rfl⟩ := k2.nil
          dsimp only at k1 k2 ⊢
          have hone : (rcC r (.slice ya (txC r.txns).length ycap) (.slice yb (dyC r.dirty).length ycap2)).all (·.oneCell') = true := by simp [rcC, Value.oneCell']
          replace HSX := fun W h1 h2 h3 h4 => HSX.out W (.slice ya (txC r.txns).length ycap) (.slice yb (dyC r.dirty).length ycap2) h1 h2 h3 h4
          obtain ⟨u0, u1, u2, u3, u4, u5, u6, u7, u8, u9, u10, u11, u12, u13, u14, u15, u16, u17, hU⟩ := name18 r (.slice ya (txC r.txns).length ycap) (.slice yb (dyC r.dirty).length ycap2)
          rw [hU] at hone HSX ⊢
          clear hU
          simp only [decide_true] at HSX
          replace HSX := Lib.hid HSX
          replace k1 := Lib.hid k1
          replace k2 := Lib.hid k2
          go_upto_region 16 with (first | ((with_reducible refine wpList_store18 (Blk.new _ #[.int .i64 0, .int .i64 0, .int .i64 0, .int .i64 0, .int .i64 0, .int .i64 0, .int .i64 0, .int .i64 0, .int .i64 0, .string ⟨#[]⟩, .string ⟨#[]⟩, .int .i64 0, .int .i64 0, .string ⟨#[]⟩, .int .i64 0, .int .i64 0, .slice none 0 0, .slice none 0 0] 31) (by kernel_rfl) (by kernel_rfl) hone rfl _ _ rfl rfl rfl ?_); intro W7 hX7 hg7))
          have hbx := alloc_store hg7
          replace hrg := range_below hrg hbbr hbx
          replace hbbr : bb < W7.heap.size := Nat.lt_of_lt_of_le hbbr hbx.size
          replace hb := hb.next hbx
          replace HT := Lib.hid (HT.out.below hbx)
          replace HD := Lib.hid (HD.out.below hbx)
          replace k1 := Lib.hid (k1.out.below hbx)
          replace k2 := Lib.hid (k2.out.below hbx)
          have hrx : W7.rangeAt w6.heap.size 0 [u0, u1, u2, u3, u4, u5, u6, u7, u8, u9, u10, u11, u12, u13, u14, u15, u16, u17] := fun j v hj => by rw [Nat.zero_add]; exact hX7.cell j (by simpa using hj)
          clear hg7 hone hbx hX7
          have hpn : ((n : Int) ≤ (p : Int)) = False := by simp; omega
          have hdr : Below W7.heap.size W7 W7.drew := (Below.refl W7.heap.size W7).drew
          replace hrx : W7.drew.rangeAt w6.heap.size 0 [u0, u1, u2, u3, u4, u5, u6, u7, u8, u9, u10, u11, u12, u13, u14, u15, u16, u17] := hrx
          replace hrg : W7.drew.rangeAt bb (off + k * 18) [x0, x1, x2, x3, x4, x5, x6, x7, x8, x9, x10, x11, x12, x13, x14, x15, x16, x17] := hrg
          replace hb := hb.next hdr
          replace HT := Lib.hid (HT.out.below hdr)
          replace HD := Lib.hid (HD.out.below hdr)
          replace k1 := Lib.hid (k1.out.below hdr)
          replace k2 := Lib.hid (k2.out.below hdr)
          clear hdr hbbr
          refine wp_hide (fun _ _ _ _ _ h => h) (fun Q0 hQp hQ => ?_)
          replace hQ := Lib.hid hQ
          refine wp_region_any (by kernel_rfl) ?_
          change wpAny _ _ _ _ 16 #[false, false, false, false, false, false, false, false, false, false, false, false, false, false, false, false] _ (World.drew _)
          refine wpAny_take (i := 0) (v := ?_) rfl (by kernel_rfl) (by kernel_rfl) (by kernel_rfl) (fun _ _ _ h => hQp _ _ _ _ _ h) (Or.inl ⟨by kernel_rfl, ?_⟩) ?_
          rotate_left
          · (intro w; go_simp) <;> with_reducible rfl
          simp only [List.getElem_toArray, List.getElem_cons_zero, List.getElem_cons_succ, Act.put, List.setIfInBounds_toArray, List.set_cons_zero, List.set_cons_succ]
          refine wpAny_take (i := 1) (v := ?_) rfl (by kernel_rfl) (by kernel_rfl) (by kernel_rfl) (fun _ _ _ h => hQp _ _ _ _ _ h) (Or.inl ⟨by kernel_rfl, ?_⟩) ?_
          rotate_left
          · (intro w; go_simp) <;> with_reducible rfl
          simp only [List.getElem_toArray, List.getElem_cons_zero, List.getElem_cons_succ, Act.put, List.setIfInBounds_toArray, List.set_cons_zero, List.set_cons_succ]
          refine wpAny_take (i := 2) (v := ?_) rfl (by kernel_rfl) (by kernel_rfl) (by kernel_rfl) (fun _ _ _ h => hQp _ _ _ _ _ h) (Or.inl ⟨by kernel_rfl, ?_⟩) ?_
          rotate_left
          · (intro w; go_simp) <;> with_reducible rfl
          simp only [List.getElem_toArray, List.getElem_cons_zero, List.getElem_cons_succ, Act.put, List.setIfInBounds_toArray, List.set_cons_zero, List.set_cons_succ]
          refine wpAny_take (i := 4) (v := ?_) rfl (by kernel_rfl) (by kernel_rfl) (by kernel_rfl) (fun _ _ _ h => hQp _ _ _ _ _ h) (Or.inl ⟨by kernel_rfl, ?_⟩) ?_
          rotate_left
          · (intro w; go_simp) <;> with_reducible rfl
          simp only [List.getElem_toArray, List.getElem_cons_zero, List.getElem_cons_succ, Act.put, List.setIfInBounds_toArray, List.set_cons_zero, List.set_cons_succ]
          refine wpAny_take (i := 5) (v := ?_) rfl (by kernel_rfl) (by kernel_rfl) (by kernel_rfl) (fun _ _ _ h => hQp _ _ _ _ _ h) (Or.inl ⟨by kernel_rfl, ?_⟩) ?_
          rotate_left
          · (intro w; go_simp) <;> with_reducible rfl
          simp only [List.getElem_toArray, List.getElem_cons_zero, List.getElem_cons_succ, Act.put, List.setIfInBounds_toArray, List.set_cons_zero, List.set_cons_succ]
          refine wpAny_take (i := 6) (v := ?_) rfl (by kernel_rfl) (by kernel_rfl) (by kernel_rfl) (fun _ _ _ h => hQp _ _ _ _ _ h) (Or.inl ⟨by kernel_rfl, ?_⟩) ?_
          rotate_left
          · (intro w; go_simp) <;> with_reducible rfl
          simp only [List.getElem_toArray, List.getElem_cons_zero, List.getElem_cons_succ, Act.put, List.setIfInBounds_toArray, List.set_cons_zero, List.set_cons_succ]
          refine wpAny_ready (rs := [3, 7]) (by kernel_rfl) (by simp) ?_
          refine AllReady.cons rfl (fun K hK => ?_) (AllReady.cons rfl (fun K hK => ?_) AllReady.nil)
          · with_reducible refine any_load18 hrx (by kernel_rfl) _ rfl rfl ?_
            refine hK _ _ ?_
            clear hK K
            simp only [List.getElem_toArray, List.getElem_cons_zero, List.getElem_cons_succ, Act.put, List.setIfInBounds_toArray, List.set_cons_zero, List.set_cons_succ]
            refine wpAny_ready (rs := [7]) (by kernel_rfl) (by simp) ?_
            refine AllReady.cons rfl (fun K hK => ?_) (AllReady.nil)
            with_reducible refine any_load18 hrg (by kernel_rfl) _ rfl rfl ?_
            refine hK _ _ ?_
            clear hK K
            simp only [List.getElem_toArray, List.getElem_cons_zero, List.getElem_cons_succ, Act.put, List.setIfInBounds_toArray, List.set_cons_zero, List.set_cons_succ]
            refine wpAny_ready (rs := [8]) (by kernel_rfl) (by simp) ?_
            refine AllReady.cons rfl (fun K hK => ?_) (AllReady.nil)
            go_simp
            go_at_call 15
            refine (HSX.out _ k1.out k2.out HT.out HD.out).mono ?_
            rintro e wP ⟨rfl, hbP⟩
            replace hb := hb.next hbP
            refine hK _ _ ?_
            clear hK K hbP hrg hrx k1 k2 HT HD HSX
            simp only [List.getElem_toArray, List.getElem_cons_zero, List.getElem_cons_succ, Act.put, List.setIfInBounds_toArray, List.set_cons_zero, List.set_cons_succ]
            refine wpAny_take (i := 9) (v := ?_) rfl (by kernel_rfl) (by kernel_rfl) (by kernel_rfl) (fun _ _ _ h => hQp _ _ _ _ _ h) (Or.inl ⟨by kernel_rfl, ?_⟩) ?_
            rotate_left
            · (intro w; go_simp) <;> with_reducible rfl
            simp only [List.getElem_toArray, List.getElem_cons_zero, List.getElem_cons_succ, Act.put, List.setIfInBounds_toArray, List.set_cons_zero, List.set_cons_succ]
            refine wpAny_take (i := 10) (v := ?_) rfl (by kernel_rfl) (by kernel_rfl) (by kernel_rfl) (fun _ _ _ h => hQp _ _ _ _ _ h) (Or.inl ⟨by kernel_rfl, ?_⟩) ?_
            rotate_left
            · (intro w; go_simp) <;> with_reducible rfl
            simp only [List.getElem_toArray, List.getElem_cons_zero, List.getElem_cons_succ, Act.put, List.setIfInBounds_toArray, List.set_cons_zero, List.set_cons_succ]
            refine wpAny_take (i := 11) (v := ?_) rfl (by kernel_rfl) (by kernel_rfl) (by kernel_rfl) (fun _ _ _ h => hQp _ _ _ _ _ h) (Or.inl ⟨by kernel_rfl, ?_⟩) ?_
            rotate_left
            · (intro w; go_simp) <;> with_reducible rfl
            simp only [List.getElem_toArray, List.getElem_cons_zero, List.getElem_cons_succ, Act.put, List.setIfInBounds_toArray, List.set_cons_zero, List.set_cons_succ]
            refine wpAny_take (i := 12) (v := ?_) rfl (by kernel_rfl) (by kernel_rfl) (by kernel_rfl) (fun _ _ _ h => hQp _ _ _ _ _ h) (Or.inl ⟨by kernel_rfl, ?_⟩) ?_
            rotate_left
            · (intro w; go_simp) <;> with_reducible rfl
            simp only [List.getElem_toArray, List.getElem_cons_zero, List.getElem_cons_succ, Act.put, List.setIfInBounds_toArray, List.set_cons_zero, List.set_cons_succ]
            refine wpAny_take (i := 13) (v := ?_) rfl (by kernel_rfl) (by kernel_rfl) (by kernel_rfl) (fun _ _ _ h => hQp _ _ _ _ _ h) (Or.inl ⟨by kernel_rfl, ?_⟩) ?_
            rotate_left
            · (intro w; go_simp) <;> with_reducible rfl
            simp only [List.getElem_toArray, List.getElem_cons_zero, List.getElem_cons_succ, Act.put, List.setIfInBounds_toArray, List.set_cons_zero, List.set_cons_succ]
            refine wpAny_take (i := 14) (v := ?_) rfl (by kernel_rfl) (by kernel_rfl) (by kernel_rfl) (fun _ _ _ h => hQp _ _ _ _ _ h) (Or.inl ⟨by kernel_rfl, ?_⟩) ?_
            rotate_left
            · (intro w; go_simp) <;> with_reducible rfl
            simp only [List.getElem_toArray, List.getElem_cons_zero, List.getElem_cons_succ, Act.put, List.setIfInBounds_toArray, List.set_cons_zero, List.set_cons_succ]
            refine wpAny_take (i := 15) (v := ?_) rfl (by kernel_rfl) (by kernel_rfl) (by kernel_rfl) (fun _ _ _ h => hQp _ _ _ _ _ h) (Or.inl ⟨by kernel_rfl, ?_⟩) ?_
            rotate_left
            · (intro w; go_simp) <;> with_reducible rfl
            simp only [List.getElem_toArray, List.getElem_cons_zero, List.getElem_cons_succ, Act.put, List.setIfInBounds_toArray, List.set_cons_zero, List.set_cons_succ]
            refine wpAny_done (by kernel_rfl) ?_ _
            refine hQ.out _ _ _ ?_
            clear hQ hQp
            go_wp2_with fail
            go_roundw
            case rel => exact ⟨k + 1, by omega, by go_num, by rw [HN.out], hb⟩
            case measure => simp [intOf]; omega
          · with_reducible refine any_load18 hrg (by kernel_rfl) _ rfl rfl ?_
            refine hK _ _ ?_
            clear hK K
            simp only [List.getElem_toArray, List.getElem_cons_zero, List.getElem_cons_succ, Act.put, List.setIfInBounds_toArray, List.set_cons_zero, List.set_cons_succ]
            refine wpAny_ready (rs := [3]) (by kernel_rfl) (by simp) ?_
            refine AllReady.cons rfl (fun K hK => ?_) (AllReady.nil)
            with_reducible refine any_load18 hrx (by kernel_rfl) _ rfl rfl ?_
            refine hK _ _ ?_
            clear hK K
            simp only [List.getElem_toArray, List.getElem_cons_zero, List.getElem_cons_succ, Act.put, List.setIfInBounds_toArray, List.set_cons_zero, List.set_cons_succ]
            refine wpAny_ready (rs := [8]) (by kernel_rfl) (by simp) ?_
            refine AllReady.cons rfl (fun K hK => ?_) (AllReady.nil)
            go_simp
            go_at_call 15
            refine (HSX.out _ k1.out k2.out HT.out HD.out).mono ?_
            rintro e wP ⟨rfl, hbP⟩
            replace hb := hb.next hbP
            refine hK _ _ ?_
            clear hK K hbP hrg hrx k1 k2 HT HD HSX
            simp only [List.getElem_toArray, List.getElem_cons_zero, List.getElem_cons_succ, Act.put, List.setIfInBounds_toArray, List.set_cons_zero, List.set_cons_succ]
            refine wpAny_take (i := 9) (v := ?_) rfl (by kernel_rfl) (by kernel_rfl) (by kernel_rfl) (fun _ _ _ h => hQp _ _ _ _ _ h) (Or.inl ⟨by kernel_rfl, ?_⟩) ?_
            rotate_left
            · (intro w; go_simp) <;> with_reducible rfl
            simp only [List.getElem_toArray, List.getElem_cons_zero, List.getElem_cons_succ, Act.put, List.setIfInBounds_toArray, List.set_cons_zero, List.set_cons_succ]
            refine wpAny_take (i := 10) (v := ?_) rfl (by kernel_rfl) (by kernel_rfl) (by kernel_rfl) (fun _ _ _ h => hQp _ _ _ _ _ h) (Or.inl ⟨by kernel_rfl, ?_⟩) ?_
            rotate_left
            · (intro w; go_simp) <;> with_reducible rfl
            simp only [List.getElem_toArray, List.getElem_cons_zero, List.getElem_cons_succ, Act.put, List.setIfInBounds_toArray, List.set_cons_zero, List.set_cons_succ]
            refine wpAny_take (i := 11) (v := ?_) rfl (by kernel_rfl) (by kernel_rfl) (by kernel_rfl) (fun _ _ _ h => hQp _ _ _ _ _ h) (Or.inl ⟨by kernel_rfl, ?_⟩) ?_
            rotate_left
            · (intro w; go_simp) <;> with_reducible rfl
            simp only [List.getElem_toArray, List.getElem_cons_zero, List.getElem_cons_succ, Act.put, List.setIfInBounds_toArray, List.set_cons_zero, List.set_cons_succ]
            refine wpAny_take (i := 12) (v := ?_) rfl (by kernel_rfl) (by kernel_rfl) (by kernel_rfl) (fun _ _ _ h => hQp _ _ _ _ _ h) (Or.inl ⟨by kernel_rfl, ?_⟩) ?_
            rotate_left
            · (intro w; go_simp) <;> with_reducible rfl
            simp only [List.getElem_toArray, List.getElem_cons_zero, List.getElem_cons_succ, Act.put, List.setIfInBounds_toArray, List.set_cons_zero, List.set_cons_succ]
            refine wpAny_take (i := 13) (v := ?_) rfl (by kernel_rfl) (by kernel_rfl) (by kernel_rfl) (fun _ _ _ h => hQp _ _ _ _ _ h) (Or.inl ⟨by kernel_rfl, ?_⟩) ?_
            rotate_left
            · (intro w; go_simp) <;> with_reducible rfl
            simp only [List.getElem_toArray, List.getElem_cons_zero, List.getElem_cons_succ, Act.put, List.setIfInBounds_toArray, List.set_cons_zero, List.set_cons_succ]
            refine wpAny_take (i := 14) (v := ?_) rfl (by kernel_rfl) (by kernel_rfl) (by kernel_rfl) (fun _ _ _ h => hQp _ _ _ _ _ h) (Or.inl ⟨by kernel_rfl, ?_⟩) ?_
            rotate_left
            · (intro w; go_simp) <;> with_reducible rfl
            simp only [List.getElem_toArray, List.getElem_cons_zero, List.getElem_cons_succ, Act.put, List.setIfInBounds_toArray, List.set_cons_zero, List.set_cons_succ]
            refine wpAny_take (i := 15) (v := ?_) rfl (by kernel_rfl) (by kernel_rfl) (by kernel_rfl) (fun _ _ _ h => hQp _ _ _ _ _ h) (Or.inl ⟨by kernel_rfl, ?_⟩) ?_
            rotate_left
            · (intro w; go_simp) <;> with_reducible rfl
            simp only [List.getElem_toArray, List.getElem_cons_zero, List.getElem_cons_succ, Act.put, List.setIfInBounds_toArray, List.set_cons_zero, List.set_cons_succ]
            refine wpAny_done (by kernel_rfl) ?_ _
            refine hQ.out _ _ _ ?_
            clear hQ hQp
            go_wp2_with fail
            go_roundw
            case rel => exact ⟨k + 1, by omega, by go_num, by rw [HN.out], hb⟩
            case measure => simp [intOf]; omega
        · have hkn : k = j := by omega
          subst hkn
          have htk : l.take k = l := List.take_of_length_le (by have := HM.out; omega)
          rw [htk]
          have HG := Lib.hid (fun W => recget_any (flatR l) ((flatR l).length : Nat) W HFL.out)
          rw [get_end, HSL.out] at HG
          have hzz := HFZ.out
          rw [HSL.out] at hzz
          rw [← hzz] at HG ⊢
          clear htk hkm hzz
          go_wp2_with fail
          refine (HG.out _).mono ?_
          rintro e w6 ⟨v1, v2, rfl, k1, k2, hb1⟩
          replace hb := hb.next hb1
          clear hb1 HG
          obtain ⟨ya, ycap, rfl⟩ := k1.nil
          obtain ⟨yb, ycap2, rfl⟩ := k2.nil
          clear k1 k2
          dsimp only
          have hone : (rcC zeroR (.slice ya (txC zeroR.txns).length ycap) (.slice yb (dyC zeroR.dirty).length ycap2)).all (·.oneCell') = true := by simp [rcC, Value.oneCell']
          obtain ⟨u0, u1, u2, u3, u4, u5, u6, u7, u8, u9, u10, u11, u12, u13, u14, u15, u16, u17, hU⟩ := name18 zeroR (.slice ya (txC zeroR.txns).length ycap) (.slice yb (dyC zeroR.dirty).length ycap2)
          rw [hU] at hone ⊢
          clear hU
          go_upto_region 20 with (first | ((with_reducible refine wpList_store18 (Blk.new _ #[.int .i64 0, .int .i64 0, .int .i64 0, .int .i64 0, .int .i64 0, .int .i64 0, .int .i64 0, .int .i64 0, .int .i64 0, .string ⟨#[]⟩, .string ⟨#[]⟩, .int .i64 0, .int .i64 0, .string ⟨#[]⟩, .int .i64 0, .int .i64 0, .slice none 0 0, .slice none 0 0] 31) (by kernel_rfl) (by kernel_rfl) hone rfl _ _ rfl rfl rfl ?_); intro W7 hX7 hg7))
          replace hb := hb.next (alloc_store hg7)
          clear hg7 hone hX7
          go_wp2_with fail
          refine (HA.out _).mono ?_
          rintro e w9 ⟨rfl, hb9⟩
          go_wp2_with fail
          go_ret
          exact ⟨rfl, hb.next hb9⟩
end Go.Proofs.Ytloengjcniefgaa.Rec
