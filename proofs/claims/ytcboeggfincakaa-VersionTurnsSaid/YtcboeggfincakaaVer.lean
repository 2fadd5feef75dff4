/- Versions of rows: what Put and Get answer, and the reference's. -/
import Derived.Test.YtcboeggfincakaaVerP
import Derived.Test.YtcboeggfincakaaRPutO
import Derived.Test.YtcboeggfincakaaOctH
import Derived.Test.YtcboeggfincakaaRef03
import Derived.Test.YtcboeggfincakaaRGetG06
namespace Go.Proofs.Ytcboeggfincakaa
set_option linter.unusedVariables false
set_option linter.unusedSimpArgs false
open Go.RowKit Go.Sort
open Oct (S beN putL U I getI)
def Vn.val (x : Vn) (v : Value) : Value := .agg #[.int .i64 x.r, .int .i64 x.f, .int .i64 x.t, v]
theorem putV_bad {x : Vn} (h : fitB x.r = false ∨ fitB x.f = false ∨ fitB x.t = false) : putV x = ([], 1) := by
  rw [putV, if_pos]
  rw [fitsV]
  rcases h with h | h | h <;> rw [h] <;> simp
def headTo (x : Vn) : Nat → List UInt8
  | 0 => []
  | 1 => six x.r
  | 2 => six x.r ++ six x.f
  | _ => headL x
theorem fit_low {n : Int} (h : n < 0) : fitB n = false := by rw [fitB, decide_eq_false (by omega)]; rfl
theorem fit_high {n : Int} (h : 281474976710656 ≤ n) : fitB n = false := by rw [fitB, decide_eq_false (p := n ≤ 281474976710655) (by omega), Bool.and_false]
theorem fit_ok {n : Int} (h1 : 0 ≤ n) (h2 : n < 281474976710656) : fitB n = true := by rw [fitB, decide_eq_true h1, decide_eq_true (by omega)]; rfl
theorem put_gen (l : List Vl) (hl : Oks l) (q : List UInt8) (e : Int) (h : putR l = (q, e)) (v : Value) (w : World) (hv : RowAt w v l) : Calls Try.prog 23 #[v] w (Ret (.tuple #[.string (S q), .int .i64 e]) w) := by
  have := put_any l v w hv hl
  rw [h] at this; exact this
theorem rput_gen (l : List Vl) (hl : Oks l) (q : List UInt8) (e : Int) (h : putR l = (q, e)) (v : Value) (w : World) (hv : RowAt w v l) : Calls Try.prog 25 #[v] w (Ret (.tuple #[.string (S q), .int .i64 e]) w) := by
  have := rput_any l v w hv hl
  rw [h] at this; exact this
/-- A version's block. -/
theorem Blk.four {w : World} {R T : Nat} {a b c d : Value} (h : Blk w R #[a, b, c, d] T) : w.cell? ⟨R, 0, none⟩ = some a ∧ w.cell? ⟨R, 1, none⟩ = some b ∧ w.cell? ⟨R, 2, none⟩ = some c ∧ w.cell? ⟨R, 3, none⟩ = some d :=
  ⟨h.cell 0 rfl, h.cell 1 rfl, h.cell 2 rfl, h.cell 3 rfl⟩
set_option maxHeartbeats 1000000 in
theorem vput_any (x : Vn) (v : Value) (w : World) (hv : RowAt w v x.d) (hd : Oks x.d) : Calls Try.prog 9 #[x.val v] w (Ret (.tuple #[.string (S (putV x).1), .int .i64 (putV x).2]) w) := by
  obtain ⟨r, f, u, d⟩ := x
  show Calls Try.prog 9 #[.agg #[.int .i64 r, .int .i64 f, .int .i64 u, v]] w _
  obtain ⟨X, HX⟩ : ∃ X, Hid (X = Vn.mk r f u d) := ⟨_, rfl⟩
  rw [← HX.out]
  obtain ⟨p, hp⟩ : ∃ p, putV X = p := ⟨_, rfl⟩
  rw [hp]
  have HP := Lib.hid hp
  clear hp
  obtain ⟨q, e, hq⟩ : ∃ q e, putR d = (q, e) := ⟨_, _, rfl⟩
  have HR := Lib.hid (fun W h => put_gen d hd q e hq v W h)
  have HQ := Lib.hid hq
  clear hq
  have hB := Blk.new w #[.int .i64 r, .int .i64 f, .int .i64 u, v] 25
  have hb0 : Below w.heap.size w (w.alloc (.cells #[.int .i64 r, .int .i64 f, .int .i64 u, v] 25)) := (Below.refl _ _).alloc (Nat.le_refl _) _
  have HI := Lib.hid (fun n W => put_at n 6 6 rfl (by omega) W)
  have i0 : ∀ w, (Instr.index 51 (.agg #[.int .i64 r, .int .i64 f, .int .i64 u]) (.int .i64 0)).run Try.prog w = .ok (.int .i64 r) w := fun _ => by kernel_rfl
  have i1 : ∀ w, (Instr.index 51 (.agg #[.int .i64 r, .int .i64 f, .int .i64 u]) (.int .i64 1)).run Try.prog w = .ok (.int .i64 f) w := fun _ => by kernel_rfl
  have i2 : ∀ w, (Instr.index 51 (.agg #[.int .i64 r, .int .i64 f, .int .i64 u]) (.int .i64 2)).run Try.prog w = .ok (.int .i64 u) w := fun _ => by kernel_rfl
  have hsm := hv.small
  have HV := Lib.hid hv
  obtain ⟨ao, cap, rfl⟩ := hv.nil
  clear hv hd
  go_enter Try.func9, Try.ntmps9
  go_wp2_with fail
  go_loopw [4, 16] (fun o i wr => ∃ k : Nat, k ≤ 3 ∧ i = .int .i64 k ∧ o = .string (S (headTo X k)) ∧ Below w.heap.size w wr ∧ Blk wr w.heap.size #[.int .i64 r, .int .i64 f, .int .i64 u, .slice ao d.length cap] 25 ∧ Hid ((0 < k → fitB r = true) ∧ (1 < k → fitB f = true) ∧ (2 < k → fitB u = true))) (fun _ i _ => 3 - (intOf i).toNat)
  case atStart => exact ⟨0, by omega, rfl, rfl, hb0, hB, by omega, by omega, by omega⟩
  case round =>
    clear hb0 hB
    obtain ⟨k, hk, rfl, rfl, hb, hB, HF⟩ := hrel
    have hk4 : k = 0 ∨ k = 1 ∨ k = 2 ∨ k = 3 := by omega
    rcases hk4 with rfl | rfl | rfl | rfl
    · rw [show ((0 : Nat) : Int) = 0 from rfl]
      obtain ⟨s0, HS⟩ : ∃ s0, Hid (S (headTo X 0) = s0) := ⟨_, rfl⟩
      rw [HS.out]
      have hs0 : s0.size = 0 := by rw [← HS.out, HX.out]; simp [headTo, six_len, Oct.S_size]
      have h6 : (S (putL (U r) 6)).size = 6 := by rw [Oct.S_size]; exact six_len _
      by_cases hlo : r < 0
      · have HE : Hid (p = ([], 1)) := by show _ = _; rw [← HP.out, putV_bad (by rw [HX.out]; exact .inl (fit_low hlo))]
        go_wp2_with fail
        go_ret2
        exact ⟨by rw [HE.out]; rfl, hb⟩
      · by_cases hhi : 281474976710656 ≤ r
        · have HE : Hid (p = ([], 1)) := by show _ = _; rw [← HP.out, putV_bad (by rw [HX.out]; exact .inl (fit_high hhi))]
          go_wp2_with fail
          go_ret2
          exact ⟨by rw [HE.out]; rfl, hb⟩
        · have HFk : Hid (fitB r = true) := fit_ok (by omega) (by omega)
          have H6 := Lib.hid h6
          clear h6
          go_wp2_with fail
          refine (HI.out r _).mono ?_
          rintro e1 w2 ⟨rfl, hb2⟩
          have hB2 := hB.below hb2
          have hb3 := hb.next hb2
          have h6 := H6.out
          clear hB hb hb2 H6
          go_wp2_with fail
          go_roundw
          case rel => exact ⟨1, by omega, rfl, by rw [← HS.out]; exact congrArg Value.string (by rw [HX.out]; exact Oct.S_append _ _), hb3, hB2, fun _ => HFk.out, by omega, by omega⟩
          case measure => simp [intOf]
    · rw [show ((1 : Nat) : Int) = 1 from rfl]
      obtain ⟨s0, HS⟩ : ∃ s0, Hid (S (headTo X 1) = s0) := ⟨_, rfl⟩
      rw [HS.out]
      have hs0 : s0.size = 6 := by rw [← HS.out, HX.out]; simp [headTo, six_len, Oct.S_size]
      have h6 : (S (putL (U f) 6)).size = 6 := by rw [Oct.S_size]; exact six_len _
      by_cases hlo : f < 0
      · have HE : Hid (p = ([], 1)) := by show _ = _; rw [← HP.out, putV_bad (by rw [HX.out]; exact (.inr ∘ .inl) (fit_low hlo))]
        go_wp2_with fail
        go_ret2
        exact ⟨by rw [HE.out]; rfl, hb⟩
      · by_cases hhi : 281474976710656 ≤ f
        · have HE : Hid (p = ([], 1)) := by show _ = _; rw [← HP.out, putV_bad (by rw [HX.out]; exact (.inr ∘ .inl) (fit_high hhi))]
          go_wp2_with fail
          go_ret2
          exact ⟨by rw [HE.out]; rfl, hb⟩
        · have HFk : Hid (fitB f = true) := fit_ok (by omega) (by omega)
          have H6 := Lib.hid h6
          clear h6
          go_wp2_with fail
          refine (HI.out f _).mono ?_
          rintro e1 w2 ⟨rfl, hb2⟩
          have hB2 := hB.below hb2
          have hb3 := hb.next hb2
          have h6 := H6.out
          clear hB hb hb2 H6
          go_wp2_with fail
          go_roundw
          case rel => exact ⟨2, by omega, rfl, by rw [← HS.out]; exact congrArg Value.string (by rw [HX.out]; exact Oct.S_append _ _), hb3, hB2, fun _ => HF.out.1 (by omega), fun _ => HFk.out, by omega⟩
          case measure => simp [intOf]
    · rw [show ((2 : Nat) : Int) = 2 from rfl]
      obtain ⟨s0, HS⟩ : ∃ s0, Hid (S (headTo X 2) = s0) := ⟨_, rfl⟩
      rw [HS.out]
      have hs0 : s0.size = 12 := by rw [← HS.out, HX.out]; simp [headTo, six_len, Oct.S_size]
      have h6 : (S (putL (U u) 6)).size = 6 := by rw [Oct.S_size]; exact six_len _
      by_cases hlo : u < 0
      · have HE : Hid (p = ([], 1)) := by show _ = _; rw [← HP.out, putV_bad (by rw [HX.out]; exact (.inr ∘ .inr) (fit_low hlo))]
        go_wp2_with fail
        go_ret2
        exact ⟨by rw [HE.out]; rfl, hb⟩
      · by_cases hhi : 281474976710656 ≤ u
        · have HE : Hid (p = ([], 1)) := by show _ = _; rw [← HP.out, putV_bad (by rw [HX.out]; exact (.inr ∘ .inr) (fit_high hhi))]
          go_wp2_with fail
          go_ret2
          exact ⟨by rw [HE.out]; rfl, hb⟩
        · have HFk : Hid (fitB u = true) := fit_ok (by omega) (by omega)
          have H6 := Lib.hid h6
          clear h6
          go_wp2_with fail
          refine (HI.out u _).mono ?_
          rintro e1 w2 ⟨rfl, hb2⟩
          have hB2 := hB.below hb2
          have hb3 := hb.next hb2
          have h6 := H6.out
          clear hB hb hb2 H6
          go_wp2_with fail
          go_roundw
          case rel => exact ⟨3, by omega, rfl, by rw [← HS.out]; exact congrArg Value.string (by rw [HX.out]; exact Oct.S_append _ _), hb3, hB2, fun _ => HF.out.1 (by omega), fun _ => HF.out.2.1 (by omega), fun _ => HFk.out⟩
          case measure => simp [intOf]
    · rw [show ((3 : Nat) : Int) = 3 from rfl]
      obtain ⟨c0, c1, c2, c3⟩ := hB.four
      obtain ⟨s0, HS⟩ : ∃ s0, Hid (S (headTo X 3) = s0) := ⟨_, rfl⟩
      have hs0 : s0.size = 18 := by rw [← HS.out, HX.out]; show (S (headL _)).size = 18; rw [Oct.S_size, headL_len]
      have HFit : Hid (fitsV X = true) := by
        show _ = _; rw [HX.out, fitsV]
        show (fitB r && fitB f && fitB u) = true
        rw [HF.out.1 (by omega), HF.out.2.1 (by omega), HF.out.2.2 (by omega)]; rfl
      have hd : X.d = d := by rw [HX.out]
      have HD := Lib.hid hd
      clear hd
      rw [HS.out]
      by_cases he : e = 0
      · subst he
        have HZ := Lib.hid (putR_zero HQ.out)
        have hql : q.length ≤ 400 := by obtain ⟨_, _, h3, h4⟩ := HZ.out; rw [h4, rowL_len]; exact h3
        obtain ⟨s1, HS1⟩ : ∃ s1, Hid (S q = s1) := ⟨_, rfl⟩
        have hs1 : s1.size = q.length := by rw [← HS1.out, Oct.S_size]
        rw [HS1.out] at HR
        by_cases hlen : 400 < 18 + q.length
        · have HE : Hid (p = ([], 4)) := by
            show _ = _
            rw [← HP.out, putV, if_neg (by rw [HFit.out]; decide), HD.out, HQ.out]
            rw [if_neg (by simp), if_pos hlen]
          have hgt : decide ((400 : Int) < 18 + (q.length : Int)) = true := decide_eq_true (by omega)
          go_wp2_with fail
          refine (HR.out _ (HV.out.below hb)).mono ?_
          rintro e1 w2 ⟨rfl, hb2⟩
          replace hb := hb.next hb2
          go_wp2_with fail
          go_ret2
          exact ⟨by rw [HE.out]; rfl, hb⟩
        · have HE : Hid (p = (headL X ++ q, 0)) := by
            show _ = _
            rw [← HP.out, putV, if_neg (by rw [HFit.out]; decide), HD.out, HQ.out]
            rw [if_neg (by simp), if_neg hlen]
          have hgt : decide ((400 : Int) < 18 + (q.length : Int)) = false := decide_eq_false (by omega)
          go_wp2_with fail
          refine (HR.out _ (HV.out.below hb)).mono ?_
          rintro e1 w2 ⟨rfl, hb2⟩
          replace hb := hb.next hb2
          go_wp2_with fail
          go_ret2
          exact ⟨by rw [HE.out]; show _ = Ending.returned (.tuple #[.string (S (headL X ++ q)), .int .i64 0]); rw [← Oct.S_append, HS1.out]; have := HS.out; rw [show headTo X 3 = headL X from rfl] at this; rw [this]; rfl, hb⟩
      · have HE : Hid (p = ([], e)) := by
          show _ = _
          rw [← HP.out, putV, if_neg (by rw [HFit.out]; decide), HD.out, HQ.out]
          rw [if_pos he]
        have he0 : (e == 0) = false := by rw [beq_eq_false_iff_ne]; exact he
        have he1 : (e != 0) = true := by rw [bne_iff_ne]; exact he
        clear he
        go_wp2_with fail
        refine (HR.out _ (HV.out.below hb)).mono ?_
        rintro e1 w2 ⟨rfl, hb2⟩
        replace hb := hb.next hb2
        go_wp2_with fail
        go_ret2
        exact ⟨by rw [HE.out]; rfl, hb⟩
theorem rfits_any (n : Int) (b : Bool) (hb : Hid (fitB n = b)) (w : World) : Calls Try.prog 24 #[.int .i64 n] w (Eq1 (.bool b) w) := by
  by_cases h1 : 0 ≤ n
  · by_cases h2 : n ≤ 281474976710655
    · go_enter Try.func24, Try.ntmps24
      go_wp2
      go_ret
      exact ⟨ret_bool (by rw [← hb.out]; simp [fitB, h1, h2]), rfl⟩
    · go_enter Try.func24, Try.ntmps24
      go_wp2
      go_ret
      exact ⟨ret_bool (by rw [← hb.out]; simp [fitB, h1, h2]), rfl⟩
  · go_enter Try.func24, Try.ntmps24
    go_wp2
    go_ret
    exact ⟨ret_bool (by rw [← hb.out, fitB, decide_eq_false (by omega)]; rfl), rfl⟩
theorem rvput_bad1 (r f u : Int) (d : List Vl) (v : Value) (w : World) (hv : RowAt w v d) (hd : Oks d) (h1 : fitB r = false) : Calls Try.prog 10 #[.agg #[.int .i64 r, .int .i64 f, .int .i64 u, v]] w (Ret (.tuple #[.string (S (putV ⟨r, f, u, d⟩).1), .int .i64 (putV ⟨r, f, u, d⟩).2]) w) := by
  rw [putV_bad (.inl h1)]
  have C1 := Lib.hid (fun W => rfits_any r _ h1 W)
  clear h1
  have hb : Below w.heap.size w (w.alloc (.cells #[.int .i64 r, .int .i64 f, .int .i64 u, v] 25)) := (Below.refl _ _).alloc (Nat.le_refl _) _
  obtain ⟨ao, cap, rfl⟩ := hv.nil
  clear hv
  go_enter Try.func10, Try.ntmps10
  go_wp2_with fail
  refine (C1.out _).mono ?_
  rintro e w' ⟨rfl, rfl⟩
  go_wp2_with fail
  go_ret2
  exact ⟨rfl, hb⟩
theorem rvput_bad2 (r f u : Int) (d : List Vl) (v : Value) (w : World) (hv : RowAt w v d) (hd : Oks d) (h1 : fitB r = true) (h2 : fitB f = false) : Calls Try.prog 10 #[.agg #[.int .i64 r, .int .i64 f, .int .i64 u, v]] w (Ret (.tuple #[.string (S (putV ⟨r, f, u, d⟩).1), .int .i64 (putV ⟨r, f, u, d⟩).2]) w) := by
  rw [putV_bad (.inr (.inl h2))]
  have C1 := Lib.hid (fun W => rfits_any r _ h1 W)
  clear h1
  have C2 := Lib.hid (fun W => rfits_any f _ h2 W)
  clear h2
  have hb : Below w.heap.size w (w.alloc (.cells #[.int .i64 r, .int .i64 f, .int .i64 u, v] 25)) := (Below.refl _ _).alloc (Nat.le_refl _) _
  obtain ⟨ao, cap, rfl⟩ := hv.nil
  clear hv
  go_enter Try.func10, Try.ntmps10
  go_wp2_with fail
  refine (C1.out _).mono ?_
  rintro e w' ⟨rfl, rfl⟩
  go_wp2_with fail
  refine (C2.out _).mono ?_
  rintro e w' ⟨rfl, rfl⟩
  go_wp2_with fail
  go_ret2
  exact ⟨rfl, hb⟩
theorem rvput_bad3 (r f u : Int) (d : List Vl) (v : Value) (w : World) (hv : RowAt w v d) (hd : Oks d) (h1 : fitB r = true) (h2 : fitB f = true) (h3 : fitB u = false) : Calls Try.prog 10 #[.agg #[.int .i64 r, .int .i64 f, .int .i64 u, v]] w (Ret (.tuple #[.string (S (putV ⟨r, f, u, d⟩).1), .int .i64 (putV ⟨r, f, u, d⟩).2]) w) := by
  rw [putV_bad (.inr (.inr h3))]
  have C1 := Lib.hid (fun W => rfits_any r _ h1 W)
  clear h1
  have C2 := Lib.hid (fun W => rfits_any f _ h2 W)
  clear h2
  have C3 := Lib.hid (fun W => rfits_any u _ h3 W)
  clear h3
  have hb : Below w.heap.size w (w.alloc (.cells #[.int .i64 r, .int .i64 f, .int .i64 u, v] 25)) := (Below.refl _ _).alloc (Nat.le_refl _) _
  obtain ⟨ao, cap, rfl⟩ := hv.nil
  clear hv
  go_enter Try.func10, Try.ntmps10
  go_wp2_with fail
  refine (C1.out _).mono ?_
  rintro e w' ⟨rfl, rfl⟩
  go_wp2_with fail
  refine (C2.out _).mono ?_
  rintro e w' ⟨rfl, rfl⟩
  go_wp2_with fail
  refine (C3.out _).mono ?_
  rintro e w' ⟨rfl, rfl⟩
  go_wp2_with fail
  go_ret2
  exact ⟨rfl, hb⟩
theorem putV_e {x : Vn} {q : List UInt8} {e : Int} (h : fitsV x = true) (hq : putR x.d = (q, e)) (he : e ≠ 0) : putV x = ([], e) := by
  rw [putV, if_neg (by rw [h]; decide), hq, if_pos he]
theorem putV_long {x : Vn} {q : List UInt8} (h : fitsV x = true) (hq : putR x.d = (q, 0)) (hl : 400 < 18 + q.length) : putV x = ([], 4) := by
  rw [putV, if_neg (by rw [h]; decide), hq, if_neg (by simp), if_pos hl]
set_option maxHeartbeats 1000000 in
theorem rvput_good (r f u : Int) (d : List Vl) (v : Value) (w : World) (hv : RowAt w v d) (hd : Oks d) (h1 : fitB r = true) (h2 : fitB f = true) (h3 : fitB u = true) : Calls Try.prog 10 #[.agg #[.int .i64 r, .int .i64 f, .int .i64 u, v]] w (Ret (.tuple #[.string (S (putV ⟨r, f, u, d⟩).1), .int .i64 (putV ⟨r, f, u, d⟩).2]) w) := by
  have HFit : Hid (fitsV ⟨r, f, u, d⟩ = true) := by show (fitB r && fitB f && fitB u) = true; rw [h1, h2, h3]; rfl
  have HH : Hid (headL ⟨r, f, u, d⟩ = six r ++ six f ++ six u) := rfl
  obtain ⟨X, HX⟩ : ∃ X, Hid (Vn.mk r f u d = X) := ⟨_, rfl⟩
  have HD : Hid (X.d = d) := by show _ = _; rw [← HX.out]
  rw [HX.out] at HFit HH ⊢
  obtain ⟨q, e, hq⟩ : ∃ q e, putR d = (q, e) := ⟨_, _, rfl⟩
  have HR := Lib.hid (fun W h => rput_gen d hd q e hq v W h)
  have HQ : Hid (putR X.d = (q, e)) := by show _ = _; rw [HD.out]; exact hq
  have HQ2 := Lib.hid hq
  clear hq hd
  have C1 := Lib.hid (fun W => rfits_any r _ h1 W)
  clear h1
  have C2 := Lib.hid (fun W => rfits_any f _ h2 W)
  clear h2
  have C3 := Lib.hid (fun W => rfits_any u _ h3 W)
  clear h3
  have hb : Below w.heap.size w (w.alloc (.cells #[.int .i64 r, .int .i64 f, .int .i64 u, v] 25)) := (Below.refl _ _).alloc (Nat.le_refl _) _
  have hB := Blk.new w #[.int .i64 r, .int .i64 f, .int .i64 u, v] 25
  have HV := Lib.hid hv
  obtain ⟨ao, cap, rfl⟩ := hv.nil
  clear hv
  by_cases he : e = 0
  · subst he
    have P1 := Lib.hid (fun W => rput_at r 6 6 rfl (by omega) W)
    have P2 := Lib.hid (fun W => rput_at f 6 6 rfl (by omega) W)
    have P3 := Lib.hid (fun W => rput_at u 6 6 rfl (by omega) W)
    have l1 : (S (putL (U r) 6)).size = 6 := by rw [Oct.S_size]; exact six_len _
    have l2 : (S (putL (U f) 6)).size = 6 := by rw [Oct.S_size]; exact six_len _
    have l3 : (S (putL (U u) 6)).size = 6 := by rw [Oct.S_size]; exact six_len _
    obtain ⟨s1, H1⟩ : ∃ s, Hid (S (putL (U r) 6) = s) := ⟨_, rfl⟩
    obtain ⟨s2, H2⟩ : ∃ s, Hid (S (putL (U f) 6) = s) := ⟨_, rfl⟩
    obtain ⟨s3, H3⟩ : ∃ s, Hid (S (putL (U u) 6) = s) := ⟨_, rfl⟩
    obtain ⟨s4, H4⟩ : ∃ s, Hid (S q = s) := ⟨_, rfl⟩
    have l4 : s4.size = q.length := by rw [← H4.out, Oct.S_size]
    have hql : q.length ≤ 400 := by obtain ⟨_, _, h3, h4⟩ := putR_zero HQ2.out; rw [h4, rowL_len]; exact h3
    rw [H1.out] at P1 l1; rw [H2.out] at P2 l2; rw [H3.out] at P3 l3; rw [H4.out] at HR
    have L1 := Lib.hid l1; have L2 := Lib.hid l2; have L3 := Lib.hid l3; have L4 := Lib.hid l4
    have HS : Hid (s1 ++ s2 ++ s3 ++ s4 = S (headL X ++ q)) := by
      show _ = _; rw [HH.out, ← H1.out, ← H2.out, ← H3.out, ← H4.out, Oct.S_append, Oct.S_append, Oct.S_append]; rfl
    have HZ : Hid ((s1 ++ s2 ++ s3 ++ s4).size = 18 + q.length) := by show _ = _; simp only [ByteArray.size_append]; omega
    clear l1 l2 l3 l4
    go_enter Try.func10, Try.ntmps10
    go_wp2_with fail
    refine (C1.out _).mono ?_
    rintro e w' ⟨rfl, rfl⟩
    go_wp2_with fail
    refine (C2.out _).mono ?_
    rintro e w' ⟨rfl, rfl⟩
    go_wp2_with fail
    refine (C3.out _).mono ?_
    rintro e w' ⟨rfl, rfl⟩
    go_wp2_with fail
    refine (HR.out _ (HV.out.below hb)).mono ?_
    rintro e1 w2 ⟨rfl, hb2⟩
    have hB2 := hB.below hb2
    replace hb := hb.next hb2
    obtain ⟨c0, c1, c2, c3⟩ := hB2.four
    clear hB hB2 hb2
    have g0 : ∀ p' : Regrown, (grow (redrawn w2 p'.d) p'.os).cell? ⟨w.heap.size, 0, none⟩ = some (.int .i64 r) := fun q => cell_regrown c0 q.d q.os
    have g1 : ∀ p' : Regrown, (grow (redrawn w2 p'.d) p'.os).cell? ⟨w.heap.size, 1, none⟩ = some (.int .i64 f) := fun q => cell_regrown c1 q.d q.os
    have g2 : ∀ p' : Regrown, (grow (redrawn w2 p'.d) p'.os).cell? ⟨w.heap.size, 2, none⟩ = some (.int .i64 u) := fun q => cell_regrown c2 q.d q.os
    have l1 := L1.out; have l2 := L2.out; have l3 := L3.out; have l4 := L4.out
    go_wp2_with fail
    refine wp_region_quiet_below (by kernel_rfl) (by kernel_rfl) ?_
    repeat (go_big_quiet_step (first | (go_at_call 26; with_reducible exact Ret.regrown (P1.out _)) | (go_at_call 26; with_reducible exact Ret.regrown (P2.out _)) | (go_at_call 26; with_reducible exact Ret.regrown (P3.out _))))
    refine wpQuiet_nil ?_
    intro w5 hw5
    have hb5 := below_of_regrown hw5
    clear hw5 g0 g1 g2 c0 c1 c2 c3
    replace hb := hb.next hb5
    obtain ⟨s5, H5⟩ : ∃ s5, Hid (s1 ++ s2 ++ s3 ++ s4 = s5) := ⟨_, rfl⟩
    rw [H5.out] at HS HZ ⊢
    have l5 := HZ.out
    by_cases hlen : 400 < 18 + q.length
    · have HE := Lib.hid (putV_long HFit.out HQ.out hlen)
      go_wp2_with fail
      go_ret2
      exact ⟨by rw [HE.out]; rfl, hb⟩
    · have HE := Lib.hid (putV_ok HFit.out HQ.out (by omega))
      go_wp2_with fail
      go_ret2
      exact ⟨by rw [HE.out]; show _ = Ending.returned (.tuple #[.string (S (headL X ++ q)), .int .i64 0]); rw [← HS.out]; rfl, hb⟩
  · have HE := Lib.hid (putV_e HFit.out HQ.out he)
    have he0 : (e == 0) = false := by rw [beq_eq_false_iff_ne]; exact he
    have he1 : (e != 0) = true := by rw [bne_iff_ne]; exact he
    clear he
    go_enter Try.func10, Try.ntmps10
    go_wp2_with fail
    refine (C1.out _).mono ?_
    rintro e w' ⟨rfl, rfl⟩
    go_wp2_with fail
    refine (C2.out _).mono ?_
    rintro e w' ⟨rfl, rfl⟩
    go_wp2_with fail
    refine (C3.out _).mono ?_
    rintro e w' ⟨rfl, rfl⟩
    go_wp2_with fail
    refine (HR.out _ (HV.out.below hb)).mono ?_
    rintro e1 w2 ⟨rfl, hb2⟩
    replace hb := hb.next hb2
    go_wp2_with fail
    go_ret2
    exact ⟨by rw [HE.out]; rfl, hb⟩
theorem rvput_any (x : Vn) (v : Value) (w : World) (hv : RowAt w v x.d) (hd : Oks x.d) : Calls Try.prog 10 #[x.val v] w (Ret (.tuple #[.string (S (putV x).1), .int .i64 (putV x).2]) w) := by
  obtain ⟨r, f, u, d⟩ := x
  cases h1 : fitB r with
  | false => exact rvput_bad1 r f u d v w hv hd h1
  | true =>
    cases h2 : fitB f with
    | false => exact rvput_bad2 r f u d v w hv hd h1 h2
    | true =>
      cases h3 : fitB u with
      | false => exact rvput_bad3 r f u d v w hv hd h1 h2 h3
      | true => exact rvput_good r f u d v w hv hd h1 h2 h3
end Go.Proofs.Ytcboeggfincakaa
