/- Versions of rows: what Get answers, and the reference's. -/
import Derived.Test.YtcboeggfincakaaVer
namespace Go.Proofs.Ytcboeggfincakaa
set_option linter.unusedVariables false
set_option linter.unusedSimpArgs false
open Go.RowKit Go.Sort
open Oct (S beN putL U I getI)
def zeroVn : Value := .agg #[.int .i64 0, .int .i64 0, .int .i64 0, .slice none 0 0]
/-- What Get answers. -/
def GetVP (s : ByteArray) (w : World) (x : Ending) (w' : World) : Prop :=
  Below w.heap.size w w' ∧ ((∃ e, getV s = .error e ∧ x = .returned (.tuple #[zeroVn, .int .i64 e])) ∨ (∃ X v, getV s = .ok X ∧ x = .returned (.tuple #[X.val v, .int .i64 0]) ∧ RowAt w' v X.d))
theorem get_error_at {s : ByteArray} {e : Int} (h : getRow s = .error e) (w : World) (hs : s.size ≤ maxLen) : Calls Try.prog 28 #[.string s] w (Ret (.tuple #[.slice none 0 0, .int .i64 e]) w) :=
  (get_any s w hs).mono fun x w' ⟨hb, hp⟩ => by
    rcases hp with ⟨e2, h2, hx⟩ | ⟨l, v, h2, _⟩
    · rw [h] at h2; injection h2 with h2; subst h2; exact ⟨hx, hb⟩
    · rw [h] at h2; cases h2
theorem get_ok_at {s : ByteArray} {l : List Vl} (h : getRow s = .ok l) (w : World) (hs : s.size ≤ maxLen) : Calls Try.prog 28 #[.string s] w fun x w' => ∃ v, x = .returned (.tuple #[v, .int .i64 0]) ∧ Below w.heap.size w w' ∧ RowAt w' v l :=
  (get_any s w hs).mono fun x w' ⟨hb, hp⟩ => by
    rcases hp with ⟨e2, h2, hx⟩ | ⟨l2, v, h2, hx, hr⟩
    · rw [h] at h2; cases h2
    · rw [h] at h2; injection h2 with h2; subst h2; exact ⟨v, hx, hb, hr⟩
theorem rget_error_at {s : ByteArray} {e : Int} (h : getRow s = .error e) (w : World) (hs : s.size ≤ maxLen) : Calls Try.prog 29 #[.string s] w (Ret (.tuple #[.slice none 0 0, .int .i64 e]) w) :=
  (rget_any s w hs).mono fun x w' ⟨hb, hp⟩ => by
    rcases hp with ⟨e2, h2, hx⟩ | ⟨l, v, h2, _⟩
    · rw [h] at h2; injection h2 with h2; subst h2; exact ⟨hx, hb⟩
    · rw [h] at h2; cases h2
theorem rget_ok_at {s : ByteArray} {l : List Vl} (h : getRow s = .ok l) (w : World) (hs : s.size ≤ maxLen) : Calls Try.prog 29 #[.string s] w fun x w' => ∃ v, x = .returned (.tuple #[v, .int .i64 0]) ∧ Below w.heap.size w w' ∧ RowAt w' v l :=
  (rget_any s w hs).mono fun x w' ⟨hb, hp⟩ => by
    rcases hp with ⟨e2, h2, hx⟩ | ⟨l2, v, h2, hx, hr⟩
    · rw [h] at h2; cases h2
    · rw [h] at h2; injection h2 with h2; subst h2; exact ⟨v, hx, hb, hr⟩
theorem octget_at (s : ByteArray) (k : Nat) (a : Int) (ha : a = ((6 * k : Nat) : Int)) (w : World) (hs : s.size ≤ 1000) (hc : 6 * k + 6 ≤ s.size) :
    Calls Try.prog 27 #[.string s, .int .i64 a, .int .i64 6] w (Ret (.tuple #[.int .i64 (numV s k), .bool true]) w) := by
  subst ha
  exact get_yes s (6 * k) 6 w (by unfold maxLen; omega) (by decide) (by decide) hc
theorem octget_no (s : ByteArray) (k : Nat) (a : Int) (ha : a = ((6 * k : Nat) : Int)) (w : World) (hs : s.size ≤ 1000) (hk : k ≤ 5) (hc : ¬ 6 * k + 6 ≤ s.size) :
    Calls Try.prog 27 #[.string s, .int .i64 a, .int .i64 6] w (Eq1 (.tuple #[.int .i64 0, .bool false]) w) := by
  subst ha
  exact get_no s _ 6 w (by unfold maxLen; omega) (Go.WalkArith.wf_i64 (by omega)) (by decide) (by omega)
def nv (s : ByteArray) (k j : Nat) : Int := if j < k then numV s j else 0
theorem getV_short {s : ByteArray} (h : s.size ≤ 400) (h2 : s.size < 18) : getV s = .error 3 := by rw [getV, if_neg (by omega), if_pos h2]
theorem getV_e {s : ByteArray} {e : Int} (h : s.size ≤ 400) (h2 : 18 ≤ s.size) (hr : getRow (s.extract 18 s.size) = .error e) : getV s = .error e := by
  rw [getV, if_neg (by omega), if_neg (by omega), hr]
theorem getV_o {s : ByteArray} {l : List Vl} (h : s.size ≤ 400) (h2 : 18 ≤ s.size) (hr : getRow (s.extract 18 s.size) = .ok l) : getV s = .ok ⟨numV s 0, numV s 1, numV s 2, l⟩ := by
  rw [getV, if_neg (by omega), if_neg (by omega), hr]
theorem RowAt.keep {w w' : World} {v : Value} {l : List Vl} {R T : Nat} {cs : Array Value} (h : RowAt w v l) (hg : ∀ b, b ≠ R → w'.heap[b]? = w.heap[b]?) (hR : Blk w R cs T) (hcs : ∀ (i : Nat) (s : ByteArray), cs[i]? ≠ some (.string s)) (hs : w.heap.size ≤ w'.heap.size) : RowAt w' v l := by
  obtain ⟨hsm, ao, cap, hv, hc⟩ := h
  refine ⟨hsm, ao, cap, hv, fun h0 => ?_⟩
  obtain ⟨b, off, ha, hlt, hcell⟩ := hc h0
  have hne : b ≠ R := by
    intro e
    subst e
    have h1 := hcell 0 h0 2 _ rfl
    unfold Blk at hR
    simp [World.cell?, hR] at h1
    exact hcs _ _ h1
  exact ⟨b, off, ha, Nat.lt_of_lt_of_le hlt hs, fun j hj i u hu => (World.cell?_of_block (a := ⟨b, off + j * 3 + i, none⟩) (hg b hne)).trans (hcell j hj i u hu)⟩
theorem four_sets (w : World) (R : Nat) (a b c d : Value) (k : Nat) (hk : k ≠ R) : ((((w.setCell ⟨R, 0, none⟩ a).setCell ⟨R, 1, none⟩ b).setCell ⟨R, 2, none⟩ c).setCell ⟨R, 3, none⟩ d).heap[k]? = w.heap[k]? := by
  rw [Below.heap_setCell _ _ _ _ hk, Below.heap_setCell _ _ _ _ hk, Below.heap_setCell _ _ _ _ hk, Below.heap_setCell _ _ _ _ hk]
theorem no_string {a b c : Int} {ao : Option Addr} {n m : Nat} (i : Nat) (s : ByteArray) : (#[.int .i64 a, .int .i64 b, .int .i64 c, .slice ao n m] : Array Value)[i]? ≠ some (.string s) := by
  intro h
  have hi : i < 4 := (Array.getElem?_eq_some_iff.1 h).1
  match i, hi with
  | 0, _ => cases h
  | 1, _ => cases h
  | 2, _ => cases h
  | 3, _ => cases h
theorem vget_long (s : ByteArray) (w : World) (h : 400 < s.size) (hs : s.size ≤ maxLen) : Calls Try.prog 11 #[.string s] w (GetVP s w) := by
  unfold maxLen at hs
  have HG : Hid (getV s = .error 4) := by show _ = _; rw [getV, if_pos h]
  go_enter Try.func11, Try.ntmps11
  go_wp2_with fail
  exact bodyPost_ret (v := .tuple #[zeroVn, .int .i64 4]) (by simp [results, Try.results11, go_sem, zeroVn]) rfl ⟨(Below.refl _ _).alloc (Nat.le_refl _) _, .inl ⟨4, HG.out, rfl⟩⟩
set_option maxHeartbeats 1000000 in
theorem vget_full (s : ByteArray) (w : World) (h : s.size ≤ 400) (h18 : 18 ≤ s.size) : Calls Try.prog 11 #[.string s] w (GetVP s w) := by
  have hb0 : Below w.heap.size w (w.alloc (.cells #[.int .i64 0, .int .i64 0, .int .i64 0, .slice none 0 0] 25)) := (Below.refl _ _).alloc (Nat.le_refl _) _
  have hR0 := Blk.new w #[.int .i64 0, .int .i64 0, .int .i64 0, .slice none 0 0] 25
  go_enter Try.func11, Try.ntmps11
  go_wp2_with fail
  obtain ⟨W, hW⟩ : ∃ W, ((w.alloc (.cells #[.int .i64 0, .int .i64 0, .int .i64 0, .slice none 0 0] 25)).alloc (.cells #[.int .i64 0, .int .i64 0, .int .i64 0] 51)) = W := ⟨_, rfl⟩
  have hR := hR0.alloc (.cells #[.int .i64 0, .int .i64 0, .int .i64 0] 51)
  have hA := Blk.new (w.alloc (.cells #[.int .i64 0, .int .i64 0, .int .i64 0, .slice none 0 0] 25)) #[.int .i64 0, .int .i64 0, .int .i64 0] 51
  simp only [World.size_alloc] at hA
  have hb := hb0.alloc (by simp) (.cells #[.int .i64 0, .int .i64 0, .int .i64 0] 51)
  rw [hW] at hR hA hb ⊢
  clear hW hR0 hb0
  go_loopw [14] (fun i wr => ∃ (k : Nat) (a b c : Int), k ≤ 3 ∧ i = .int .i64 k ∧ 6 * k ≤ s.size ∧ Below w.heap.size w wr ∧ Blk wr w.heap.size #[.int .i64 0, .int .i64 0, .int .i64 0, .slice none 0 0] 25 ∧ Blk wr (w.heap.size + 1) #[.int .i64 a, .int .i64 b, .int .i64 c] 51 ∧ Hid ((0 < k → numV s 0 = a) ∧ (1 < k → numV s 1 = b) ∧ (2 < k → numV s 2 = c))) (fun i _ => 3 - (intOf i).toNat)
  case atStart => exact ⟨0, 0, 0, 0, by omega, rfl, by omega, hb, hR, hA, by omega, by omega, by omega⟩
  case round =>
    clear hb hR hA
    obtain ⟨k, a, b, c, hk, rfl, hks, hb, hR, hA, HN⟩ := hrel
    have hk4 : k = 0 ∨ k = 1 ∨ k = 2 ∨ k = 3 := by omega
    rcases hk4 with rfl | rfl | rfl | rfl
    · rw [show ((0 : Nat) : Int) = 0 from rfl]
      by_cases hs : 6 * 0 + 6 ≤ s.size
      · have HG := Lib.hid (fun a ha W => octget_at s 0 a ha W (by omega) hs)
        obtain ⟨x, hx⟩ : ∃ x, numV s 0 = x := ⟨_, rfl⟩
        rw [hx] at HG
        have HX := Lib.hid hx
        clear hx
        go_wp2_with fail
        refine (HG.out _ (by rfl) _).mono ?_
        rintro e1 w2 ⟨rfl, hb2⟩
        have hR2 := hR.below hb2
        have hA2 := hA.below hb2
        have hb3 := hb.next hb2
        have hf := hA2.free 0
        have hcell := hA2.cell 0 (v := .int .i64 a) rfl
        clear hR hA hb hb2
        go_wp2_with fail
        go_roundw
        case rel =>
          exact ⟨1, x, b, c, by omega, rfl, by omega, hb3.setCell (by simp) _, hR2.other (by simp) _, hA2.set 0 (.int .i64 x), fun _ => HX.out, by omega, by omega⟩
        case measure => simp [intOf]
      · exfalso; omega
    · rw [show ((1 : Nat) : Int) = 1 from rfl]
      by_cases hs : 6 * 1 + 6 ≤ s.size
      · have HG := Lib.hid (fun a ha W => octget_at s 1 a ha W (by omega) hs)
        obtain ⟨x, hx⟩ : ∃ x, numV s 1 = x := ⟨_, rfl⟩
        rw [hx] at HG
        have HX := Lib.hid hx
        clear hx
        go_wp2_with fail
        refine (HG.out _ (by rfl) _).mono ?_
        rintro e1 w2 ⟨rfl, hb2⟩
        have hR2 := hR.below hb2
        have hA2 := hA.below hb2
        have hb3 := hb.next hb2
        have hf := hA2.free 1
        have hcell := hA2.cell 1 (v := .int .i64 b) rfl
        clear hR hA hb hb2
        go_wp2_with fail
        go_roundw
        case rel =>
          exact ⟨2, a, x, c, by omega, rfl, by omega, hb3.setCell (by simp) _, hR2.other (by simp) _, hA2.set 1 (.int .i64 x), fun _ => HN.out.1 (by omega), fun _ => HX.out, by omega⟩
        case measure => simp [intOf]
      · exfalso; omega
    · rw [show ((2 : Nat) : Int) = 2 from rfl]
      by_cases hs : 6 * 2 + 6 ≤ s.size
      · have HG := Lib.hid (fun a ha W => octget_at s 2 a ha W (by omega) hs)
        obtain ⟨x, hx⟩ : ∃ x, numV s 2 = x := ⟨_, rfl⟩
        rw [hx] at HG
        have HX := Lib.hid hx
        clear hx
        go_wp2_with fail
        refine (HG.out _ (by rfl) _).mono ?_
        rintro e1 w2 ⟨rfl, hb2⟩
        have hR2 := hR.below hb2
        have hA2 := hA.below hb2
        have hb3 := hb.next hb2
        have hf := hA2.free 2
        have hcell := hA2.cell 2 (v := .int .i64 c) rfl
        clear hR hA hb hb2
        go_wp2_with fail
        go_roundw
        case rel =>
          exact ⟨3, a, b, x, by omega, rfl, by omega, hb3.setCell (by simp) _, hR2.other (by simp) _, hA2.set 2 (.int .i64 x), fun _ => HN.out.1 (by omega), fun _ => HN.out.2.1 (by omega), fun _ => HX.out⟩
        case measure => simp [intOf]
      · exfalso; omega
    · rw [show ((3 : Nat) : Int) = 3 from rfl]
      have hz : (s.extract 18 s.size).size ≤ maxLen := by unfold maxLen; simp; omega
      have HZ := Lib.hid hz
      clear hz
      cases hr : getRow (s.extract 18 s.size) with
      | error e =>
        have HG := Lib.hid (fun W => get_error_at hr W HZ.out)
        have HE := Lib.hid (getV_e h (by omega) hr)
        have he0 : (e == 0) = false := by rw [beq_eq_false_iff_ne]; have := getRow_error hr; omega
        have he1 : (e != 0) = true := by rw [bne_iff_ne]; have := getRow_error hr; omega
        clear hr
        go_wp2_with fail
        refine (HG.out _).mono ?_
        rintro e1 w2 ⟨rfl, hb2⟩
        replace hR := hR.below hb2
        replace hb := hb.next hb2
        obtain ⟨c0, c1, c2, c3⟩ := hR.four
        have f0 := hR.free 0
        have f1 := hR.free 1
        have f2 := hR.free 2
        have f3 := hR.free 3
        go_wp2_with fail
        have hF : Blk _ _ #[.int .i64 0, .int .i64 0, .int .i64 0, .slice none 0 0] 25 := (((hR.set 0 (.int .i64 0)).set 1 (.int .i64 0)).set 2 (.int .i64 0)).set 3 (.slice none 0 0)
        obtain ⟨z0, z1, z2, z3⟩ := hF.four
        exact bodyPost_ret (v := .tuple #[zeroVn, .int .i64 e]) (by simp [results, Try.results11, go_sem, zeroVn, z0, z1, z2, z3]) rfl ⟨(((hb.setCell (Nat.le_refl _) _).setCell (Nat.le_refl _) _).setCell (Nat.le_refl _) _).setCell (Nat.le_refl _) _, .inl ⟨e, HE.out, rfl⟩⟩
      | ok l =>
        have HG := Lib.hid (fun W => get_ok_at hr W HZ.out)
        have HE := Lib.hid (getV_o h (by omega) hr)
        clear hr
        obtain ⟨h0, h1, h2⟩ := HN.out
        rw [h0 (by omega), h1 (by omega), h2 (by omega)] at HE
        clear h0 h1 h2
        go_wp2_with fail
        refine (HG.out _).mono ?_
        rintro e1 w2 ⟨v, rfl, hb2, hv⟩
        obtain ⟨vo, vc, rfl⟩ := hv.nil
        have HVV := Lib.hid hv
        clear hv
        replace hR := hR.below hb2
        replace hA := hA.below hb2
        replace hb := hb.next hb2
        obtain ⟨c0, c1, c2, c3⟩ := hR.four
        have f0 := hR.free 0
        have f1 := hR.free 1
        have f2 := hR.free 2
        have f3 := hR.free 3
        have a0 := hA.cell 0 (v := .int .i64 a) rfl
        have a1 := hA.cell 1 (v := .int .i64 b) rfl
        have a2 := hA.cell 2 (v := .int .i64 c) rfl
        go_wp2_with fail
        have hF : Blk _ _ #[.int .i64 a, .int .i64 b, .int .i64 c, .slice vo l.length vc] 25 := (((hR.set 0 (.int .i64 a)).set 1 (.int .i64 b)).set 2 (.int .i64 c)).set 3 (.slice vo l.length vc)
        obtain ⟨z0, z1, z2, z3⟩ := hF.four
        refine bodyPost_ret (v := .tuple #[.agg #[.int .i64 a, .int .i64 b, .int .i64 c, .slice vo l.length vc], .int .i64 0]) (by simp [results, Try.results11, go_sem, z0, z1, z2, z3]) rfl ⟨(((hb.setCell (Nat.le_refl _) _).setCell (Nat.le_refl _) _).setCell (Nat.le_refl _) _).setCell (Nat.le_refl _) _, .inr ⟨⟨a, b, c, l⟩, .slice vo l.length vc, HE.out, rfl, ?_⟩⟩
        exact RowAt.keep HVV.out (fun q hq => four_sets w2 w.heap.size _ _ _ _ q hq) hR no_string (by simp)
set_option maxHeartbeats 1000000 in
theorem vget_less (s : ByteArray) (w : World) (h : s.size ≤ 400) (h18 : s.size < 18) : Calls Try.prog 11 #[.string s] w (GetVP s w) := by
  have hb0 : Below w.heap.size w (w.alloc (.cells #[.int .i64 0, .int .i64 0, .int .i64 0, .slice none 0 0] 25)) := (Below.refl _ _).alloc (Nat.le_refl _) _
  have hR0 := Blk.new w #[.int .i64 0, .int .i64 0, .int .i64 0, .slice none 0 0] 25
  go_enter Try.func11, Try.ntmps11
  go_wp2_with fail
  obtain ⟨W, hW⟩ : ∃ W, ((w.alloc (.cells #[.int .i64 0, .int .i64 0, .int .i64 0, .slice none 0 0] 25)).alloc (.cells #[.int .i64 0, .int .i64 0, .int .i64 0] 51)) = W := ⟨_, rfl⟩
  have hR := hR0.alloc (.cells #[.int .i64 0, .int .i64 0, .int .i64 0] 51)
  have hA := Blk.new (w.alloc (.cells #[.int .i64 0, .int .i64 0, .int .i64 0, .slice none 0 0] 25)) #[.int .i64 0, .int .i64 0, .int .i64 0] 51
  simp only [World.size_alloc] at hA
  have hb := hb0.alloc (by simp) (.cells #[.int .i64 0, .int .i64 0, .int .i64 0] 51)
  rw [hW] at hR hA hb ⊢
  clear hW hR0 hb0
  go_loopw [14] (fun i wr => ∃ (k : Nat) (a b c : Int), k ≤ 3 ∧ i = .int .i64 k ∧ 6 * k ≤ s.size ∧ Below w.heap.size w wr ∧ Blk wr w.heap.size #[.int .i64 0, .int .i64 0, .int .i64 0, .slice none 0 0] 25 ∧ Blk wr (w.heap.size + 1) #[.int .i64 a, .int .i64 b, .int .i64 c] 51 ∧ Hid ((0 < k → numV s 0 = a) ∧ (1 < k → numV s 1 = b) ∧ (2 < k → numV s 2 = c))) (fun i _ => 3 - (intOf i).toNat)
  case atStart => exact ⟨0, 0, 0, 0, by omega, rfl, by omega, hb, hR, hA, by omega, by omega, by omega⟩
  case round =>
    clear hb hR hA
    obtain ⟨k, a, b, c, hk, rfl, hks, hb, hR, hA, HN⟩ := hrel
    have hk4 : k = 0 ∨ k = 1 ∨ k = 2 ∨ k = 3 := by omega
    rcases hk4 with rfl | rfl | rfl | rfl
    · rw [show ((0 : Nat) : Int) = 0 from rfl]
      by_cases hs : 6 * 0 + 6 ≤ s.size
      · have HG := Lib.hid (fun a ha W => octget_at s 0 a ha W (by omega) hs)
        obtain ⟨x, hx⟩ : ∃ x, numV s 0 = x := ⟨_, rfl⟩
        rw [hx] at HG
        have HX := Lib.hid hx
        clear hx
        go_wp2_with fail
        refine (HG.out _ (by rfl) _).mono ?_
        rintro e1 w2 ⟨rfl, hb2⟩
        have hR2 := hR.below hb2
        have hA2 := hA.below hb2
        have hb3 := hb.next hb2
        have hf := hA2.free 0
        have hcell := hA2.cell 0 (v := .int .i64 a) rfl
        clear hR hA hb hb2
        go_wp2_with fail
        go_roundw
        case rel =>
          exact ⟨1, x, b, c, by omega, rfl, by omega, hb3.setCell (by simp) _, hR2.other (by simp) _, hA2.set 0 (.int .i64 x), fun _ => HX.out, by omega, by omega⟩
        case measure => simp [intOf]
      · have HG := Lib.hid (fun a ha W => octget_no s 0 a ha W (by omega) (by omega) hs)
        have HE := Lib.hid (getV_short h (by omega))
        obtain ⟨c0, c1, c2, c3⟩ := hR.four
        have f0 := hR.free 0
        have f1 := hR.free 1
        have f2 := hR.free 2
        have f3 := hR.free 3
        go_wp2_with fail
        refine (HG.out _ (by rfl) _).mono ?_
        rintro e1 w2 ⟨rfl, rfl⟩
        go_wp2_with fail
        have hF : Blk _ _ #[.int .i64 0, .int .i64 0, .int .i64 0, .slice none 0 0] 25 := (((hR.set 0 (.int .i64 0)).set 1 (.int .i64 0)).set 2 (.int .i64 0)).set 3 (.slice none 0 0)
        obtain ⟨z0, z1, z2, z3⟩ := hF.four
        exact bodyPost_ret (v := .tuple #[zeroVn, .int .i64 3]) (by simp [results, Try.results11, go_sem, zeroVn, z0, z1, z2, z3]) rfl ⟨(((hb.setCell (Nat.le_refl _) _).setCell (Nat.le_refl _) _).setCell (Nat.le_refl _) _).setCell (Nat.le_refl _) _, .inl ⟨3, HE.out, rfl⟩⟩
    · rw [show ((1 : Nat) : Int) = 1 from rfl]
      by_cases hs : 6 * 1 + 6 ≤ s.size
      · have HG := Lib.hid (fun a ha W => octget_at s 1 a ha W (by omega) hs)
        obtain ⟨x, hx⟩ : ∃ x, numV s 1 = x := ⟨_, rfl⟩
        rw [hx] at HG
        have HX := Lib.hid hx
        clear hx
        go_wp2_with fail
        refine (HG.out _ (by rfl) _).mono ?_
        rintro e1 w2 ⟨rfl, hb2⟩
        have hR2 := hR.below hb2
        have hA2 := hA.below hb2
        have hb3 := hb.next hb2
        have hf := hA2.free 1
        have hcell := hA2.cell 1 (v := .int .i64 b) rfl
        clear hR hA hb hb2
        go_wp2_with fail
        go_roundw
        case rel =>
          exact ⟨2, a, x, c, by omega, rfl, by omega, hb3.setCell (by simp) _, hR2.other (by simp) _, hA2.set 1 (.int .i64 x), fun _ => HN.out.1 (by omega), fun _ => HX.out, by omega⟩
        case measure => simp [intOf]
      · have HG := Lib.hid (fun a ha W => octget_no s 1 a ha W (by omega) (by omega) hs)
        have HE := Lib.hid (getV_short h (by omega))
        obtain ⟨c0, c1, c2, c3⟩ := hR.four
        have f0 := hR.free 0
        have f1 := hR.free 1
        have f2 := hR.free 2
        have f3 := hR.free 3
        go_wp2_with fail
        refine (HG.out _ (by rfl) _).mono ?_
        rintro e1 w2 ⟨rfl, rfl⟩
        go_wp2_with fail
        have hF : Blk _ _ #[.int .i64 0, .int .i64 0, .int .i64 0, .slice none 0 0] 25 := (((hR.set 0 (.int .i64 0)).set 1 (.int .i64 0)).set 2 (.int .i64 0)).set 3 (.slice none 0 0)
        obtain ⟨z0, z1, z2, z3⟩ := hF.four
        exact bodyPost_ret (v := .tuple #[zeroVn, .int .i64 3]) (by simp [results, Try.results11, go_sem, zeroVn, z0, z1, z2, z3]) rfl ⟨(((hb.setCell (Nat.le_refl _) _).setCell (Nat.le_refl _) _).setCell (Nat.le_refl _) _).setCell (Nat.le_refl _) _, .inl ⟨3, HE.out, rfl⟩⟩
    · rw [show ((2 : Nat) : Int) = 2 from rfl]
      by_cases hs : 6 * 2 + 6 ≤ s.size
      · exfalso; omega
      · have HG := Lib.hid (fun a ha W => octget_no s 2 a ha W (by omega) (by omega) hs)
        have HE := Lib.hid (getV_short h (by omega))
        obtain ⟨c0, c1, c2, c3⟩ := hR.four
        have f0 := hR.free 0
        have f1 := hR.free 1
        have f2 := hR.free 2
        have f3 := hR.free 3
        go_wp2_with fail
        refine (HG.out _ (by rfl) _).mono ?_
        rintro e1 w2 ⟨rfl, rfl⟩
        go_wp2_with fail
        have hF : Blk _ _ #[.int .i64 0, .int .i64 0, .int .i64 0, .slice none 0 0] 25 := (((hR.set 0 (.int .i64 0)).set 1 (.int .i64 0)).set 2 (.int .i64 0)).set 3 (.slice none 0 0)
        obtain ⟨z0, z1, z2, z3⟩ := hF.four
        exact bodyPost_ret (v := .tuple #[zeroVn, .int .i64 3]) (by simp [results, Try.results11, go_sem, zeroVn, z0, z1, z2, z3]) rfl ⟨(((hb.setCell (Nat.le_refl _) _).setCell (Nat.le_refl _) _).setCell (Nat.le_refl _) _).setCell (Nat.le_refl _) _, .inl ⟨3, HE.out, rfl⟩⟩
    · exfalso; omega
theorem vget_any (s : ByteArray) (w : World) (hs : s.size ≤ maxLen) : Calls Try.prog 11 #[.string s] w (GetVP s w) := by
  by_cases h : 400 < s.size
  · exact vget_long s w h hs
  · by_cases h18 : 18 ≤ s.size
    · exact vget_full s w (by omega) h18
    · exact vget_less s w (by omega) (by omega)
end Go.Proofs.Ytcboeggfincakaa
