/- like.Match: what it answers. -/
import Derived.Test.YtmkfgbbipckgiaaLikS
import Derived.Test.YtmkfgbbipckgiaaLikG
import Derived.BigQuiet
namespace Go.Proofs.Ytmkfgbbipckgiaa
set_option linter.unusedVariables false
set_option linter.unusedSimpArgs false
open Go.RowKit
open Oct (S)
open Lik (signsL special matchL Inv way)
theorem signRow_get (l : List Nat) (k : Nat) (h : k < l.length) : (signRow l)[k * 2]? = some (.int .i64 (kindN l[k] : Nat)) ∧ (signRow l)[k * 2 + 1]? = some (.int .u8 (byteN l[k] : Nat)) := by
  induction l generalizing k with
  | nil => simp at h
  | cons x l ih =>
    have e : signRow (x :: l) = signCells x ++ signRow l := by simp [signRow]
    rw [e]
    cases k with
    | zero => simp [signCells]
    | succ k =>
      have := ih k (by simpa using h)
      rw [show (k + 1) * 2 = 2 + k * 2 from by omega, show 2 + k * 2 + 1 = 2 + (k * 2 + 1) from by omega]
      rw [List.getElem?_append_right (by simp [signCells]), List.getElem?_append_right (by simp [signCells])]
      simpa [signCells] using this
theorem match_core (s p : ByteArray) (l : List Nat) (w : World) (hs : s.size ≤ 100000) (hp : p.size ≤ 100000) (HL : Hid (signsL p.data.toList = l)) (hl : l.length ≤ 100000) (b : Bool) (HBv : Hid (b = matchL l s.data.toList)) :
    Calls Try.prog 10 #[.string s, .string p] w (Ret (.bool b) w) := by
  obtain ⟨B, HB⟩ : ∃ B, Hid (B = w.heap.size) := ⟨_, rfl⟩
  have HBW : Hid (w.heap.size = B) := HB.out.symm
  obtain ⟨t, HT⟩ : ∃ t, Hid (t = s.data.toList) := ⟨_, rfl⟩
  have HN : Hid (t.length = s.size) := by show _ = _; rw [HT.out]; simp
  go_enter Try.func10, Try.ntmps10
  go_wp2_with fail
  refine (signs_any p _ hp).mono ?_
  rintro e w1 ⟨v, rfl, hown, hb1⟩
  rw [HL.out] at hown
  obtain ⟨ao, cap, rfl, hcap, hrows⟩ := ownsRow_shape hown
  clear hown
  go_wp2_with fail
  go_loopw [6, 7, 8, 9] (fun a k st fr wr => ∃ (an kn fn : Nat) (sn : Int), a = .int .i64 an ∧ k = .int .i64 kn ∧ st = .int .i64 sn ∧ fr = .int .i64 fn ∧ Inv l t an kn sn fn ∧ -1 ≤ sn ∧ sn < kn ∧ Below w.heap.size w wr ∧ RowsAt wr ao l.length (signRow l)) (fun a k st fr _ => way l.length s.size (intOf k).toNat (intOf st) (intOf fr).toNat)
  case atStart => exact ⟨0, 0, 0, -1, rfl, rfl, rfl, rfl, Inv.start l t, by omega, by omega, hb1, hrows⟩
  case round =>
    obtain ⟨an, kn, fn, sn, rfl, rfl, rfl, rfl, hinv, hsn, hsk, hb, hr⟩ := hrel
    have HI := Lib.hid hinv
    have hkl := hinv.1
    have hat : an ≤ s.size := by rw [← HN.out]; exact hinv.2.1
    have hfa := hinv.2.2.1
    clear hinv
    by_cases hlt : an < s.size
    · by_cases hk : kn < l.length
      · obtain ⟨g, rfl, hg, hc⟩ := hr (by omega)
        have hc0 := hc (kn * 2) _ (signRow_get l kn hk).1
        have hc1 := hc (kn * 2 + 1) _ (signRow_get l kn hk).2
        clear hc
        obtain ⟨x, HX⟩ : ∃ x, Hid (l[kn]? = some x) := ⟨l[kn], List.getElem?_eq_getElem hk⟩
        have hxe : l[kn] = x := by have := HX.out; rw [List.getElem?_eq_getElem hk] at this; exact Option.some.inj this
        rw [hxe] at hc0 hc1
        have hx257 : x ≤ 257 := by
          have := Lik.signs_le p.data.toList l[kn] (by rw [HL.out]; exact List.getElem_mem hk)
          omega
        clear hxe
        have HC : Hid (t[an]? = some (s[an]'hlt)) := by
          show _ = _
          have := HT.out
          subst this
          rw [List.getElem?_eq_getElem (by simpa using hlt)]
          simp; rfl
        by_cases hx : x = 257
        · subst hx
          have hc0' : wr.cell? ⟨g, kn * 2, none⟩ = some (.int .i64 2) := hc0
          clear hc0 hc1
          go_wp2
          go_roundw
          case rel => exact ⟨an, kn + 1, an, kn, rfl, by go_num, rfl, rfl, HI.out.any HX.out, by omega, by omega, hb, hr⟩
          case measure => simpa [intOf] using Lik.way_any (N := s.size) hsk hsn hk hfa hat
        · by_cases hx6 : x = 256
          · subst hx6
            have hc0' : wr.cell? ⟨g, kn * 2, none⟩ = some (.int .i64 1) := hc0
            clear hc0 hc1 hx
            go_wp2
            go_quiet (fail)
            go_wp2
            go_roundw
            case rel => exact ⟨an + 1, kn + 1, fn, sn, by go_num, by go_num, rfl, rfl, HI.out.one HX.out HC.out ⟨by omega, .inl rfl⟩, by omega, by omega, hb.drewN _, hr.below (below_self_drewN _ _)⟩
            case measure => simpa [intOf] using Lik.way_one hk
          · have hk0 : kindN x = 0 := by rw [kindN, if_neg hx, if_neg hx6]
            have hb0 : byteN x = x := by rw [byteN, if_pos (by omega)]
            rw [hk0] at hc0
            rw [hb0] at hc1
            have hc0' : wr.cell? ⟨g, kn * 2, none⟩ = some (.int .i64 0) := hc0
            clear hc0 hk0 hb0
            by_cases hxc : x = (s[an]'hlt).toNat
            · have tb : ((x : Int) == ((s[an]'hlt).toNat : Int)) = true := by rw [hxc]; simp
              have HO : Hid (Lik.one x (s[an]'hlt)) := ⟨hx, .inr hxc⟩
              clear hxc hx hx6 hx257
              go_wp2
              go_quiet (fail)
              go_wp2
              go_roundw
              case rel => exact ⟨an + 1, kn + 1, fn, sn, by go_num, by go_num, rfl, rfl, HI.out.one HX.out HC.out HO.out, by omega, by omega, hb.drewN _, hr.below (below_self_drewN _ _)⟩
              case measure => simpa [intOf] using Lik.way_one hk
            · have tb : ((x : Int) == ((s[an]'hlt).toNat : Int)) = false := by rw [beq_eq_false_iff_ne]; omega
              have HS : Hid (Lik.stuck l kn (s[an]'hlt)) := by
                intro y hy
                rw [HX.out] at hy
                obtain rfl := Option.some.inj hy
                exact ⟨hx, fun h => h.elim hx6 hxc⟩
              clear hxc hx hx6 hx257
              by_cases h0 : 0 ≤ sn
              · go_wp2
                go_quiet (fail)
                go_wp2
                go_roundw
                case rel => exact ⟨fn + 1, sn.toNat + 1, fn + 1, sn, by go_num, by go_num, rfl, by go_num, HI.out.back h0 HC.out HS.out, by omega, by omega, hb.drewN _, hr.below (below_self_drewN _ _)⟩
                case measure =>
                  have e : (sn + 1).toNat = sn.toNat + 1 := by omega
                  simpa [intOf, e] using Lik.way_back (L := l.length) (N := s.size) (k := kn) (star := sn) (st := sn.toNat + 1) (from_ := fn) (by omega) (by omega)
              · have hsm : sn = -1 := by omega
                have HV : Hid (b = false) := by
                  show _ = _
                  rw [HBv.out, ← HT.out]
                  have := HI.out
                  rw [hsm] at this
                  exact this.fail HC.out HS.out
                clear hsm
                go_wp2
                go_quiet (fail)
                go_wp2
                go_ret
                exact ⟨ret_bool HV.out, hb.drewN _⟩
      · have hkk : kn = l.length := by omega
        have HC : Hid (t[an]? = some (s[an]'hlt)) := by
          show _ = _
          have := HT.out
          subst this
          rw [List.getElem?_eq_getElem (by simpa using hlt)]
          simp; rfl
        have HS : Hid (Lik.stuck l kn (s[an]'hlt)) := by
          intro y hy
          rw [List.getElem?_eq_none_iff.2 (by omega)] at hy
          cases hy
        clear hkk
        by_cases h0 : 0 ≤ sn
        · go_wp2
          go_quiet (fail)
          go_wp2
          go_roundw
          case rel => exact ⟨fn + 1, sn.toNat + 1, fn + 1, sn, by go_num, by go_num, rfl, by go_num, HI.out.back h0 HC.out HS.out, by omega, by omega, hb.drewN _, hr.below (below_self_drewN _ _)⟩
          case measure =>
            have e : (sn + 1).toNat = sn.toNat + 1 := by omega
            simpa [intOf, e] using Lik.way_back (L := l.length) (N := s.size) (k := kn) (star := sn) (st := sn.toNat + 1) (from_ := fn) (by omega) (by omega)
        · have hsm : sn = -1 := by omega
          have HV : Hid (b = false) := by
            show _ = _
            rw [HBv.out, ← HT.out]
            have := HI.out
            rw [hsm] at this
            exact this.fail HC.out HS.out
          clear hsm
          go_wp2
          go_quiet (fail)
          go_wp2
          go_ret
          exact ⟨ret_bool HV.out, hb.drewN _⟩
    · have HV : Hid (b = true ↔ ∀ x ∈ l.drop kn, x = 257) := by
        show _ ↔ _
        rw [HBv.out, ← HT.out]
        have h := HI.out
        have he : an = t.length := by rw [HN.out]; omega
        rw [he] at h
        exact h.last
      go_wp2
      go_loop [7] (fun k => ∃ kn : Nat, k = .int .i64 kn ∧ kn ≤ l.length ∧ Hid (b = true ↔ ∀ x ∈ l.drop kn, x = 257)) (fun k => l.length - (intOf k).toNat)
      case atStart => exact ⟨kn, rfl, hkl, HV⟩
      case round =>
        clear hsk HI hkl HV
        obtain ⟨kn, rfl, hkl, HV⟩ := hrel
        by_cases hk : kn < l.length
        · obtain ⟨g, rfl, hg, hc⟩ := hr (by omega)
          have hc0 := hc (kn * 2) _ (signRow_get l kn hk).1
          clear hc
          obtain ⟨x, HX⟩ : ∃ x, Hid (l[kn]? = some x) := ⟨l[kn], List.getElem?_eq_getElem hk⟩
          have hxe : l[kn] = x := by have := HX.out; rw [List.getElem?_eq_getElem hk] at this; exact Option.some.inj this
          rw [hxe] at hc0
          clear hxe
          by_cases hx : x = 257
          · subst hx
            have hc0' : wr.cell? ⟨g, kn * 2, none⟩ = some (.int .i64 2) := hc0
            clear hc0
            go_wp2
            go_round
            case rel => exact ⟨kn + 1, by go_num, by omega, HV.out.trans (Lik.last_step HX.out)⟩
            case measure => simp [intOf]; omega
          · have HF : Hid (b = false) := by
              show _ = _
              have h1 := HV.out
              have h2 := Lik.last_end HX.out hx
              cases b with
              | false => rfl
              | true => exact (h2 (h1.1 rfl)).elim
            have hne : (((kindN x : Nat) : Int) == 2) = false := by
              rw [beq_eq_false_iff_ne, kindN, if_neg hx]; split <;> decide
            have hkL : ((kn : Int) == (l.length : Int)) = false := by rw [beq_eq_false_iff_ne]; omega
            clear hx
            go_wp2
            go_ret
            exact ⟨ret_bool HF.out, hb⟩
        · have hkk : kn = l.length := by omega
          have HF : Hid (b = true) := by
            show _ = _
            rw [HV.out]
            intro x hx
            rw [List.drop_eq_nil_of_le (by omega)] at hx
            cases hx
          have hkL : ((kn : Int) == (l.length : Int)) = true := by rw [hkk]; simp
          clear hkk
          go_wp2
          go_ret
          exact ⟨ret_bool HF.out, hb⟩
/-- like.Match answers as the definition says. -/
theorem match_any (s p : ByteArray) (w : World) (hs : s.size ≤ 100000) (hp : p.size ≤ 100000) :
    Calls Try.prog 10 #[.string s, .string p] w (Ret (.bool (matchL (signsL p.data.toList) s.data.toList)) w) :=
  match_core s p _ w hs hp rfl (by have := Lik.signs_length p.data.toList; simp at this; have h2 : p.data.size = p.size := rfl; omega) _ rfl
end Go.Proofs.Ytmkfgbbipckgiaa
