/- The reference's special and Signs: what they answer. -/
import Derived.Test.YtmkfgbbipckgiaaLikS
namespace Go.Proofs.Ytmkfgbbipckgiaa
set_option linter.unusedVariables false
set_option linter.unusedSimpArgs false
open Go.RowKit
open Oct (S)
open Lik (signsL special matchL)
theorem special_at (c : UInt8) (w : World) (b : Bool) (hb : special c = b) : Calls Try.prog 25 #[.int .u8 (c.toNat : Int)] w (Eq1 (.bool b) w) := by
  have HV : Hid (special c = b) := hb
  have e1 : Hid (special c = (((c.toNat : Int) == 37) || ((c.toNat : Int) == 95) || ((c.toNat : Int) == 92))) := by
    show _ = _
    have h : ∀ n : Fin 256, special (UInt8.ofNat n.val) = (((n.val : Int) == 37) || ((n.val : Int) == 95) || ((n.val : Int) == 92)) := by decide +kernel
    have := h ⟨c.toNat, c.toNat_lt⟩
    simpa using this
  clear hb
  obtain ⟨x, hx⟩ : ∃ x : Int, x = (c.toNat : Int) := ⟨_, rfl⟩
  rw [← hx] at e1 ⊢
  clear hx
  by_cases h1 : (x == 37) = true
  · go_enter Try.func25, Try.ntmps25
    go_wp2
    go_ret
    exact ⟨ret_bool (by rw [← HV.out, e1.out, h1]; rfl), rfl⟩
  · have h1' : (x == 37) = false := by simpa using h1
    clear h1
    by_cases h2 : (x == 95) = true
    · go_enter Try.func25, Try.ntmps25
      go_wp2
      go_ret
      exact ⟨ret_bool (by rw [← HV.out, e1.out, h1', h2]; rfl), rfl⟩
    · have h2' : (x == 95) = false := by simpa using h2
      clear h2
      go_enter Try.func25, Try.ntmps25
      go_wp2
      go_ret
      exact ⟨ret_bool (by rw [← HV.out, e1.out, h1', h2']; rfl), rfl⟩
def intRow (l : List Nat) : List Value := l.map fun x : Nat => .int .i64 (x : Int)
theorem intRow_snoc (l : List Nat) (x : Nat) : intRow (l ++ [x]) = intRow l ++ [.int .i64 (x : Int)] := by simp [intRow]
theorem info_int : (Try.prog.info? 3).map (fun i => (i.zero, i.size, i.bytes)) = some (some (.int .i64 0), 1, 8) := by kernel_rfl
def SignsPostR (B : Nat) (l : List Nat) (W : World) (e : Ending) (w : World) : Prop :=
  ∃ v, e = .returned v ∧ w.ownsRow B 3 1 v l.length (intRow l) ∧ Below B W w
theorem rsigns_any (s : ByteArray) (w : World) (hs : s.size ≤ 100000) :
    Calls Try.prog 20 #[.string s] w (SignsPostR w.heap.size (signsL s.data.toList) w) := by
  obtain ⟨l, HL⟩ : ∃ l, Hid (l = s.data.toList) := ⟨_, rfl⟩
  rw [← HL.out]
  have HN : Hid (l.length = s.size) := by show _ = _; rw [HL.out]; simp
  obtain ⟨B, HB⟩ : ∃ B, Hid (B = w.heap.size) := ⟨_, rfl⟩
  rw [← HB.out]
  go_enter Try.func20, Try.ntmps20
  go_wp2_with fail
  go_loopw [3, 4] (fun v i wr => ∃ (k : Nat) (d : List Nat), k ≤ s.size ∧ i = .int .i64 k ∧ d.length ≤ k ∧ Hid (signsL l = d ++ signsL (l.drop k)) ∧ wr.ownsRow B 3 1 v d.length (intRow d) ∧ Below B w wr) (fun _ i _ => s.size - (intOf i).toNat)
  case atStart => exact ⟨0, [], Nat.zero_le _, rfl, Nat.le_refl _, rfl, World.ownsRow_nil _ _ _ _, Below.refl _ _⟩
  case round =>
    obtain ⟨k, d, hk, rfl, hd, HS, hown, hb⟩ := hrel
    have hBw : B ≤ wr.heap.size := by rw [HB.out]; exact hb.size
    by_cases hlt : k < s.size
    · have hkl : k < l.length := by rw [HN.out]; exact hlt
      have HD := Lib.hid (drop_at HL.out hlt)
      have hbyte : (s[k]'hlt).toNat < 256 := UInt8.toNat_lt _
      by_cases h37 : s[k] = 37
      · have t1 : (((s[k]'hlt).toNat : Int) == 37) = true := by rw [h37]; rfl
        have t3 : (((s[k]'hlt).toNat : Int) == 92) = false := by rw [h37]; rfl
        have HS1 : Hid (signsL (l.drop k) = 257 :: signsL (l.drop (k + 1))) := by show _ = _; rw [HD.out, h37, Lik.signs_any]
        clear h37
        go_wp2_with (first | ((with_reducible refine wpList_append1 31 3 (.int .i64 0) 1 8 Try.underlying31 info_int rfl (by decide) (by decide) ?_); refine ⟨B, _, d.length, intRow d, _, _, [_], rfl, rfl, hown.alloc _, rfl, new_cells _ _ [_], ?_, ?_, ?_, ?_⟩; (intro u hu; simp only [List.mem_cons, List.not_mem_nil, or_false] at hu; rcases hu with rfl; rfl); omega; (simp only [World.size_alloc]; omega); intro v1 w1 ho hb1 hg; clear hg))
        go_roundw
        case rel => exact ⟨k + 1, d ++ [257], by omega, by go_num, by simp; omega, step_keep HS.out HS1.out, by rw [intRow_snoc]; simpa using ho, (hb.alloc hBw _).trans hb1⟩
        case measure => simp [intOf]; omega
      · by_cases h95 : s[k] = 95
        · have t1 : (((s[k]'hlt).toNat : Int) == 37) = false := byte_ne h37
          have t2 : (((s[k]'hlt).toNat : Int) == 95) = true := by rw [h95]; rfl
          have t3 : (((s[k]'hlt).toNat : Int) == 92) = false := by rw [h95]; rfl
          have HS1 : Hid (signsL (l.drop k) = 256 :: signsL (l.drop (k + 1))) := by show _ = _; rw [HD.out, h95, Lik.signs_one]
          clear h37 h95
          go_wp2_with (first | ((with_reducible refine wpList_append1 31 3 (.int .i64 0) 1 8 Try.underlying31 info_int rfl (by decide) (by decide) ?_); refine ⟨B, _, d.length, intRow d, _, _, [_], rfl, rfl, hown.alloc _, rfl, new_cells _ _ [_], ?_, ?_, ?_, ?_⟩; (intro u hu; simp only [List.mem_cons, List.not_mem_nil, or_false] at hu; rcases hu with rfl; rfl); omega; (simp only [World.size_alloc]; omega); intro v1 w1 ho hb1 hg; clear hg))
          go_roundw
          case rel => exact ⟨k + 1, d ++ [256], by omega, by go_num, by simp; omega, step_keep HS.out HS1.out, by rw [intRow_snoc]; simpa using ho, (hb.alloc hBw _).trans hb1⟩
          case measure => simp [intOf]; omega
        · have t1 : (((s[k]'hlt).toNat : Int) == 37) = false := byte_ne h37
          have t2 : (((s[k]'hlt).toNat : Int) == 95) = false := byte_ne h95
          by_cases h92 : s[k] = 92
          · have t3 : (((s[k]'hlt).toNat : Int) == 92) = true := by rw [h92]; rfl
            by_cases hlt2 : k + 1 < s.size
            · have HD2 := Lib.hid (drop_at (k := k + 1) HL.out hlt2)
              have hbyte2 : (s[k + 1]'hlt2).toNat < 256 := UInt8.toNat_lt _
              by_cases hsp : special (s[k + 1]'hlt2) = true
              · have HS1 : Hid (signsL (l.drop k) = (s[k + 1]'hlt2).toNat :: signsL (l.drop (k + 1 + 1))) := by show _ = _; rw [HD.out, h92, HD2.out, Lik.signs_esc _ _ hsp]
                clear h37 h95 h92
                go_wp2_with (first | (go_at_call 25; refine (special_at _ _ _ hsp).mono ?_; rintro e w' ⟨rfl, rfl⟩) | ((with_reducible refine wpList_append1 31 3 (.int .i64 0) 1 8 Try.underlying31 info_int rfl (by decide) (by decide) ?_); refine ⟨B, _, d.length, intRow d, _, _, [_], rfl, rfl, hown.alloc _, rfl, new_cells _ _ [_], ?_, ?_, ?_, ?_⟩; (intro u hu; simp only [List.mem_cons, List.not_mem_nil, or_false] at hu; rcases hu with rfl; rfl); omega; (simp only [World.size_alloc]; omega); intro v1 w1 ho hb1 hg; clear hg))
                go_roundw
                case rel => exact ⟨k + 1 + 1, d ++ [(s[k + 1]'hlt2).toNat], by omega, by go_num, by simp; omega, step_keep HS.out HS1.out, by rw [intRow_snoc]; simpa using ho, (hb.alloc hBw _).trans hb1⟩
                case measure => simp [intOf]; omega
              · have HS1 : Hid (signsL (l.drop k) = (s[k]'hlt).toNat :: signsL (l.drop (k + 1))) := by show _ = _; rw [HD.out, Lik.signs_byte _ _ h37 h95]; intro _ x hx; rw [HD2.out] at hx; simp at hx; subst hx; simpa using hsp
                replace hsp : special (s[k + 1]'hlt2) = false := by simpa using hsp
                clear h37 h95 h92
                go_wp2_with (first | (go_at_call 25; refine (special_at _ _ _ hsp).mono ?_; rintro e w' ⟨rfl, rfl⟩) | ((with_reducible refine wpList_append1 31 3 (.int .i64 0) 1 8 Try.underlying31 info_int rfl (by decide) (by decide) ?_); refine ⟨B, _, d.length, intRow d, _, _, [_], rfl, rfl, hown.alloc _, rfl, new_cells _ _ [_], ?_, ?_, ?_, ?_⟩; (intro u hu; simp only [List.mem_cons, List.not_mem_nil, or_false] at hu; rcases hu with rfl; rfl); omega; (simp only [World.size_alloc]; omega); intro v1 w1 ho hb1 hg; clear hg))
                go_roundw
                case rel => exact ⟨k + 1, d ++ [(s[k]'hlt).toNat], by omega, by go_num, by simp; omega, step_keep HS.out HS1.out, by rw [intRow_snoc]; simpa using ho, (hb.alloc hBw _).trans hb1⟩
                case measure => simp [intOf]; omega
            · have HS1 : Hid (signsL (l.drop k) = (s[k]'hlt).toNat :: signsL (l.drop (k + 1))) := by show _ = _; rw [HD.out, Lik.signs_byte _ _ h37 h95]; intro _ x hx; rw [List.drop_eq_nil_of_le (by rw [HN.out]; omega)] at hx; simp at hx
              clear h37 h95 h92
              go_wp2_with (first | ((with_reducible refine wpList_append1 31 3 (.int .i64 0) 1 8 Try.underlying31 info_int rfl (by decide) (by decide) ?_); refine ⟨B, _, d.length, intRow d, _, _, [_], rfl, rfl, hown.alloc _, rfl, new_cells _ _ [_], ?_, ?_, ?_, ?_⟩; (intro u hu; simp only [List.mem_cons, List.not_mem_nil, or_false] at hu; rcases hu with rfl; rfl); omega; (simp only [World.size_alloc]; omega); intro v1 w1 ho hb1 hg; clear hg))
              go_roundw
              case rel => exact ⟨k + 1, d ++ [(s[k]'hlt).toNat], by omega, by go_num, by simp; omega, step_keep HS.out HS1.out, by rw [intRow_snoc]; simpa using ho, (hb.alloc hBw _).trans hb1⟩
              case measure => simp [intOf]; omega
          · have t3 : (((s[k]'hlt).toNat : Int) == 92) = false := byte_ne h92
            have HS1 : Hid (signsL (l.drop k) = (s[k]'hlt).toNat :: signsL (l.drop (k + 1))) := by show _ = _; rw [HD.out, Lik.signs_byte _ _ h37 h95 (fun e => (h92 e).elim)]
            clear h37 h95 h92
            go_wp2_with (first | ((with_reducible refine wpList_append1 31 3 (.int .i64 0) 1 8 Try.underlying31 info_int rfl (by decide) (by decide) ?_); refine ⟨B, _, d.length, intRow d, _, _, [_], rfl, rfl, hown.alloc _, rfl, new_cells _ _ [_], ?_, ?_, ?_, ?_⟩; (intro u hu; simp only [List.mem_cons, List.not_mem_nil, or_false] at hu; rcases hu with rfl; rfl); omega; (simp only [World.size_alloc]; omega); intro v1 w1 ho hb1 hg; clear hg))
            go_roundw
            case rel => exact ⟨k + 1, d ++ [(s[k]'hlt).toNat], by omega, by go_num, by simp; omega, step_keep HS.out HS1.out, by rw [intRow_snoc]; simpa using ho, (hb.alloc hBw _).trans hb1⟩
            case measure => simp [intOf]; omega
    · have HE : Hid (signsL l = d) := by
        show _ = _
        rw [HS.out, List.drop_eq_nil_of_le (by rw [HN.out]; omega)]; simp [signsL]
      go_wp2_with fail
      go_ret
      exact ⟨_, rfl, by rw [HE.out]; exact hown, hb⟩
end Go.Proofs.Ytmkfgbbipckgiaa
