/- like's signs: what it answers. -/
import Derived.Test.YtmkfgbbipckgiaaRows
import Derived.Test.YtmkfgbbipckgiaaKitA
import Derived.Test.YtmkfgbbipckgiaaLikP
import Derived.Test.YtmkfgbbipckgiaaShelf
import Derived.IntWalk
namespace Go.Proofs.Ytmkfgbbipckgiaa
set_option linter.unusedVariables false
set_option linter.unusedSimpArgs false
open Go.RowKit
open Oct (S)
open Lik (signsL special matchL)
/-- A sign's two cells. -/
def kindN (x : Nat) : Nat := if x = 257 then 2 else if x = 256 then 1 else 0
def byteN (x : Nat) : Nat := if x < 256 then x else 0
def signCells (x : Nat) : List Value := [.int .i64 (kindN x : Nat), .int .u8 (byteN x : Nat)]
def signRow (l : List Nat) : List Value := l.flatMap signCells
theorem signRow_snoc (l : List Nat) (x : Nat) : signRow (l ++ [x]) = signRow l ++ signCells x := by simp [signRow]
theorem info_sign : (Try.prog.info? 36).map (fun i => (i.zero, i.size, i.bytes)) = some (some (.agg #[.int .i64 0, .int .u8 0]), 2, 16) := by kernel_rfl
theorem index_special (c : UInt8) : (decide (0 ≤ Lib.indexByte [37, 95, 92] c)) = special c := by
  have h : ∀ n : Fin 256, (decide (0 ≤ Lib.indexByte [37, 95, 92] (UInt8.ofNat n.val))) = special (UInt8.ofNat n.val) := by decide +kernel
  have := h ⟨c.toNat, c.toNat_lt⟩
  simpa using this
theorem signCells_any : signCells 257 = [.int .i64 2, .int .u8 0] := rfl
theorem signCells_one : signCells 256 = [.int .i64 1, .int .u8 0] := rfl
theorem signCells_byte (c : UInt8) : signCells c.toNat = [.int .i64 0, .int .u8 (c.toNat : Int)] := by
  have := c.toNat_lt
  have h1 : kindN c.toNat = 0 := by rw [kindN, if_neg (by omega), if_neg (by omega)]
  have h2 : byteN c.toNat = c.toNat := by rw [byteN, if_pos (by omega)]
  rw [signCells, h1, h2]; rfl
def specN (c : UInt8) : Int := Lib.indexByte [37, 95, 92] c
theorem specN_yes (c : UInt8) (h : special c = true) : 0 ≤ specN c := by rw [← index_special] at h; simpa [specN] using h
theorem specN_no (c : UInt8) (h : special c = false) : specN c < 0 := by rw [← index_special] at h; simpa [specN] using h
theorem index_at (c : UInt8) (w : World) : Calls Try.prog 22 #[.string ⟨#[37, 95, 92]⟩, .int .u8 (c.toNat : Int)] w (Eq1 (.int .i64 (specN c)) w) := by
  refine (Try.strings_IndexByte ⟨#[37, 95, 92]⟩ (c.toNat : Int) w).mono ?_
  rintro e w' ⟨rfl, rfl⟩
  refine ⟨?_, rfl⟩
  rw [Int.toNat_natCast]
  have : c.toNat.toUInt8 = c := by simp
  rw [this]
  rfl
theorem byte_ne {c d : UInt8} (h : c ≠ d) : ((c.toNat : Int) == (d.toNat : Int)) = false := by
  rw [beq_eq_false_iff_ne]
  intro e
  apply h
  apply UInt8.toNat_inj.1
  omega
theorem drop_at {s : ByteArray} {l : List UInt8} {k : Nat} (hl : l = s.data.toList) (h : k < s.size) : l.drop k = s[k] :: l.drop (k + 1) := by
  subst hl
  have h2 : k < s.data.toList.length := by simpa using h
  rw [List.drop_eq_getElem_cons h2]
  rfl
theorem step_keep {l : List UInt8} {d : List Nat} {k j : Nat} {x : Nat} (h : signsL l = d ++ signsL (l.drop k)) (h2 : signsL (l.drop k) = x :: signsL (l.drop j)) : Hid (signsL l = (d ++ [x]) ++ signsL (l.drop j)) := by
  show _ = _
  rw [h, h2]; simp
/-- What signs hands back. -/
def SignsPost (B : Nat) (l : List Nat) (W : World) (e : Ending) (w : World) : Prop :=
  ∃ v, e = .returned v ∧ w.ownsRow B 36 2 v l.length (signRow l) ∧ Below B W w
theorem signs_any (s : ByteArray) (w : World) (hs : s.size ≤ 100000) :
    Calls Try.prog 21 #[.string s] w (SignsPost w.heap.size (signsL s.data.toList) w) := by
  obtain ⟨l, HL⟩ : ∃ l, Hid (l = s.data.toList) := ⟨_, rfl⟩
  rw [← HL.out]
  have HN : Hid (l.length = s.size) := by show _ = _; rw [HL.out]; simp
  obtain ⟨B, HB⟩ : ∃ B, Hid (B = w.heap.size) := ⟨_, rfl⟩
  rw [← HB.out]
  go_enter Try.func21, Try.ntmps21
  go_wp2_with fail
  go_loopw [3, 4] (fun v i wr => ∃ (k : Nat) (d : List Nat), k ≤ s.size ∧ i = .int .i64 k ∧ d.length ≤ k ∧ Hid (signsL l = d ++ signsL (l.drop k)) ∧ wr.ownsRow B 36 2 v d.length (signRow d) ∧ Below B w wr) (fun _ i _ => s.size - (intOf i).toNat)
  case atStart => exact ⟨0, [], Nat.zero_le _, rfl, Nat.le_refl _, rfl, World.ownsRow_nil _ _ _ _, Below.refl _ _⟩
  case round =>
    obtain ⟨k, d, hk, rfl, hd, HS, hown, hb⟩ := hrel
    have hBw : B ≤ wr.heap.size := by rw [HB.out]; exact hb.size
    by_cases hlt : k < s.size
    · have hkl : k < l.length := by rw [HN.out]; exact hlt
      have hdrop : l.drop k = s[k] :: l.drop (k + 1) := drop_at HL.out hlt
      have HD := Lib.hid hdrop
      clear hdrop
      by_cases h37 : s[k] = 37
      · have t1 : (((s[k]'hlt).toNat : Int) == 37) = true := by rw [h37]; rfl
        have HS1 : Hid (signsL (l.drop k) = 257 :: signsL (l.drop (k + 1))) := by show _ = _; rw [HD.out, h37, Lik.signs_any]
        clear h37
        go_wp2_with (first | (go_at_call 22; refine (index_at _ _).mono ?_; rintro e w' ⟨rfl, rfl⟩) | ((with_reducible refine wpList_append1 33 36 (.agg #[.int .i64 0, .int .u8 0]) 2 16 Try.underlying33 info_sign rfl (by decide) (by decide) ?_); refine ⟨B, _, d.length, signRow d, _, _, [_, _], rfl, rfl, hown.alloc _, rfl, new_cells _ _ [_, _], ?_, ?_, ?_, ?_⟩; (intro u hu; simp only [List.mem_cons, List.not_mem_nil, or_false] at hu; rcases hu with rfl | rfl <;> rfl); omega; (simp only [World.size_alloc]; omega); intro v1 w1 ho hb1 hg; clear hg))
        go_roundw
        case rel => exact ⟨k + 1, d ++ [257], by omega, by go_num, by simp; omega, step_keep HS.out (HS1.out), by rw [signRow_snoc, signCells_any]; simpa using ho, (hb.alloc hBw _).trans hb1⟩
        case measure => simp [intOf]; omega
      · by_cases h95 : s[k] = 95
        · have t1 : (((s[k]'hlt).toNat : Int) == 37) = false := byte_ne h37
          have t2 : (((s[k]'hlt).toNat : Int) == 95) = true := by rw [h95]; rfl
          have HS1 : Hid (signsL (l.drop k) = 256 :: signsL (l.drop (k + 1))) := by show _ = _; rw [HD.out, h95, Lik.signs_one]
          clear h37 h95
          go_wp2_with (first | (go_at_call 22; refine (index_at _ _).mono ?_; rintro e w' ⟨rfl, rfl⟩) | ((with_reducible refine wpList_append1 33 36 (.agg #[.int .i64 0, .int .u8 0]) 2 16 Try.underlying33 info_sign rfl (by decide) (by decide) ?_); refine ⟨B, _, d.length, signRow d, _, _, [_, _], rfl, rfl, hown.alloc _, rfl, new_cells _ _ [_, _], ?_, ?_, ?_, ?_⟩; (intro u hu; simp only [List.mem_cons, List.not_mem_nil, or_false] at hu; rcases hu with rfl | rfl <;> rfl); omega; (simp only [World.size_alloc]; omega); intro v1 w1 ho hb1 hg; clear hg))
          go_roundw
          case rel => exact ⟨k + 1, d ++ [256], by omega, by go_num, by simp; omega, step_keep HS.out (HS1.out), by rw [signRow_snoc, signCells_one]; simpa using ho, (hb.alloc hBw _).trans hb1⟩
          case measure => simp [intOf]; omega
        · have t1 : (((s[k]'hlt).toNat : Int) == 37) = false := byte_ne h37
          have t2 : (((s[k]'hlt).toNat : Int) == 95) = false := byte_ne h95
          by_cases h92 : s[k] = 92
          · have t3 : (((s[k]'hlt).toNat : Int) == 92) = true := by rw [h92]; rfl
            by_cases hlt2 : k + 1 < s.size
            · have HD2 := Lib.hid (drop_at (k := k + 1) HL.out hlt2)
              by_cases hsp : special (s[k + 1]'hlt2) = true
              · have hs0 := specN_yes _ hsp
                have HS1 : Hid (signsL (l.drop k) = (s[k + 1]'hlt2).toNat :: signsL (l.drop (k + 1 + 1))) := by show _ = _; rw [HD.out, h92, HD2.out, Lik.signs_esc _ _ hsp]
                clear h37 h95 h92 hsp
                go_wp2_with (first | (go_at_call 22; refine (index_at _ _).mono ?_; rintro e w' ⟨rfl, rfl⟩) | ((with_reducible refine wpList_append1 33 36 (.agg #[.int .i64 0, .int .u8 0]) 2 16 Try.underlying33 info_sign rfl (by decide) (by decide) ?_); refine ⟨B, _, d.length, signRow d, _, _, [_, _], rfl, rfl, hown.alloc _, rfl, new_cells _ _ [_, _], ?_, ?_, ?_, ?_⟩; (intro u hu; simp only [List.mem_cons, List.not_mem_nil, or_false] at hu; rcases hu with rfl | rfl <;> rfl); omega; (simp only [World.size_alloc]; omega); intro v1 w1 ho hb1 hg; clear hg))
                go_roundw
                case rel => exact ⟨k + 1 + 1, d ++ [(s[k + 1]'hlt2).toNat], by omega, by go_num, by simp; omega, step_keep HS.out (HS1.out), by rw [signRow_snoc, signCells_byte]; simpa using ho, (hb.alloc hBw _).trans hb1⟩
                case measure => simp [intOf]; omega
              · have hs0 := specN_no _ (by simpa using hsp)
                have HS1 : Hid (signsL (l.drop k) = (s[k]'hlt).toNat :: signsL (l.drop (k + 1))) := by show _ = _; rw [HD.out, Lik.signs_byte _ _ h37 h95]; intro _ x hx; rw [HD2.out] at hx; simp at hx; subst hx; simpa using hsp
                clear h37 h95 h92 hsp
                go_wp2_with (first | (go_at_call 22; refine (index_at _ _).mono ?_; rintro e w' ⟨rfl, rfl⟩) | ((with_reducible refine wpList_append1 33 36 (.agg #[.int .i64 0, .int .u8 0]) 2 16 Try.underlying33 info_sign rfl (by decide) (by decide) ?_); refine ⟨B, _, d.length, signRow d, _, _, [_, _], rfl, rfl, hown.alloc _, rfl, new_cells _ _ [_, _], ?_, ?_, ?_, ?_⟩; (intro u hu; simp only [List.mem_cons, List.not_mem_nil, or_false] at hu; rcases hu with rfl | rfl <;> rfl); omega; (simp only [World.size_alloc]; omega); intro v1 w1 ho hb1 hg; clear hg))
                go_roundw
                case rel => exact ⟨k + 1, d ++ [(s[k]'hlt).toNat], by omega, by go_num, by simp; omega, step_keep HS.out (HS1.out), by rw [signRow_snoc, signCells_byte]; simpa using ho, (hb.alloc hBw _).trans hb1⟩
                case measure => simp [intOf]; omega
            · have HS1 : Hid (signsL (l.drop k) = (s[k]'hlt).toNat :: signsL (l.drop (k + 1))) := by show _ = _; rw [HD.out, Lik.signs_byte _ _ h37 h95]; intro _ x hx; rw [List.drop_eq_nil_of_le (by rw [HN.out]; omega)] at hx; simp at hx
              clear h37 h95 h92
              go_wp2_with (first | (go_at_call 22; refine (index_at _ _).mono ?_; rintro e w' ⟨rfl, rfl⟩) | ((with_reducible refine wpList_append1 33 36 (.agg #[.int .i64 0, .int .u8 0]) 2 16 Try.underlying33 info_sign rfl (by decide) (by decide) ?_); refine ⟨B, _, d.length, signRow d, _, _, [_, _], rfl, rfl, hown.alloc _, rfl, new_cells _ _ [_, _], ?_, ?_, ?_, ?_⟩; (intro u hu; simp only [List.mem_cons, List.not_mem_nil, or_false] at hu; rcases hu with rfl | rfl <;> rfl); omega; (simp only [World.size_alloc]; omega); intro v1 w1 ho hb1 hg; clear hg))
              go_roundw
              case rel => exact ⟨k + 1, d ++ [(s[k]'hlt).toNat], by omega, by go_num, by simp; omega, step_keep HS.out (HS1.out), by rw [signRow_snoc, signCells_byte]; simpa using ho, (hb.alloc hBw _).trans hb1⟩
              case measure => simp [intOf]; omega
          · have t3 : (((s[k]'hlt).toNat : Int) == 92) = false := byte_ne h92
            have HS1 : Hid (signsL (l.drop k) = (s[k]'hlt).toNat :: signsL (l.drop (k + 1))) := by show _ = _; rw [HD.out, Lik.signs_byte _ _ h37 h95 (fun e => (h92 e).elim)]
            clear h37 h95 h92
            go_wp2_with (first | (go_at_call 22; refine (index_at _ _).mono ?_; rintro e w' ⟨rfl, rfl⟩) | ((with_reducible refine wpList_append1 33 36 (.agg #[.int .i64 0, .int .u8 0]) 2 16 Try.underlying33 info_sign rfl (by decide) (by decide) ?_); refine ⟨B, _, d.length, signRow d, _, _, [_, _], rfl, rfl, hown.alloc _, rfl, new_cells _ _ [_, _], ?_, ?_, ?_, ?_⟩; (intro u hu; simp only [List.mem_cons, List.not_mem_nil, or_false] at hu; rcases hu with rfl | rfl <;> rfl); omega; (simp only [World.size_alloc]; omega); intro v1 w1 ho hb1 hg; clear hg))
            go_roundw
            case rel => exact ⟨k + 1, d ++ [(s[k]'hlt).toNat], by omega, by go_num, by simp; omega, step_keep HS.out (HS1.out), by rw [signRow_snoc, signCells_byte]; simpa using ho, (hb.alloc hBw _).trans hb1⟩
            case measure => simp [intOf]; omega
    · have HE : Hid (signsL l = d) := by
        show _ = _
        rw [HS.out, List.drop_eq_nil_of_le (by rw [HN.out]; omega)]; simp [signsL]
      go_wp2_with fail
      go_ret
      exact ⟨_, rfl, by rw [HE.out]; exact hown, hb⟩
end Go.Proofs.Ytmkfgbbipckgiaa
