/- The walk of LikeBegins. -/
import Derived.Test.YtmkfgbbipckgiaaLikA
import Derived.OpenShut
namespace Go.Proofs.Ytmkfgbbipckgiaa
set_option linter.unusedVariables false
set_option linter.unusedSimpArgs false
open Go.RowKit
open Oct (S)
open Lik (signsL special frontL plainL matchL quoteL M)
theorem repeat_at (n : Nat) (w : World) (hn : n ≤ 255) : Calls Try.prog 18 #[.string ⟨#[95]⟩, .int .i64 (n : Int)] w (Ret (.string (S (List.replicate n 95))) w) := by
  refine (Try.strings_Repeat ⟨#[95]⟩ n w (by omega) (by simp [ByteArray.size]; omega)).mono ?_
  rintro e w1 ⟨rfl, hb⟩
  have := Lib.repeatL_replicate 95 1 n
  rw [show List.replicate 1 (95 : UInt8) = [95] from rfl, Nat.mul_one] at this
  rw [show (ByteArray.mk #[95]).data.toList = [95] from rfl, this]
  exact ⟨rfl, hb⟩
theorem signs_rep (n : Nat) (p : List UInt8) : signsL (List.replicate n 95 ++ p) = List.replicate n 256 ++ signsL p := by
  induction n with
  | zero => simp
  | succ n ih => rw [List.replicate_succ, List.cons_append, Lik.signs_one, ih]; rfl
theorem M_rep (n : Nat) (s : List UInt8) : M (List.replicate n 256) s ↔ s.length = n := by
  induction n generalizing s with
  | zero => simp [Lik.M_nil]
  | succ n ih =>
    rw [List.replicate_succ, Lik.M_one _ (by decide)]
    constructor
    · rintro ⟨c, r, rfl, _, h⟩; rw [ih] at h; simp [h]
    · intro h
      cases s with
      | nil => simp at h
      | cons c r => exact ⟨c, r, rfl, .inl rfl, (ih r).2 (by simpa using h)⟩
theorem match_any1 (s : ByteArray) : matchL (signsL (ByteArray.mk #[37]).data.toList) s.data.toList = true := by
  have h := (Lik.M_snoc_any [] s.data.toList).2 ⟨0, by omega, by simp [Lik.M_nil]⟩
  exact h
theorem match_rep (s : ByteArray) (n : Nat) : matchL (signsL (S (List.replicate n 95)).data.toList) s.data.toList = ((s.size : Int) == n) := by
  have h := M_rep n s.data.toList
  have h2 := signs_rep n []
  simp only [List.append_nil] at h2
  rw [Oct.S_data, h2, show signsL [] = [] from rfl, List.append_nil]
  apply Bool.eq_iff_iff.2
  unfold M at h
  rw [h, beq_iff_eq]
  have : s.data.toList.length = s.size := by simp
  omega
theorem match_rep_any (s : ByteArray) (n : Nat) : matchL (signsL (S (List.replicate n 95) ++ ⟨#[37]⟩).data.toList) s.data.toList = decide ((n : Int) ≤ s.size) := by
  have h := Lik.M_snoc_any (List.replicate n 256) s.data.toList
  have h2 := signs_rep n [37]
  have e : (S (List.replicate n 95) ++ ⟨#[37]⟩).data.toList = List.replicate n 95 ++ [37] := by simp [S]
  rw [e, h2, show signsL [37] = [257] from rfl]
  apply Bool.eq_iff_iff.2
  unfold M at h
  rw [h, decide_eq_true_eq]
  have h3 : s.data.toList.length = s.size := by simp
  constructor
  · rintro ⟨k, hk, h4⟩
    have := (M_rep n _).1 h4
    simp only [List.length_take] at this
    omega
  · intro h4
    exact ⟨n, by omega, (M_rep n _).2 (by simp; omega)⟩
theorem has_front (s p : ByteArray) (h : matchL (signsL p.data.toList) s.data.toList = true) : Lib.hasPrefix s.data.toList (S (frontL (signsL p.data.toList))).data.toList = true := by
  obtain ⟨r, hr⟩ := Lik.M_front _ _ h
  rw [Oct.S_data]
  unfold Lib.hasPrefix
  rw [List.isPrefixOf_iff_prefix]
  exact ⟨r, hr.symm⟩
theorem exact_of (s p : ByteArray) : ((exactR (signsL p.data.toList)).2 = true ∧ (s.toList == (S (exactR (signsL p.data.toList)).1).toList) = matchL (signsL p.data.toList) s.data.toList) ∨ ((exactR (signsL p.data.toList)).2 = false ∧ S (exactR (signsL p.data.toList)).1 = ⟨#[]⟩) := by
  unfold exactR
  by_cases h : plainL (signsL p.data.toList) = true
  · rw [if_pos h]
    refine .inl ⟨rfl, ?_⟩
    have h1 := Lik.plain_front _ h
    have h2 := Lik.M_bytes (frontL (signsL p.data.toList)) s.data.toList
    rw [h1] at h2
    apply Bool.eq_iff_iff.2
    unfold M at h2
    rw [h2, beq_iff_eq, ByteArray.toList_eq, ByteArray.toList_eq, Oct.S_data]
  · rw [if_neg h]
    exact .inr ⟨rfl, rfl⟩
set_option maxHeartbeats 1000000 in
set_option maxRecDepth 100000 in
theorem begins_true_true (s p : ByteArray) (n : Nat) (w : World) (h1 : s.size ≤ 200) (h2 : p.size ≤ 200) (hn : n ≤ 255) (a : ByteArray) (HE : Hid ((S (exactR (signsL p.data.toList)).1, (exactR (signsL p.data.toList)).2) = (a, true))) (HM1 : Hid (matchL (signsL (ByteArray.mk #[37]).data.toList) s.data.toList = true)) (r : ByteArray) (hr : r.size = n) (hr2 : (r ++ ⟨#[37]⟩).size ≤ 100000) (RP : Hid (∀ w, Calls Try.prog 18 #[.string ⟨#[95]⟩, .int .i64 (n : Int)] w (Ret (.string r) w))) (HM2 : Hid (matchL (signsL r.data.toList) s.data.toList = ((s.size : Int) == n))) (HM3 : Hid (matchL (signsL (r ++ ⟨#[37]⟩).data.toList) s.data.toList = decide ((n : Int) ≤ s.size))) (HM : Hid (matchL (signsL p.data.toList) s.data.toList = true)) (f : ByteArray) (HF : Hid (S (frontL (signsL p.data.toList)) = f)) (HP : Hid (Lib.hasPrefix s.data.toList f.data.toList = true)) (HEQ : (s.toList == a.toList) = true) :
    Calls Try.prog 6 #[.string s, .string p, .int .u8 (n : Int)] w (Ret (.bool true) w) := by
  have hwn : IntKind.i64.wrap (n : Int) = n := IntWalk.i64_in _ (by omega)
  go_enter Try.func6, Try.ntmps6
  go_wp2_with fail
  refine (exact_at p a true HE _ (by omega)).mono ?_
  rintro e w1 ⟨rfl, hb1⟩
  go_wp2_with fail
  refine (match_at s p true HM _ (by omega) (by omega)).mono ?_
  rintro e w2 ⟨rfl, hb⟩
  replace hb1 := hb1.next hb; clear hb
  go_wp2_with fail
  refine (prefix_at p f HF _ (by omega)).mono ?_
  rintro e w2 ⟨rfl, hb⟩
  replace hb1 := hb1.next hb; clear hb
  go_wp2_with fail
  refine (Try.strings_HasPrefix s f _).mono ?_
  rintro e w2 ⟨rfl, rfl⟩
  rw [HP.out]
  go_wp2_with fail
  refine (awake_any _).mono ?_
  rintro e w2 ⟨rfl, hb⟩
  replace hb1 := hb1.next hb; clear hb
  go_wp2_with fail
  refine (match_at s ⟨#[37]⟩ true HM1 _ (by omega) (by decide)).mono ?_
  rintro e w2 ⟨rfl, hb⟩
  replace hb1 := hb1.next hb; clear hb
  go_wp2_with fail
  refine (RP.out _).mono ?_
  rintro e w2 ⟨rfl, hb⟩
  replace hb1 := hb1.next hb; clear hb
  go_wp2_with fail
  refine (match_at s r _ HM2 _ (by omega) (by omega)).mono ?_
  rintro e w2 ⟨rfl, hb⟩
  replace hb1 := hb1.next hb; clear hb
  go_wp2_with fail
  refine (RP.out _).mono ?_
  rintro e w2 ⟨rfl, hb⟩
  replace hb1 := hb1.next hb; clear hb
  go_wp2_with fail
  refine (match_at s _ _ HM3 _ (by omega) hr2).mono ?_
  rintro e w2 ⟨rfl, hb⟩
  replace hb1 := hb1.next hb; clear hb
  go_wp2_with fail
  go_ret
  exact ⟨rfl, hb1⟩
set_option maxHeartbeats 1000000 in
set_option maxRecDepth 100000 in
theorem begins_true_false (s p : ByteArray) (n : Nat) (w : World) (h1 : s.size ≤ 200) (h2 : p.size ≤ 200) (hn : n ≤ 255) (a : ByteArray) (HE : Hid ((S (exactR (signsL p.data.toList)).1, (exactR (signsL p.data.toList)).2) = (⟨#[]⟩, false))) (HM1 : Hid (matchL (signsL (ByteArray.mk #[37]).data.toList) s.data.toList = true)) (r : ByteArray) (hr : r.size = n) (hr2 : (r ++ ⟨#[37]⟩).size ≤ 100000) (RP : Hid (∀ w, Calls Try.prog 18 #[.string ⟨#[95]⟩, .int .i64 (n : Int)] w (Ret (.string r) w))) (HM2 : Hid (matchL (signsL r.data.toList) s.data.toList = ((s.size : Int) == n))) (HM3 : Hid (matchL (signsL (r ++ ⟨#[37]⟩).data.toList) s.data.toList = decide ((n : Int) ≤ s.size))) (HM : Hid (matchL (signsL p.data.toList) s.data.toList = true)) (f : ByteArray) (HF : Hid (S (frontL (signsL p.data.toList)) = f)) (HP : Hid (Lib.hasPrefix s.data.toList f.data.toList = true)) :
    Calls Try.prog 6 #[.string s, .string p, .int .u8 (n : Int)] w (Ret (.bool true) w) := by
  have hwn : IntKind.i64.wrap (n : Int) = n := IntWalk.i64_in _ (by omega)
  go_enter Try.func6, Try.ntmps6
  go_wp2_with fail
  refine (exact_at p ⟨#[]⟩ false HE _ (by omega)).mono ?_
  rintro e w1 ⟨rfl, hb1⟩
  go_wp2_with fail
  refine (match_at s p true HM _ (by omega) (by omega)).mono ?_
  rintro e w2 ⟨rfl, hb⟩
  replace hb1 := hb1.next hb; clear hb
  go_wp2_with fail
  refine (prefix_at p f HF _ (by omega)).mono ?_
  rintro e w2 ⟨rfl, hb⟩
  replace hb1 := hb1.next hb; clear hb
  go_wp2_with fail
  refine (Try.strings_HasPrefix s f _).mono ?_
  rintro e w2 ⟨rfl, rfl⟩
  rw [HP.out]
  go_wp2_with fail
  refine (awake_any _).mono ?_
  rintro e w2 ⟨rfl, hb⟩
  replace hb1 := hb1.next hb; clear hb
  go_wp2_with fail
  refine (match_at s ⟨#[37]⟩ true HM1 _ (by omega) (by decide)).mono ?_
  rintro e w2 ⟨rfl, hb⟩
  replace hb1 := hb1.next hb; clear hb
  go_wp2_with fail
  refine (RP.out _).mono ?_
  rintro e w2 ⟨rfl, hb⟩
  replace hb1 := hb1.next hb; clear hb
  go_wp2_with fail
  refine (match_at s r _ HM2 _ (by omega) (by omega)).mono ?_
  rintro e w2 ⟨rfl, hb⟩
  replace hb1 := hb1.next hb; clear hb
  go_wp2_with fail
  refine (RP.out _).mono ?_
  rintro e w2 ⟨rfl, hb⟩
  replace hb1 := hb1.next hb; clear hb
  go_wp2_with fail
  refine (match_at s _ _ HM3 _ (by omega) hr2).mono ?_
  rintro e w2 ⟨rfl, hb⟩
  replace hb1 := hb1.next hb; clear hb
  go_wp2_with fail
  go_ret
  exact ⟨rfl, hb1⟩
set_option maxHeartbeats 1000000 in
set_option maxRecDepth 100000 in
theorem begins_false_true (s p : ByteArray) (n : Nat) (w : World) (h1 : s.size ≤ 200) (h2 : p.size ≤ 200) (hn : n ≤ 255) (a : ByteArray) (HE : Hid ((S (exactR (signsL p.data.toList)).1, (exactR (signsL p.data.toList)).2) = (a, true))) (HM1 : Hid (matchL (signsL (ByteArray.mk #[37]).data.toList) s.data.toList = true)) (r : ByteArray) (hr : r.size = n) (hr2 : (r ++ ⟨#[37]⟩).size ≤ 100000) (RP : Hid (∀ w, Calls Try.prog 18 #[.string ⟨#[95]⟩, .int .i64 (n : Int)] w (Ret (.string r) w))) (HM2 : Hid (matchL (signsL r.data.toList) s.data.toList = ((s.size : Int) == n))) (HM3 : Hid (matchL (signsL (r ++ ⟨#[37]⟩).data.toList) s.data.toList = decide ((n : Int) ≤ s.size))) (HM : Hid (matchL (signsL p.data.toList) s.data.toList = false)) (HEQ : (s.toList == a.toList) = false) :
    Calls Try.prog 6 #[.string s, .string p, .int .u8 (n : Int)] w (Ret (.bool true) w) := by
  have hwn : IntKind.i64.wrap (n : Int) = n := IntWalk.i64_in _ (by omega)
  go_enter Try.func6, Try.ntmps6
  go_wp2_with fail
  refine (exact_at p a true HE _ (by omega)).mono ?_
  rintro e w1 ⟨rfl, hb1⟩
  go_wp2_with fail
  refine (match_at s p false HM _ (by omega) (by omega)).mono ?_
  rintro e w2 ⟨rfl, hb⟩
  replace hb1 := hb1.next hb; clear hb
  go_wp2_with fail
  refine (awake_any _).mono ?_
  rintro e w2 ⟨rfl, hb⟩
  replace hb1 := hb1.next hb; clear hb
  go_wp2_with fail
  refine (match_at s ⟨#[37]⟩ true HM1 _ (by omega) (by decide)).mono ?_
  rintro e w2 ⟨rfl, hb⟩
  replace hb1 := hb1.next hb; clear hb
  go_wp2_with fail
  refine (RP.out _).mono ?_
  rintro e w2 ⟨rfl, hb⟩
  replace hb1 := hb1.next hb; clear hb
  go_wp2_with fail
  refine (match_at s r _ HM2 _ (by omega) (by omega)).mono ?_
  rintro e w2 ⟨rfl, hb⟩
  replace hb1 := hb1.next hb; clear hb
  go_wp2_with fail
  refine (RP.out _).mono ?_
  rintro e w2 ⟨rfl, hb⟩
  replace hb1 := hb1.next hb; clear hb
  go_wp2_with fail
  refine (match_at s _ _ HM3 _ (by omega) hr2).mono ?_
  rintro e w2 ⟨rfl, hb⟩
  replace hb1 := hb1.next hb; clear hb
  go_wp2_with fail
  go_ret
  exact ⟨rfl, hb1⟩
set_option maxHeartbeats 1000000 in
set_option maxRecDepth 100000 in
theorem begins_false_false (s p : ByteArray) (n : Nat) (w : World) (h1 : s.size ≤ 200) (h2 : p.size ≤ 200) (hn : n ≤ 255) (a : ByteArray) (HE : Hid ((S (exactR (signsL p.data.toList)).1, (exactR (signsL p.data.toList)).2) = (⟨#[]⟩, false))) (HM1 : Hid (matchL (signsL (ByteArray.mk #[37]).data.toList) s.data.toList = true)) (r : ByteArray) (hr : r.size = n) (hr2 : (r ++ ⟨#[37]⟩).size ≤ 100000) (RP : Hid (∀ w, Calls Try.prog 18 #[.string ⟨#[95]⟩, .int .i64 (n : Int)] w (Ret (.string r) w))) (HM2 : Hid (matchL (signsL r.data.toList) s.data.toList = ((s.size : Int) == n))) (HM3 : Hid (matchL (signsL (r ++ ⟨#[37]⟩).data.toList) s.data.toList = decide ((n : Int) ≤ s.size))) (HM : Hid (matchL (signsL p.data.toList) s.data.toList = false)) :
    Calls Try.prog 6 #[.string s, .string p, .int .u8 (n : Int)] w (Ret (.bool true) w) := by
  have hwn : IntKind.i64.wrap (n : Int) = n := IntWalk.i64_in _ (by omega)
  go_enter Try.func6, Try.ntmps6
  go_wp2_with fail
  refine (exact_at p ⟨#[]⟩ false HE _ (by omega)).mono ?_
  rintro e w1 ⟨rfl, hb1⟩
  go_wp2_with fail
  refine (match_at s p false HM _ (by omega) (by omega)).mono ?_
  rintro e w2 ⟨rfl, hb⟩
  replace hb1 := hb1.next hb; clear hb
  go_wp2_with fail
  refine (awake_any _).mono ?_
  rintro e w2 ⟨rfl, hb⟩
  replace hb1 := hb1.next hb; clear hb
  go_wp2_with fail
  refine (match_at s ⟨#[37]⟩ true HM1 _ (by omega) (by decide)).mono ?_
  rintro e w2 ⟨rfl, hb⟩
  replace hb1 := hb1.next hb; clear hb
  go_wp2_with fail
  refine (RP.out _).mono ?_
  rintro e w2 ⟨rfl, hb⟩
  replace hb1 := hb1.next hb; clear hb
  go_wp2_with fail
  refine (match_at s r _ HM2 _ (by omega) (by omega)).mono ?_
  rintro e w2 ⟨rfl, hb⟩
  replace hb1 := hb1.next hb; clear hb
  go_wp2_with fail
  refine (RP.out _).mono ?_
  rintro e w2 ⟨rfl, hb⟩
  replace hb1 := hb1.next hb; clear hb
  go_wp2_with fail
  refine (match_at s _ _ HM3 _ (by omega) hr2).mono ?_
  rintro e w2 ⟨rfl, hb⟩
  replace hb1 := hb1.next hb; clear hb
  go_wp2_with fail
  go_ret
  exact ⟨rfl, hb1⟩
theorem big_LikeBegins (s p : ByteArray) (n : Int) (w : World) (h : 200 < s.size ∨ s.size ≤ 200 ∧ 200 < p.size) (hs : s.size ≤ 140737488351232) (hp : p.size ≤ 140737488351232) :
    Calls Try.prog 6 #[.string s, .string p, .int .u8 n] w (Ret (.bool true) w) := by
  rcases h with h | ⟨h, h'⟩
  all_goals
    go_enter Try.func6, Try.ntmps6
    go_wp2_with fail
    refine (awake_any _).mono ?_
    rintro e w1 ⟨rfl, hb1⟩
    go_wp2_with fail
    go_ret
    exact ⟨rfl, hb1⟩
theorem walk_LikeBegins (s p : ByteArray) (n : Int) (w : World) (hs : s.size ≤ 140737488351232) (hp : p.size ≤ 140737488351232) (hw : (Lit.int .u8 n).wf = true) :
    Calls Try.prog 6 #[.string s, .string p, .int .u8 n] w (Ret (.bool true) w) := by
  by_cases h1 : s.size ≤ 200
  · by_cases h2 : p.size ≤ 200
    · have hb := bounds_u8 hw
      obtain ⟨k, rfl⟩ := Int.eq_ofNat_of_zero_le hb.1
      have hx := exact_of s p
      have hn : k ≤ 255 := by omega
      have hr : (S (List.replicate k (95 : UInt8))).size = k := by rw [Oct.S_size]; simp
      have hr2 : (S (List.replicate k (95 : UInt8)) ++ ⟨#[37]⟩).size = k + 1 := by rw [ByteArray.size_append, hr]; rfl
      cases hm : matchL (signsL p.data.toList) s.data.toList with
      | true =>
        rw [hm] at hx
        rcases hx with ⟨hx1, hx2⟩ | ⟨hx1, hx2⟩
        · exact begins_true_true s p k w h1 h2 hn _ (Prod.ext rfl hx1) (match_any1 s) _ hr (hr2 ▸ by omega) (fun w => repeat_at k w hn) (match_rep s k) (match_rep_any s k) hm _ rfl (has_front s p hm) hx2
        · exact begins_true_false s p k w h1 h2 hn ⟨#[]⟩ (Prod.ext hx2 hx1) (match_any1 s) _ hr (hr2 ▸ by omega) (fun w => repeat_at k w hn) (match_rep s k) (match_rep_any s k) hm _ rfl (has_front s p hm)
      | false =>
        rw [hm] at hx
        rcases hx with ⟨hx1, hx2⟩ | ⟨hx1, hx2⟩
        · exact begins_false_true s p k w h1 h2 hn _ (Prod.ext rfl hx1) (match_any1 s) _ hr (hr2 ▸ by omega) (fun w => repeat_at k w hn) (match_rep s k) (match_rep_any s k) hm hx2
        · exact begins_false_false s p k w h1 h2 hn ⟨#[]⟩ (Prod.ext hx2 hx1) (match_any1 s) _ hr (hr2 ▸ by omega) (fun w => repeat_at k w hn) (match_rep s k) (match_rep_any s k) hm
    · exact big_LikeBegins s p n w (by omega) hs hp
  · exact big_LikeBegins s p n w (by omega) hs hp
end Go.Proofs.Ytmkfgbbipckgiaa
