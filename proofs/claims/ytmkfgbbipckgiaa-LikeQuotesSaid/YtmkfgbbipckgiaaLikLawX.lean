/- The walks of LikeSays and LikeQuotes. -/
import Derived.Test.YtmkfgbbipckgiaaLikA
namespace Go.Proofs.Ytmkfgbbipckgiaa
set_option linter.unusedVariables false
set_option linter.unusedSimpArgs false
open Go.RowKit
open Oct (S)
open Lik (signsL special frontL plainL matchL quoteL)
theorem big_LikeSays (s p : ByteArray) (w : World) (h : 200 < s.size ∨ s.size ≤ 200 ∧ 200 < p.size) (hs : s.size ≤ 140737488351232) (hp : p.size ≤ 140737488351232) :
    Calls Try.prog 3 #[.string s, .string p] w (Ret (.bool true) w) := by
  rcases h with h | ⟨h, h'⟩
  · go_enter Try.func3, Try.ntmps3
    go_wp2_with fail
    refine (awake_any _).mono ?_
    rintro e w1 ⟨rfl, hb1⟩
    go_wp2_with fail
    go_ret
    exact ⟨rfl, hb1⟩
  · go_enter Try.func3, Try.ntmps3
    go_wp2_with fail
    refine (awake_any _).mono ?_
    rintro e w1 ⟨rfl, hb1⟩
    go_wp2_with fail
    go_ret
    exact ⟨rfl, hb1⟩
theorem walk_LikeSays (s p : ByteArray) (w : World) (hs : s.size ≤ 140737488351232) (hp : p.size ≤ 140737488351232) :
    Calls Try.prog 3 #[.string s, .string p] w (Ret (.bool true) w) := by
  by_cases h1 : s.size ≤ 200
  · by_cases h2 : p.size ≤ 200
    · obtain ⟨m, HM⟩ : ∃ m, Hid (matchL (signsL p.data.toList) s.data.toList = m) := ⟨_, rfl⟩
      obtain ⟨a, b, HE⟩ : ∃ a b, Hid ((S (exactR (signsL p.data.toList)).1, (exactR (signsL p.data.toList)).2) = (a, b)) := ⟨_, _, rfl⟩
      obtain ⟨f, HF⟩ : ∃ f, Hid (S (frontL (signsL p.data.toList)) = f) := ⟨_, rfl⟩
      obtain ⟨q, HQ⟩ : ∃ q, Hid (S (quoteL s.data.toList) = q) := ⟨_, rfl⟩
      go_enter Try.func3, Try.ntmps3
      go_wp2_with fail
      refine (exact_at p a b HE _ (by omega)).mono ?_
      rintro e w1 ⟨rfl, hb1⟩
      go_wp2_with fail
      refine (rexact_at p a b HE _ (by omega)).mono ?_
      rintro e w2 ⟨rfl, hb⟩
      replace hb1 := hb1.next hb; clear hb
      go_wp2_with fail
      refine (awake_any _).mono ?_
      rintro e w2 ⟨rfl, hb⟩
      replace hb1 := hb1.next hb; clear hb
      go_wp2_with fail
      refine (match_at s p m HM _ (by omega) (by omega)).mono ?_
      rintro e w2 ⟨rfl, hb⟩
      replace hb1 := hb1.next hb; clear hb
      go_wp2_with fail
      refine (rmatch_at s p m HM _ (by omega) (by omega)).mono ?_
      rintro e w2 ⟨rfl, hb⟩
      replace hb1 := hb1.next hb; clear hb
      go_wp2_with fail
      refine (prefix_at p f HF _ (by omega)).mono ?_
      rintro e w2 ⟨rfl, hb⟩
      replace hb1 := hb1.next hb; clear hb
      go_wp2_with fail
      refine (rprefix_at p f HF _ (by omega)).mono ?_
      rintro e w2 ⟨rfl, hb⟩
      replace hb1 := hb1.next hb; clear hb
      go_wp2_with fail
      refine (quote_at s q HQ _ (by omega)).mono ?_
      rintro e w2 ⟨rfl, hb⟩
      replace hb1 := hb1.next hb; clear hb
      go_wp2_with fail
      refine (rquote_at s q HQ _ (by omega)).mono ?_
      rintro e w2 ⟨rfl, rfl⟩
      go_wp2_with fail
      go_ret
      exact ⟨rfl, hb1⟩
    · exact big_LikeSays s p w (by omega) hs hp
  · exact big_LikeSays s p w (by omega) hs hp
theorem big_LikeQuotes (s p : ByteArray) (w : World) (h : 200 < s.size ∨ s.size ≤ 200 ∧ 200 < p.size) (hs : s.size ≤ 140737488351232) (hp : p.size ≤ 140737488351232) :
    Calls Try.prog 4 #[.string s, .string p] w (Ret (.bool true) w) := by
  rcases h with h | ⟨h, h'⟩
  · go_enter Try.func4, Try.ntmps4
    go_wp2_with fail
    refine (awake_any _).mono ?_
    rintro e w1 ⟨rfl, hb1⟩
    go_wp2_with fail
    go_ret
    exact ⟨rfl, hb1⟩
  · go_enter Try.func4, Try.ntmps4
    go_wp2_with fail
    refine (awake_any _).mono ?_
    rintro e w1 ⟨rfl, hb1⟩
    go_wp2_with fail
    go_ret
    exact ⟨rfl, hb1⟩
theorem front_bytes (l : List UInt8) : frontL (l.map UInt8.toNat) = l := by
  induction l with
  | nil => rfl
  | cons c l ih =>
    have := c.toNat_lt
    rw [List.map_cons, frontL, if_pos this, ih]; simp
theorem plain_bytes (l : List UInt8) : plainL (l.map UInt8.toNat) = true := by
  simp only [plainL, List.all_map, List.all_eq_true]
  intro c _
  have := c.toNat_lt
  simp; omega
theorem match_quote (s t : ByteArray) : matchL (signsL (S (quoteL s.data.toList)).data.toList) t.data.toList = (s.toList == t.toList) := by
  rw [Oct.S_data, Lik.signs_quote_only]
  apply Bool.eq_iff_iff.2
  have := Lik.M_bytes s.data.toList t.data.toList
  unfold Lik.M at this
  rw [this, beq_iff_eq, ByteArray.toList_eq, ByteArray.toList_eq]
  exact eq_comm
theorem exact_quote (s : ByteArray) : (S (exactR (signsL (S (quoteL s.data.toList)).data.toList)).1, (exactR (signsL (S (quoteL s.data.toList)).data.toList)).2) = (s, true) := by
  rw [Oct.S_data, Lik.signs_quote_only, exactR, if_pos (plain_bytes _), front_bytes, Oct.S_of]
theorem front_quote (s : ByteArray) : S (frontL (signsL (S (quoteL s.data.toList)).data.toList)) = s := by
  rw [Oct.S_data, Lik.signs_quote_only, front_bytes, Oct.S_of]
theorem quote_size (s : ByteArray) : (S (quoteL s.data.toList)).size ≤ 2 * s.size := by
  rw [Oct.S_size]
  have := Lik.quote_length s.data.toList
  simpa using this
theorem walk_LikeQuotes (s t : ByteArray) (w : World) (hs : s.size ≤ 140737488351232) (ht : t.size ≤ 140737488351232) :
    Calls Try.prog 4 #[.string s, .string t] w (Ret (.bool true) w) := by
  by_cases h1 : s.size ≤ 200
  · by_cases h2 : t.size ≤ 200
    · have hz := quote_size s
      obtain ⟨q, HQ⟩ : ∃ q, Hid (S (quoteL s.data.toList) = q) := ⟨_, rfl⟩
      have HM := Lib.hid (match_quote s t)
      have HM1 := Lib.hid (match_quote s s)
      have HE := Lib.hid (exact_quote s)
      have HF := Lib.hid (front_quote s)
      rw [HQ.out] at HM HM1 HE HF hz
      rw [beq_self_eq_true] at HM1
      go_enter Try.func4, Try.ntmps4
      go_wp2_with fail
      refine (quote_at s q HQ _ (by omega)).mono ?_
      rintro e w1 ⟨rfl, hb1⟩
      go_wp2_with fail
      refine (exact_at q s true HE _ (by omega)).mono ?_
      rintro e w2 ⟨rfl, hb⟩
      replace hb1 := hb1.next hb; clear hb
      go_wp2_with fail
      refine (awake_any _).mono ?_
      rintro e w2 ⟨rfl, hb⟩
      replace hb1 := hb1.next hb; clear hb
      go_wp2_with fail
      refine (match_at s q true HM1 _ (by omega) (by omega)).mono ?_
      rintro e w2 ⟨rfl, hb⟩
      replace hb1 := hb1.next hb; clear hb
      go_wp2_with fail
      refine (match_at t q _ HM _ (by omega) (by omega)).mono ?_
      rintro e w2 ⟨rfl, hb⟩
      replace hb1 := hb1.next hb; clear hb
      go_wp2_with fail
      refine (prefix_at q s HF _ (by omega)).mono ?_
      rintro e w2 ⟨rfl, hb⟩
      replace hb1 := hb1.next hb; clear hb
      go_wp2_with fail
      go_ret
      exact ⟨rfl, hb1⟩
    · exact big_LikeQuotes s t w (by omega) hs ht
  · exact big_LikeQuotes s t w (by omega) hs ht
end Go.Proofs.Ytmkfgbbipckgiaa
