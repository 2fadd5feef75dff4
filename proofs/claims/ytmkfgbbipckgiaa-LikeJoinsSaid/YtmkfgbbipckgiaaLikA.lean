/- Chapter 4: what the statements call, at a known answer; their examples. -/
import Derived.Test.YtmkfgbbipckgiaaLikE
import Derived.Test.YtmkfgbbipckgiaaLikN
import Derived.Test.YtmkfgbbipckgiaaLikQ
namespace Go.Proofs.Ytmkfgbbipckgiaa
set_option linter.unusedVariables false
set_option linter.unusedSimpArgs false
open Go.RowKit
open Oct (S)
open Lik (signsL special frontL plainL matchL quoteL)
theorem match_at (s p : ByteArray) (b : Bool) (h : Hid (matchL (signsL p.data.toList) s.data.toList = b)) (w : World) (hs : s.size ≤ 100000) (hp : p.size ≤ 100000) :
    Calls Try.prog 10 #[.string s, .string p] w (Ret (.bool b) w) := by
  have := match_any s p w hs hp
  rwa [h.out] at this
theorem rmatch_at (s p : ByteArray) (b : Bool) (h : Hid (matchL (signsL p.data.toList) s.data.toList = b)) (w : World) (hs : s.size ≤ 100000) (hp : p.size ≤ 100000) :
    Calls Try.prog 11 #[.string s, .string p] w (Ret (.bool b) w) := by
  have := rmatch_any s p w hs hp
  rwa [h.out] at this
theorem exact_at (p : ByteArray) (r : ByteArray) (b : Bool) (h : Hid ((S (exactR (signsL p.data.toList)).1, (exactR (signsL p.data.toList)).2) = (r, b))) (w : World) (hp : p.size ≤ 100000) :
    Calls Try.prog 8 #[.string p] w (Ret (.tuple #[.string r, .bool b]) w) := by
  have := exact_any p w hp
  have e := h.out
  simp only [Prod.mk.injEq] at e
  rwa [e.1, e.2] at this
theorem rexact_at (p : ByteArray) (r : ByteArray) (b : Bool) (h : Hid ((S (exactR (signsL p.data.toList)).1, (exactR (signsL p.data.toList)).2) = (r, b))) (w : World) (hp : p.size ≤ 100000) :
    Calls Try.prog 9 #[.string p] w (Ret (.tuple #[.string r, .bool b]) w) := by
  have := rexact_any p w hp
  have e := h.out
  simp only [Prod.mk.injEq] at e
  rwa [e.1, e.2] at this
theorem prefix_at (p r : ByteArray) (h : Hid (S (frontL (signsL p.data.toList)) = r)) (w : World) (hp : p.size ≤ 100000) :
    Calls Try.prog 12 #[.string p] w (Ret (.string r) w) := by
  have := prefix_any p w hp
  rwa [h.out] at this
theorem rprefix_at (p r : ByteArray) (h : Hid (S (frontL (signsL p.data.toList)) = r)) (w : World) (hp : p.size ≤ 100000) :
    Calls Try.prog 13 #[.string p] w (Ret (.string r) w) := by
  have := rprefix_any p w hp
  rwa [h.out] at this
theorem quote_at (p r : ByteArray) (h : Hid (S (quoteL p.data.toList) = r)) (w : World) (hp : p.size ≤ 100000) :
    Calls Try.prog 14 #[.string p] w (Ret (.string r) w) := by
  have := quote_any p w hp
  rwa [h.out] at this
theorem rquote_at (p r : ByteArray) (h : Hid (S (quoteL p.data.toList) = r)) (w : World) (hp : p.size ≤ 100000) :
    Calls Try.prog 15 #[.string p] w (Eq1 (.string r) w) := by
  have := rquote_any p w hp
  rwa [h.out] at this
theorem exa {x y : List UInt8 × Bool} (h : x = y) : (S x.1, x.2) = (S y.1, y.2) := by rw [h]
theorem awake_any (w : World) : Calls Try.prog 7 #[] w (Ret (.bool true) w) := by
  go_enter Try.func7, Try.ntmps7
  go_wp2_with fail
  refine (exact_at ⟨#[97, 92, 95, 98]⟩ (S [97, 95, 98]) true (exa (y := ([97, 95, 98], true)) (by decide +kernel)) _ (by decide)).mono ?_
  rintro e w1 ⟨rfl, hb1⟩
  go_wp2_with fail
  refine (exact_at ⟨#[97, 95]⟩ (S []) false (exa (y := ([], false)) (by decide +kernel)) _ (by decide)).mono ?_
  rintro e w2 ⟨rfl, hb⟩
  replace hb1 := hb1.next hb; clear hb
  go_wp2_with fail
  refine (match_at ⟨#[97, 98, 99]⟩ ⟨#[97, 37]⟩ true (by show _ = _; decide +kernel) _ (by decide) (by decide)).mono ?_
  rintro e w3 ⟨rfl, hb⟩
  replace hb1 := hb1.next hb; clear hb
  go_wp2_with fail
  refine (match_at ⟨#[]⟩ ⟨#[37, 37]⟩ true (by show _ = _; decide +kernel) _ (by decide) (by decide)).mono ?_
  rintro e w3 ⟨rfl, hb⟩
  replace hb1 := hb1.next hb; clear hb
  go_wp2_with fail
  refine (match_at ⟨#[97, 98, 99]⟩ ⟨#[97, 95]⟩ false (by show _ = _; decide +kernel) _ (by decide) (by decide)).mono ?_
  rintro e w3 ⟨rfl, hb⟩
  replace hb1 := hb1.next hb; clear hb
  go_wp2_with fail
  refine (match_at ⟨#[97, 37]⟩ ⟨#[97, 92, 37]⟩ true (by show _ = _; decide +kernel) _ (by decide) (by decide)).mono ?_
  rintro e w3 ⟨rfl, hb⟩
  replace hb1 := hb1.next hb; clear hb
  go_wp2_with fail
  refine (prefix_at ⟨#[97, 98, 37, 99]⟩ (S [97, 98]) (congrArg S (by decide +kernel)) _ (by decide)).mono ?_
  rintro e w3 ⟨rfl, hb⟩
  replace hb1 := hb1.next hb; clear hb
  go_wp2_with fail
  refine (quote_at ⟨#[53, 37]⟩ (S [53, 92, 37]) (congrArg S (by decide +kernel)) _ (by decide)).mono ?_
  rintro e w3 ⟨rfl, hb⟩
  replace hb1 := hb1.next hb; clear hb
  go_wp2_with fail
  go_ret
  exact ⟨rfl, hb1⟩
end Go.Proofs.Ytmkfgbbipckgiaa
