/- Disks: Clone. -/
import Derived.Test.YthliialieogakaaDskN
import Derived.Test.YthliialieogakaaShelf
namespace Go.Proofs.Ythliialieogakaa
set_option linter.unusedVariables false
set_option linter.unusedSimpArgs false
open Go.RowKit
open Oct (S)
theorem SecAt.of {w : World} {g off cap : Nat} {l : List ByteArray} (hs : l.length ≤ 140737488351232) (hg : g < w.heap.size) (h : ∀ i (hi : i < l.length), w.cell? ⟨g, off + i, none⟩ = some (.string l[i])) : SecAt w (.slice (some ⟨g, off, none⟩) l.length cap) l := by
  refine ⟨by simpa using hs, by intro c hc; obtain ⟨s, _, rfl⟩ := List.mem_map.1 hc; rfl, _, cap, by simp, fun _ => ⟨g, off, rfl, hg, fun j hj i u hu => ?_⟩⟩
  have hj' : j < l.length := by simpa using hj
  have hi : i < 1 := by have := (List.getElem?_eq_some_iff.1 hu).1; simpa using this
  have hi0 : i = 0 := by omega
  subst hi0
  simp at hu
  subst hu
  simpa using h j hj'
/-- slices.Clone of a disk's sectors: a block of the call's own. -/
theorem clone_any (s : List ByteArray) (ao : Option Addr) (cap : Nat) (w : World) (h : SecAt w (.slice ao s.length cap) s) (h0 : 0 < s.length) (hl : s.length ≤ 100000) :
    Calls Try.prog 29 #[.slice ao s.length cap] w fun e w' => ∃ g cap' cur, e = .returned (.slice (some ⟨g, 0, none⟩) s.length cap') ∧ w.heap.size ≤ g ∧ Below w.heap.size w w' ∧ Blk w' g cur 9 ∧ Hid (∀ j (hj : j < s.length), cur[j]? = some (.string s[j])) := by
  obtain ⟨b, off, cap2, he, hlt, hcell⟩ := SecAt.get h 0 h0
  injection he with he1 he2 he3
  subst he1
  refine (Try.slices_Clone_string b off s.length cap s w (Nat.le_refl _) (by omega) (fun j hj => by rw [hcell j hj]; simp [List.getD, hj])).mono ?_
  rintro e w' ⟨v', rfl, hown, hne, hb⟩
  obtain ⟨hc, hr⟩ := hown
  rcases hr with ⟨rfl, _⟩ | ⟨g, cp, cur, rfl, hB, hg, hnc, hcm, hcs, htk⟩
  · exact (hne rfl).elim
  · refine ⟨g, cp, cur, rfl, hB, hb, hg, fun j hj => ?_⟩
    have h1 : (cur.toList.take (s.length * 1))[j]? = some (.string s[j]) := by rw [htk]; simp [hj]
    rw [List.getElem?_take_of_lt (by omega)] at h1
    simpa using h1
end Go.Proofs.Ythliialieogakaa
