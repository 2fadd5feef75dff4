/- Disks: pages of one byte each, written one behind the other. -/
import Derived.Test.YthliialieogakaaDskG
namespace Go.Proofs.Ythliialieogakaa
set_option linter.unusedVariables false
set_option linter.unusedSimpArgs false
open Go.RowKit
open Oct (S)
/-- A sector of bytes c. -/
def sctr (c : UInt8) : ByteArray := S (List.replicate 128 c)
def sctrs (wl : List UInt8) : List ByteArray := wl.map sctr
/-- k bytes c from 'at' on. -/
def fill (c : UInt8) : Nat → Nat → List UInt8 → List UInt8
  | _, 0, wl => wl
  | p, k + 1, wl => fill c (p + 1) k (wl.set p c)
theorem fill_len (c : UInt8) : ∀ (k p : Nat) (wl : List UInt8), (fill c p k wl).length = wl.length
  | 0, p, wl => rfl
  | k + 1, p, wl => by rw [fill, fill_len c k]; simp
theorem fill_snoc (c : UInt8) : ∀ (k p : Nat) (wl : List UInt8), (fill c p k wl).set (p + k) c = fill c p (k + 1) wl
  | 0, p, wl => rfl
  | k + 1, p, wl => by
    rw [fill, show p + (k + 1) = (p + 1) + k by omega, fill_snoc c k (p + 1)]
    rfl
theorem sctrs_len (wl : List UInt8) : (sctrs wl).length = wl.length := by simp [sctrs]
theorem sctrs_set (wl : List UInt8) (p : Nat) (c : UInt8) : (sctrs wl).set p (sctr c) = sctrs (wl.set p c) := by simp [sctrs, List.map_set]
theorem sctr_size (c : UInt8) : (sctr c).size = 128 := by simp [sctr, S, ByteArray.size]
theorem sctr_get (c : UInt8) (i : Nat) (hi : i < 128) (h : i < (sctr c).size) : (sctr c)[i]'h = c := by
  show (List.replicate 128 c).toArray[i]'(by simpa using hi) = c
  rw [List.getElem_toArray, List.getElem_replicate]
theorem sctrs_size (wl : List UInt8) : ∀ x ∈ sctrs wl, x.size = 128 := by
  intro x hx
  obtain ⟨c, _, rfl⟩ := List.mem_map.1 hx
  exact sctr_size c
theorem cut_page (c : UInt8) (j : Nat) (hj : j < 4) : Dk.cutAt (S (pg c)) j = sctr c := by
  apply ByteArray.ext
  apply Array.ext'
  simp only [Dk.cutAt, sctr, S, pg, ByteArray.data_extract]
  simp only [Array.toList_extract, List.extract_eq_take_drop, List.drop_replicate, List.take_replicate]
  congr 1
  omega
theorem sctrs_blank : (Dk.blank 80).s = sctrs (List.replicate 80 0) := by
  simp only [Dk.blank, sctrs, List.map_replicate]
  rfl
/-- m sectors of the page are written: as many as are left. -/
theorem from_fill (c : UInt8) (q : Nat) : ∀ (m j L : Nat) (wl : List UInt8), j + m = 4 → q + 4 ≤ wl.length →
    Dk.writeFrom q (S (pg c)) ⟨sctrs wl, L, false⟩ j m = if m ≤ L then (⟨sctrs (fill c (q + j) m wl), ((L - m : Nat) : Int), false⟩, 0) else (⟨sctrs (fill c (q + j) L wl), 0, true⟩, 20)
  | 0, j, L, wl, hj, hq => by simp [Dk.writeFrom, fill]
  | m + 1, j, L, wl, hj, hq => by
    have his : (Dk.mk (sctrs wl) L false).is ((q : Int) + j) = true := by simp [Dk.is, sctrs_len]; omega
    rw [Dk.writeFrom, cut_page c j (by omega)]
    by_cases hL : L = 0
    · subst hL
      have hw : (Dk.mk (sctrs wl) ((0 : Nat) : Int) false).write ((q : Int) + j) (sctr c) = (⟨sctrs wl, 0, true⟩, 20) := by
        simp only [Dk.write, his, sctr_size]
        rfl
      rw [hw]
      simp [fill]
    · have hn : ((q : Int) + j).toNat = q + j := by omega
      have hw : (Dk.mk (sctrs wl) (L : Int) false).write ((q : Int) + j) (sctr c) = (⟨sctrs (wl.set (q + j) c), ((L - 1 : Nat) : Int), false⟩, 0) := by
        have h0 : ¬ (L : Int) = 0 := by omega
        have h1 : (0 : Int) < L := by omega
        have h2 : (L : Int) - 1 = ((L - 1 : Nat) : Int) := by omega
        simp only [Dk.write, his, sctr_size, hn, sctrs_set]
        rw [if_neg (by simp), if_neg (by simp), if_neg h0, if_pos h1, h2]
      rw [hw]
      simp only [if_true]
      rw [from_fill c q m (j + 1) (L - 1) _ (by omega) (by simpa using hq)]
      by_cases hm : m + 1 ≤ L
      · rw [if_pos (by omega), if_pos hm, show L - 1 - m = L - (m + 1) by omega]
        rfl
      · rw [if_neg (by omega), if_neg hm]
        obtain ⟨L', rfl⟩ : ∃ L', L = L' + 1 := ⟨L - 1, by omega⟩
        rfl
theorem page_fill (c : UInt8) (q L : Nat) (wl : List UInt8) (hl : wl.length = 80) (hq : q + 4 ≤ 80) :
    (Dk.mk (sctrs wl) L false).writePage q (S (pg c)) = if 4 ≤ L then (⟨sctrs (fill c q 4 wl), ((L - 4 : Nat) : Int), false⟩, 0) else (⟨sctrs (fill c q L wl), 0, true⟩, 20) := by
  have hf : (Dk.mk (sctrs wl) L false).fits q = true := by simp [Dk.fits, sctrs_len, hl]; omega
  have hp : (S (pg c)).size = 512 := by show (List.replicate 512 c).toArray.size = 512; rw [List.size_toArray, List.length_replicate]
  have h := from_fill c q 4 0 L wl rfl (by omega)
  rw [Nat.add_zero] at h
  rw [← h, Dk.writePage, if_neg (by simp), if_neg (by rw [hf, hp]; simp)]
theorem read_sctrs (wl : List UInt8) (k : Nat) (hk : k < wl.length) : (Dk.mk (sctrs wl) (-1) false).read k = (sctr wl[k], 0) := by
  have h1 : (Dk.mk (sctrs wl) (-1) false).is k = true := by simp [Dk.is, sctrs_len]; omega
  rw [Dk.read, if_neg (by simp), if_pos h1]
  simp [sctrs, hk]
end Go.Proofs.Ythliialieogakaa
