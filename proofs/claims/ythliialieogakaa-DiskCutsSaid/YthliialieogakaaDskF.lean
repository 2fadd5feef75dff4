/- Disks: the page's example, plainly. -/
import Derived.Test.YthliialieogakaaDskG
namespace Go.Proofs.Ythliialieogakaa
set_option linter.unusedVariables false
set_option linter.unusedSimpArgs false
open Go.RowKit
open Oct (S)
def awD : Dk := (Dk.writePage ((Dk.blank 8).arm 2) 4 (S (pg 97))).1
def awQ : ByteArray := (awD.start.readPage 4).1
theorem aw1 : Dk.new 8 = (⟨(Dk.blank 8).s, -1, false⟩, 0) := by decide +kernel
theorem aw2 : (Dk.mk (Dk.blank 8).s (-1) false).arm 2 = ⟨(Dk.blank 8).s, 2, false⟩ := by decide +kernel
theorem aw3 : Dk.writePage ⟨(Dk.blank 8).s, 2, false⟩ 4 (S (pg 97)) = (⟨awD.s, 0, true⟩, 20) := by decide +kernel
theorem aw4 : (Dk.mk awD.s 0 true).start = ⟨awD.s, -1, false⟩ := by simp only [Dk.start]
theorem aw5 : (Dk.mk awD.s (-1) false).readPage 4 = (awQ, 0) := by decide +kernel
theorem aw6 : awQ.size = 512 ∧ awQ[255]? = some 97 ∧ awQ[256]? = some 0 := by decide +kernel
theorem aw7 : ∀ x ∈ awD.s, x.size ≤ 1000 := by decide +kernel
theorem aw8 : awD.s.length = 8 := by decide +kernel
end Go.Proofs.Ythliialieogakaa
