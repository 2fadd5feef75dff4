/- The tied card of tabelliontop.TopRewrites holds: for every relation and all data, together of bulk at most 1048576, the call answers true and both arguments read behind it as before. -/
import Derived.Test.YtcimkkmkiedobaaGreatDoorCards
import Derived.Test.YtcimkkmkiedobaaGreatDoorFrI
import Derived.Test.YtcimkkmkiedobaaGreatDoorFaK
import Derived.Test.YtcimkkmkiedobaaGreatDoorFaL
import Derived.Test.YtcimkkmkiedobaaGreatDoorTiZ
import Derived.KernelRfl
import Derived.SevenTiedAt
import GoSem.ClaimSeven
namespace Go.Proofs.YtcimkkmkiedobaaGreatDoor
set_option maxRecDepth 100000
set_option linter.all false
theorem row_tie:Rows.topRewritesUptoRow.laidByTextAt .later Tryz.pinned [.data,.data,.data] true:=
 OpenClaim.laidByTextAt_later rfl rfl tie noOwnUnsafe
theorem proved:Rows.TopRewritesUptoCardSaid:=
 Claim7.holds_tied_plain_at .later [] [.data,.data,.data] true (true, "00ef8e801036e080bd3d3eed7fca98c8834f7efe9e8054d13c30f66968cd0dc8") true
  over (fun _ h=>by cases h) k_wt (fun _ h=>by cases h) row_tie rfl ⟨rfl,rfl⟩ k_mi rfl
  (fun f fn hf hfn=>by
   obtain rfl:f=3:=Option.some.inj (hf.symm.trans fnm)
   obtain rfl:fn=Tryz.f3:=(Option.some.inj (Tryz.func3.symm.trans hfn)).symm
   refine ⟨k_lk,fun j t ht=>?_⟩
   rw[Tryz.params3] at ht
   rcases j with _|_|j
   ·obtain rfl:29=t:=by simpa using ht
    exact k_s1
   ·obtain rfl:30=t:=by simpa using ht
    exact k_s2
   ·simp at ht)
  k_gb
#print axioms proved
end Go.Proofs.YtcimkkmkiedobaaGreatDoor
