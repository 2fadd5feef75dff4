/- The statement on tabelliontop.TopRewrites where what it reads is of bulk at most 1048576. -/
import Derived.Test.YtcimkkmkiedobaaGreatDoorFrFrame
import Derived.Test.YtcimkkmkiedobaaGreatDoorFaB
import Derived.Test.YtcimkkmkiedobaaGreatDoorFaC
import Derived.Test.YtcimkkmkiedobaaGreatDoorFaM
import Derived.Test.YtcimkkmkiedobaaGreatDoorFaD
import Derived.Test.YtcimkkmkiedobaaGreatDoorFaE
import Derived.Test.YtcimkkmkiedobaaGreatDoorFaF
import Derived.Test.YtcimkkmkiedobaaGreatDoorFaG
namespace Go.Proofs.YtcimkkmkiedobaaGreatDoor
open Go.ChangeShapes Go.WideShapes Go.ChangeAt Go.RowKit
set_option linter.unusedVariables false
set_option maxRecDepth 100000 in
theorem lifted (os : Os) (started : os.Started) (H : Type) (enc : TypeId × Value → H) (F : Stop.Interp) :
    ReturnsInHanded {} Tryz.checked os 3 .any (fun w args => ((Rows.OpenSpec.upto Rows.topRewritesSpec).pre enc Tryz.prog Tryz.f3 [] false w args ∧ laidMetH Tryz.prog Rows.topRewritesUptoRow.laid w) ∧ sizedMet enc Tryz.prog Tryz.f3 (Rows.OpenSpec.upto Rows.topRewritesSpec) false w args)
      (((Rows.OpenSpec.upto Rows.topRewritesSpec).at F).post enc Tryz.prog Tryz.f3 false true false false) := by
  refine lift_of (C := Tryz.checked) (s := Rows.OpenSpec.upto Rows.topRewritesSpec) (k := Rows.uptoSmall) rfl (X := fun w _ => laidMetH Tryz.prog Rows.topRewritesUptoRow.laid w) own started (by kernel_rfl) Tryz.func3
    ⟨laidWorld os, fun _ _ => 0, ⟨#[], wargs, []⟩, rfl, World.shaped_of_B (lw1 os) (lw2 os), rfl, (Input.okWide_of_okWideB (base := (laidWorld os).heap.size) (lw3 os)).2,
      ⟨⟨(OpenSpec.pre_some rfl [] false _ _).2 ⟨_, _, _, DataW.Whole_of_whole (lw4 os enc), rfl, by kernel_rfl⟩, lw5 os⟩, sizedMet_of_sizedB (s := (Rows.OpenSpec.upto Rows.topRewritesSpec).bare) (fuel := 8) (lw6 os enc)⟩, by
      simp only [Assume.holds]
      exact ⟨by simp, by simp, fun _ => Modest.zero, by simp, by simp⟩⟩ ?_
  intro W base args ds gs before hval0 hW hk hsh
  obtain ⟨m, hm⟩ : ∃ m, W.cell? ⟨2, 0, none⟩ = some (.int .i64 m) := Go.Proofs.cell_of_shapedOpen_int (P := Tryz.prog) (zero := #[.int .i64 0]) (t := 3) hsh (of_decide_eq_true (by kernel_rfl)) (by kernel_rfl) rfl (by kernel_rfl) (by kernel_rfl) Tryz.underlying3
  have hval : ∀ (j : Nat) t v, Tryz.f3.params[j]? = some t → args[j]? = some v → Value.okWide Tryz.prog W .any base t v := hval0
  have hW' := hW
  obtain ⟨p, q, hA0, hV, rfl, hfz, hnd⟩ := hW
  have hA : DataW.TrodAll enc Tryz.prog W 0 (fun _ => true) true Tryz.f3.params.toList args.toList ds p := hA0
  rw [Tryz.params3] at hA hval
  obtain ⟨v0, vs0, d0, ds0, p0, q0, hargs, rfl, rfl, h0, r0⟩ := trodAll_cons hA
  obtain ⟨v1, vs1, d1, ds1, p1, q1, rfl, rfl, rfl, h1, r1⟩ := trodAll_cons r0
  obtain ⟨rfl, rfl, rfl⟩ := trodAll_nil r1
  obtain rfl : args = #[v0, v1] := by cases args; simp_all
  obtain ⟨rfl, rfl⟩ := trodVars_none hV
  have hbulk : Rows.uptoBulkAll ([d0, d1] ++ []) ≤ 1048576 := of_decide_eq_true hk
  simp only [List.append_nil, Rows.uptoBulkAll] at hbulk
  have k0 := h0
  have k1 := h1
  have lt0 : ∀ x ∈ p0, x.block < W.heap.size := by obtain ⟨m, hm⟩ := k0; exact DataW.trod_lt m _ _ _ hm
  have lt1 : ∀ x ∈ p1, x.block < W.heap.size := by obtain ⟨m, hm⟩ := k1; exact DataW.trod_lt m _ _ _ hm
  obtain ⟨r, R0, hr⟩ := Go.Ev.ai2 (hval 0 29 v0 rfl rfl) h0 (by rw [bD]; omega)
  obtain ⟨so, sl, sc, hsv⟩ := Go.WideShapes.okWide_slice Tryz.underlying30 (hval 1 30 v1 rfl rfl)
  obtain ⟨db, R1, hd, hw⟩ := Go.Ev.ajm (by rw [hsv]; rfl) h1 (by rw [bD]; omega)
  refine (Go.Ev.ag8 hm R0 R1 (by rw [bD] at hr; unfold Go.Ev.BK; omega) hd hw).mono fun e W' ⟨he, bel⟩ => ?_
  subst he
  exact ⟨_, rfl, _, _, _, [], _, [], hW', trodAll_mk1 (shut_bool Tryz.underlying4 _), (trodAll_cons_mk (Below.trod laidOut (by kernel_rfl) (of_decide_eq_true (by kernel_rfl)) k0 bel lt0) (trodAll_cons_mk (Below.trod laidOut (by kernel_rfl) (of_decide_eq_true (by kernel_rfl)) k1 bel lt1) trodAll_mk0)), rfl, bel.frame _, fun h => by cases h⟩
end Go.Proofs.YtcimkkmkiedobaaGreatDoor
