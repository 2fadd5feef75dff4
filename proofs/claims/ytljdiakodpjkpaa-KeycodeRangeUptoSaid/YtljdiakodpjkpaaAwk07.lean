/- The page's examples. -/
import Derived.Test.YtljdiakodpjkpaaKGet07
import Derived.Deep.RegionLaw
namespace Go.Proofs.Ytljdiakodpjkpaa
set_option linter.unusedVariables false
set_option linter.unusedSimpArgs false
open Go.RowKit
open Oct (S S_size S_data beN)
theorem awA : (getK [3, 97, 98, 0]) = some [⟨3, 0, S [97, 98]⟩] := by rfl
theorem awB : afterF [97, 255] = some [98] := by decide +kernel
theorem awC : afterF [255] = none := by decide +kernel
theorem awD7 : keyR [⟨0, 0, ⟨#[]⟩⟩, ⟨2, 5, ⟨#[]⟩⟩] = [0, 2, 128, 0, 0, 0, 0, 0, 0, 5] := by decide +kernel
set_option maxHeartbeats 2000000 in
set_option maxRecDepth 100000 in
theorem awake7_any (w : World) : Calls Try.prog 10 #[] w (Ret (.bool true) w) := by
  have HG := Lib.hid (fun W => kget_any ⟨#[3, 97, 98, 0]⟩ W (by decide))
  rw [show (ByteArray.mk #[3, 97, 98, 0]).data.toList = [3, 97, 98, 0] from rfl, awA, show S [97, 98] = ⟨#[97, 98]⟩ from rfl] at HG
  have HA := Lib.hid (fun W => after_any ⟨#[97, 255]⟩ W (by decide))
  rw [show (ByteArray.mk #[97, 255]).data.toList = [97, 255] from rfl, awB] at HA
  have HB := Lib.hid (fun W => after_any ⟨#[255]⟩ W (by decide))
  rw [show (ByteArray.mk #[255]).data.toList = [255] from rfl, awC] at HB
  have HN := Lib.hid (fun n W => num_any n W)
  have HS := Lib.hid (fun s W => str_any s W)
  have HP := Lib.hid (fun v W h => kput_any [⟨0, 0, ⟨#[]⟩⟩, ⟨2, 5, ⟨#[]⟩⟩] v W h (rights_oks (by decide)) (by decide))
  rw [awD7, show S [0, 2, 128, 0, 0, 0, 0, 0, 0, 5] = ⟨#[0, 2, 128, 0, 0, 0, 0, 0, 0, 5]⟩ from rfl] at HP
  have hR : ∀ wN : World, RowAt (wN.alloc (.cells #[.int .i64 0, .int .i64 0, .string ⟨#[]⟩, .int .i64 2, .int .i64 5, .string ⟨#[]⟩] 41)) (.slice (some ⟨wN.heap.size, 0, none⟩) 2 2) [⟨0, 0, ⟨#[]⟩⟩, ⟨2, 5, ⟨#[]⟩⟩] := fun wN =>
    RowAt.blk (cap := 2) (l := [⟨0, 0, ⟨#[]⟩⟩, ⟨2, 5, ⟨#[]⟩⟩]) (Blk.new wN #[.int .i64 0, .int .i64 0, .string ⟨#[]⟩, .int .i64 2, .int .i64 5, .string ⟨#[]⟩] 41) (by decide)
  have HPW := Lib.hid (fun wN : World => HP.out _ _ (hR wN))
  clear hR HP
  go_enter Try.func10, Try.ntmps10
  go_wp2_with fail
  refine (HG.out _).mono ?_
  rintro e w1 ⟨hb1, v1, rfl, hr1⟩
  simp only [Option.getD_some, Option.isSome_some] at hr1 ⊢
  go_wp2_with fail
  refine (HA.out _).mono ?_
  rintro e w2 ⟨rfl, hb2⟩
  simp only [Option.getD_some, Option.isSome_some]
  rw [show S [98] = ⟨#[98]⟩ from rfl]

  go_wp2_with fail
  refine (HB.out _).mono ?_
  rintro e w3 ⟨rfl, hb3⟩
  simp only [Option.getD_none, Option.isSome_none]
  have hr3 := (hr1.below hb2).below hb3
  have hb4 := (hb1.next hb2).next hb3
  clear hr1 hb1 hb2 hb3 HG HA HB
  obtain ⟨b, off, cap, rfl, c0, c1, c2⟩ := hr3.get 0 (by decide)
  have d0 : w3.cell? ⟨b, off, none⟩ = some (.int .i64 3) := by simpa using c0
  have d1 : w3.cell? ⟨b, off + 1, none⟩ = some (.int .i64 0) := by simpa using c1
  have d2 : w3.cell? ⟨b, off + 2, none⟩ = some (.string ⟨#[97, 98]⟩) := by simpa using c2
  clear c0 c1 c2 hr3
  simp only [List.length_cons, List.length_nil, Nat.zero_add]
  go_wp2_with fail
  have hE1 : True := trivial
  refine wp_region_any (by kernel_rfl) ?_
  change wpAny _ _ _ _ _ _ _ (World.drew _)
  refine wpAny_take (i := 0) (v := ?_) rfl (by kernel_rfl) (by kernel_rfl) (by kernel_rfl) (fun _ _ _ h => h) (Or.inl ⟨by kernel_rfl, ?_⟩) ?_
  rotate_left
  · (intro w; go_simp) <;> with_reducible rfl
  refine wpAny_ready (rs := [1]) (by kernel_rfl) (by simp) ?_
  refine AllReady.cons rfl (fun K hK => ?_) (AllReady.nil)
  (go_simp; go_at_call 20; refine (HN.out _ _).mono ?_; rintro e wN ⟨rfl, hbN⟩; have hbA := (Below.refl w3.heap.size w3).drew.trans hbN)
  try go_simp
  try (refine hK _ _ ?_)
  clear hK K
  refine wpAny_ready (rs := [2]) (by kernel_rfl) (by simp) ?_
  refine AllReady.cons rfl (fun K hK => ?_) (AllReady.nil)
  try go_simp
  try (refine hK _ _ ?_)
  clear hK K
  refine wpAny_ready (rs := [3]) (by kernel_rfl) (by simp) ?_
  refine AllReady.cons rfl (fun K hK => ?_) (AllReady.nil)
  (go_simp; go_at_call 14; refine (HPW.out _).mono ?_; rintro e wP ⟨rfl, hbP⟩; have hbB := (hbA.alloc hbA.size _).next hbP; have p0 := cell_below d0 hbB; have p1 := cell_below d1 hbB; have p2 := cell_below d2 hbB; clear HN HPW hE1)
  try go_simp
  try (refine hK _ _ ?_)
  clear hK K
  refine wpAny_take (i := 4) (v := ?_) rfl (by kernel_rfl) (by kernel_rfl) (by kernel_rfl) (fun _ _ _ h => h) (Or.inl ⟨by kernel_rfl, ?_⟩) ?_
  rotate_left
  · (intro w; go_simp) <;> with_reducible rfl
  refine wpAny_take (i := 5) (v := ?_) rfl (by kernel_rfl) (by kernel_rfl) (by kernel_rfl) (fun _ _ _ h => h) (Or.inl ⟨by kernel_rfl, ?_⟩) ?_
  rotate_left
  · (intro w; go_simp) <;> with_reducible rfl
  refine wpAny_take (i := 6) (v := ?_) rfl (by kernel_rfl) (by kernel_rfl) (by kernel_rfl) (fun _ _ _ h => h) (Or.inl ⟨by kernel_rfl, ?_⟩) ?_
  rotate_left
  · (intro w; go_simp) <;> with_reducible rfl
  refine wpAny_take (i := 7) (v := ?_) rfl (by kernel_rfl) (by kernel_rfl) (by kernel_rfl) (fun _ _ _ h => h) (Or.inl ⟨by kernel_rfl, ?_⟩) ?_
  rotate_left
  · (intro w; go_simp) <;> with_reducible rfl
  refine wpAny_take (i := 8) (v := ?_) rfl (by kernel_rfl) (by kernel_rfl) (by kernel_rfl) (fun _ _ _ h => h) (Or.inl ⟨by kernel_rfl, ?_⟩) ?_
  rotate_left
  · (intro w; go_simp) <;> with_reducible rfl
  refine wpAny_take (i := 9) (v := ?_) rfl (by kernel_rfl) (by kernel_rfl) (by kernel_rfl) (fun _ _ _ h => h) (Or.inl ⟨by kernel_rfl, ?_⟩) ?_
  rotate_left
  · (intro w; go_simp) <;> with_reducible rfl
  refine wpAny_take (i := 10) (v := ?_) rfl (by kernel_rfl) (by kernel_rfl) (by kernel_rfl) (fun _ _ _ h => h) (Or.inl ⟨by kernel_rfl, ?_⟩) ?_
  rotate_left
  · (intro w; go_simp) <;> with_reducible rfl
  refine wpAny_take (i := 11) (v := ?_) rfl (by kernel_rfl) (by kernel_rfl) (by kernel_rfl) (fun _ _ _ h => h) (Or.inl ⟨by kernel_rfl, ?_⟩) ?_
  rotate_left
  · (intro w; go_simp) <;> with_reducible rfl
  refine wpAny_take (i := 12) (v := ?_) rfl (by kernel_rfl) (by kernel_rfl) (by kernel_rfl) (fun _ _ _ h => h) (Or.inl ⟨by kernel_rfl, ?_⟩) ?_
  rotate_left
  · (intro w; go_simp) <;> with_reducible rfl
  refine wpAny_take (i := 13) (v := ?_) rfl (by kernel_rfl) (by kernel_rfl) (by kernel_rfl) (fun _ _ _ h => h) (Or.inl ⟨by kernel_rfl, ?_⟩) ?_
  rotate_left
  · (intro w; go_simp) <;> with_reducible rfl
  refine wpAny_take (i := 14) (v := ?_) rfl (by kernel_rfl) (by kernel_rfl) (by kernel_rfl) (fun _ _ _ h => h) (Or.inl ⟨by kernel_rfl, ?_⟩) ?_
  rotate_left
  · (intro w; go_simp) <;> with_reducible rfl
  refine wpAny_take (i := 15) (v := ?_) rfl (by kernel_rfl) (by kernel_rfl) (by kernel_rfl) (fun _ _ _ h => h) (Or.inl ⟨by kernel_rfl, ?_⟩) ?_
  rotate_left
  · (intro w; go_simp) <;> with_reducible rfl
  refine wpAny_ready (rs := [16, 17]) (by kernel_rfl) (by simp) ?_
  refine AllReady.cons rfl (fun K hK => ?_) (AllReady.cons rfl (fun K hK => ?_) AllReady.nil)
  · go_simp
    refine hK _ _ ?_
    clear hK K
    refine wpAny_ready (rs := [17]) (by kernel_rfl) (by simp) ?_
    refine AllReady.cons rfl (fun K hK => ?_) (AllReady.nil)
    (go_simp; go_at_call 19; refine (HS.out _ _).mono ?_; rintro e wS ⟨rfl, hbS⟩; have hbC := hbB.next hbS; have q0 := cell_below d0 hbC; have q1 := cell_below d1 hbC; have q2 := cell_below d2 hbC)
    try go_simp
    try (refine hK _ _ ?_)
    clear hK K
    refine wpAny_take (i := 18) (v := ?_) rfl (by kernel_rfl) (by kernel_rfl) (by kernel_rfl) (fun _ _ _ h => h) (Or.inl ⟨by kernel_rfl, ?_⟩) ?_
    rotate_left
    · (intro w; go_simp) <;> with_reducible rfl
    refine wpAny_take (i := 19) (v := ?_) rfl (by kernel_rfl) (by kernel_rfl) (by kernel_rfl) (fun _ _ _ h => h) (Or.inl ⟨by kernel_rfl, ?_⟩) ?_
    rotate_left
    · (intro w; go_simp) <;> with_reducible rfl
    refine wpAny_take (i := 20) (v := ?_) rfl (by kernel_rfl) (by kernel_rfl) (by kernel_rfl) (fun _ _ _ h => h) (Or.inl ⟨by kernel_rfl, ?_⟩) ?_
    rotate_left
    · (intro w; go_simp) <;> with_reducible rfl
    refine wpAny_take (i := 21) (v := ?_) rfl (by kernel_rfl) (by kernel_rfl) (by kernel_rfl) (fun _ _ _ h => h) (Or.inl ⟨by kernel_rfl, ?_⟩) ?_
    rotate_left
    · (intro w; go_simp) <;> with_reducible rfl
    refine wpAny_take (i := 22) (v := ?_) rfl (by kernel_rfl) (by kernel_rfl) (by kernel_rfl) (fun _ _ _ h => h) (Or.inl ⟨by kernel_rfl, ?_⟩) ?_
    rotate_left
    · (intro w; go_simp) <;> with_reducible rfl
    refine wpAny_take (i := 23) (v := ?_) rfl (by kernel_rfl) (by kernel_rfl) (by kernel_rfl) (fun _ _ _ h => h) (Or.inl ⟨by kernel_rfl, ?_⟩) ?_
    rotate_left
    · (intro w; go_simp) <;> with_reducible rfl
    refine wpAny_take (i := 24) (v := ?_) rfl (by kernel_rfl) (by kernel_rfl) (by kernel_rfl) (fun _ _ _ h => h) (Or.inl ⟨by kernel_rfl, ?_⟩) ?_
    rotate_left
    · (intro w; go_simp) <;> with_reducible rfl
    refine wpAny_take (i := 25) (v := ?_) rfl (by kernel_rfl) (by kernel_rfl) (by kernel_rfl) (fun _ _ _ h => h) (Or.inl ⟨by kernel_rfl, ?_⟩) ?_
    rotate_left
    · (intro w; go_simp) <;> with_reducible rfl
    refine wpAny_take (i := 26) (v := ?_) rfl (by kernel_rfl) (by kernel_rfl) (by kernel_rfl) (fun _ _ _ h => h) (Or.inl ⟨by kernel_rfl, ?_⟩) ?_
    rotate_left
    · (intro w; go_simp) <;> with_reducible rfl
    refine wpAny_take (i := 27) (v := ?_) rfl (by kernel_rfl) (by kernel_rfl) (by kernel_rfl) (fun _ _ _ h => h) (Or.inl ⟨by kernel_rfl, ?_⟩) ?_
    rotate_left
    · (intro w; go_simp) <;> with_reducible rfl
    refine wpAny_take (i := 28) (v := ?_) rfl (by kernel_rfl) (by kernel_rfl) (by kernel_rfl) (fun _ _ _ h => h) (Or.inl ⟨by kernel_rfl, ?_⟩) ?_
    rotate_left
    · (intro w; go_simp) <;> with_reducible rfl
    refine wpAny_take (i := 29) (v := ?_) rfl (by kernel_rfl) (by kernel_rfl) (by kernel_rfl) (fun _ _ _ h => h) (Or.inl ⟨by kernel_rfl, ?_⟩) ?_
    rotate_left
    · (intro w; go_simp) <;> with_reducible rfl
    refine wpAny_take (i := 30) (v := ?_) rfl (by kernel_rfl) (by kernel_rfl) (by kernel_rfl) (fun _ _ _ h => h) (Or.inl ⟨by kernel_rfl, ?_⟩) ?_
    rotate_left
    · (intro w; go_simp) <;> with_reducible rfl
    refine wpAny_take (i := 31) (v := ?_) rfl (by kernel_rfl) (by kernel_rfl) (by kernel_rfl) (fun _ _ _ h => h) (Or.inl ⟨by kernel_rfl, ?_⟩) ?_
    rotate_left
    · (intro w; go_simp) <;> with_reducible rfl
    refine wpAny_done (by kernel_rfl) ?_ _
    try simp only []
    go_simp
    try go_wp2
    go_ret
    exact ⟨rfl, hb4.next hbC⟩
  · (go_simp; go_at_call 19; refine (HS.out _ _).mono ?_; rintro e wS ⟨rfl, hbS⟩; have hbC := hbB.next hbS; have q0 := cell_below d0 hbC; have q1 := cell_below d1 hbC; have q2 := cell_below d2 hbC)
    try go_simp
    try (refine hK _ _ ?_)
    clear hK K
    refine wpAny_ready (rs := [16]) (by kernel_rfl) (by simp) ?_
    refine AllReady.cons rfl (fun K hK => ?_) (AllReady.nil)
    try go_simp
    try (refine hK _ _ ?_)
    clear hK K
    refine wpAny_take (i := 18) (v := ?_) rfl (by kernel_rfl) (by kernel_rfl) (by kernel_rfl) (fun _ _ _ h => h) (Or.inl ⟨by kernel_rfl, ?_⟩) ?_
    rotate_left
    · (intro w; go_simp) <;> with_reducible rfl
    refine wpAny_take (i := 19) (v := ?_) rfl (by kernel_rfl) (by kernel_rfl) (by kernel_rfl) (fun _ _ _ h => h) (Or.inl ⟨by kernel_rfl, ?_⟩) ?_
    rotate_left
    · (intro w; go_simp) <;> with_reducible rfl
    refine wpAny_take (i := 20) (v := ?_) rfl (by kernel_rfl) (by kernel_rfl) (by kernel_rfl) (fun _ _ _ h => h) (Or.inl ⟨by kernel_rfl, ?_⟩) ?_
    rotate_left
    · (intro w; go_simp) <;> with_reducible rfl
    refine wpAny_take (i := 21) (v := ?_) rfl (by kernel_rfl) (by kernel_rfl) (by kernel_rfl) (fun _ _ _ h => h) (Or.inl ⟨by kernel_rfl, ?_⟩) ?_
    rotate_left
    · (intro w; go_simp) <;> with_reducible rfl
    refine wpAny_take (i := 22) (v := ?_) rfl (by kernel_rfl) (by kernel_rfl) (by kernel_rfl) (fun _ _ _ h => h) (Or.inl ⟨by kernel_rfl, ?_⟩) ?_
    rotate_left
    · (intro w; go_simp) <;> with_reducible rfl
    refine wpAny_take (i := 23) (v := ?_) rfl (by kernel_rfl) (by kernel_rfl) (by kernel_rfl) (fun _ _ _ h => h) (Or.inl ⟨by kernel_rfl, ?_⟩) ?_
    rotate_left
    · (intro w; go_simp) <;> with_reducible rfl
    refine wpAny_take (i := 24) (v := ?_) rfl (by kernel_rfl) (by kernel_rfl) (by kernel_rfl) (fun _ _ _ h => h) (Or.inl ⟨by kernel_rfl, ?_⟩) ?_
    rotate_left
    · (intro w; go_simp) <;> with_reducible rfl
    refine wpAny_take (i := 25) (v := ?_) rfl (by kernel_rfl) (by kernel_rfl) (by kernel_rfl) (fun _ _ _ h => h) (Or.inl ⟨by kernel_rfl, ?_⟩) ?_
    rotate_left
    · (intro w; go_simp) <;> with_reducible rfl
    refine wpAny_take (i := 26) (v := ?_) rfl (by kernel_rfl) (by kernel_rfl) (by kernel_rfl) (fun _ _ _ h => h) (Or.inl ⟨by kernel_rfl, ?_⟩) ?_
    rotate_left
    · (intro w; go_simp) <;> with_reducible rfl
    refine wpAny_take (i := 27) (v := ?_) rfl (by kernel_rfl) (by kernel_rfl) (by kernel_rfl) (fun _ _ _ h => h) (Or.inl ⟨by kernel_rfl, ?_⟩) ?_
    rotate_left
    · (intro w; go_simp) <;> with_reducible rfl
    refine wpAny_take (i := 28) (v := ?_) rfl (by kernel_rfl) (by kernel_rfl) (by kernel_rfl) (fun _ _ _ h => h) (Or.inl ⟨by kernel_rfl, ?_⟩) ?_
    rotate_left
    · (intro w; go_simp) <;> with_reducible rfl
    refine wpAny_take (i := 29) (v := ?_) rfl (by kernel_rfl) (by kernel_rfl) (by kernel_rfl) (fun _ _ _ h => h) (Or.inl ⟨by kernel_rfl, ?_⟩) ?_
    rotate_left
    · (intro w; go_simp) <;> with_reducible rfl
    refine wpAny_take (i := 30) (v := ?_) rfl (by kernel_rfl) (by kernel_rfl) (by kernel_rfl) (fun _ _ _ h => h) (Or.inl ⟨by kernel_rfl, ?_⟩) ?_
    rotate_left
    · (intro w; go_simp) <;> with_reducible rfl
    refine wpAny_take (i := 31) (v := ?_) rfl (by kernel_rfl) (by kernel_rfl) (by kernel_rfl) (fun _ _ _ h => h) (Or.inl ⟨by kernel_rfl, ?_⟩) ?_
    rotate_left
    · (intro w; go_simp) <;> with_reducible rfl
    refine wpAny_done (by kernel_rfl) ?_ _
    try simp only []
    go_simp
    try go_wp2
    go_ret
    exact ⟨rfl, hb4.next hbC⟩

end Go.Proofs.Ytljdiakodpjkpaa
