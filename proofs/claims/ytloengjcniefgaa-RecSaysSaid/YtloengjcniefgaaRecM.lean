/- rec: the writer's put and texts: what they write. -/
import Derived.Test.YtloengjcniefgaaRecP
import Derived.Test.YtloengjcniefgaaBldW
import Derived.Test.YtloengjcniefgaaKitT
import Derived.Test.YtloengjcniefgaaKitW
import Derived.Deep.CutRange
namespace Go.Proofs.Ytloengjcniefgaa.Rec
set_option linter.unusedVariables false
set_option linter.unusedSimpArgs false
open Go.RowKit
open Oct (S beN putL U I getI sumN S_size S_data)
open Wr (BldAt)
abbrev Others (b : Nat) (w w1 : World) : Prop := Lib.OthersKept 5 (some b) w w1
theorem Blk.others {w w1 : World} {g b : Nat} {cs : Array Value} {T : TypeId} (h : Blk w g cs T) (ho : Others b w w1) (hne : g ≠ b) (hT : T ≠ 5) : Blk w1 g cs T :=
  ho g _ h (fun e => hne (Option.some.inj e)) (fun c fz e => by injection e with _ e2 _; exact hT e2)
theorem Others.trans {b : Nat} {w w1 w2 : World} (h : Others b w w1) (h2 : Others b w1 w2) : Others b w w2 := by
  intro g o hg h3 h4
  exact h2 g o (h g o hg h3 h4) h3 h4
theorem Others.below {b : Nat} {w w1 w2 : World} (h : Others b w w1) (hb : Below w1.heap.size w1 w2) : Others b w w2 := by
  intro g o hg h3 h4
  have h5 := h g o hg h3 h4
  exact (hb.block g (Array.getElem?_eq_some_iff.1 h5).1).trans h5
theorem map_step {α β : Type} (f : α → List β) (l : List α) (j : Nat) (h : j < l.length) : ((l.take (j + 1)).map f).flatten = ((l.take j).map f).flatten ++ f l[j] := by
  rw [List.take_succ_eq_append_getElem h, List.map_append, List.flatten_append]
  simp only [List.map_cons, List.map_nil, List.flatten_cons, List.flatten_nil, List.append_nil]
set_option maxHeartbeats 2000000 in
set_option maxRecDepth 100000 in
theorem put_any (ns : List Int) (k : Nat) (sz : Int) (g B b : Nat) (acc : List UInt8) (w : World) (hk : sz = k) (h8 : k ≤ 8) (hbl : BldAt w B b acc) (hN : Blk w g (ns.map (Value.int .i64)).toArray 3) (hg : g ≠ b) (hB : B ≤ w.heap.size) (hs : ns.length ≤ 1000) (ha : acc.length ≤ 1000000) :
    Calls Try.prog 47 #[.pointer (some ⟨b, 0, none⟩), .int .i64 sz, .slice (some ⟨g, 0, none⟩) ns.length ns.length] w fun e w' => e = .returned (.tuple #[]) ∧ BldAt w' B b (acc ++ (ns.map fun n => putL (U n) k).flatten) ∧ Below B w w' ∧ Others b w w' := by
  have HPT := Lib.hid (fun n W => put_at n sz k hk h8 W)
  have HBL := Lib.hid hbl
  have HN := Lib.hid hN
  have HZ := Lib.hid ha
  have HK := Lib.hid h8
  have HG := Lib.hid hg
  have hlen : ∀ j, ((ns.take j).map fun n => putL (U n) k).flatten.length ≤ j * 8 := by
    intro j
    induction j with
    | zero => simp
    | succ j ih =>
      by_cases h : j < ns.length
      · rw [map_step _ _ _ h, List.length_append, Oct.putL_length]
        omega
      · rw [List.take_of_length_le (by omega)] at ih ⊢
        omega
  have HL := Lib.hid hlen
  clear hlen hbl hN ha hk h8 hg
  go_enter Try.func47, Try.ntmps47
  go_wp2_with fail
  go_loopw [10] (fun iv wr => ∃ j : Nat, j ≤ ns.length ∧ iv = .int .i64 (j : Int) ∧ Hid (BldAt wr B b (acc ++ ((ns.take j).map fun n => putL (U n) k).flatten)) ∧ Below B w wr ∧ Hid (Others b w wr)) (fun iv _ => ns.length - (intOf iv).toNat)
  case atStart => exact ⟨0, Nat.zero_le _, rfl, by show BldAt _ _ _ _; simpa using HBL.out, Below.refl _ _, Lib.OthersKept.refl _ _ _⟩
  case round =>
    obtain ⟨j, hj, rfl, HW, hbw, HO⟩ := hrel
    by_cases hlt : j < ns.length
    · have d0 : wr.cell? ⟨g, j, none⟩ = some (.int .i64 ns[j]) := (Blk.others HN.out HO.out HG.out (by decide)).cell j (by simp [hlt])
      have HST := Lib.hid (map_step (fun n => putL (U n) k) ns j hlt)
      have HPN := Lib.hid (fun W => HPT.out ns[j] W)
      obtain ⟨n, hn⟩ : ∃ n, ns[j] = n := ⟨_, rfl⟩
      rw [hn] at d0 HST HPN
      obtain ⟨s, hs1⟩ : ∃ s, S (putL (U n) k) = s := ⟨_, rfl⟩
      have HS : Hid (s.data.toList = putL (U n) k ∧ s.size ≤ 8) := ⟨by rw [← hs1], by rw [← hs1, S_size, Oct.putL_length]; exact HK.out⟩
      rw [hs1] at HPN
      have hj0 : (0 : Int) ≤ j := by omega
      have hj1 : (j : Int) < ns.length := by omega
      clear hn hs1 HPT HBL HN
      go_upto_region 3 with fail
      refine wp_region_quiet_tail 6 (by kernel_rfl) (by kernel_rfl) ?_
      simp only [List.take, List.drop]
      repeat (go_big_quiet_step (first | (go_at_call 18; with_reducible exact Ret.regrown (HPN.out _))))
      refine wpQuiet_nil ?_
      intro w5 hw5
      have hb5 := below_of_regrown hw5
      have hsz5 := hb5.size
      have HW5 := Lib.hid (HW.out.below hb5)
      have HO5 := Lib.hid (HO.out.below hb5)
      have hbw5 : Below B w w5 := hbw.trans (hb5.mono (Nat.le_trans hB hbw.size))
      clear hw5 hb5 HW HO
      go_wp2_with fail
      refine (Wr.writeString_any B b _ s _ HW5.out (by have := HL.out j; have := HS.out.2; have := HZ.out; rw [List.length_append]; omega) (Nat.le_trans hB hbw5.size)).mono ?_
      rintro e w6 ⟨rfl, hw6, hb6, ho6⟩
      have HW6 : Hid (BldAt w6 B b (acc ++ ((ns.take (j + 1)).map fun n => putL (U n) k).flatten)) := by
        show BldAt _ _ _ _
        rw [HST.out, ← HS.out.1, ← List.append_assoc]
        exact hw6
      have HO6 : Hid (Others b w w6) := HO5.out.trans ho6
      have hbw6 := hbw5.trans hb6
      clear hw6 ho6 hb6 hbw5 HW5 HO5
      go_wp2_with fail
      go_roundw
      case rel => exact ⟨j + 1, by omega, by go_num, HW6, hbw6, HO6⟩
      case measure => simp [intOf]; omega
    · have HWE : Hid (BldAt wr B b (acc ++ (ns.map fun n => putL (U n) k).flatten)) := by
        show BldAt _ _ _ _
        have := HW.out
        rwa [List.take_of_length_le (by omega)] at this
      clear HW
      go_wp2_with fail
      go_end0
      exact ⟨rfl, HWE.out, hbw, HO.out⟩
set_option maxHeartbeats 2000000 in
set_option maxRecDepth 100000 in
theorem texts_any (ts : List (List UInt8)) (g B b : Nat) (acc : List UInt8) (w : World) (hbl : BldAt w B b acc) (hN : Blk w g (ts.map fun t => Value.string (S t)).toArray 9) (hg : g ≠ b) (hB : B ≤ w.heap.size) (hs : ts.length ≤ 1000) (ht : ∀ t ∈ ts, t.length ≤ 65535) (ha : acc.length ≤ 1000000) :
    Calls Try.prog 48 #[.pointer (some ⟨b, 0, none⟩), .slice (some ⟨g, 0, none⟩) ts.length ts.length] w fun e w' => e = .returned (.tuple #[]) ∧ BldAt w' B b (acc ++ (ts.map textL).flatten) ∧ Below B w w' ∧ Others b w w' := by
  have HPT := Lib.hid (fun (s : ByteArray) W (h : s.size ≤ maxLen) => puttext_any s W h)
  have HBL := Lib.hid hbl
  have HN := Lib.hid hN
  have HZ := Lib.hid ha
  have HG := Lib.hid hg
  have HTS := Lib.hid ht
  have hone : ∀ t : List UInt8, (textL t).length ≤ 65537 := by
    intro t
    rw [textL, List.length_append, Oct.putL_length, List.length_take]
    omega
  have HONE := Lib.hid hone
  have hlen : ∀ j, ((ts.take j).map textL).flatten.length ≤ j * 65537 := by
    intro j
    induction j with
    | zero => simp
    | succ j ih =>
      by_cases h : j < ts.length
      · rw [map_step _ _ _ h, List.length_append]
        have h1 := hone ts[j]
        rw [Nat.succ_mul]
        exact Nat.add_le_add ih h1
      · rw [List.take_of_length_le (by omega)] at ih ⊢
        exact Nat.le_trans ih (Nat.mul_le_mul_right _ (Nat.le_succ j))
  have HL := Lib.hid hlen
  clear hlen hbl hN ha hg ht hone
  go_enter Try.func48, Try.ntmps48
  go_wp2_with fail
  go_loopw [8] (fun iv wr => ∃ j : Nat, j ≤ ts.length ∧ iv = .int .i64 (j : Int) ∧ Hid (BldAt wr B b (acc ++ ((ts.take j).map textL).flatten)) ∧ Below B w wr ∧ Hid (Others b w wr)) (fun iv _ => ts.length - (intOf iv).toNat)
  case atStart => exact ⟨0, Nat.zero_le _, rfl, by show BldAt _ _ _ _; simpa using HBL.out, Below.refl _ _, Lib.OthersKept.refl _ _ _⟩
  case round =>
    obtain ⟨j, hj, rfl, HW, hbw, HO⟩ := hrel
    by_cases hlt : j < ts.length
    · have d0 : wr.cell? ⟨g, j, none⟩ = some (.string (S ts[j])) := (Blk.others HN.out HO.out HG.out (by decide)).cell j (by simp [hlt])
      have HST := Lib.hid (map_step textL ts j hlt)
      have HTJ := HTS.out ts[j] (List.getElem_mem hlt)
      have HPN := Lib.hid (fun W => HPT.out (S ts[j]) W (by rw [S_size]; unfold maxLen; omega))
      obtain ⟨n, hn⟩ : ∃ n, ts[j] = n := ⟨_, rfl⟩
      rw [hn] at d0 HST HPN HTJ
      simp only [S_data] at HPN
      obtain ⟨s, hs1⟩ : ∃ s, S (textL n) = s := ⟨_, rfl⟩
      have HS : Hid (s.data.toList = textL n ∧ s.size ≤ 65537) := ⟨by rw [← hs1], by rw [← hs1, S_size]; exact HONE.out n⟩
      rw [hs1] at HPN
      obtain ⟨sn, hsn⟩ : ∃ s, S n = s := ⟨_, rfl⟩
      rw [hsn] at d0 HPN
      have hj0 : (0 : Int) ≤ j := by omega
      have hj1 : (j : Int) < ts.length := by omega
      clear hn hs1 HPT HBL HN HTJ hsn
      go_upto_region 3 with fail
      refine wp_region_quiet_tail 5 (by kernel_rfl) (by kernel_rfl) ?_
      simp only [List.take, List.drop]
      repeat (go_big_quiet_step (first | (go_at_call 72; with_reducible exact Ret.regrown (HPN.out _))))
      refine wpQuiet_nil ?_
      intro w5 hw5
      have hb5 := below_of_regrown hw5
      have HW5 := Lib.hid (HW.out.below hb5)
      have HO5 := Lib.hid (HO.out.below hb5)
      have hbw5 : Below B w w5 := hbw.trans (hb5.mono (Nat.le_trans hB hbw.size))
      clear hw5 hb5 HW HO
      go_wp2_with fail
      refine (Wr.writeString_any B b _ s _ HW5.out (by have := HL.out j; have := HS.out.2; have := HZ.out; rw [List.length_append]; omega) (Nat.le_trans hB hbw5.size)).mono ?_
      rintro e w6 ⟨rfl, hw6, hb6, ho6⟩
      have HW6 : Hid (BldAt w6 B b (acc ++ ((ts.take (j + 1)).map textL).flatten)) := by
        show BldAt _ _ _ _
        rw [HST.out, ← HS.out.1, ← List.append_assoc]
        exact hw6
      have HO6 : Hid (Others b w w6) := HO5.out.trans ho6
      have hbw6 := hbw5.trans hb6
      clear hw6 ho6 hb6 hbw5 HW5 HO5
      go_wp2_with fail
      go_roundw
      case rel => exact ⟨j + 1, by omega, by go_num, HW6, hbw6, HO6⟩
      case measure => simp [intOf]; omega
    · have HWE : Hid (BldAt wr B b (acc ++ (ts.map textL).flatten)) := by
        show BldAt _ _ _ _
        have := HW.out
        rwa [List.take_of_length_le (by omega)] at this
      clear HW
      go_wp2_with fail
      go_end0
      exact ⟨rfl, HWE.out, hbw, HO.out⟩
end Go.Proofs.Ytloengjcniefgaa.Rec
