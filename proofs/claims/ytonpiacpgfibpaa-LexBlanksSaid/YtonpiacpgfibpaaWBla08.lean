/- LexBlanks' walk. -/
import Derived.Test.YtonpiacpgfibpaaSam08
import Derived.Test.YtonpiacpgfibpaaWLie08
import Derived.Deep.CutRange
namespace Go.Proofs.Ytonpiacpgfibpaa.Lex
set_option linter.unusedVariables false
set_option linter.unusedSimpArgs false
open Go.RowKit
open Oct (S S_size S_data)
/-- What is between the pieces. -/
def gapF (k : Nat) : List UInt8 := if k = 0 then [32] else if k = 1 then [10] else if k = 2 then [9, 13, 32] else [32, 45, 45, 120, 39, 10]
theorem gap_of (k : Nat) : Gap (gapF k) := by
  unfold gapF
  split
  · exact gap_1
  · split
    · exact gap_2
    · split
      · exact gap_3
      · exact gap_4
theorem gap_len (k : Nat) : (gapF k).length ≤ 6 := by
  unfold gapF
  split
  · decide
  · split
    · decide
    · split
      · decide
      · decide
def pieceF (l : List UInt8) (t : Tk) : List UInt8 := (l.drop t.a.toNat).take t.z.toNat
theorem join_snoc (g : List UInt8) (ps : List (List UInt8)) (p : List UInt8) : joinF g (ps ++ [p]) = joinF g ps ++ (p ++ g) := by
  induction ps with
  | nil => simp [joinF]
  | cons x ps ih => rw [List.cons_append, joinF, joinF, ih]; simp
theorem join_len (g : List UInt8) (n : Nat) (ps : List (List UInt8)) (h : ∀ p ∈ ps, p.length ≤ n) : (joinF g ps).length ≤ ps.length * (n + g.length) := by
  induction ps with
  | nil => simp [joinF]
  | cons x ps ih =>
    rw [joinF, List.length_append, List.length_append, List.length_cons, Nat.succ_mul]
    have h1 := h x (List.mem_cons_self ..)
    have h2 := ih fun y hy => h y (List.mem_cons_of_mem _ hy)
    omega
/-- A token of a row of tokens lies in the text. -/
theorem chain_in (l : List UInt8) : ∀ (ts : List Tk) (a : Nat), chainF l a ts → ∀ t ∈ ts, 0 ≤ t.a ∧ 1 ≤ t.z ∧ t.a + t.z ≤ l.length := by
  intro ts
  induction ts with
  | nil => intro a h t ht; cases ht
  | cons x ts ih =>
    intro a h t ht
    obtain ⟨_, _, h4, h5, h6, h7⟩ := h
    rcases List.mem_cons.1 ht with rfl | ht
    · exact ⟨by omega, h5, h6⟩
    · exact ih _ h7 t ht
theorem pow_le (l : List UInt8) (ts : List Tk) (k i : Nat) (hl : l.length ≤ 300) (hts : ts.length ≤ 300) : (joinF (gapF k) ((ts.take i).map (pieceF l))).length ≤ 91800 := by
  have h1 := join_len (gapF k) 300 ((ts.take i).map (pieceF l)) (fun p hp => by
    obtain ⟨t, _, rfl⟩ := List.mem_map.1 hp
    rw [pieceF, List.length_take, List.length_drop]; omega)
  have h2 := gap_len k
  have h3 : ((ts.take i).map (pieceF l)).length ≤ 300 := by rw [List.length_map, List.length_take]; omega
  have h4 : ((ts.take i).map (pieceF l)).length * (300 + (gapF k).length) ≤ 300 * 306 := Nat.mul_le_mul h3 (by omega)
  omega
theorem mod4 (x : Int) (h0 : 0 ≤ x) : x % 4 = 0 ∨ x % 4 = 1 ∨ x % 4 = 2 ∨ x % 4 = 3 := by omega
set_option maxHeartbeats 16000000 in
set_option maxRecDepth 100000 in
theorem blanks_in (l : List UInt8) (way : Int) (hw0 : 0 ≤ way) (hw1 : way ≤ 255) (m : Int) (w : World) (hm : w.cell? ⟨0, 0, none⟩ = some (.int .i64 m)) (hl : l.length ≤ 300) : Calls Try.prog 6 #[.string (S l), .int .u8 way] w (Ret (.bool true) w) := by
  have hsz := S_size l
  have HW := Lib.hid (fun W h => awake8_any m W h)
  have hl1 : ¬ (300 : Int) < l.length := by omega
  have HL := Lib.hid hl
  rcases tokens_cases l (by omega) with ⟨ts, hts, hch⟩ | ⟨p, e, hts, he, hp0, hp1⟩
  · have HT := Lib.hid (fun W h => tokens_ok hts m W h (by omega))
    have hlen := chain_len l ts 0 hch (Nat.zero_le _)
    have hin := chain_in l ts 0 hch
    obtain ⟨k, hk⟩ : ∃ k, (way % 4).toNat = k := ⟨_, rfl⟩
    obtain ⟨us, hu1, hu2⟩ := join_law l ts (gapF k) (gap_of k) hch
    have hul : us.length = ts.length := by have := congrArg List.length hu2; simpa using this
    have HJ : Hid ((joinF (gapF k) (ts.map (pieceF l))).length ≤ 2000 → tokensL (joinF (gapF k) (ts.map (pieceF l))) = .ok us) := fun h => by
      unfold tokensL
      rw [if_neg (by omega)]
      exact chain_toks _ us _ 0 [] (Nat.zero_le _) (by omega) hu1
    have HU : Hid (us.map coreT = ts.map coreT) := hu2
    have HIN := Lib.hid hin
    have HPW := Lib.hid (fun i => pow_le l ts k i hl (by omega))
    clear hts hch hu1 hu2 hin hl
    go_enter Try.func6, Try.ntmps6
    go_wp2_with fail
    refine (HT.out _ hm).mono ?_
    rintro e w1 ⟨hb1, v1, rfl, hr1⟩
    have hm1 := cell_below hm hb1
    have HR1 := Lib.hid hr1
    obtain ⟨ao, cap, rfl⟩ := hr1.nil
    rw [rowT_len] at *
    clear hr1
    have hgk : [Value.string ⟨#[32]⟩, Value.string ⟨#[10]⟩, Value.string ⟨#[9, 13, 32]⟩, Value.string ⟨#[32, 45, 45, 120, 39, 10]⟩][k]? = some (.string (S (gapF k))) := by
      have h4 : k = 0 ∨ k = 1 ∨ k = 2 ∨ k = 3 := by omega
      rcases h4 with rfl | rfl | rfl | rfl <;> rfl
    have hgs : (S (gapF k)).size ≤ 6 := by rw [S_size]; exact gap_len k
    obtain ⟨gp, hgp⟩ : ∃ x, S (gapF k) = x := ⟨_, rfl⟩
    have HGP := Lib.hid hgp
    rw [hgp] at hgk hgs
    clear hgp
    have hb2 : Below w1.heap.size w1 (w1.alloc (.cells #[.string ⟨#[32]⟩, .string ⟨#[10]⟩, .string ⟨#[9, 13, 32]⟩, .string ⟨#[32, 45, 45, 120, 39, 10]⟩] 9)) := (Below.refl _ _).alloc (Nat.le_refl _) _
    go_wp2_with fail
    clear hgk hk
    go_loopw [9, 10] (fun tv iv wr => ∃ i : Nat, i ≤ ts.length ∧ iv = .int .i64 (i : Int) ∧ tv = .string (S (joinF (gapF k) ((ts.take i).map (pieceF l)))) ∧ Below w1.heap.size w1 wr) (fun _ iv _ => ts.length - (intOf iv).toNat)
    case atStart => exact ⟨0, Nat.zero_le _, rfl, rfl, hb2⟩
    case round =>
      clear hb2
      obtain ⟨i, hi, rfl, rfl, hbw⟩ := hrel
      have hpw := HPW.out i
      by_cases hlt : i < ts.length
      · obtain ⟨b, off, cap2, hv2, _, hc⟩ := (HR1.out.below hbw).get i (by rw [rowT_len]; exact hlt)
        rw [rowT_len] at hv2
        injection hv2 with e1 _ e3
        subst e1 e3
        rw [rowT_get ts i hlt] at hc
        obtain ⟨g1, g2, g3⟩ := HIN.out ts[i] (List.getElem_mem hlt)
        have htk : (ts.take (i + 1)).map (pieceF l) = (ts.take i).map (pieceF l) ++ [pieceF l ts[i]] := by
          rw [List.take_succ_eq_append_getElem hlt, List.map_append]; rfl
        have hjs := join_snoc (gapF k) ((ts.take i).map (pieceF l)) (pieceF l ts[i])
        rw [← htk] at hjs
        obtain ⟨t, ht⟩ : ∃ t, ts[i] = t := ⟨_, rfl⟩
        rw [ht] at hc g1 g2 g3 hjs
        obtain ⟨k1, a1, z1, n1, s1⟩ := t
        simp only at g1 g2 g3
        obtain ⟨q1, rfl⟩ : ∃ q : Nat, a1 = q := ⟨a1.toNat, by omega⟩
        obtain ⟨y1, rfl⟩ : ∃ q : Nat, z1 = q := ⟨z1.toNat, by omega⟩
        simp only [tkCells] at hc
        have d1 : wr.cell? ⟨b, off + i * 5 + 1, none⟩ = some (.int .i64 (q1 : Int)) := hc 1 _ rfl
        have d2 : wr.cell? ⟨b, off + i * 5 + 2, none⟩ = some (.int .i64 (y1 : Int)) := hc 2 _ rfl
        have hq2 : (1 : Int) ≤ y1 := g2
        have hq3 : (y1 : Int) ≤ (l.length : Int) - (q1 : Int) := by omega
        have hq4 : (0 : Int) ≤ q1 := by omega
        have hq5 : (q1 : Int) + y1 ≤ l.length := g3
        have hq6 : (q1 : Int) ≤ (q1 : Int) + y1 := by omega
        have hq7 : (q1 : Int) ≤ l.length := by omega
        have hq8 : decide (l.length < q1) = false := decide_eq_false (by omega)
        have hq9 : decide ((l.length : Int) < (q1 : Int)) = false := decide_eq_false (by omega)
        have hwr : IntKind.i64.wrap ((l.length : Int) - (q1 : Int)) = (l.length : Int) - (q1 : Int) := IntWalk.i64_in _ (by have := HL.out; omega)
        have hwa : IntKind.i64.wrap ((q1 : Int) + (y1 : Int)) = (q1 : Int) + (y1 : Int) := IntWalk.i64_in _ (by have := HL.out; omega)
        have hb1' : decide ((q1 : Int) < 0) = false := decide_eq_false (by omega)
        have hb2' : decide ((y1 : Int) < 1) = false := decide_eq_false (by omega)
        have hb3' : decide ((l.length : Int) - (q1 : Int) < (y1 : Int)) = false := decide_eq_false (by omega)
        have hi0 : (0 : Int) ≤ i := by omega
        have hi1 : (i : Int) < ts.length := by omega
        have hps : ((S l).extract q1 (q1 + y1)).size ≤ 300 := by rw [S_cut l q1 (q1 + y1) (by omega), S_size, List.length_take, List.length_drop]; have := HL.out; omega
        have HNT : Hid (S (joinF (gapF k) ((ts.take i).map (pieceF l))) ++ ((S l).extract q1 (q1 + y1) ++ gp) = S (joinF (gapF k) ((ts.take (i + 1)).map (pieceF l)))) := by
          show _ = _
          rw [hjs, ← HGP.out, S_cut l q1 (q1 + y1) (by omega), Oct.S_append, Oct.S_append]
          have e : q1 + y1 - q1 = y1 := by omega
          rw [e]; rfl
        have htx : (S (joinF (gapF k) ((ts.take i).map (pieceF l)))).size ≤ 91800 := by rw [S_size]; exact hpw
        obtain ⟨tx, htxe⟩ : ∃ x, S (joinF (gapF k) ((ts.take i).map (pieceF l))) = x := ⟨_, rfl⟩
        rw [htxe] at HNT htx ⊢
        clear hc ht htk hjs g1 g2 g3 htxe hpw
        go_wp2_with fail
        go_quiet (fail)
        go_wp2_with fail
        clear hwr hb1' hb2' hb3' hq8 hq9
        go_quiet (fail)
        go_wp2_with fail
        go_roundw
        case rel => exact ⟨i + 1, by omega, by go_num, by rw [HNT.out], hbw.drewN _⟩
        case measure => simp [intOf]; omega
      · have htk : ts.take i = ts := List.take_of_length_le (by omega)
        rw [htk] at hpw ⊢
        clear htk
        obtain ⟨J, hJ⟩ : ∃ x, joinF (gapF k) (ts.map (pieceF l)) = x := ⟨_, rfl⟩
        rw [hJ] at HJ hpw ⊢
        clear hJ HPW
        have hjs := S_size J
        have hmr := cell_below hm1 hbw
        have hbt := hb1.next hbw
        have hlt2 : ¬ i < ts.length := hlt
        by_cases hbig : 2000 < J.length
        · have hbi : (2000 : Int) < J.length := by omega
          clear hbig
          go_wp2_with fail
          refine (HW.out _ hmr).mono ?_
          rintro e3 w3 ⟨rfl, hb5⟩
          go_wp2_with fail
          go_ret
          exact ⟨rfl, hbt.next hb5⟩
        · have hbi : ¬ (2000 : Int) < J.length := by omega
          have HTU := Lib.hid (fun W h => tokens_ok (HJ.out (by omega)) m W h (by omega))
          clear hbig HJ
          go_wp2_with fail
          refine (HTU.out _ hmr).mono ?_
          rintro e2 w2 ⟨hb2, v2, rfl, hr2⟩
          have hm2 := cell_below hmr hb2
          have HR2 := Lib.hid hr2
          have HR3 := Lib.hid ((HR1.out.below hbw).below hb2)
          have hb3 := hbt.next hb2
          obtain ⟨bo, cap3, rfl⟩ := hr2.nil
          rw [rowT_len, hul] at HR2 ⊢
          have HUL := Lib.hid hul
          clear hr2 hb2 hbt hbw hmr hm1 HR1 hul
          go_wp2_with fail
          go_loopw [14] (fun iv wr => ∃ i : Nat, i ≤ ts.length ∧ iv = .int .i64 (i : Int) ∧ Below w2.heap.size w2 wr) (fun iv _ => ts.length - (intOf iv).toNat)
          case atStart => exact ⟨0, Nat.zero_le _, rfl, Below.refl _ _⟩
          case round =>
            obtain ⟨i, hi, rfl, hbw⟩ := hrel
            by_cases hlt : i < ts.length
            · have hlu : i < us.length := by rw [HUL.out]; exact hlt
              obtain ⟨b, off, c1, hv1, _, hc⟩ := (HR3.out.below hbw).get i (by rw [rowT_len]; exact hlt)
              rw [rowT_len] at hv1
              injection hv1 with e1 _ e3
              subst e1 e3
              obtain ⟨b2, off2, c2, hv2, _, hc2⟩ := (HR2.out.below hbw).get i (by rw [rowT_len]; exact hlu)
              rw [rowT_len, HUL.out] at hv2
              injection hv2 with e1 _ e3
              subst e1 e3
              rw [rowT_get ts i hlt] at hc
              rw [rowT_get us i hlu] at hc2
              have hco : coreT us[i] = coreT ts[i] := by
                have h1 := congrArg (fun x => x[i]?) HU.out
                simpa [hlt, hlu] using h1
              obtain ⟨t, ht⟩ : ∃ t, ts[i] = t := ⟨_, rfl⟩
              obtain ⟨u, hu⟩ : ∃ t, us[i] = t := ⟨_, rfl⟩
              rw [ht] at hc hco
              rw [hu] at hc2 hco
              obtain ⟨k0, a1, z0, n0, s0⟩ := t
              obtain ⟨k1, a2, z1, n1, s1⟩ := u
              simp only [coreT, Prod.mk.injEq] at hco
              obtain ⟨rfl, rfl, rfl, rfl⟩ := hco
              simp only [tkCells] at hc hc2
              obtain ⟨sp, hsp⟩ : ∃ x, S s1 = x := ⟨_, rfl⟩
              rw [hsp] at hc hc2
              have d0 : wr.cell? ⟨b, off + i * 5, none⟩ = some (.int .i64 k1) := hc 0 _ rfl
              have d2 : wr.cell? ⟨b, off + i * 5 + 2, none⟩ = some (.int .i64 z1) := hc 2 _ rfl
              have d3 : wr.cell? ⟨b, off + i * 5 + 3, none⟩ = some (.int .i64 n1) := hc 3 _ rfl
              have d4 : wr.cell? ⟨b, off + i * 5 + 4, none⟩ = some (.string sp) := hc 4 _ rfl
              have e0 : wr.cell? ⟨b2, off2 + i * 5, none⟩ = some (.int .i64 k1) := hc2 0 _ rfl
              have e2 : wr.cell? ⟨b2, off2 + i * 5 + 2, none⟩ = some (.int .i64 z1) := hc2 2 _ rfl
              have e3 : wr.cell? ⟨b2, off2 + i * 5 + 3, none⟩ = some (.int .i64 n1) := hc2 3 _ rfl
              have e4 : wr.cell? ⟨b2, off2 + i * 5 + 4, none⟩ = some (.string sp) := hc2 4 _ rfl
              have hi0 : (0 : Int) ≤ i := by omega
              have hi1 : (i : Int) < ts.length := by omega
              clear hc hc2 ht hu hsp HR2 HR3
              go_wp2_with fail
              go_quiet (fail)
              go_wp2_with fail
              go_roundw
              case rel => exact ⟨i + 1, by omega, by go_num, hbw.drewN _⟩
              case measure => simp [intOf]; omega
            · have hmr := cell_below hm2 hbw
              have hbt := hb3.next hbw
              have hlt2 : ¬ i < ts.length := hlt
              go_wp2_with fail
              refine (HW.out _ hmr).mono ?_
              rintro e3 w3 ⟨rfl, hb5⟩
              go_wp2_with fail
              go_ret
              exact ⟨rfl, hbt.next hb5⟩
  · have HT := Lib.hid (fun W h => tokens_err hts m W h (by omega))
    have he1 : (e == 0) = false := by simpa using he
    have he2 : (e != 0) = true := by simpa using he
    clear hts he hl
    go_enter Try.func6, Try.ntmps6
    go_wp2_with fail
    refine (HT.out _ hm).mono ?_
    rintro e1 w1 ⟨rfl, hb1⟩
    have hm1 := cell_below hm hb1
    go_wp2_with fail
    refine (HW.out _ hm1).mono ?_
    rintro e3 w3 ⟨rfl, hb5⟩
    go_wp2_with fail
    go_ret
    exact ⟨rfl, hb1.next hb5⟩
set_option maxRecDepth 100000 in
theorem walk_LexBlanks (s : ByteArray) (way : Int) (w : World) (hs : s.size ≤ 140737488351232) (hy : (Lit.int .u8 way).wf = true) (hsh : ∃ m, w.cell? ⟨0, 0, none⟩ = some (.int .i64 m)) : Calls Try.prog 6 #[.string s, .int .u8 way] w (Ret (.bool true) w) := by
  obtain ⟨m, hm⟩ := hsh
  obtain ⟨l, rfl⟩ : ∃ l, s = S l := ⟨s.data.toList, (Oct.S_of s).symm⟩
  have hx : 0 ≤ way ∧ way ≤ 255 := by simpa [Lit.wf, IntKind.min, IntKind.max, IntKind.signed, IntKind.bits] using hy
  by_cases hl : l.length ≤ 300
  · exact blanks_in l way hx.1 hx.2 m w hm hl
  · have hsz := S_size l
    have HW := Lib.hid (fun W h => awake8_any m W h)
    have hl1 : (300 : Int) < l.length := by omega
    generalize S l = s at *
    clear hl hy
    go_enter Try.func6, Try.ntmps6
    go_wp2_with fail
    refine (HW.out _ hm).mono ?_
    rintro e w1 ⟨rfl, hb⟩
    go_wp2_with fail
    go_ret
    exact ⟨rfl, hb⟩
end Go.Proofs.Ytonpiacpgfibpaa.Lex
