/- strings.Repeat of the byte 0, 128 times; slices.Repeat of one string. -/
import Derived.Test.YthliialieogakaaShelf
import Derived.Test.YthliialieogakaaKitA
import Derived.Test.YthliialieogakaaKitE
import Derived.Test.YthliialieogakaaOctP
import Derived.IntWalk
import Derived.Laws.CopyOwn
import Derived.Deep.RegionLaw
namespace Go.Proofs.Ythliialieogakaa
set_option linter.unusedVariables false
set_option linter.unusedSimpArgs false
open Go.RowKit
open Oct (S)
def zer (n : Nat) : List UInt8 := List.replicate n 0
theorem repeat_zero (w : World) : Calls Try.prog 25 #[.string ⟨#[0]⟩, .int .i64 128] w (Ret (.string (S (zer 128))) w) := by
  have h := Try.strings_Repeat_main ⟨#[0]⟩ 128 w (by decide) (by decide) (by decide) (by decide)
  have e : Lib.repeatL (ByteArray.mk #[0]).data.toList 128 = zer 128 := by decide +kernel
  rw [e] at h
  exact h
theorem info_str : (Try.prog.info? 9).map (fun i => (i.zero, i.size, i.bytes)) = some (some (.string ⟨#[]⟩), 1, 16) := by kernel_rfl
/-- 'make([]T, n)', T of one cell: the whole row. -/
theorem wpList_makeRow {P : Program} {w : World} {ops : Array Oper} {rest : List Oper} {a : Act} {Q : Exit → Act → World → Prop} {d : Option Tmp} {x y : Operand} {ty : TypeId} {p : String} {af : Array Edge}
    (t e : TypeId) (z : Value) (bytes : Nat) (hz1 : z.cells = #[z]) (hby8 : bytes ≤ 16) (ht : P.underlying t = some (.slice e)) (hi : (P.info? e).map (fun i => (i.zero, i.size, i.bytes)) = some (some z, 1, bytes))
    (hh : ∃ (n : Nat) (L C : Int) (kl kc : IntKind), a.eval x = .int kl L ∧ a.eval y = .int kc C ∧ L = n ∧ C = n ∧ n ≤ 1000000000 ∧ ∀ g w1, w.heap.size ≤ g → Below w.heap.size w w1 → Blk w1 g (List.replicate n z).toArray e → wpList P ops Q rest (a.put d (.slice (some ⟨g, 0, none⟩) n n)) w1) :
    wpList P ops Q (⟨d, .makeSlice t x y, ty, p, af, none⟩ :: rest) a w := by
  obtain ⟨n, L, C, kl, kc, hx, hy, hL, hC, hn, h⟩ := hh
  subst hL
  subst hC
  obtain ⟨i, hi0, hz, hsz, hby⟩ := info_parts hi
  obtain ⟨w1, hrun, hown, hgr⟩ := run_make_full (P := P) w 0 t e i z 1 ht hi0 hz hsz kl kc n (by rw [hby]; have : bytes * n ≤ 16 * 1000000000 := Nat.mul_le_mul hby8 hn; omega) (by unfold maxLen; omega) (Nat.zero_le _)
  refine wpList_plain rfl fun K hK' => ?_
  unfold Oper.wp
  simp only [execOp, hx, hy]
  simp [hrun, Result.andThen, Oper.upon]
  have hB : Below w.heap.size w w1 := (Below.refl _ _).grown hgr (Nat.le_refl _) (by intro k hk; cases hk)
  refine hK' _ _ (h _ _ (Nat.le_refl _) hB ?_)
  obtain ⟨_, hr⟩ := hown
  rcases hr with ⟨hv, _⟩ | ⟨g, cap, cur, hv, _, hb, _, _, hcs, htk⟩
  · cases hv
  · injection hv with h1 h2 h3
    injection h1 with h1
    injection h1 with h1
    subst h1
    have hm : cur = (List.replicate n z).toArray := by
      have hsz2 : cur.size = n := by omega
      apply Array.toList_inj.1
      rw [← List.take_of_length_le (l := cur.toList) (i := n * 1) (by simp; omega), htk, hz1]
      apply List.ext_getElem?
      intro j
      by_cases hj : j < n
      · simp [madeCells, hj, Nat.mod_one]
      · simp [madeCells, hj]
    subst hm
    exact hb
/-- A row of which k places are filled. -/
def fillL (n k : Nat) (s : ByteArray) : List Value := List.replicate k (.string s) ++ List.replicate (n - k) (.string ⟨#[]⟩)
theorem fillL_len {n k : Nat} (h : k ≤ n) (s : ByteArray) : (fillL n k s).length = n := by simp [fillL]; omega
theorem fillL_splice {n k m : Nat} (h : k + m ≤ n) (s : ByteArray) : splice (fillL n k s) k (List.replicate m (.string s)) = fillL n (k + m) s := by
  unfold splice fillL
  rw [List.take_left' (by simp), ← List.append_assoc, List.replicate_append_replicate, List.length_replicate]
  congr 1
  rw [← List.drop_drop, List.drop_left' (by simp), List.drop_replicate]
  congr 1
  omega
theorem size_str : (Try.prog.info? 9).map (·.size) = some 1 := by kernel_rfl
set_option maxHeartbeats 1000000 in
theorem srepeat_any (s : ByteArray) (n g : Nat) (w : World) (hn1 : 1 ≤ n) (hn : n ≤ 65536) (hg : g < w.heap.size) (h0 : w.cell? ⟨g, 0, none⟩ = some (.string s)) : Calls Try.prog 26 #[.slice (some ⟨g, 0, none⟩) 1 1, .int .i64 n] w fun e w' => ∃ b, e = .returned (.slice (some ⟨b, 0, none⟩) n n) ∧ Below w.heap.size w w' ∧ Blk w' b (List.replicate n (.string s)).toArray 9 := by
  have HM := Lib.hid (Try.bits_Mul 1 n (by decide) (by omega))
  have e1 : 1 * n / 18446744073709551616 = 0 := by omega
  have e2 : 1 * n % 18446744073709551616 = n := by omega
  rw [e1, e2] at HM
  clear e1 e2
  have H0 := Lib.hid h0
  clear h0
  go_enter Try.func26, Try.ntmps26
  go_wp2_with fail
  refine (HM.out _).mono ?_
  rintro e w0 ⟨rfl, hw0⟩
  have hw0' : w = w0 := hw0.symm
  subst hw0'
  clear hw0
  have E0 : Hid (fillL n 0 s = List.replicate n (.string ⟨#[]⟩)) := by show _ = _; simp [fillL]
  have HS1 : Hid (splice (fillL n 0 s) 0 [.string s] = fillL n 1 s) := fillL_splice (n := n) (k := 0) (m := 1) (by omega) s
  go_wp2_with (first | ((with_reducible refine wpList_makeRow 23 9 (.string ⟨#[]⟩) 16 rfl (by decide) Try.underlying23 info_str ?_); refine ⟨n, _, _, _, _, rfl, rfl, rfl, rfl, by omega, ?_⟩; intro b w1 hb hb1 hv) | (refine wpList_copy_splice rfl (.tmp 31) (.tmp 32) 23 23 rfl 9 Try.underlying23 size_str _ _ _ _ _ _ rfl rfl _ 0 (fillL n 0 s) 9 (by rw [E0.out]; exact hv) [.string s] ?c1 ?c2 ?c3 ?c4 w.heap.size w hb1 hb ?_))
  case c1 => exact (Nat.min_eq_left hn1).symm
  case c2 =>
    have hsrc : ∀ j v, ([.string s] : List Value)[j]? = some v → w1.cell? ((⟨g, 0, none⟩ : Addr).add j) = some v := by
      intro j v hj
      have hj0 : j < 1 := (List.getElem?_eq_some_iff.1 hj).1
      have : j = 0 := by omega
      subst this
      simp at hj
      subst hj
      exact (hb1.cell (p := ⟨g, 0, none⟩) hg).trans H0.out
    intro j v hj
    simpa [Addr.add_lit] using hsrc j v hj
  case c3 => rw [fillL_len (by omega)]; simp; omega
  case c4 => intro v hv; simp at hv; subst hv; rfl
  intro w2 hr2 hb2
  rw [HS1.out] at hr2
  clear hv hb1 HS1 E0
  go_wp2_with fail
  go_loopw [8] (fun i wr => ∃ k : Nat, 1 ≤ k ∧ k ≤ n ∧ i = .int .i64 k ∧ Below w.heap.size w wr ∧ Hid (wr.heap[b]? = some (.cells (fillL n k s).toArray 9 (0, 0)))) (fun i _ => n - (intOf i).toNat)
  case atStart => exact ⟨1, by omega, hn1, rfl, hb2, hr2⟩
  case round =>
    clear hr2 hb2
    obtain ⟨k, hk1, hkn, rfl, hb3, hr3⟩ := hrel
    by_cases hlt : k < n
    · obtain ⟨m, hm⟩ : ∃ m, Nat.min k (n - k) = m := ⟨_, rfl⟩
      have hm1 : 1 ≤ m ∧ m ≤ k ∧ k + m ≤ n := by rw [← hm]; show 1 ≤ min k (n - k) ∧ min k (n - k) ≤ k ∧ k + min k (n - k) ≤ n; omega
      have HM2 := Lib.hid hm
      clear hm
      have HSP := Lib.hid (fillL_splice (n := n) (k := k) (m := m) hm1.2.2 s)
      have hsrc : Hid (∀ j v, (List.replicate m (Value.string s))[j]? = some v → wr.cell? ((⟨b, 0, none⟩ : Addr).add j) = some v) := by
        intro j v hj
        have hj0 : j < m := by have := (List.getElem?_eq_some_iff.1 hj).1; simpa using this
        have hv : v = .string s := by rw [List.getElem?_replicate, if_pos hj0] at hj; injection hj with hj; exact hj.symm
        subst hv
        rw [Addr.add_lit, Nat.zero_add]
        have := hr3.out
        simp only [World.cell?, this]
        have hk : j < k := by omega
        simp [fillL, List.getElem?_append, hk]
      obtain ⟨hm1, hm2, hm3⟩ := hm1
      have N1 : Hid ((List.replicate m (Value.string s)).length = Nat.min k (n - k)) := by show _ = _; rw [List.length_replicate]; exact HM2.out.symm
      have F1 : Hid (k + (List.replicate m (Value.string s)).length ≤ (fillL n k s).length) := by show _ ≤ _; rw [List.length_replicate, fillL_len hkn]; exact hm3
      have O1 : Hid (∀ v ∈ List.replicate m (Value.string s), v.oneCell' = true) := by
        intro v hv
        rw [(List.mem_replicate.1 hv).2]; rfl
      have hnk : ¬ n = k := by omega
      have hwr : IntKind.i64.wrap ((k : Int) + (m : Int)) = (k : Int) + m := IntWalk.i64_in _ (by omega)
      go_wp2
      go_region_law (refine step_copy_splice rfl (.tmp 41) (.tmp 44) 23 23 rfl 9 Try.underlying23 size_str (some ⟨b, k, none⟩) (some ⟨b, 0, none⟩) (n - k) (n - k) k n (by go_simp) (by go_simp) b k (fillL n k s) 9 hr3.out (List.replicate m (.string s)) N1.out (fun _ => ⟨rfl, _, rfl, hsrc.out⟩) F1.out O1.out w.heap.size w hb3.drew hb ?_; intro w4 hg4 hb4)
      rw [HSP.out] at hg4
      simp [go_sem]
      go_wp2
      clear hwr
      go_roundw
      case rel => exact ⟨k + m, by omega, hm3, by go_num, hb4, hg4⟩
      case measure => simp [intOf]; omega
    · have : k = n := by omega
      subst this
      have HF : Hid (fillL k k s = List.replicate k (.string s)) := by show _ = _; simp [fillL]
      rw [HF.out] at hr3
      go_wp2_with fail
      go_ret
      exact ⟨b, rfl, hb3, hr3⟩
end Go.Proofs.Ythliialieogakaa
