/- Tokens: plain laws: pieces joined by blanks; great and small letters; names and words by themselves. -/
import Derived.Test.YtonpiacpgfibpaaLexC
namespace Go.Proofs.Ytonpiacpgfibpaa.Lex
set_option linter.unusedVariables false
set_option linter.unusedSimpArgs false
open Oct (S)
open Lib (indexByte)
/-- Bytes that are a piece, whatever blank is behind them. -/
structure Piece (p : List UInt8) (c : Pc) : Prop where
  tok : ∀ g, Sep g → tokF (p ++ g) = c
  skip : ∀ g, Sep g → skipF false (p ++ g) = 0
  size : c.z = p.length
  pos : 1 ≤ c.z
  kind : c.k ≠ 0
  ok : c.e = 0
theorem piece_of (c : UInt8) (r : List UInt8) (h : (tokF (c :: r)).e = 0) (h0 : skipF false (c :: r) = 0) : Piece ((c :: r).take (tokF (c :: r)).z) (tokF (c :: r)) := by
  obtain ⟨z1, z2, z3⟩ := tok_size c r h
  exact ⟨fun g hg => tok_cut c r g hg h, fun g hg => skip_cut c r g hg h h0, by rw [List.length_take, List.length_cons]; omega, z1, z3, h⟩
/-- What is between pieces. -/
structure Gap (g : List UInt8) : Prop where
  skip : ∀ r, skipF false (g ++ r) = g.length + skipF false r
  sep : ∀ r, Sep (g ++ r)
theorem gap_1 : Gap [32] := ⟨fun r => by simp [skip_f, blankB]; omega, fun r => sep_cons _ (by decide)⟩
theorem gap_2 : Gap [10] := ⟨fun r => by simp [skip_f, blankB]; omega, fun r => sep_cons _ (by decide)⟩
theorem gap_3 : Gap [9, 13, 32] := ⟨fun r => by simp [skip_f, blankB]; omega, fun r => sep_cons _ (by decide)⟩
theorem gap_4 : Gap [32, 45, 45, 120, 39, 10] := ⟨fun r => by simp [skip_f, skip_t, blankB]; omega, fun r => sep_cons _ (by decide)⟩
def joinF (g : List UInt8) : List (List UInt8) → List UInt8
  | [] => []
  | p :: ps => p ++ g ++ joinF g ps
/-- Kind, size, number and text. -/
def coreT (t : Tk) : Int × Int × Int × List UInt8 := (t.k, t.z, t.n, t.s)
def coreP (c : Pc) : Int × Int × Int × List UInt8 := (c.k, c.z, c.n, c.s)
theorem join_chain (g : List UInt8) (hg : Gap g) : ∀ (ps : List (List UInt8 × Pc)), (∀ x ∈ ps, Piece x.1 x.2) → ∀ (l : List UInt8) (a : Nat) (b : List UInt8), a ≤ l.length → (∀ r, skipF false (b ++ r) = b.length + skipF false r) → l.drop a = b ++ joinF g (ps.map (·.1)) →
    ∃ ts, chainF l a ts ∧ ts.map coreT = ps.map fun x => coreP x.2 := by
  intro ps
  induction ps with
  | nil =>
    intro hp l a b ha hb hd
    refine ⟨[], ?_, rfl⟩
    rw [List.map_nil, joinF, List.append_nil] at hd
    have h1 : skipF false (l.drop a) = b.length := by
      have := hb []
      rw [List.append_nil, skip_nil] at this
      rw [hd, this]; rfl
    have hl := congrArg List.length hd
    rw [List.length_drop] at hl
    show nextF l a = _
    rcases next_in l a ha with ⟨_, h⟩ | ⟨c, r, h2, _, h3, _⟩
    · exact h
    · rw [h1] at h3; omega
  | cons x ps ih =>
    intro hp l a b ha hb hd
    obtain ⟨p, c⟩ := x
    have hx := hp (p, c) (List.mem_cons_self ..)
    rw [List.map_cons, joinF] at hd
    simp only at hd hx
    rw [List.append_assoc] at hd
    have hsep := hg.sep (joinF g (ps.map (·.1)))
    have h1 : skipF false (l.drop a) = b.length := by rw [hd, hb, hx.skip _ hsep]; rfl
    have hl := congrArg List.length hd
    rw [List.length_drop, List.length_append, List.length_append] at hl
    have hz := hx.size
    have hz1 := hx.pos
    have hdi : l.drop (a + b.length) = p ++ (g ++ joinF g (ps.map (·.1))) := by rw [← List.drop_drop, hd, List.drop_left]
    have hn : nextF l a = (⟨c.k, ((a + b.length : Nat) : Int), c.z, c.n, c.s⟩, 0) := by
      have e : nextF l a = (⟨(tokF (l.drop (a + skipF false (l.drop a)))).k, ((a + skipF false (l.drop a) : Nat) : Int), (tokF (l.drop (a + skipF false (l.drop a)))).z, (tokF (l.drop (a + skipF false (l.drop a)))).n, (tokF (l.drop (a + skipF false (l.drop a)))).s⟩, (tokF (l.drop (a + skipF false (l.drop a)))).e) := rfl
      rw [e, h1, hdi, hx.tok _ hsep, hx.ok]
    have e3 : (((a + b.length : Nat) : Int) + (c.z : Int)).toNat = a + b.length + p.length := by omega
    obtain ⟨ts, t1, t2⟩ := ih (fun y hy => hp y (List.mem_cons_of_mem _ hy)) l (a + b.length + p.length) g (by omega) hg.skip (by rw [← List.drop_drop, hdi, List.drop_left])
    refine ⟨⟨c.k, ((a + b.length : Nat) : Int), c.z, c.n, c.s⟩ :: ts, ⟨hn, hx.kind, by simp; omega, by simp; omega, by simp; omega, ?_⟩, by rw [List.map_cons, List.map_cons, t2]; rfl⟩
    simp only
    rw [e3]
    exact t1
/-- The pieces of a text that are its tokens. -/
theorem chain_pieces (l : List UInt8) : ∀ (ts : List Tk) (a : Nat), a ≤ l.length → chainF l a ts → ∃ ps : List (List UInt8 × Pc), (∀ x ∈ ps, Piece x.1 x.2) ∧ ps.map (fun x => coreP x.2) = ts.map coreT ∧ ps.map (·.1) = ts.map fun t => (l.drop t.a.toNat).take t.z.toNat := by
  intro ts
  induction ts with
  | nil => intro a ha h; exact ⟨[], by simp, rfl, rfl⟩
  | cons t ts ih =>
    intro a ha h
    obtain ⟨h, h3, h4, h5, h6, h7⟩ := h
    obtain ⟨ps, p1, p2, p3⟩ := ih _ (by omega) h7
    rcases next_in l a ha with ⟨_, h8⟩ | ⟨c, r, h8, h9, h10, h11⟩
    · rw [h8] at h
      injection h with h _
      rw [← h] at h3
      exact (h3 rfl).elim
    · rw [h11] at h
      injection h with h he
      subst h
      refine ⟨((c :: r).take (tokF (c :: r)).z, tokF (c :: r)) :: ps, ?_, by rw [List.map_cons, List.map_cons, p2]; rfl, ?_⟩
      · intro x hx
        rcases List.mem_cons.1 hx with rfl | hx
        · exact piece_of c r he h9
        · exact p1 x hx
      · rw [List.map_cons, List.map_cons, p3]
        congr 1
        show _ = List.take _ (l.drop (((a + skipF false (l.drop a) : Nat) : Int)).toNat)
        have e : (((a + skipF false (l.drop a) : Nat) : Int)).toNat = a + skipF false (l.drop a) := rfl
        rw [e, h8]
        rfl
/-- The joined pieces have the same tokens but for their places. -/
theorem join_law (l : List UInt8) (ts : List Tk) (g : List UInt8) (hg : Gap g) (h : chainF l 0 ts) : ∃ us, chainF (joinF g (ts.map fun t => (l.drop t.a.toNat).take t.z.toNat)) 0 us ∧ us.map coreT = ts.map coreT := by
  obtain ⟨ps, p1, p2, p3⟩ := chain_pieces l ts 0 (Nat.zero_le _) h
  obtain ⟨us, u1, u2⟩ := join_chain g hg ps p1 (joinF g (ps.map (·.1))) 0 [] (Nat.zero_le _) (fun r => by simp) (by simp)
  rw [p3] at u1
  exact ⟨us, u1, u2.trans p2⟩
/-- A piece of a text by itself. -/
theorem chain_self (l : List UInt8) (t : Tk) (a : Nat) (ha : a ≤ l.length) (h : nextF l a = (t, 0)) (h3 : t.k ≠ 0) : nextF ((l.drop t.a.toNat).take t.z.toNat) 0 = (⟨t.k, 0, t.z, t.n, t.s⟩, 0) := by
  rcases next_in l a ha with ⟨_, h8⟩ | ⟨c, r, h8, h9, h10, h11⟩
  · rw [h8] at h
    injection h with h _
    rw [← h] at h3
    exact (h3 rfl).elim
  · rw [h11] at h
    injection h with h he
    subst h
    have hp := piece_of c r he h9
    have e : (((a + skipF false (l.drop a) : Nat) : Int)).toNat = a + skipF false (l.drop a) := rfl
    simp only
    rw [e, h8, show ((tokF (c :: r)).z : Int).toNat = (tokF (c :: r)).z from rfl]
    generalize (c :: r).take (tokF (c :: r)).z = p at hp
    have h1 := hp.skip [] sep_nil
    have h2 := hp.tok [] sep_nil
    rw [List.append_nil] at h1 h2
    have e2 : nextF p 0 = (⟨(tokF (p.drop (skipF false p))).k, ((0 + skipF false p : Nat) : Int), (tokF (p.drop (skipF false p))).z, (tokF (p.drop (skipF false p))).n, (tokF (p.drop (skipF false p))).s⟩, (tokF (p.drop (skipF false p))).e) := by
      unfold nextF
      simp only [List.drop_zero, Nat.zero_add]
    rw [e2, h1, List.drop_zero, h2, he]
    rfl
theorem all8 (p : UInt8 → Bool) (h : (List.range 256).all (fun n => p (UInt8.ofNat n)) = true) : ∀ c, p c = true := by
  intro c
  have h1 := List.all_eq_true.1 h c.toNat (List.mem_range.2 c.toNat_lt)
  rwa [show UInt8.ofNat c.toNat = c by simp] at h1
/-- A letter made great. -/
def upF (c : UInt8) : UInt8 := if lowB c then c - 32 else c
theorem up_small (c : UInt8) : smallF (upF c) = smallF c := by
  have := all8 (fun c => smallF (upF c) == smallF c) (by decide +kernel) c
  simpa using this
theorem up_dig (c : UInt8) : digB (upF c) = digB c := by
  have := all8 (fun c => digB (upF c) == digB c) (by decide +kernel) c
  simpa using this
theorem up_let (c : UInt8) : letB (upF c) = letB c := by
  have := all8 (fun c => letB (upF c) == letB c) (by decide +kernel) c
  simpa using this
theorem up_word (c : UInt8) : wordB (upF c) = wordB c := by rw [wordB, wordB, up_let, up_dig]
theorem up_blank (c : UInt8) : blankB (upF c) = blankB c := by
  have := all8 (fun c => blankB (upF c) == blankB c) (by decide +kernel) c
  simpa using this
theorem up_eq (c : UInt8) (d : UInt8) (hd : letB d = false) : upF c = d ↔ c = d := by
  have h1 := all8 (fun c => if letB c then letB (upF c) else upF c == c) (by decide +kernel) c
  split at h1
  · rename_i h2
    constructor
    · intro e; rw [e, hd] at h1; cases h1
    · intro e; rw [e, hd] at h2; cases h2
  · have : upF c = c := by simpa using h1
    rw [this]
theorem up_not (c : UInt8) (h : letB c = false) : upF c = c := (up_eq c c h).2 rfl
theorem up_skip (l : List UInt8) : ∀ b, skipF b (l.map upF) = skipF b l := by
  induction l with
  | nil => intro b; rfl
  | cons c r ih =>
    intro b
    rw [List.map_cons]
    cases b with
    | true => rw [skip_t, skip_t, ih, ih]; simp only [up_eq c 10 (by decide)]
    | false =>
      rw [skip_f, skip_f, ih, ih, up_blank]
      have e : (upF c = 45 ∧ (r.map upF).head? = some 45) ↔ (c = 45 ∧ r.head? = some 45) := by
        rw [up_eq c 45 (by decide)]
        cases r with
        | nil => simp
        | cons d q => simp [up_eq d 45 (by decide)]
      simp only [e]
theorem up_tw (p : UInt8 → Bool) (hp : ∀ c, p (upF c) = p c) (l : List UInt8) : (l.map upF).takeWhile p = (l.takeWhile p).map upF := by
  induction l with
  | nil => rfl
  | cons c r ih => rw [List.map_cons, List.takeWhile_cons, List.takeWhile_cons, hp, ih]; split <;> simp
theorem dig_let {c : UInt8} (h : digB c = true) : letB c = false := by
  have := all8 (fun c => !(digB c && letB c)) (by decide +kernel) c
  cases h2 : letB c with
  | false => rfl
  | true => simp [h, h2] at this
theorem tw_all (p : UInt8 → Bool) (l : List UInt8) : ∀ c ∈ l.takeWhile p, p c = true := by
  induction l with
  | nil => intro c h; simp at h
  | cons x r ih =>
    intro c h
    rw [List.takeWhile_cons] at h
    split at h
    · rename_i hx
      rcases List.mem_cons.1 h with rfl | h
      · exact hx
      · exact ih c h
    · simp at h
theorem map_id_of (l : List UInt8) (h : ∀ c ∈ l, upF c = c) : l.map upF = l := by
  induction l with
  | nil => rfl
  | cons c r ih => rw [List.map_cons, h c (List.mem_cons_self ..), ih fun x hx => h x (List.mem_cons_of_mem _ hx)]
theorem up_sign (c d : UInt8) (hc : letB c = false) : signN c (upF d) = signN c d := by
  unfold signN
  simp only [up_eq d 124 (by decide), up_eq d 62 (by decide), up_eq d 61 (by decide)]
theorem sign_two {c d : UInt8} (h : signN c d = 2) : letB d = false := by
  have h2 : d = 124 ∨ d = 62 ∨ d = 61 := by
    unfold signN at h
    split at h
    · split at h
      · rename_i e; exact .inl e
      · cases h
    · split at h
      · split at h
        · rename_i e; exact .inr e
        · cases h
      · split at h
        · split at h
          · rename_i e; exact .inr (.inr e)
          · cases h
        · split at h <;> cases h
  rcases h2 with rfl | rfl | rfl <;> decide
theorem up_tok (l : List UInt8) (hq : ∀ c ∈ l, c ≠ 34 ∧ c ≠ 39) : tokF (l.map upF) = tokF l := by
  cases l with
  | nil => rfl
  | cons c r =>
    obtain ⟨q1, q2⟩ := hq c (List.mem_cons_self ..)
    rcases tok_cases c with h1 | ⟨h1, h2⟩ | rfl | rfl | ⟨h1, h2, h3, h4⟩
    · rw [tok_letter r h1, List.map_cons, tok_letter _ (by rw [up_let]; exact h1), ← List.map_cons]
      unfold wordF
      rw [up_tw wordB up_word, List.map_map]
      have : smallF ∘ upF = smallF := funext up_small
      rw [this]
    · rw [tok_digit r h1 h2, List.map_cons, tok_digit _ (by rw [up_let]; exact h1) (by rw [up_dig]; exact h2), ← List.map_cons]
      unfold numF
      rw [up_tw digB up_dig, map_id_of _ fun c hc => up_not c (dig_let (tw_all digB _ c hc))]
    · exact (q1 rfl).elim
    · exact (q2 rfl).elim
    · have hu := up_not c h1
      rw [tok_sign r h1 h2 h3 h4, List.map_cons, hu, tok_sign _ h1 h2 h3 h4]
      unfold signF
      have e : signN c ((r.map upF).headD 0) = signN c (r.headD 0) := by
        cases r with
        | nil => rfl
        | cons d q => rw [List.map_cons, List.headD_cons, List.headD_cons, up_sign c d h1]
      rw [e]
      have h22 := sign_2 c (r.headD 0)
      obtain ⟨z, hz⟩ : ∃ z, signN c (r.headD 0) = z := ⟨_, rfl⟩
      rw [hz] at h22 ⊢
      have e2 : (c :: r.map upF).take z = (c :: r).take z := by
        have : z = 0 ∨ z = 1 ∨ z = 2 := by omega
        rcases this with rfl | rfl | rfl
        · rfl
        · rfl
        · cases r with
          | nil => rfl
          | cons d q =>
            rw [List.headD_cons] at hz
            rw [List.map_cons, up_not d (sign_two hz)]
            rfl
      simp only [e2]
theorem up_next (l : List UInt8) (hq : ∀ c ∈ l, c ≠ 34 ∧ c ≠ 39) (a : Nat) : nextF (l.map upF) a = nextF l a := by
  simp only [nextF, ← List.map_drop, up_skip]
  rw [up_tok _ fun c hc => hq c (List.mem_of_mem_drop hc)]
theorem up_toks (f : Nat) (l : List UInt8) (hq : ∀ c ∈ l, c ≠ 34 ∧ c ≠ 39) : ∀ a acc, toksF f (l.map upF) a acc = toksF f l a acc := by
  induction f with
  | zero => intro a acc; rfl
  | succ f ih => intro a acc; rw [toks_succ, toks_succ, up_next l hq]; simp only [ih]
theorem up_toksL (l : List UInt8) (hq : ∀ c ∈ l, c ≠ 34 ∧ c ≠ 39) : toksL (l.map upF) = toksL l := by
  unfold toksL
  rw [List.length_map, up_toks _ l hq]
/-- Is it a name? -/
def isName (w : List UInt8) : Bool := plainL w && decide (w.length ≤ 20) && !resB w
theorem plain_word {w : List UInt8} (h : plainL w = true) : w ≠ [] ∧ (∀ c ∈ w, wordB c = true ∧ smallF c = c ∧ c ≠ 34) ∧ (∀ c r, w = c :: r → letB c = true ∧ blankB c = false ∧ c ≠ 45) := by
  cases w with
  | nil => cases h
  | cons c r =>
    have h1 := all8 (fun c => !(nameB c || digB c) || (wordB c && (smallF c == c) && (c != 34))) (by decide +kernel)
    have h2 := all8 (fun c => !(nameB c) || (letB c && !(blankB c) && (c != 45))) (by decide +kernel)
    rw [plainL, Bool.and_eq_true] at h
    refine ⟨by simp, fun x hx => ?_, fun x y e => ?_⟩
    · have hn : (nameB x || digB x) = true := by
        rcases List.mem_cons.1 hx with rfl | hx
        · rw [h.1]; rfl
        · exact List.all_eq_true.1 h.2 x hx
      have := h1 x
      rw [hn] at this
      simpa [and_assoc] using this
    · injection e with e _
      subst e
      have := h2 c
      rw [h.1] at this
      simpa [and_assoc] using this
theorem tw_whole (p : UInt8 → Bool) (l : List UInt8) (h : ∀ c ∈ l, p c = true) : l.takeWhile p = l := by
  induction l with
  | nil => rfl
  | cons c r ih => rw [List.takeWhile_cons, h c (List.mem_cons_self ..), ih fun x hx => h x (List.mem_cons_of_mem _ hx)]; rfl
theorem map_small (l : List UInt8) (h : ∀ c ∈ l, smallF c = c) : l.map smallF = l := by
  induction l with
  | nil => rfl
  | cons c r ih => rw [List.map_cons, h c (List.mem_cons_self ..), ih fun x hx => h x (List.mem_cons_of_mem _ hx)]
theorem plain_next (w : List UInt8) (h : plainL w = true) : nextF w 0 = (⟨(wordF w).k, 0, (wordF w).z, (wordF w).n, (wordF w).s⟩, (wordF w).e) ∧ (w.takeWhile wordB).map smallF = w := by
  obtain ⟨h1, h2, h3⟩ := plain_word h
  constructor
  · cases w with
    | nil => exact (h1 rfl).elim
    | cons c r =>
      obtain ⟨h4, h5, h6⟩ := h3 c r rfl
      have hs : skipF false (c :: r) = 0 := by rw [skip_f, if_neg (by simp [h5]), if_neg (fun x => h6 x.1)]
      unfold nextF
      simp only [List.drop_zero, hs, Nat.add_zero]
      rw [tok_letter r h4]
      rfl
  · rw [tw_whole wordB w fun c hc => (h2 c hc).1, map_small w fun c hc => (h2 c hc).2.1]
theorem name_next (w : List UInt8) (h : isName w = true) : nextF w 0 = (⟨2, 0, w.length, 0, w⟩, 0) := by
  unfold isName at h
  simp only [Bool.and_eq_true, Bool.not_eq_true', decide_eq_true_eq] at h
  obtain ⟨⟨h1, h2⟩, h3⟩ := h
  obtain ⟨e1, e2⟩ := plain_next w h1
  rw [e1]
  unfold wordF
  simp only [e2, h3]
  rw [if_neg (by simp), if_neg (by omega)]
theorem low_plain (w : List UInt8) (h : w.all lowB = true) (h0 : w ≠ []) : plainL w = true := by
  cases w with
  | nil => exact (h0 rfl).elim
  | cons c r =>
    rw [List.all_cons, Bool.and_eq_true] at h
    rw [plainL, Bool.and_eq_true]
    refine ⟨by simp [nameB, h.1], List.all_eq_true.2 fun x hx => ?_⟩
    have := List.all_eq_true.1 h.2 x hx
    simp [nameB, this]
theorem res_parts {w : List UInt8} (h : resB w = true) : w ≠ [] ∧ w.all lowB = true ∧ infB (32 :: (w ++ [32])) allW = true := by
  unfold resB at h
  simp only [Bool.and_eq_true, Bool.not_eq_true', List.isEmpty_eq_false_iff] at h
  exact ⟨h.1.1, h.1.2, h.2⟩
theorem word_next (w : List UInt8) (h : resB w = true) : nextF w 0 = (⟨1, 0, w.length, 0, w⟩, 0) := by
  obtain ⟨h0, h1, _⟩ := res_parts h
  obtain ⟨e1, e2⟩ := plain_next w (low_plain w h1 h0)
  rw [e1]
  unfold wordF
  simp only [e2, h]
  rfl
theorem inf_suffix (a l : List UInt8) (h : infB a l = true) : ∃ b c, l = b ++ (a ++ c) := by
  induction l with
  | nil =>
    rw [infB, List.isEmpty_iff] at h
    subst h
    exact ⟨[], [], rfl⟩
  | cons x r ih =>
    rw [infB, Bool.or_eq_true] at h
    rcases h with h | h
    · obtain ⟨c, hc⟩ := List.isPrefixOf_iff_prefix.1 h
      exact ⟨[], c, hc.symm⟩
    · obtain ⟨b, c, hc⟩ := ih h
      exact ⟨x :: b, c, by rw [hc]; rfl⟩
/-- No word is longer than this. -/
def shortB : List UInt8 → Bool
  | [] => true
  | c :: r => decide ((r.takeWhile lowB).length ≤ 20) && shortB r
theorem short_at (b r : List UInt8) (c : UInt8) (h : shortB (b ++ c :: r) = true) : (r.takeWhile lowB).length ≤ 20 := by
  induction b with
  | nil => rw [List.nil_append, shortB, Bool.and_eq_true] at h; exact of_decide_eq_true h.1
  | cons x b ih => rw [List.cons_append, shortB, Bool.and_eq_true] at h; exact ih h.2
theorem res_len {w : List UInt8} (h : resB w = true) : w.length ≤ 20 := by
  obtain ⟨h0, h1, h2⟩ := res_parts h
  obtain ⟨b, c, e⟩ := inf_suffix _ _ h2
  have hs : shortB allW = true := by decide +kernel
  rw [e, List.cons_append] at hs
  have h3 := short_at b _ 32 hs
  have h4 : w.length ≤ ((w ++ [32] ++ c).takeWhile lowB).length := by
    rw [List.append_assoc, List.takeWhile_append_of_pos (fun x hx => List.all_eq_true.1 h1 x hx), List.length_append]
    omega
  omega
theorem quoted_next (w : List UInt8) (h : isName w = true ∨ resB w = true) : nextF (34 :: (w ++ [34])) 0 = (⟨2, 0, w.length + 2, 0, w⟩, 0) := by
  have hp : plainL w = true := by
    rcases h with h | h
    · unfold isName at h
      simp only [Bool.and_eq_true] at h
      exact h.1.1
    · obtain ⟨h0, h1, _⟩ := res_parts h
      exact low_plain w h1 h0
  have hl : w.length ≤ 20 := by
    rcases h with h | h
    · unfold isName at h
      simp only [Bool.and_eq_true, decide_eq_true_eq] at h
      exact h.1.2
    · exact res_len h
  obtain ⟨_, h2, _⟩ := plain_word hp
  have hi : indexByte (w ++ [34]) 34 = w.length := idx_mid 34 w [] fun c hc => (h2 c hc).2.2
  have ht : (w ++ [34]).take (indexByte (w ++ [34]) 34).toNat = w := by rw [hi]; simp
  have hs : skipF false (34 :: (w ++ [34])) = 0 := by rw [skip_f, if_neg (by decide), if_neg (fun x => absurd x.1 (by decide))]
  unfold nextF
  simp only [List.drop_zero, hs]
  rw [List.drop_zero, tok_quot]
  unfold quotF
  rw [ht, hi, if_neg (by omega)]
  dsimp only
  rw [hp, if_neg (by simp), if_neg (by omega)]
  simp
end Go.Proofs.Ytonpiacpgfibpaa.Lex
