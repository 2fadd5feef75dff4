/- The statement on tabelliontop.TopRewrites where what it reads is of bulk at most 1048576: the call answers true, and each argument reads behind it as before. -/
import Derived.Test.YtcimkkmkiedobaaGreatDoorRows
import Derived.Test.YtcimkkmkiedobaaGreatDoorM30
import Derived.WalkKit
import Derived.ProofKit
import Derived.OpenShut
import Derived.JoinedCond
import Derived.HandedShaped
import Derived.Shelf.Vars
import Derived.LaidLaws
import Derived.LaidHandle
namespace Go.Proofs.YtcimkkmkiedobaaGreatDoor
open Go.ChangeShapes Go.WideShapes Go.ChangeAt Go.RowKit
set_option linter.unusedVariables false
set_option linter.unusedSimpArgs false
section
variable {H : Type} {enc : TypeId × Value → H}
theorem lift_of {a : Assume} {C : Checked} {os : Os} {f : FuncId} {fn : Func} {s : OpenSpec} {k : (H : Type) → List (DataW H) → Bool} (hk : s.cond = some k) {F : Stop.Interp} {conds : List PathCond} {apart fresh handsOn again : Bool} {X : World → Array Value → Prop}
    (own : ownKnob C.prog.godebug = none) (started : os.Started) (noInit : C.prog.inits.idxOf? f = none) (hfn : C.prog.funcs[f]? = some fn)
    (witness : ∃ (w : World) (tape : Tape) (i : Input), w.os = os ∧ (w.forCall tape i).Shaped C.prog ∧ i.vars = [] ∧ Input.okWide C.prog (w.forCall tape i) .any w.heap.size f i ∧
      ((s.pre enc C.prog fn conds apart (w.forCall tape i).memory i.args ∧ X (w.forCall tape i).memory i.args) ∧ sizedMet enc C.prog fn s apart (w.forCall tape i).memory i.args) ∧ a.holds C.prog (lone (Frame.enter C.prog f i.args .normal) [] (w.forCall tape i)))
    (contract : ∀ (W : World) (base : Nat) (args : Array Value) (ds gs : List (DataW H)) (before : List MemPlace),
      (∀ (j : Nat) t v, fn.params[j]? = some t → args[j]? = some v → Value.okWide C.prog W .any base t v) →
      DataW.Whole enc C.prog fn.params.toList s.vars apart W args.toList ds gs before →
      k H (ds ++ gs) = true → W.ShapedOpen C.prog →
      Calls C.prog f args W fun e W' => ∃ v, e = .returned v ∧ (s.at F).post enc C.prog fn apart fresh handsOn again W args v W') :
    ReturnsInHanded a C os f .any (fun w args => (s.pre enc C.prog fn conds apart w args ∧ X w args) ∧ sizedMet enc C.prog fn s apart w args) ((s.at F).post enc C.prog fn apart fresh handsOn again) := by
  refine returnsInHanded_of_calls own started noInit witness ?_
  intro w tape i _ hsh _ hok hpre _
  obtain ⟨_, _, _, fn', hfn', _, _, _, _, hval⟩ := hok
  have e : fn' = fn := Option.some.inj (hfn'.symm.trans hfn)
  subst e
  obtain ⟨ds, gs, before, hw, hc, hkk⟩ := (OpenSpec.pre_some hk conds apart _ _).1 hpre.1.1
  have hw' := DataW.Whole.of_heap (w' := w.forCall tape i) (by rfl) hw
  refine (contract (w.forCall tape i) w.heap.size i.args ds gs before hval hw' hkk hsh).mono fun e W' ⟨v, he, hp⟩ => ?_
  subst he
  exact ChangeSpec.post_blind hp
end
theorem own : ownKnob Tryz.prog.godebug = none := by kernel_rfl
mutual
theorem bD {H : Type} : ∀ d : DataW H, Go.Ev.iJ d = Rows.uptoBulk d
  | .lit l => by cases l <;> simp only [Go.Ev.iJ, Rows.uptoBulk]
  | .nil => by simp only [Go.Ev.iJ, Rows.uptoBulk]
  | .ptr d => by simp only [Go.Ev.iJ, Rows.uptoBulk, bD d]
  | .slice l m => by simp only [Go.Ev.iJ, Rows.uptoBulk, bL l, bL m]
  | .agg l => by simp only [Go.Ev.iJ, Rows.uptoBulk, bL l]
  | .iface _ d => by simp only [Go.Ev.iJ, Rows.uptoBulk, bD d]
  | .map l => by simp only [Go.Ev.iJ, Rows.uptoBulk, bM l]
  | .held _ => by simp only [Go.Ev.iJ, Rows.uptoBulk]
theorem bL {H : Type} : ∀ l : List (DataW H), Go.Ev.mM l = Rows.uptoBulkAll l
  | [] => by simp only [Go.Ev.mM, Rows.uptoBulkAll]
  | d :: r => by simp only [Go.Ev.mM, Rows.uptoBulkAll, bD d, bL r]
theorem bM {H : Type} : ∀ l : List (Lit × DataW H), Go.Ev.ael l = Rows.uptoBulkEntries l
  | [] => by simp only [Go.Ev.ael, Rows.uptoBulkEntries]
  | d :: r => by simp only [Go.Ev.ael, Rows.uptoBulkEntries, bE d, bM r]
theorem bE {H : Type} : ∀ x : Lit × DataW H, Go.Ev.aiX x = Rows.uptoBulkEntry x
  | (l, d) => by cases l <;> simp only [Go.Ev.aiX, Rows.uptoBulkEntry, bD d]
end
def tab (n : Nat) (k : IntKind) (l : List Int) (w : World) : World :=
  { w with heap := w.heap.modify n fun
      | .cells _ t frozen => .cells (l.map (Value.int k)).toArray t frozen
      | o => o }
def litsOf : DataW Unit → List Int
  | .agg l => l.map fun | .lit (.int _ n) => n | _ => 0
  | _ => []
def wargs : Array Value := #[.agg #[.int .i64 0, .string ByteArray.empty, .slice none 0 0, .slice none 0 0, .slice none 0 0, .slice none 0 0, .slice none 0 0, .int .i64 0, .int .i64 0, .bool false, .slice none 0 0], .slice none 0 0]
noncomputable def laidWorld (os : Os) : World :=
  tab 3 .u64 (litsOf Rows.laid_internal_strconv_uint64pow10) (tab 4 .u8 (litsOf Rows.laid_math_bits_deBruijn32tab) (tab 5 .u8 (litsOf Rows.laid_math_bits_deBruijn64tab) (World.holding Tryz.prog os ⟨#[], #[], []⟩)))
noncomputable def lw (os : Os) : World := (laidWorld os).forCall (fun _ _ => 0) ⟨#[], wargs, []⟩
theorem lw1 (os : Os) : (lw os).variablesB Tryz.prog = true := by kernel_rfl
theorem lw2 (os : Os) : ((lw os).heap.toList.drop Tryz.prog.globals.size).take ((begin Tryz.prog (fun _ _ => 0) default).world.heap.size - Tryz.prog.globals.size) =
      (begin Tryz.prog (fun _ _ => 0) default).world.heap.toList.drop Tryz.prog.globals.size := by kernel_rfl
theorem lw3 (os : Os) : Input.okWideB Tryz.prog (lw os) 3 ⟨#[], wargs, []⟩ = true := by kernel_rfl
theorem lw4 (os : Os) {H : Type} (enc : TypeId × Value → H) : DataW.whole enc Tryz.prog (lw os).memory Tryz.f3.params.toList (Rows.OpenSpec.upto Rows.topRewritesSpec).vars false wargs.toList 8 = some ([.agg [.lit (.int .i64 0), .lit (.string []), .nil, .nil, .nil, .nil, .nil, .lit (.int .i64 0), .lit (.int .i64 0), .lit (.bool false), .nil], .nil], [], []) := by kernel_rfl
theorem lw5 (os : Os) : laidMetH Tryz.prog Rows.topRewritesUptoRow.laid (lw os).memory :=
  laidMetH_of_parts (laidMet_of_run' 8 (by kernel_rfl) (by kernel_rfl)) (by kernel_rfl)
theorem lw6 (os : Os) {H : Type} (enc : TypeId × Value → H) : (Rows.OpenSpec.upto Rows.topRewritesSpec).bare.sizedB enc Tryz.prog Tryz.f3 false (lw os).memory wargs 8 = true := by kernel_rfl
end Go.Proofs.YtcimkkmkiedobaaGreatDoor
