/-
  The two tables of the library that the rows list (strings.asciiSpace, internal/strconv.uint64pow10), as facts on a world; a row that lists variables, proved from a contract that is handed such a fact. Conditions: none.
-/
import Derived.Test.YtgbeenieacnanaaDoorDoor
import Derived.Lib.LaidTab
import Derived.Lib.Space
import Derived.Lib.ItoaNum
import Derived.LaidSub
namespace Go.Proofs.YtgbeenieacnanaaDoor
open Go Go.ChangeShapes Go.WideShapes Go.ChangeAt Go.RowKit Go.Deep Go.Joins
set_option linter.unusedVariables false
set_option maxRecDepth 100000
/-- strings.asciiSpace is the table of white space. -/
def TabA (w : World) : Prop := Lib.TabIs Tryd.prog w "strings.asciiSpace" .u8 Lib.asciiSpaceTab
/-- internal/strconv.uint64pow10 is the table of powers of ten. -/
def TabP (w : World) : Prop := Lib.TabIs Tryd.prog w "internal/strconv.uint64pow10" .u64 Lib.pow10Tab
theorem tab_lt {P : Program} {w : World} {g : Nat} {n : String} {k : IntKind} {z : Int} {zs : List Int} (hg : P.globalNamed n = some g) (h : Lib.TabIs P w n k (z :: zs)) : g < w.heap.size :=
  World.block_lt_of_cell? _ _ (h.cell hg 0 (by simp))
theorem tab_below {P : Program} {w w' : World} {g : Nat} {n : String} {k : IntKind} {z : Int} {zs : List Int} (hg : P.globalNamed n = some g) (h : Lib.TabIs P w n k (z :: zs)) (hb : Below w.heap.size w w') : Lib.TabIs P w' n k (z :: zs) :=
  tab_stays hg h hb (Nat.le_refl _)
theorem asciiSpaceTab_cons : ∃ z zs, Lib.asciiSpaceTab = z :: zs := ⟨_, _, rfl⟩
theorem pow10Tab_cons : ∃ z zs, Lib.pow10Tab = z :: zs := ⟨_, _, rfl⟩
theorem TabP.below {w w' : World} (h : TabP w) (hb : Below w.heap.size w w') : TabP w' := tab_stays (g := 2) (by kernel_rfl) h hb (Nat.le_refl _)
theorem laid_one {P : Program} {w : World} {l : List (String × DataW Unit)} (name : String) {k : IntKind} {zs : List Int} {g : Nat} {t e : TypeId} {n : Nat}
    (hg : P.globalNamed name = some g) (hty : (P.globals[g]?).map (·.type) = some t) (ht : P.underlying t = some (.array n e)) (he : P.underlying e = some (.int k)) (hce : P.cellsOf e = 1) (hct : P.cellsOf t = n)
    (hp : (l.all fun x => x.2.handleName?.isNone) = true) (hl : l.filter (fun x => x.1 == name) = [(name, Lib.tabData k zs)]) (h : laidMetH P l w) : Lib.TabIs P w name k zs := by
  rw [MakeChecks.laidMetH_plain _ _ _ hp] at h
  have h1 := laidMet.filter (fun x => x.1 == name) h
  rw [hl] at h1
  exact Lib.tabIs_of_head hg hty ht he hce hct h1
theorem TabA.of_heap {w w' : World} (e : w'.heap = w.heap) (h : TabA w) : TabA w' := by
  unfold TabA Lib.TabIs World.var? at h ⊢
  rw [e]; exact h
theorem TabP.of_heap {w w' : World} (e : w'.heap = w.heap) (h : TabP w) : TabP w' := by
  unfold TabP Lib.TabIs World.var? at h ⊢
  rw [e]; exact h
/-- The row's form from a contract: the world's shape and a fact that follows from the listed variables are at hand. -/
theorem handed_tabs {H : Type} {enc : TypeId × Value → H} {a : Assume} {C : Checked} {os : Os} {f : FuncId} {fn : Func} {s : ChangeSpec} {conds : List PathCond} {apart fresh handsOn again : Bool} {X : World → Array Value → Prop} {Y : World → Prop}
    (own : ownKnob C.prog.godebug = none) (started : os.Started) (noInit : C.prog.inits.idxOf? f = none) (hfn : C.prog.funcs[f]? = some fn) (hY : ∀ w w' args, w'.heap = w.heap → X w args → Y w')
    (witness : ∃ (w : World) (tape : Tape) (i : Input), w.os = os ∧ (w.forCall tape i).Shaped C.prog ∧ i.vars = [] ∧ Input.okWide C.prog (w.forCall tape i) .any w.heap.size f i ∧
      ((s.pre enc C.prog fn conds apart (w.forCall tape i).memory i.args ∧ X (w.forCall tape i).memory i.args) ∧ sizedMet enc C.prog fn (OpenSpec.ofChange s) apart (w.forCall tape i).memory i.args) ∧ a.holds C.prog (lone (Frame.enter C.prog f i.args .normal) [] (w.forCall tape i)))
    (contract : ∀ (W : World) (base : Nat) (args : Array Value) (ds gs : List (DataW H)) (before : List MemPlace),
      (∀ (j : Nat) t v, fn.params[j]? = some t → args[j]? = some v → Value.okWide C.prog W .any base t v) →
      DataW.Whole enc C.prog fn.params.toList s.vars apart W args.toList ds gs before → W.ShapedOpen C.prog → Y W →
      Calls C.prog f args W fun e W' => ∃ v, e = .returned v ∧ s.post enc C.prog fn apart fresh handsOn again W args v W') :
    ReturnsInHanded a C os f .any (fun w args => (s.pre enc C.prog fn conds apart w args ∧ X w args) ∧ sizedMet enc C.prog fn (OpenSpec.ofChange s) apart w args) (s.post enc C.prog fn apart fresh handsOn again) := by
  refine returnsInHanded_of_calls own started noInit witness ?_
  intro w tape i _ hsh _ hok hpre _
  obtain ⟨_, _, _, fn', hfn', _, _, _, _, hval⟩ := hok
  obtain rfl : fn' = fn := Option.some.inj (hfn'.symm.trans hfn)
  obtain ⟨⟨⟨ds, gs, before, hw, _⟩, hX⟩, _⟩ := hpre
  refine (contract (w.forCall tape i) w.heap.size i.args ds gs before hval (DataW.Whole.of_heap (w' := w.forCall tape i) (by rfl) hw) hsh (hY _ (w.forCall tape i) _ (by rfl) hX)).mono fun e W' ⟨v, he, hp⟩ => ?_
  subst he
  exact ChangeSpec.post_blind hp
end Go.Proofs.YtgbeenieacnanaaDoor
