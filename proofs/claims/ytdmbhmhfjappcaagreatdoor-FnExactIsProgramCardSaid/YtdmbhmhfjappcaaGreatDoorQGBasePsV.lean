/-
  Parts of the proof: Base, Door, Tab, PsV. Conditions: none.
-/
import Derived.Test.YtdmbhmhfjappcaaGreatDoorRows
import Derived.WalkKit
import Derived.ProofKit
import Derived.OpenShut
import Derived.ShutString
import Derived.ChangeOld
import Derived.Below
import Derived.Lib.SmallJoins
import Derived.Lib.Hide
import Derived.Deep.QuietTactic
import Derived.BigQuiet
import Derived.Deep.Slices
import Derived.Deep.Fields
import Derived.Deep.DeepCutAuto
import Derived.Deep.LoopGhost
import Derived.Deep.DeepMust
import Derived.WalkLawsBesides
import Derived.WalkSpells
import Derived.Laws.NewDeep
import Derived.Laws.MakeOwn
import Derived.Laws.OwnMore
import Derived.Deep.RegionHeld3
import Derived.Test.YtdmbhmhfjappcaaGreatDoorTie
import Derived.Test.YtdmbhmhfjappcaaGreatDoorCards
import Derived.HandedShaped
import Derived.LaidMore
import Derived.Lay
import Derived.SevenTiedAt
import Derived.Stop.Joined
import Derived.Lib.LaidTab
import Derived.Lib.Space
import Derived.Lib.ItoaNum
import Derived.LaidSub
import Derived.Stop.LaidErr
namespace Go.Proofs.YtdmbhmhfjappcaaGreatDoor
open Go.ChangeShapes Go.WideShapes Go.ChangeAt Go.RowKit Go.Deep Go.Joins
open Go.ChangeMaps (open_string shut_string)
set_option linter.unusedVariables false

theorem own : ownKnob Tryz.prog.godebug = none := by kernel_rfl
theorem laidOut : laidOutB Tryz.prog = true := by kernel_rfl

theorem ret_int {k : IntKind} {a b : Int} (h : a = b) : Ending.returned (.int k a) = .returned (.int k b) := by rw [h]
theorem ret_bool {a b : Bool} (h : a = b) : Ending.returned (.bool a) = .returned (.bool b) := by rw [h]

theorem bcell {B : Nat} {w w1 : World} (hb : Below B w w1) : (∀ b o, b < B → w1.cell? ⟨b, o, none⟩ = w.cell? ⟨b, o, none⟩) ∧ (∀ b o, b < B → w1.frozen? ⟨b, o, none⟩ = w.frozen? ⟨b, o, none⟩) :=
  ⟨fun b o h => hb.cell (p := ⟨b, o, none⟩) h, fun b o h => hb.frozen (p := ⟨b, o, none⟩) h⟩

theorem below_drewN {B : Nat} {a w : World} (h : Below B a w) (n : Nat) : Below B a (w.drewN n) := ⟨h.os, h.tape, h.output, h.size, h.block⟩

section
variable {H : Type} {enc : TypeId × Value → H} {P : Program} {w : World} {base : Nat} {spare : Nat → Bool} {held : Bool}
/-- A struct by value, of any number of one-cell fields: the value written out, each field's cell with its own reading. -/
theorem open_aggN {r : Reach} {b0 : Nat} {t : TypeId} {fs : Array Field} {v : Value} {d : DataW H} {p : List MemPlace} (hs : P.underlying t = some (.struct fs)) (hone : oneCellFields P fs = true) (hC : P.cellsOf t = fs.size)
    (hv : Value.okWide P w r b0 t v) (h : DataW.Trod enc P w base spare held t v d p) :
    ∃ (l : List Value) (n : Nat), v = .agg l.toArray ∧ l.length = fs.size ∧ ∀ (j : Nat) (f : Field), fs[j]? = some f → ∃ (u : Value) (y : DataW H × List MemPlace), l[j]? = some u ∧ DataW.trod enc P w base spare held n f.type [u] = some y := by
  obtain ⟨cs, rfl, hsz⟩ := okWide_struct hs hv
  obtain ⟨l⟩ := cs
  obtain ⟨fuel, hf⟩ := h
  obtain ⟨xs, n, _, hx, _, hlen, hg⟩ := DataW.trod_struct hs hf
  refine ⟨l, n, rfl, by simpa using hsz.trans hC, fun j f hj => ?_⟩
  obtain ⟨ho, hk⟩ := hone_of hone j f hj
  have hjl : j < fs.size := (Array.getElem?_eq_some_iff.1 hj).1
  have hl : l.length = fs.size := by simpa using hsz.trans hC
  have h1 := hg j f hj
  rw [ho, hk] at h1
  have hone' : ((Value.agg l.toArray).cells.toList.drop j).take 1 = [l[j]'(by omega)] := by
    simp only [Value.cells]
    rw [List.drop_eq_getElem_cons (by omega)]
    rfl
  rw [hone'] at h1
  have hys : xs[j]? = some (xs[j]'(by omega)) := List.getElem?_eq_getElem (by omega)
  exact ⟨_, _, List.getElem?_eq_getElem (by omega), h1.trans hys⟩
end

/-- The fields of a struct type. -/
def flds (P : Program) (t : TypeId) : Array Field := match P.underlying t with | some (.struct fs) => fs | _ => #[]
theorem open_aggT {H : Type} {enc : TypeId × Value → H} {P : Program} {w : World} {base : Nat} {spare : Nat → Bool} {held : Bool} {r : Reach} {b0 : Nat} {t : TypeId} {v : Value} {d : DataW H} {p : List MemPlace} {k : Nat}
    (hs : P.underlying t = some (.struct (flds P t))) (hone : oneCellFields P (flds P t) = true) (hC : P.cellsOf t = k) (hk : (flds P t).size = k)
    (hv : Value.okWide P w r b0 t v) (h : DataW.Trod enc P w base spare held t v d p) :
    ∃ (l : List Value) (n : Nat), v = .agg l.toArray ∧ l.length = k ∧ ∀ (j : Nat) (ty : TypeId), ((flds P t)[j]?).map (·.type) = some ty → ∃ (u : Value) (y : DataW H × List MemPlace), l[j]? = some u ∧ DataW.trod enc P w base spare held n ty [u] = some y := by
  obtain ⟨l, n, rfl, hl, hf⟩ := open_aggN hs hone (hC.trans hk.symm) hv h
  refine ⟨l, n, rfl, hl.trans hk, fun j ty hj => ?_⟩
  obtain ⟨f, hf0, rfl⟩ := Option.map_eq_some_iff.1 hj
  exact hf j f hf0
theorem five_of {l : List Value} (h : l.length = 5) : ∃ c0 c1 c2 c3 c4, l = [c0, c1, c2, c3, c4] := by
  match l, h with
  | [c0, c1, c2, c3, c4], _ => exact ⟨c0, c1, c2, c3, c4, rfl⟩
end Go.Proofs.YtdmbhmhfjappcaaGreatDoor
namespace Go.Proofs.YtdmbhmhfjappcaaGreatDoor
open Go
variable {H : Type} {enc : TypeId × Value → H}
/-- The row's form from a contract: beside the listed variables (X) the world's shape is at hand. -/
theorem handed_both {a : Assume} {C : Checked} {os : Os} {f : FuncId} {fn : Func} {s : ChangeSpec} {conds : List PathCond} {apart fresh handsOn again : Bool} {X : World → Array Value → Prop}
    (own : ownKnob C.prog.godebug = none) (started : os.Started) (noInit : C.prog.inits.idxOf? f = none) (hfn : C.prog.funcs[f]? = some fn)
    (witness : ∃ (w : World) (tape : Tape) (i : Input), w.os = os ∧ (w.forCall tape i).Shaped C.prog ∧ i.vars = [] ∧ Input.okWide C.prog (w.forCall tape i) .any w.heap.size f i ∧
      ((s.pre enc C.prog fn conds apart (w.forCall tape i).memory i.args ∧ X (w.forCall tape i).memory i.args) ∧ sizedMet enc C.prog fn (OpenSpec.ofChange s) apart (w.forCall tape i).memory i.args) ∧ a.holds C.prog (lone (Frame.enter C.prog f i.args .normal) [] (w.forCall tape i)))
    (contract : ∀ (W : World) (base : Nat) (args : Array Value) (ds gs : List (DataW H)) (before : List MemPlace),
      (∀ (j : Nat) t v, fn.params[j]? = some t → args[j]? = some v → Value.okWide C.prog W .any base t v) →
      DataW.Whole enc C.prog fn.params.toList s.vars apart W args.toList ds gs before → W.ShapedOpen C.prog →
      Calls C.prog f args W fun e W' => ∃ v, e = .returned v ∧ s.post enc C.prog fn apart fresh handsOn again W args v W') :
    ReturnsInHanded a C os f .any (fun w args => (s.pre enc C.prog fn conds apart w args ∧ X w args) ∧ sizedMet enc C.prog fn (OpenSpec.ofChange s) apart w args) (s.post enc C.prog fn apart fresh handsOn again) := by
  refine returnsInHanded_of_calls own started noInit witness ?_
  intro w tape i _ hsh _ hok hpre _
  obtain ⟨_, _, _, fn', hfn', _, _, _, _, hval⟩ := hok
  obtain rfl : fn' = fn := Option.some.inj (hfn'.symm.trans hfn)
  obtain ⟨⟨⟨ds, gs, before, hw, _⟩, _⟩, _⟩ := hpre
  refine (contract (w.forCall tape i) w.heap.size i.args ds gs before hval (DataW.Whole.of_heap (w' := w.forCall tape i) (by rfl) hw) hsh).mono fun e W' ⟨v, he, hp⟩ => ?_
  subst he
  exact ChangeSpec.post_blind hp
end Go.Proofs.YtdmbhmhfjappcaaGreatDoor
namespace Go.Proofs.YtdmbhmhfjappcaaGreatDoor
open Go Go.ChangeShapes Go.WideShapes Go.ChangeAt Go.RowKit Go.Deep Go.Joins
set_option linter.unusedVariables false
set_option maxRecDepth 100000
/-- strings.asciiSpace is the table of white space. -/
def TabA (w : World) : Prop := Lib.TabIs Tryz.prog w "strings.asciiSpace" .u8 Lib.asciiSpaceTab
/-- internal/strconv.uint64pow10 is the table of powers of ten. -/
def TabP (w : World) : Prop := Lib.TabIs Tryz.prog w "internal/strconv.uint64pow10" .u64 Lib.pow10Tab
theorem tab_lt {P : Program} {w : World} {g : Nat} {n : String} {k : IntKind} {z : Int} {zs : List Int} (hg : P.globalNamed n = some g) (h : Lib.TabIs P w n k (z :: zs)) : g < w.heap.size :=
  World.block_lt_of_cell? _ _ (h.cell hg 0 (by simp))
theorem tab_below {P : Program} {w w' : World} {g : Nat} {n : String} {k : IntKind} {z : Int} {zs : List Int} (hg : P.globalNamed n = some g) (h : Lib.TabIs P w n k (z :: zs)) (hb : Below w.heap.size w w') : Lib.TabIs P w' n k (z :: zs) :=
  tab_stays hg h hb (Nat.le_refl _)
theorem asciiSpaceTab_cons : ∃ z zs, Lib.asciiSpaceTab = z :: zs := ⟨_, _, rfl⟩
theorem pow10Tab_cons : ∃ z zs, Lib.pow10Tab = z :: zs := ⟨_, _, rfl⟩
theorem TabP.below {w w' : World} (h : TabP w) (hb : Below w.heap.size w w') : TabP w' := tab_stays (g := 2) (by kernel_rfl) h hb (Nat.le_refl _)
theorem laid_one {P : Program} {w : World} {l : List (String × DataW Unit)} (name : String) {k : IntKind} {zs : List Int} {g : Nat} {t e : TypeId} {n : Nat}
    (hg : P.globalNamed name = some g) (hty : (P.globals[g]?).map (·.type) = some t) (ht : P.underlying t = some (.array n e)) (he : P.underlying e = some (.int k)) (hce : P.cellsOf e = 1) (hct : P.cellsOf t = n)
    (hp : (l.all fun x => x.2.handleName?.isNone) = true) (hl : l.filter (fun x => x.1 == name) = [(name, Lib.tabData k zs)]) (h : laidMetH P l w) : Lib.TabIs P w name k zs := by
  rw [MakeChecks.laidMetH_plain _ _ _ hp] at h
  have h1 := laidMet.filter (fun x => x.1 == name) h
  rw [hl] at h1
  exact Lib.tabIs_of_head hg hty ht he hce hct h1
theorem TabA.of_heap {w w' : World} (e : w'.heap = w.heap) (h : TabA w) : TabA w' := by
  unfold TabA Lib.TabIs World.var? at h ⊢
  rw [e]; exact h
theorem TabP.of_heap {w w' : World} (e : w'.heap = w.heap) (h : TabP w) : TabP w' := by
  unfold TabP Lib.TabIs World.var? at h ⊢
  rw [e]; exact h
/-- The row's form from a contract: the world's shape and a fact that follows from the listed variables are at hand. -/
theorem handed_tabs {H : Type} {enc : TypeId × Value → H} {a : Assume} {C : Checked} {os : Os} {f : FuncId} {fn : Func} {s : ChangeSpec} {conds : List PathCond} {apart fresh handsOn again : Bool} {X : World → Array Value → Prop} {Y : World → Prop}
    (own : ownKnob C.prog.godebug = none) (started : os.Started) (noInit : C.prog.inits.idxOf? f = none) (hfn : C.prog.funcs[f]? = some fn) (hY : ∀ w w' args, w'.heap = w.heap → X w args → Y w')
    (witness : ∃ (w : World) (tape : Tape) (i : Input), w.os = os ∧ (w.forCall tape i).Shaped C.prog ∧ i.vars = [] ∧ Input.okWide C.prog (w.forCall tape i) .any w.heap.size f i ∧
      ((s.pre enc C.prog fn conds apart (w.forCall tape i).memory i.args ∧ X (w.forCall tape i).memory i.args) ∧ sizedMet enc C.prog fn (OpenSpec.ofChange s) apart (w.forCall tape i).memory i.args) ∧ a.holds C.prog (lone (Frame.enter C.prog f i.args .normal) [] (w.forCall tape i)))
    (contract : ∀ (W : World) (base : Nat) (args : Array Value) (ds gs : List (DataW H)) (before : List MemPlace),
      (∀ (j : Nat) t v, fn.params[j]? = some t → args[j]? = some v → Value.okWide C.prog W .any base t v) →
      DataW.Whole enc C.prog fn.params.toList s.vars apart W args.toList ds gs before → W.ShapedOpen C.prog → Y W →
      Calls C.prog f args W fun e W' => ∃ v, e = .returned v ∧ s.post enc C.prog fn apart fresh handsOn again W args v W') :
    ReturnsInHanded a C os f .any (fun w args => (s.pre enc C.prog fn conds apart w args ∧ X w args) ∧ sizedMet enc C.prog fn (OpenSpec.ofChange s) apart w args) (s.post enc C.prog fn apart fresh handsOn again) := by
  refine returnsInHanded_of_calls own started noInit witness ?_
  intro w tape i _ hsh _ hok hpre _
  obtain ⟨_, _, _, fn', hfn', _, _, _, _, hval⟩ := hok
  obtain rfl : fn' = fn := Option.some.inj (hfn'.symm.trans hfn)
  obtain ⟨⟨⟨ds, gs, before, hw, _⟩, hX⟩, _⟩ := hpre
  refine (contract (w.forCall tape i) w.heap.size i.args ds gs before hval (DataW.Whole.of_heap (w' := w.forCall tape i) (by rfl) hw) hsh (hY _ (w.forCall tape i) _ (by rfl) hX)).mono fun e W' ⟨v, he, hp⟩ => ?_
  subst he
  exact ChangeSpec.post_blind hp
end Go.Proofs.YtdmbhmhfjappcaaGreatDoor
namespace Go.Proofs.YtdmbhmhfjappcaaGreatDoor
open Go Go.ChangeShapes Go.WideShapes Go.ChangeAt Go.RowKit Go.Deep Go.Joins
set_option linter.unusedVariables false
set_option maxRecDepth 100000
/-- strconv.ErrSyntax and strconv.ErrRange hold interface values that are not nil. -/
def TabE (w : World) : Prop := (∃ te pe, w.cell? ⟨0, 0, none⟩ = some (.iface te pe)) ∧ ∃ te pe, w.cell? ⟨1, 0, none⟩ = some (.iface te pe)
theorem TabE.below {w w' : World} (h : TabE w) (hb : Below w.heap.size w w') : TabE w' := by
  obtain ⟨⟨a, b, h1⟩, c, d, h2⟩ := h
  exact ⟨⟨a, b, (hb.cell (World.block_lt_of_cell? _ _ h1)).trans h1⟩, c, d, (hb.cell (World.block_lt_of_cell? _ _ h2)).trans h2⟩
theorem TabE.of_heap {w w' : World} (e : w'.heap = w.heap) (h : TabE w) : TabE w' := by
  unfold TabE World.cell? at h ⊢
  rw [e]; exact h
def TabV (w : World) : Prop := TabP w ∧ TabE w
theorem TabV.below {w w' : World} (h : TabV w) (hb : Below w.heap.size w w') : TabV w' := ⟨h.1.below hb, h.2.below hb⟩
theorem TabV.up {B : Nat} {w w' : World} (h : TabV w) (hb : Below B w w') (hB : w.heap.size ≤ B) : TabV w' := h.below (hb.mono hB)
theorem TabV.of_heap {w w' : World} (e : w'.heap = w.heap) (h : TabV w) : TabV w' := ⟨h.1.of_heap e, h.2.of_heap e⟩
theorem row_err (u : TypeId) (h : Tryz.prog.typeName? 3 u = some "*errors.errorString") : u = 191 := by
  have star : "*" ++ "errors.errorString" = "*errors.errorString" := by decide
  exact typeName_ptr_named (nm := "errors.errorString") (by rw [star]; kernel_rfl) (by kernel_rfl) (by decide) u (by rw [star]; exact h)
theorem laid_err {w : World} {l : List (String × DataW Unit)} (name : String) {text : List UInt8} {g : Nat}
    (hg : Tryz.prog.globalNamed name = some g) (hty : (Tryz.prog.globals[g]?).map (·.type) = some 154)
    (hp : (l.all fun x => x.2.handleName?.isNone) = true) (hl : l.filter (fun x => x.1 == name) = [(name, .iface "*errors.errorString" (.ptr (.agg [.lit (.string text)])))]) (h : laidMetH Tryz.prog l w) : ∃ te pe, w.cell? ⟨g, 0, none⟩ = some (.iface te pe) := by
  rw [MakeChecks.laidMetH_plain _ _ _ hp] at h
  have h1 := laidMet.filter (fun x => x.1 == name) h
  rw [hl] at h1
  obtain ⟨a0, s0, hv0, -, -, -⟩ := laid_sentinel h1 hg hty Tryz.underlying154 row_err Tryz.underlying191 Tryz.underlying193 rfl rfl Tryz.underlying9 (by kernel_rfl) (by kernel_rfl)
  have h0 := World.var?_cell hg hv0 0
  exact ⟨_, _, by simpa using h0⟩
end Go.Proofs.YtdmbhmhfjappcaaGreatDoor
