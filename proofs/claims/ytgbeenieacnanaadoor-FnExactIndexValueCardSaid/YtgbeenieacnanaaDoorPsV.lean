/-
  The variables that the rows list, as facts on a world: the table of powers of ten; that strconv.ErrSyntax and strconv.ErrRange hold interface values. Conditions: none.
-/
import Derived.Test.YtgbeenieacnanaaDoorTab
import Derived.Stop.LaidErr
namespace Go.Proofs.YtgbeenieacnanaaDoor
open Go Go.ChangeShapes Go.WideShapes Go.ChangeAt Go.RowKit Go.Deep Go.Joins
set_option linter.unusedVariables false
set_option maxRecDepth 100000
/-- strconv.ErrSyntax and strconv.ErrRange hold interface values that are not nil. -/
def TabE (w : World) : Prop := (∃ te pe, w.cell? ⟨0, 0, none⟩ = some (.iface te pe)) ∧ ∃ te pe, w.cell? ⟨1, 0, none⟩ = some (.iface te pe)
theorem TabE.below {w w' : World} (h : TabE w) (hb : Below w.heap.size w w') : TabE w' := by
  obtain ⟨⟨a, b, h1⟩, c, d, h2⟩ := h
  exact ⟨⟨a, b, (hb.cell (World.block_lt_of_cell? _ _ h1)).trans h1⟩, c, d, (hb.cell (World.block_lt_of_cell? _ _ h2)).trans h2⟩
theorem TabE.of_heap {w w' : World} (e : w'.heap = w.heap) (h : TabE w) : TabE w' := by
  unfold TabE World.cell? at h ⊢
  rw [e]; exact h
def TabV (w : World) : Prop := TabP w ∧ TabE w
theorem TabV.below {w w' : World} (h : TabV w) (hb : Below w.heap.size w w') : TabV w' := ⟨h.1.below hb, h.2.below hb⟩
theorem TabV.up {B : Nat} {w w' : World} (h : TabV w) (hb : Below B w w') (hB : w.heap.size ≤ B) : TabV w' := h.below (hb.mono hB)
theorem TabV.of_heap {w w' : World} (e : w'.heap = w.heap) (h : TabV w) : TabV w' := ⟨h.1.of_heap e, h.2.of_heap e⟩
theorem row_err (u : TypeId) (h : Tryd.prog.typeName? 3 u = some "*errors.errorString") : u = 119 := by
  have star : "*" ++ "errors.errorString" = "*errors.errorString" := by decide
  exact typeName_ptr_named (nm := "errors.errorString") (by rw [star]; kernel_rfl) (by kernel_rfl) (by decide) u (by rw [star]; exact h)
theorem laid_err {w : World} {l : List (String × DataW Unit)} (name : String) {text : List UInt8} {g : Nat}
    (hg : Tryd.prog.globalNamed name = some g) (hty : (Tryd.prog.globals[g]?).map (·.type) = some 93)
    (hp : (l.all fun x => x.2.handleName?.isNone) = true) (hl : l.filter (fun x => x.1 == name) = [(name, .iface "*errors.errorString" (.ptr (.agg [.lit (.string text)])))]) (h : laidMetH Tryd.prog l w) : ∃ te pe, w.cell? ⟨g, 0, none⟩ = some (.iface te pe) := by
  rw [MakeChecks.laidMetH_plain _ _ _ hp] at h
  have h1 := laidMet.filter (fun x => x.1 == name) h
  rw [hl] at h1
  obtain ⟨a0, s0, hv0, -, -, -⟩ := laid_sentinel h1 hg hty Tryd.underlying93 row_err Tryd.underlying119 Tryd.underlying121 rfl rfl Tryd.underlying9 (by kernel_rfl) (by kernel_rfl)
  have h0 := World.var?_cell hg hv0 0
  exact ⟨_, _, by simpa using h0⟩
end Go.Proofs.YtgbeenieacnanaaDoor
