/-
  What the laws about functions on outputs lean on: variables of three cells, outputs in an interval of blocks, marking again. Conditions: none.
-/
import Derived.Test.YtnbedjfmhnpjaaaOutC
import Derived.Test.YtnbedjfmhnpjaaaOutD
namespace Go.Proofs.Ytnbedjfmhnpjaaa
open Go.ChangeShapes Go.WideShapes Go.ChangeAt Go.RowKit Go.Deep Go.Joins
open Go.ChangeMaps (open_string shut_string)
set_option linter.unusedVariables false
set_option linter.unusedSimpArgs false
set_option maxRecDepth 100000

/-- A call in a world of which no more is known than C. -/
theorem calls_world {P : Program} {f : FuncId} {args : Array Value} {R : Ending → World → Prop} (W : World) (C : World → Prop) (hC : C W) (h : ∀ W', C W' → Calls P f args W' R) : Calls P f args W R := h W hC
/-- Block b is just these three cells. -/
def Bx (w : World) (b : Nat) (t : TypeId) (c0 c1 c2 : Value) : Prop := w.heap[b]? = some (.cells #[c0, c1, c2] t (0, 0))
section
variable {w w' : World} {b : Nat} {t : TypeId} {c0 c1 c2 : Value}
theorem Bx.cell0 (h : Bx w b t c0 c1 c2) : w.cell? ⟨b, 0, none⟩ = some c0 := by unfold Bx at h; simp [World.cell?, h]
theorem Bx.cell1 (h : Bx w b t c0 c1 c2) : w.cell? ⟨b, 1, none⟩ = some c1 := by unfold Bx at h; simp [World.cell?, h]
theorem Bx.cell2 (h : Bx w b t c0 c1 c2) : w.cell? ⟨b, 2, none⟩ = some c2 := by unfold Bx at h; simp [World.cell?, h]
theorem Bx.lt (h : Bx w b t c0 c1 c2) : b < w.heap.size := (Array.getElem?_eq_some_iff.1 h).1
theorem Bx.new (w : World) (t : TypeId) (c0 c1 c2 : Value) : Bx (w.alloc (.cells #[c0, c1, c2] t)) w.heap.size t c0 c1 c2 := heap_alloc_new w _
theorem Bx.alloc (h : Bx w b t c0 c1 c2) (o : Obj) : Bx (w.alloc o) b t c0 c1 c2 := (Below.heap_alloc w o b h.lt).trans h
theorem Bx.below {C : Nat} (h : Bx w b t c0 c1 c2) (hb : Below C w w') (hC : w.heap.size ≤ C) : Bx w' b t c0 c1 c2 := (hb.block b (by have := h.lt; omega)).trans h
theorem Bx.only {lo hi C : Nat} (h : Bx w b t c0 c1 c2) (hb : Only lo hi C w w') (hC : w.heap.size ≤ C) (hd : b < lo ∨ hi ≤ b) : Bx w' b t c0 c1 c2 := (hb.block b (by have := h.lt; omega) hd).trans h
end
/-- The value v is the output o; its rows lie in the blocks of [lo, hi). -/
def OutI (w : World) (lo hi : Nat) (v : Value) (o : Out) : Prop :=
  ∃ hv bv, v = .agg #[.string o.sent, hv, bv] ∧ w.ownsRow lo 35 2 hv o.heads.length (FHeader.flat o.heads) ∧ w.ownsRow lo 61 2 bv o.bufs.length (FBuffer.flat o.bufs) ∧
    (∀ g, hv.ownBlock = some g → g < hi) ∧ ∀ g, bv.ownBlock = some g → g < hi
section
variable {w w' : World} {lo hi C : Nat} {v : Value} {o : Out}
theorem OutO.inI (h : OutO w lo v o) : OutI w lo w.heap.size v o := by
  obtain ⟨hv, bv, rfl, h1, h2⟩ := h
  exact ⟨hv, bv, rfl, h1, h2, fun g hg => (h1.lt g hg).2, fun g hg => (h2.lt g hg).2⟩
theorem OutI.inO (h : OutI w lo hi v o) : OutO w lo v o := by
  obtain ⟨hv, bv, rfl, h1, h2, _⟩ := h
  exact ⟨hv, bv, rfl, h1, h2⟩
theorem OutI.reads (h : OutI w lo hi v o) : OutR w w.heap.size v o := h.inO.reads
theorem OutI.below (h : OutI w lo hi v o) (hb : Below C w w') (hC : w.heap.size ≤ C) : OutI w' lo hi v o := by
  obtain ⟨hv, bv, rfl, h1, h2, h3, h4⟩ := h
  exact ⟨hv, bv, rfl, own_below h1 hb hC, own_below h2 hb hC, h3, h4⟩
theorem OutI.alloc (h : OutI w lo hi v o) (x : Obj) : OutI (w.alloc x) lo hi v o := by
  obtain ⟨hv, bv, rfl, h1, h2, h3, h4⟩ := h
  exact ⟨hv, bv, rfl, h1.alloc x, h2.alloc x, h3, h4⟩
theorem OutI.only {l2 h2' : Nat} (h : OutI w lo hi v o) (hb : Only l2 h2' C w w') (hC : w.heap.size ≤ C) (hd : hi ≤ l2 ∨ h2' ≤ lo) : OutI w' lo hi v o := by
  obtain ⟨hv, bv, rfl, h1, h2, h3, h4⟩ := h
  refine ⟨hv, bv, rfl, own_keep h1 (fun g hg => hb.block g ?_ ?_), own_keep h2 (fun g hg => hb.block g ?_ ?_), h3, h4⟩
  · have := (h1.lt g hg).2; omega
  · have := (h1.lt g hg).1; have := h3 g hg; omega
  · have := (h2.lt g hg).2; omega
  · have := (h2.lt g hg).1; have := h4 g hg; omega
end
theorem OutI.form {w : World} {lo hi : Nat} {v : Value} {o : Out} (h : OutI w lo hi v o) : ∃ A1 c1 A2 c2, v = .agg #[.string o.sent, .slice A1 o.heads.length c1, .slice A2 o.bufs.length c2] := h.inO.form
end Go.Proofs.Ytnbedjfmhnpjaaa
