/-
  What the laws about functions on outputs lean on: variables of three cells, outputs in an interval of blocks, marking again. Conditions: none.
-/
import Derived.Test.YtikebdhpgmejpaaOutC
import Derived.Test.YtikebdhpgmejpaaOutD
namespace Go.Proofs.Ytikebdhpgmejpaa
open Go.ChangeShapes Go.WideShapes Go.ChangeAt Go.RowKit Go.Deep Go.Joins
open Go.ChangeMaps (open_string shut_string)
set_option linter.unusedVariables false
set_option linter.unusedSimpArgs false
set_option maxRecDepth 100000

/-- A call in a world of which no more is known than C. -/
theorem calls_world {P : Program} {f : FuncId} {args : Array Value} {R : Ending → World → Prop} (W : World) (C : World → Prop) (hC : C W) (h : ∀ W', C W' → Calls P f args W' R) : Calls P f args W R := h W hC
/-- Block b is just these three cells. -/
def Bx (w : World) (b : Nat) (t : TypeId) (c0 c1 c2 : Value) : Prop := w.heap[b]? = some (.cells #[c0, c1, c2] t (0, 0))
section
variable {w w' : World} {b : Nat} {t : TypeId} {c0 c1 c2 : Value}
theorem Bx.cell0 (h : Bx w b t c0 c1 c2) : w.cell? ⟨b, 0, none⟩ = some c0 := by unfold Bx at h; simp [World.cell?, h]
theorem Bx.cell1 (h : Bx w b t c0 c1 c2) : w.cell? ⟨b, 1, none⟩ = some c1 := by unfold Bx at h; simp [World.cell?, h]
theorem Bx.cell2 (h : Bx w b t c0 c1 c2) : w.cell? ⟨b, 2, none⟩ = some c2 := by unfold Bx at h; simp [World.cell?, h]
theorem Bx.lt (h : Bx w b t c0 c1 c2) : b < w.heap.size := (Array.getElem?_eq_some_iff.1 h).1
theorem Bx.new (w : World) (t : TypeId) (c0 c1 c2 : Value) : Bx (w.alloc (.cells #[c0, c1, c2] t)) w.heap.size t c0 c1 c2 := heap_alloc_new w _
theorem Bx.alloc (h : Bx w b t c0 c1 c2) (o : Obj) : Bx (w.alloc o) b t c0 c1 c2 := (Below.heap_alloc w o b h.lt).trans h
theorem Bx.below {C : Nat} (h : Bx w b t c0 c1 c2) (hb : Below C w w') (hC : w.heap.size ≤ C) : Bx w' b t c0 c1 c2 := (hb.block b (by have := h.lt; omega)).trans h
theorem Bx.only {lo hi C : Nat} (h : Bx w b t c0 c1 c2) (hb : Only lo hi C w w') (hC : w.heap.size ≤ C) (hd : b < lo ∨ hi ≤ b) : Bx w' b t c0 c1 c2 := (hb.block b (by have := h.lt; omega) hd).trans h
end
/-- The value v is the output o; its rows lie in the blocks of [lo, hi). -/
def OutI (w : World) (lo hi : Nat) (v : Value) (o : Out) : Prop :=
  ∃ hv bv, v = .agg #[.string o.sent, hv, bv] ∧ w.ownsRow lo 52 2 hv o.heads.length (FHeader.flat o.heads) ∧ w.ownsRow lo 62 2 bv o.bufs.length (FBuffer.flat o.bufs) ∧
    (∀ g, hv.ownBlock = some g → g < hi) ∧ ∀ g, bv.ownBlock = some g → g < hi
section
variable {w w' : World} {lo hi C : Nat} {v : Value} {o : Out}
theorem OutO.inI (h : OutO w lo v o) : OutI w lo w.heap.size v o := by
  obtain ⟨hv, bv, rfl, h1, h2⟩ := h
  exact ⟨hv, bv, rfl, h1, h2, fun g hg => (h1.lt g hg).2, fun g hg => (h2.lt g hg).2⟩
theorem OutI.inO (h : OutI w lo hi v o) : OutO w lo v o := by
  obtain ⟨hv, bv, rfl, h1, h2, _⟩ := h
  exact ⟨hv, bv, rfl, h1, h2⟩
theorem OutI.reads (h : OutI w lo hi v o) : OutR w w.heap.size v o := h.inO.reads
theorem OutI.below (h : OutI w lo hi v o) (hb : Below C w w') (hC : w.heap.size ≤ C) : OutI w' lo hi v o := by
  obtain ⟨hv, bv, rfl, h1, h2, h3, h4⟩ := h
  exact ⟨hv, bv, rfl, own_below h1 hb hC, own_below h2 hb hC, h3, h4⟩
theorem OutI.alloc (h : OutI w lo hi v o) (x : Obj) : OutI (w.alloc x) lo hi v o := by
  obtain ⟨hv, bv, rfl, h1, h2, h3, h4⟩ := h
  exact ⟨hv, bv, rfl, h1.alloc x, h2.alloc x, h3, h4⟩
theorem OutI.only {l2 h2' : Nat} (h : OutI w lo hi v o) (hb : Only l2 h2' C w w') (hC : w.heap.size ≤ C) (hd : hi ≤ l2 ∨ h2' ≤ lo) : OutI w' lo hi v o := by
  obtain ⟨hv, bv, rfl, h1, h2, h3, h4⟩ := h
  refine ⟨hv, bv, rfl, own_keep h1 (fun g hg => hb.block g ?_ ?_), own_keep h2 (fun g hg => hb.block g ?_ ?_), h3, h4⟩
  · have := (h1.lt g hg).2; omega
  · have := (h1.lt g hg).1; have := h3 g hg; omega
  · have := (h2.lt g hg).2; omega
  · have := (h2.lt g hg).1; have := h4 g hg; omega
end
theorem markI (o : Out) (v : Value) (lo hi : Nat) (k0 : Int) (w : World) (hs : o.small) (h1 : 1 ≤ k0) (h2 : k0 ≤ 100000000) (hown : OutI w lo hi v o) :
    Calls Try.prog 22 #[v, .int .i64 k0] w fun e w' => e = .returned (.int .i64 (o.next k0)) ∧ OutI w' lo hi v (o.marked k0) ∧ Only lo hi w.heap.size w w' := by
  obtain ⟨hv, bv, rfl, o1, o2, i1, i2⟩ := hown
  unfold Out.small at hs
  have l1 : o.heads.length ≤ 1048576 := hs.1
  have l2 : o.bufs.length ≤ 1048576 := hs.2
  have hne := types_ne o1 o2 (by decide)
  have lt1 := own_lt o1
  have lt2 := own_lt o2
  obtain ⟨A1, c1, rfl⟩ := own_form o1
  obtain ⟨A2, c2, rfl⟩ := own_form o2
  have O1 := Lib.hid o1
  have O2 := Lib.hid o2
  have NE := Lib.hid hne
  have L1 := Lib.hid lt1
  have L2 := Lib.hid lt2
  have I1 := Lib.hid i1
  have I2 := Lib.hid i2
  clear o1 o2 hs hne lt1 lt2 i1 i2
  go_enter Try.func22, Try.ntmps22
  go_wp2_with fail
  have P1 := Lib.hid (O1.out.alloc (.cells #[.string o.sent, .slice A1 o.heads.length c1, .slice A2 o.bufs.length c2] 32))
  have P2 := Lib.hid (O2.out.alloc (.cells #[.string o.sent, .slice A1 o.heads.length c1, .slice A2 o.bufs.length c2] 32))
  refine (markHeaderS_any o.heads.length _ _ lo k0 _ h1 (by omega) P1.out).mono ?_
  rintro e w1 ⟨rfl, own1, hg1⟩
  have hx1 : w1.heap[w.heap.size]? = (w.alloc (.cells #[.string o.sent, .slice A1 o.heads.length c1, .slice A2 o.bufs.length c2] 32)).heap[w.heap.size]? := hg1.block _ (by simp) (fun e => by have := (L1.out _ e.symm).2; omega)
  have x2 : w1.cell? ⟨w.heap.size, 2, none⟩ = some (.slice A2 o.bufs.length c2) := (World.cell?_of_block (a := ⟨w.heap.size, 2, none⟩) hx1).trans (World.cell?_alloc_new _ _ _ _)
  have Q1 := Lib.hid own1
  have G1 := Lib.hid hg1
  have Q2 := Lib.hid (own_keep P2.out (w' := w1) (fun g hg => hg1.block g (by have := (P2.out.lt g hg).2; exact this) (fun e => NE.out g e.symm hg)))
  have hz1 := hg1.size
  simp at hz1
  clear own1 hg1 hx1
  go_wp2_with fail
  refine (markBufferS_any o.bufs.length _ _ lo _ _ (by omega) (by omega) Q2.out).mono ?_
  rintro e w2 ⟨rfl, own2, hg2⟩
  have R2 := Lib.hid own2
  have G2 := Lib.hid hg2
  have R1 := Lib.hid (own_keep Q1.out (w' := w2) (fun g hg => hg2.block g (by have := (Q1.out.lt g hg).2; exact this) (fun e => NE.out g hg e.symm)))
  clear own2 hg2
  go_wp2_with fail
  go_ret
  refine ⟨rfl, ⟨_, _, rfl, ?_, ?_, I1.out, I2.out⟩, ?_⟩
  · show w2.ownsRow lo _ 2 _ (FHeader.marks o.heads.length k0).length _
    rw [FHeader.marks_len]; exact R1.out
  · show w2.ownsRow lo _ 2 _ (FBuffer.marks o.bufs.length _).length _
    rw [FBuffer.marks_len]; exact R2.out
  · refine ⟨G2.out.os.trans G1.out.os, G2.out.tape.trans G1.out.tape, G2.out.output.trans G1.out.output, by have := G2.out.size; omega, fun k hk hk' => ?_⟩
    have hk1 : k < w1.heap.size := by omega
    have a1 := G2.out.block k hk1 (fun e => by have := (L2.out k e.symm).1; have := I2.out k e.symm; omega)
    have a2 := G1.out.block k (by simp; omega) (fun e => by have := (L1.out k e.symm).1; have := I1.out k e.symm; omega)
    rw [a1, a2]
    exact Below.heap_alloc _ _ _ hk
theorem OutI.form {w : World} {lo hi : Nat} {v : Value} {o : Out} (h : OutI w lo hi v o) : ∃ A1 c1 A2 c2, v = .agg #[.string o.sent, .slice A1 o.heads.length c1, .slice A2 o.bufs.length c2] := h.inO.form
end Go.Proofs.Ytikebdhpgmejpaa
