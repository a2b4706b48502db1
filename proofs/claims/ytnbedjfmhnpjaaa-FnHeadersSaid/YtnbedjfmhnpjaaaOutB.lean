/-
  Outputs as a whole: reading one, owning one, and what the laws' conversion, size, comparison and marking return. Conditions: none.
-/
import Derived.Test.YtnbedjfmhnpjaaaOutA
namespace Go.Proofs.Ytnbedjfmhnpjaaa
open Go.ChangeShapes Go.WideShapes Go.ChangeAt Go.RowKit Go.Deep Go.Joins
open Go.ChangeMaps (open_string shut_string)
set_option linter.unusedVariables false
set_option maxRecDepth 100000

structure Out where
  sent : ByteArray
  heads : List FHeader
  bufs : List FBuffer
/-- The value v reads as the output o, below block B. -/
def OutR (w : World) (B : Nat) (v : Value) (o : Out) : Prop :=
  ∃ hv bv, v = .agg #[.string o.sent, hv, bv] ∧ Rd w B 2 hv o.heads.length (FHeader.flat o.heads) ∧ Rd w B 2 bv o.bufs.length (FBuffer.flat o.bufs)
/-- The value v is the output o, and its rows are its own, from block B on. -/
def OutO (w : World) (B : Nat) (v : Value) (o : Out) : Prop :=
  ∃ hv bv, v = .agg #[.string o.sent, hv, bv] ∧ w.ownsRow B 35 2 hv o.heads.length (FHeader.flat o.heads) ∧ w.ownsRow B 61 2 bv o.bufs.length (FBuffer.flat o.bufs)
/-- Not too many headers and buffers. -/
def Out.small (o : Out) : Prop := o.heads.length ≤ 1048576 ∧ o.bufs.length ≤ 1048576
section
variable {w w' : World} {B C : Nat} {v : Value} {o : Out}
theorem OutR.more (h : OutR w B v o) (hB : B ≤ C) : OutR w C v o := by
  obtain ⟨hv, bv, rfl, h1, h2⟩ := h
  exact ⟨hv, bv, rfl, h1.more hB, h2.more hB⟩
theorem OutR.below (h : OutR w B v o) (hb : Below C w w') (hC : B ≤ C) : OutR w' B v o := by
  obtain ⟨hv, bv, rfl, h1, h2⟩ := h
  exact ⟨hv, bv, rfl, h1.below hb hC, h2.below hb hC⟩
theorem OutR.keep (h : OutR w B v o) (hk : ∀ p : Addr, p.block < B → w'.cell? p = w.cell? p) : OutR w' B v o := by
  obtain ⟨hv, bv, rfl, h1, h2⟩ := h
  exact ⟨hv, bv, rfl, h1.keep hk, h2.keep hk⟩
theorem OutO.reads (h : OutO w B v o) : OutR w w.heap.size v o := by
  obtain ⟨hv, bv, rfl, h1, h2⟩ := h
  exact ⟨hv, bv, rfl, rd_of_own h1, rd_of_own h2⟩
theorem OutO.below (h : OutO w B v o) (hb : Below C w w') (hC : w.heap.size ≤ C) : OutO w' B v o := by
  obtain ⟨hv, bv, rfl, h1, h2⟩ := h
  exact ⟨hv, bv, rfl, own_below h1 hb hC, own_below h2 hb hC⟩
end
theorem OutO.form {w : World} {B : Nat} {v : Value} {o : Out} (h : OutO w B v o) : ∃ A1 c1 A2 c2, v = .agg #[.string o.sent, .slice A1 o.heads.length c1, .slice A2 o.bufs.length c2] := by
  obtain ⟨hv, bv, rfl, h1, h2⟩ := h
  obtain ⟨A1, c1, rfl⟩ := own_form h1
  obtain ⟨A2, c2, rfl⟩ := own_form h2
  exact ⟨A1, c1, A2, c2, rfl⟩
theorem below_chain {a b c : World} (h : Below a.heap.size a b) (k : Below b.heap.size b c) : Below a.heap.size a c := h.trans (k.mono h.size)

def Out.wt (o : Out) : Nat := o.sent.size + ((o.heads.length + FHeader.wts o.heads) + (o.bufs.length + FBuffer.wts o.bufs))
def Out.ok (o : Out) : Prop := o.sent.size ≤ 9223372036854775807 ∧ (∀ x ∈ o.heads, x.ok) ∧ ∀ x ∈ o.bufs, x.ok
/-! ### marking and finding the marks -/
theorem types_ne {w : World} {b1 b2 k1 k2 n1 n2 : Nat} {e1 e2 : TypeId} {v1 v2 : Value} {x1 x2 : List Value} (h1 : w.ownsRow b1 e1 k1 v1 n1 x1) (h2 : w.ownsRow b2 e2 k2 v2 n2 x2) (hne : e1 ≠ e2) : ∀ g, v1.ownBlock = some g → v2.ownBlock ≠ some g := by
  intro g hg hg2
  rcases h1.2 with ⟨rfl, _⟩ | ⟨g1, cap1, cur1, rfl, _, q1, _⟩
  · cases hg
  · rcases h2.2 with ⟨rfl, _⟩ | ⟨g2, cap2, cur2, rfl, _, q2, _⟩
    · cases hg2
    · have e1' : g1 = g := by simpa [Value.ownBlock] using hg
      have e2' : g2 = g := by simpa [Value.ownBlock] using hg2
      subst e1' e2'
      rw [q1] at q2
      injection q2 with q2
      injection q2 with _ q2
      exact hne q2
end Go.Proofs.Ytnbedjfmhnpjaaa
