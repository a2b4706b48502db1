/-
  File: the conversions of the laws hand back a copy in memory of its own. Conditions: none.
-/
import Derived.Test.YtnkidlahmplgnaaDoorDataF
namespace Go.Proofs.YtnkidlahmplgnaaDoor
open Go.ChangeShapes Go.WideShapes Go.ChangeAt Go.RowKit Go.Deep Go.Joins
open Go.ChangeMaps (open_string shut_string)
set_option linter.unusedVariables false
set_option linter.unusedSimpArgs false
set_option maxRecDepth 100000

/-- What make lays, as a list of values. -/
def madeL (z : Array Value) (n : Nat) : List Value := (madeCells z n).toList
theorem own_madeL (w : World) (z : Array Value) (n k : Nat) (t : TypeId) (hz : z.size = k) (hk : 0 < k) (hn : n ≤ maxLen) : (w.alloc (.cells (madeCells z (n * k)) t)).ownsRow w.heap.size t k (.slice (some ⟨w.heap.size, 0, none⟩) n n) n ([] ++ madeL z (n * k)) := by
  rw [List.nil_append]
  have hsz : (madeCells z (n * k)).size = n * k := by simp [madeCells]
  refine ⟨by simp [madeL, hsz], .inr ⟨w.heap.size, n, madeCells z (n * k), rfl, Nat.le_refl _, heap_alloc_new w _, Nat.le_refl _, hn, hsz, ?_⟩⟩
  unfold madeL
  rw [List.take_of_length_le (by simp [hsz])]
theorem own_rowf {w : World} {base k n c g : Nat} {e : TypeId} {xs : List Value} (h : w.ownsRow base e k (.slice (some ⟨g, 0, none⟩) n c) n xs) : ∃ (g1 : Nat) (f : Nat → Value), w.rowIs g e (c * k) f := by
  rcases own_row h with ⟨hv, _⟩ | ⟨g1, cap, f, hv, _, _, _, hrow, _⟩
  · cases hv
  · simp only [Value.slice.injEq, Option.some.injEq, Addr.mk.injEq, true_and, and_true] at hv
    obtain ⟨rfl, rfl⟩ := hv
    exact ⟨g, f, hrow⟩
end Go.Proofs.YtnkidlahmplgnaaDoor
