/-
  Parts of the proof: IsK8. Conditions: none.
-/
import Derived.Test.YtgejkfcemlkclaaQIsK5
import Derived.Test.YtgejkfcemlkclaaQIsK7
namespace Go.Proofs.Ytgejkfcemlkclaa
open Go.ChangeShapes Go.WideShapes Go.ChangeAt Go.RowKit Go.Deep Go.Joins
open Go.ChangeMaps (open_string shut_string)
set_option linter.unusedVariables false
set_option linter.unusedSimpArgs false
set_option maxRecDepth 100000
theorem top_impl (x : FNode) (hw : x.wt ≤ 1000000000) (us : List Value) (w : World) (B : Nat) (hmx : MaxAt w) (hB0 : B ≤ w.heap.size) (hr : RdVs w B x.c us) :
    Calls Try.prog 33 #[.agg us.toArray] w fun e w' => e = .returned (.bool (tpF x)) ∧ Below w.heap.size w w' := by
  obtain ⟨z0, z1, z2, z3⟩ := x
  unfold tpF
  simp only [FNode.kd, FNode.nu, FNode.tx, FNode.kids]
  by_cases h1 : z1 = 0
  · subst h1
    cases hgo : goodF z2 with
    | false => exact top_g z0 z2 z3 hw hgo us w B hmx hB0 hr
    | true =>
      by_cases n49 : z0 = 49
      · subst n49
        exact top_49 z2 z3 hw hgo us w B hmx hB0 hr
      by_cases n50 : z0 = 50
      · subst n50
        exact top_50 z2 z3 hw hgo us w B hmx hB0 hr
      by_cases n51 : z0 = 51
      · subst n51
        exact top_51 z2 z3 hw hgo us w B hmx hB0 hr
      simp only [n49, n50, n51, ↓reduceIte]
      exact top_o z0 z2 z3 hw hgo n49 n50 n51 us w B hmx hB0 hr
  · rw [beq_false_of_ne h1]
    exact top_n z0 z1 z2 z3 hw h1 us w B hmx hB0 hr
end Go.Proofs.Ytgejkfcemlkclaa
