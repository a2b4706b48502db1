/-
  What HasTarget returns. Conditions: none.
-/
import Derived.Test.YtiggmjiodbbceaaDoorDeep
import Derived.Test.YtiggmjiodbbceaaDoorDeep
namespace Go.Proofs.YtiggmjiodbbceaaDoor
open Go.ChangeShapes Go.WideShapes Go.ChangeAt Go.RowKit Go.Deep Go.Joins
open Go.ChangeMaps (open_string shut_string)
set_option linter.unusedVariables false
set_option linter.unusedSimpArgs false
set_option maxRecDepth 100000
def htF (op : Int) : Bool := op == 27 || op == 28 || op == 29 || op == 44 || op == 45 || op == 49 || op == 52
theorem ht_spec (op : Int) (w : World) : Calls Tryd.prog 31 #[.int .i64 op] w fun e w' => e = .returned (.bool (htF op)) ∧ w = w' := by
  go_enter Tryd.func31, Tryd.ntmps31
  go_wp2
  all_goals
    go_ret
    exact ⟨ret_bool (by simp_all [htF]), rfl⟩
theorem ht_impl (op : Int) (w : World) : Calls Tryd.prog 19 #[.int .i64 op] w fun e w' => e = .returned (.bool (htF op)) ∧ w = w' := by
  go_enter Tryd.func19, Tryd.ntmps19
  go_wp2
  all_goals
    go_ret
    exact ⟨ret_bool (by simp_all [htF]), rfl⟩
end Go.Proofs.YtiggmjiodbbceaaDoor
