/-
  What HasTarget returns. Conditions: none.
-/
import Derived.Test.YthkmfdjkldipjaaDataQ
import Derived.Test.YthkmfdjkldipjaaDeep
namespace Go.Proofs.Ythkmfdjkldipjaa
open Go.ChangeShapes Go.WideShapes Go.ChangeAt Go.RowKit Go.Deep Go.Joins
open Go.ChangeMaps (open_string shut_string)
set_option linter.unusedVariables false
set_option linter.unusedSimpArgs false
set_option maxRecDepth 100000
def htF (op : Int) : Bool := op == 27 || op == 28 || op == 29 || op == 44 || op == 45 || op == 49 || op == 52
theorem ht_spec (op : Int) (w : World) : Calls Try.prog 40 #[.int .i64 op] w fun e w' => e = .returned (.bool (htF op)) ∧ w = w' := by
  go_enter Try.func40, Try.ntmps40
  go_wp2
  all_goals
    go_ret
    exact ⟨ret_bool (by simp_all [htF]), rfl⟩
theorem ht_impl (op : Int) (w : World) : Calls Try.prog 47 #[.int .i64 op] w fun e w' => e = .returned (.bool (htF op)) ∧ w = w' := by
  go_enter Try.func47, Try.ntmps47
  go_wp2
  all_goals
    go_ret
    exact ⟨ret_bool (by simp_all [htF]), rfl⟩
end Go.Proofs.Ythkmfdjkldipjaa
