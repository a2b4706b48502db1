/-
  What TargetChange, IsFinal, InsNeed and InsChange return. Conditions: none.
-/
import Derived.Test.YtiggmjiodbbceaaDoorHtZ
namespace Go.Proofs.YtiggmjiodbbceaaDoor
open Go.ChangeShapes Go.WideShapes Go.ChangeAt Go.RowKit Go.Deep Go.Joins
open Go.ChangeMaps (open_string shut_string)
set_option linter.unusedVariables false

/-- An instruction as a value. -/
abbrev insV (op a b : Int) (s t : ByteArray) : Value := .agg #[.int .i64 op, .int .i64 a, .int .i64 b, .string s, .string t]

def needF (op b : Int) : Int :=
  if op = 6 ∨ op = 8 ∨ op = 10 ∨ op = 11 ∨ op = 13 ∨ op = 17 ∨ op = 28 ∨ op = 29 ∨ op = 30 ∨ op = 33 ∨ op = 34 ∨ op = 37 ∨ op = 42 ∨ op = 43 ∨ op = 50 ∨ op = 54 then 1
  else if op = 12 ∨ op = 16 ∨ op = 41 ∨ op = 51 ∨ op = 52 ∨ op = 53 then 2
  else if op = 15 then wrap64 (2 + b)
  else if op = 18 ∨ op = 19 then wrap64 (wrap64 (b.tdiv 2) + 1)
  else if op = 20 then wrap64 (wrap64 (b.tdiv 2) + 2)
  else if op = 21 ∨ op = 22 then b
  else if op = 23 then wrap64 (b + 1)
  else 0

set_option maxHeartbeats 2000000 in
theorem need_impl (op a b : Int) (s t : ByteArray) (w : World) : Calls Tryd.prog 17 #[insV op a b s t] w fun e w' => e = .returned (.int .i64 (needF op b)) ∧ Below w.heap.size w w' := by
  go_enter Tryd.func17, Tryd.ntmps17
  go_wp2
  all_goals
    go_ret
    refine ⟨ret_int ?_, (Below.refl _ _).alloc (Nat.le_refl _) _⟩
    simp_all [needF]

def changeF (op b : Int) : Int :=
  if op = 2 ∨ op = 3 ∨ op = 4 ∨ op = 5 ∨ op = 7 ∨ op = 9 ∨ op = 14 ∨ op = 24 ∨ op = 25 ∨ op = 40 ∨ op = 50 ∨ op = 56 then 1
  else if op = 10 ∨ op = 12 ∨ op = 16 ∨ op = 28 ∨ op = 29 ∨ op = 30 ∨ op = 33 ∨ op = 34 ∨ op = 37 ∨ op = 41 ∨ op = 42 ∨ op = 43 then -1
  else if op = 15 then wrap64 (-1 - b)
  else if op = 18 ∨ op = 19 then wrap64 (-(wrap64 (b.tdiv 2)))
  else if op = 20 then wrap64 (wrap64 (-(wrap64 (b.tdiv 2))) - 1)
  else if op = 21 ∨ op = 22 then wrap64 (-b)
  else if op = 23 then wrap64 (wrap64 (-b) - 1)
  else if op = 52 then wrap64 (1 + b)
  else if op = 53 then -2
  else 0
set_option maxHeartbeats 2000000 in
theorem change_impl (op a b : Int) (s t : ByteArray) (w : World) : Calls Tryd.prog 18 #[insV op a b s t] w fun e w' => e = .returned (.int .i64 (changeF op b)) ∧ Below w.heap.size w w' := by
  go_enter Tryd.func18, Tryd.ntmps18
  go_wp2
  all_goals
    go_ret
    refine ⟨ret_int ?_, (Below.refl _ _).alloc (Nat.le_refl _) _⟩
    simp_all [changeF]

/-- szIns: what is left of the budget, or -1. -/
def tcF (op : Int) : Int := if op = 28 then -1 else if op = 44 then 1 else 0
def ifF (op : Int) : Bool := op == 27 || op == 42 || op == 43 || op == 49
theorem tc_impl (op : Int) (w : World) : Calls Tryd.prog 20 #[.int .i64 op] w fun e w' => e = .returned (.int .i64 (tcF op)) ∧ w = w' := by
  go_enter Tryd.func20, Tryd.ntmps20
  go_wp2
  all_goals
    go_ret
    exact ⟨ret_int (by simp_all [tcF]), rfl⟩
theorem if_impl (op : Int) (w : World) : Calls Tryd.prog 21 #[.int .i64 op] w fun e w' => e = .returned (.bool (ifF op)) ∧ w = w' := by
  go_enter Tryd.func21, Tryd.ntmps21
  go_wp2
  all_goals
    go_ret
    exact ⟨ret_bool (by simp_all [ifF]), rfl⟩
end Go.Proofs.YtiggmjiodbbceaaDoor
