/-
  Parts of the proof: HtZ, HtB. Conditions: none.
-/
import Derived.Test.YtdmbhmhfjappcaaGreatDoorQDeep
namespace Go.Proofs.YtdmbhmhfjappcaaGreatDoor
open Go.ChangeShapes Go.WideShapes Go.ChangeAt Go.RowKit Go.Deep Go.Joins
open Go.ChangeMaps (open_string shut_string)
set_option linter.unusedVariables false
set_option linter.unusedSimpArgs false
set_option maxRecDepth 100000
def htF (op : Int) : Bool := op == 27 || op == 28 || op == 29 || op == 44 || op == 45 || op == 49 || op == 52
theorem ht_spec (op : Int) (w : World) : Calls Tryz.prog 57 #[.int .i64 op] w fun e w' => e = .returned (.bool (htF op)) ∧ w = w' := by
  go_enter Tryz.func57, Tryz.ntmps57
  go_wp2
  all_goals
    go_ret
    exact ⟨ret_bool (by simp_all [htF]), rfl⟩
theorem ht_impl (op : Int) (w : World) : Calls Tryz.prog 72 #[.int .i64 op] w fun e w' => e = .returned (.bool (htF op)) ∧ w = w' := by
  go_enter Tryz.func72, Tryz.ntmps72
  go_wp2
  all_goals
    go_ret
    exact ⟨ret_bool (by simp_all [htF]), rfl⟩
end Go.Proofs.YtdmbhmhfjappcaaGreatDoor
namespace Go.Proofs.YtdmbhmhfjappcaaGreatDoor
open Go.ChangeShapes Go.WideShapes Go.ChangeAt Go.RowKit Go.Deep Go.Joins
open Go.ChangeMaps (open_string shut_string)
set_option linter.unusedVariables false

/-- An instruction as a value. -/
abbrev insV (op a b : Int) (s t : ByteArray) : Value := .agg #[.int .i64 op, .int .i64 a, .int .i64 b, .string s, .string t]

def needF (op b : Int) : Int :=
  if op = 6 ∨ op = 8 ∨ op = 10 ∨ op = 11 ∨ op = 13 ∨ op = 17 ∨ op = 28 ∨ op = 29 ∨ op = 30 ∨ op = 33 ∨ op = 34 ∨ op = 37 ∨ op = 42 ∨ op = 43 ∨ op = 50 ∨ op = 54 then 1
  else if op = 12 ∨ op = 16 ∨ op = 41 ∨ op = 51 ∨ op = 52 ∨ op = 53 then 2
  else if op = 15 then wrap64 (2 + b)
  else if op = 18 ∨ op = 19 then wrap64 (wrap64 (b.tdiv 2) + 1)
  else if op = 20 then wrap64 (wrap64 (b.tdiv 2) + 2)
  else if op = 21 ∨ op = 22 then b
  else if op = 23 then wrap64 (b + 1)
  else 0

set_option maxHeartbeats 2000000 in
theorem need_spec (op a b : Int) (s t : ByteArray) (w : World) : Calls Tryz.prog 53 #[insV op a b s t] w fun e w' => e = .returned (.int .i64 (needF op b)) ∧ Below w.heap.size w w' := by
  go_enter Tryz.func53, Tryz.ntmps53
  go_wp2
  all_goals
    go_ret
    refine ⟨ret_int ?_, (Below.refl _ _).alloc (Nat.le_refl _) _⟩
    simp_all [needF]
set_option maxHeartbeats 2000000 in
theorem need_impl (op a b : Int) (s t : ByteArray) (w : World) : Calls Tryz.prog 69 #[insV op a b s t] w fun e w' => e = .returned (.int .i64 (needF op b)) ∧ Below w.heap.size w w' := by
  go_enter Tryz.func69, Tryz.ntmps69
  go_wp2
  all_goals
    go_ret
    refine ⟨ret_int ?_, (Below.refl _ _).alloc (Nat.le_refl _) _⟩
    simp_all [needF]

def changeF (op b : Int) : Int :=
  if op = 2 ∨ op = 3 ∨ op = 4 ∨ op = 5 ∨ op = 7 ∨ op = 9 ∨ op = 14 ∨ op = 24 ∨ op = 25 ∨ op = 40 ∨ op = 50 ∨ op = 56 then 1
  else if op = 10 ∨ op = 12 ∨ op = 16 ∨ op = 28 ∨ op = 29 ∨ op = 30 ∨ op = 33 ∨ op = 34 ∨ op = 37 ∨ op = 41 ∨ op = 42 ∨ op = 43 then -1
  else if op = 15 then wrap64 (-1 - b)
  else if op = 18 ∨ op = 19 then wrap64 (-(wrap64 (b.tdiv 2)))
  else if op = 20 then wrap64 (wrap64 (-(wrap64 (b.tdiv 2))) - 1)
  else if op = 21 ∨ op = 22 then wrap64 (-b)
  else if op = 23 then wrap64 (wrap64 (-b) - 1)
  else if op = 52 then wrap64 (1 + b)
  else if op = 53 then -2
  else 0
set_option maxHeartbeats 2000000 in
theorem change_spec (op a b : Int) (s t : ByteArray) (w : World) : Calls Tryz.prog 56 #[insV op a b s t] w fun e w' => e = .returned (.int .i64 (changeF op b)) ∧ Below w.heap.size w w' := by
  go_enter Tryz.func56, Tryz.ntmps56
  go_wp2
  all_goals
    go_ret
    refine ⟨ret_int ?_, (Below.refl _ _).alloc (Nat.le_refl _) _⟩
    simp_all [changeF]
set_option maxHeartbeats 2000000 in
theorem change_impl (op a b : Int) (s t : ByteArray) (w : World) : Calls Tryz.prog 71 #[insV op a b s t] w fun e w' => e = .returned (.int .i64 (changeF op b)) ∧ Below w.heap.size w w' := by
  go_enter Tryz.func71, Tryz.ntmps71
  go_wp2
  all_goals
    go_ret
    refine ⟨ret_int ?_, (Below.refl _ _).alloc (Nat.le_refl _) _⟩
    simp_all [changeF]

/-- szIns: what is left of the budget, or -1. -/
def tcF (op : Int) : Int := if op = 28 then -1 else if op = 44 then 1 else 0
def ifF (op : Int) : Bool := op == 27 || op == 42 || op == 43 || op == 49
theorem tc_spec (op : Int) (w : World) : Calls Tryz.prog 58 #[.int .i64 op] w fun e w' => e = .returned (.int .i64 (tcF op)) ∧ w = w' := by
  go_enter Tryz.func58, Tryz.ntmps58
  go_wp2
  all_goals
    go_ret
    exact ⟨ret_int (by simp_all [tcF]), rfl⟩
theorem tc_impl (op : Int) (w : World) : Calls Tryz.prog 73 #[.int .i64 op] w fun e w' => e = .returned (.int .i64 (tcF op)) ∧ w = w' := by
  go_enter Tryz.func73, Tryz.ntmps73
  go_wp2
  all_goals
    go_ret
    exact ⟨ret_int (by simp_all [tcF]), rfl⟩
theorem if_spec (op : Int) (w : World) : Calls Tryz.prog 54 #[.int .i64 op] w fun e w' => e = .returned (.bool (ifF op)) ∧ w = w' := by
  go_enter Tryz.func54, Tryz.ntmps54
  go_wp2
  all_goals
    go_ret
    exact ⟨ret_bool (by simp_all [ifF]), rfl⟩
theorem if_impl (op : Int) (w : World) : Calls Tryz.prog 70 #[.int .i64 op] w fun e w' => e = .returned (.bool (ifF op)) ∧ w = w' := by
  go_enter Tryz.func70, Tryz.ntmps70
  go_wp2
  all_goals
    go_ret
    exact ⟨ret_bool (by simp_all [ifF]), rfl⟩
end Go.Proofs.YtdmbhmhfjappcaaGreatDoor
