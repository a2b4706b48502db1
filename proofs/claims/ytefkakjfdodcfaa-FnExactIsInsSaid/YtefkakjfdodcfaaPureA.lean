/-
  The functions MaySee, IsFinal, HasTarget, TargetChange of both packages return what one Lean function says, for all arguments; and the four laws about them return true. Conditions: none.
-/
import Derived.Test.YtefkakjfdodcfaaBase
namespace Go.Proofs.Ytefkakjfdodcfaa
open Go.ChangeShapes Go.WideShapes Go.ChangeAt Go.RowKit Go.Deep Go.Joins
open Go.ChangeMaps (open_string shut_string)
set_option linter.unusedVariables false

def htF (op : Int) : Bool := op == 27 || op == 28 || op == 29 || op == 44 || op == 45 || op == 49 || op == 52
def tcF (op : Int) : Int := if op = 28 then -1 else if op = 44 then 1 else 0
def ifF (op : Int) : Bool := op == 27 || op == 42 || op == 43 || op == 49

theorem ht_spec (op : Int) (w : World) : Calls Try.prog 15 #[.int .i64 op] w fun e w' => e = .returned (.bool (htF op)) ∧ w = w' := by
  go_enter Try.func15, Try.ntmps15
  go_wp2
  all_goals
    go_ret
    exact ⟨ret_bool (by simp_all [htF]), rfl⟩
theorem ht_impl (op : Int) (w : World) : Calls Try.prog 16 #[.int .i64 op] w fun e w' => e = .returned (.bool (htF op)) ∧ w = w' := by
  go_enter Try.func16, Try.ntmps16
  go_wp2
  all_goals
    go_ret
    exact ⟨ret_bool (by simp_all [htF]), rfl⟩
theorem tc_spec (op : Int) (w : World) : Calls Try.prog 17 #[.int .i64 op] w fun e w' => e = .returned (.int .i64 (tcF op)) ∧ w = w' := by
  go_enter Try.func17, Try.ntmps17
  go_wp2
  all_goals
    go_ret
    exact ⟨ret_int (by simp_all [tcF]), rfl⟩
theorem tc_impl (op : Int) (w : World) : Calls Try.prog 18 #[.int .i64 op] w fun e w' => e = .returned (.int .i64 (tcF op)) ∧ w = w' := by
  go_enter Try.func18, Try.ntmps18
  go_wp2
  all_goals
    go_ret
    exact ⟨ret_int (by simp_all [tcF]), rfl⟩
theorem if_spec (op : Int) (w : World) : Calls Try.prog 13 #[.int .i64 op] w fun e w' => e = .returned (.bool (ifF op)) ∧ w = w' := by
  go_enter Try.func13, Try.ntmps13
  go_wp2
  all_goals
    go_ret
    exact ⟨ret_bool (by simp_all [ifF]), rfl⟩
theorem if_impl (op : Int) (w : World) : Calls Try.prog 14 #[.int .i64 op] w fun e w' => e = .returned (.bool (ifF op)) ∧ w = w' := by
  go_enter Try.func14, Try.ntmps14
  go_wp2
  all_goals
    go_ret
    exact ⟨ret_bool (by simp_all [ifF]), rfl⟩
def seeF (p : Bool) (a b : ByteArray) : Bool := !p || a.toList == b.toList
theorem see_spec (p : Bool) (a b : ByteArray) (w : World) : Calls Try.prog 11 #[.bool p, .string a, .string b] w fun e w' => e = .returned (.bool (seeF p a b)) ∧ w = w' := by
  cases p
  all_goals
    go_enter Try.func11, Try.ntmps11
    go_wp2
    go_ret
    exact ⟨ret_bool (by simp [seeF]), rfl⟩
theorem see_impl (p : Bool) (a b : ByteArray) (w : World) : Calls Try.prog 12 #[.bool p, .string a, .string b] w fun e w' => e = .returned (.bool (seeF p a b)) ∧ w = w' := by
  cases p
  all_goals
    go_enter Try.func12, Try.ntmps12
    go_wp2
    go_ret
    exact ⟨ret_bool (by simp [seeF]), rfl⟩
section
variable {H : Type} {enc : TypeId × Value → H}
theorem fnExactHasTarget_walk (W : World) (base : Nat) (v0 : Value) {d0 : DataW H} {p0 : List MemPlace} (k0 : Value.okWide Try.prog W .any base 3 v0) (h0 : DataW.Trod enc Try.prog W 0 (fun _ => true) true 3 v0 d0 p0) :
    Calls Try.prog 5 #[v0] W fun e w' => e = .returned (.bool true) ∧ Below W.heap.size W w' := by
  obtain ⟨op, rfl, rfl, rfl, wx⟩ := open_int Try.underlying3 k0 h0
  go_enter Try.func5, Try.ntmps5
  go_wp2_with (first | (go_at_call 15; refine (ht_spec _ _).mono ?_; rintro e w' ⟨rfl, rfl⟩) | (go_at_call 16; refine (ht_impl _ _).mono ?_; rintro e w' ⟨rfl, rfl⟩))
  go_ret
  exact ⟨rfl, Below.refl _ _⟩
theorem fnExactTargetChange_walk (W : World) (base : Nat) (v0 : Value) {d0 : DataW H} {p0 : List MemPlace} (k0 : Value.okWide Try.prog W .any base 3 v0) (h0 : DataW.Trod enc Try.prog W 0 (fun _ => true) true 3 v0 d0 p0) :
    Calls Try.prog 6 #[v0] W fun e w' => e = .returned (.bool true) ∧ Below W.heap.size W w' := by
  obtain ⟨op, rfl, rfl, rfl, wx⟩ := open_int Try.underlying3 k0 h0
  go_enter Try.func6, Try.ntmps6
  go_wp2_with (first | (go_at_call 17; refine (tc_spec _ _).mono ?_; rintro e w' ⟨rfl, rfl⟩) | (go_at_call 18; refine (tc_impl _ _).mono ?_; rintro e w' ⟨rfl, rfl⟩))
  go_ret
  exact ⟨rfl, Below.refl _ _⟩
theorem fnExactIsFinal_walk (W : World) (base : Nat) (v0 : Value) {d0 : DataW H} {p0 : List MemPlace} (k0 : Value.okWide Try.prog W .any base 3 v0) (h0 : DataW.Trod enc Try.prog W 0 (fun _ => true) true 3 v0 d0 p0) :
    Calls Try.prog 4 #[v0] W fun e w' => e = .returned (.bool true) ∧ Below W.heap.size W w' := by
  obtain ⟨op, rfl, rfl, rfl, wx⟩ := open_int Try.underlying3 k0 h0
  go_enter Try.func4, Try.ntmps4
  go_wp2_with (first | (go_at_call 13; refine (if_spec _ _).mono ?_; rintro e w' ⟨rfl, rfl⟩) | (go_at_call 14; refine (if_impl _ _).mono ?_; rintro e w' ⟨rfl, rfl⟩))
  go_ret
  exact ⟨rfl, Below.refl _ _⟩
theorem fnExactMaySee_walk (W : World) (base : Nat) (v0 v1 v2 : Value) {d0 d1 d2 : DataW H} {p0 p1 p2 : List MemPlace} (k0 : Value.okWide Try.prog W .any base 4 v0) (k1 : Value.okWide Try.prog W .any base 9 v1) (k2 : Value.okWide Try.prog W .any base 9 v2)
    (h0 : DataW.Trod enc Try.prog W 0 (fun _ => true) true 4 v0 d0 p0) (h1 : DataW.Trod enc Try.prog W 0 (fun _ => true) true 9 v1 d1 p1) (h2 : DataW.Trod enc Try.prog W 0 (fun _ => true) true 9 v2 d2 p2) :
    Calls Try.prog 3 #[v0, v1, v2] W fun e w' => e = .returned (.bool true) ∧ Below W.heap.size W w' := by
  obtain ⟨p, rfl, rfl, rfl⟩ := open_bool Try.underlying4 k0 h0
  obtain ⟨a, rfl, rfl, rfl, ha⟩ := open_string Try.underlying9 k1 h1
  obtain ⟨b, rfl, rfl, rfl, hb⟩ := open_string Try.underlying9 k2 h2
  unfold maxLen at ha hb
  go_enter Try.func3, Try.ntmps3
  go_wp2_with (first | (go_at_call 11; refine (see_spec _ _ _ _).mono ?_; rintro e w' ⟨rfl, rfl⟩) | (go_at_call 12; refine (see_impl _ _ _ _).mono ?_; rintro e w' ⟨rfl, rfl⟩))
  all_goals
    go_ret
    exact ⟨rfl, Below.refl _ _⟩
end
end Go.Proofs.Ytefkakjfdodcfaa
