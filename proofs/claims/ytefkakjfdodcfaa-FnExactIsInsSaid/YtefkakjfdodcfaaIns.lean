/-
  szIns and toIns of the laws, InsNeed and InsChange of both packages: what each returns, for all arguments. Conditions: none.
-/
import Derived.Test.YtefkakjfdodcfaaBase
namespace Go.Proofs.Ytefkakjfdodcfaa
open Go.ChangeShapes Go.WideShapes Go.ChangeAt Go.RowKit Go.Deep Go.Joins
open Go.ChangeMaps (open_string shut_string)
set_option linter.unusedVariables false

/-- An instruction as a value. -/
abbrev insV (op a b : Int) (s t : ByteArray) : Value := .agg #[.int .i64 op, .int .i64 a, .int .i64 b, .string s, .string t]

def needF (op b : Int) : Int :=
  if op = 6 ∨ op = 8 ∨ op = 10 ∨ op = 11 ∨ op = 13 ∨ op = 17 ∨ op = 28 ∨ op = 29 ∨ op = 30 ∨ op = 33 ∨ op = 34 ∨ op = 37 ∨ op = 42 ∨ op = 43 ∨ op = 50 ∨ op = 54 then 1
  else if op = 12 ∨ op = 16 ∨ op = 41 ∨ op = 51 ∨ op = 52 ∨ op = 53 then 2
  else if op = 15 then wrap64 (2 + b)
  else if op = 18 ∨ op = 19 then wrap64 (wrap64 (b.tdiv 2) + 1)
  else if op = 20 then wrap64 (wrap64 (b.tdiv 2) + 2)
  else if op = 21 ∨ op = 22 then b
  else if op = 23 then wrap64 (b + 1)
  else 0

set_option maxHeartbeats 2000000 in
theorem need_spec (op a b : Int) (s t : ByteArray) (w : World) : Calls Try.prog 22 #[insV op a b s t] w fun e w' => e = .returned (.int .i64 (needF op b)) ∧ Below w.heap.size w w' := by
  go_enter Try.func22, Try.ntmps22
  go_wp2
  all_goals
    go_ret
    refine ⟨ret_int ?_, (Below.refl _ _).alloc (Nat.le_refl _) _⟩
    simp_all [needF]
set_option maxHeartbeats 2000000 in
theorem need_impl (op a b : Int) (s t : ByteArray) (w : World) : Calls Try.prog 24 #[insV op a b s t] w fun e w' => e = .returned (.int .i64 (needF op b)) ∧ Below w.heap.size w w' := by
  go_enter Try.func24, Try.ntmps24
  go_wp2
  all_goals
    go_ret
    refine ⟨ret_int ?_, (Below.refl _ _).alloc (Nat.le_refl _) _⟩
    simp_all [needF]

def changeF (op b : Int) : Int :=
  if op = 2 ∨ op = 3 ∨ op = 4 ∨ op = 5 ∨ op = 7 ∨ op = 9 ∨ op = 14 ∨ op = 24 ∨ op = 25 ∨ op = 40 ∨ op = 50 ∨ op = 56 then 1
  else if op = 10 ∨ op = 12 ∨ op = 16 ∨ op = 28 ∨ op = 29 ∨ op = 30 ∨ op = 33 ∨ op = 34 ∨ op = 37 ∨ op = 41 ∨ op = 42 ∨ op = 43 then -1
  else if op = 15 then wrap64 (-1 - b)
  else if op = 18 ∨ op = 19 then wrap64 (-(wrap64 (b.tdiv 2)))
  else if op = 20 then wrap64 (wrap64 (-(wrap64 (b.tdiv 2))) - 1)
  else if op = 21 ∨ op = 22 then wrap64 (-b)
  else if op = 23 then wrap64 (wrap64 (-b) - 1)
  else if op = 52 then wrap64 (1 + b)
  else if op = 53 then -2
  else 0
set_option maxHeartbeats 2000000 in
theorem change_spec (op a b : Int) (s t : ByteArray) (w : World) : Calls Try.prog 25 #[insV op a b s t] w fun e w' => e = .returned (.int .i64 (changeF op b)) ∧ Below w.heap.size w w' := by
  go_enter Try.func25, Try.ntmps25
  go_wp2
  all_goals
    go_ret
    refine ⟨ret_int ?_, (Below.refl _ _).alloc (Nat.le_refl _) _⟩
    simp_all [changeF]
set_option maxHeartbeats 2000000 in
theorem change_impl (op a b : Int) (s t : ByteArray) (w : World) : Calls Try.prog 26 #[insV op a b s t] w fun e w' => e = .returned (.int .i64 (changeF op b)) ∧ Below w.heap.size w w' := by
  go_enter Try.func26, Try.ntmps26
  go_wp2
  all_goals
    go_ret
    refine ⟨ret_int ?_, (Below.refl _ _).alloc (Nat.le_refl _) _⟩
    simp_all [changeF]

/-- szIns: what is left of the budget, or -1. -/
def szInsF (s t : ByteArray) (left : Int) : Int := if left - s.size < 0 then -1 else if left - s.size - t.size < 0 then -1 else left - s.size - t.size
theorem szIns_any (op a b left : Int) (s t : ByteArray) (w : World) (hs : s.size ≤ 9223372036854775807) (ht : t.size ≤ 9223372036854775807) (h0 : 0 ≤ left) (h1 : left ≤ 1048576) :
    Calls Try.prog 21 #[insV op a b s t, .int .i64 left] w fun e w' => e = .returned (.int .i64 (szInsF s t left)) ∧ Below w.heap.size w w' := by
  by_cases c1 : left - s.size < 0
  · go_enter Try.func21, Try.ntmps21
    go_wp2
    go_ret
    exact ⟨ret_int (by unfold szInsF; rw [if_pos (by omega)]), (Below.refl _ _).alloc (Nat.le_refl _) _⟩
  · by_cases c2 : left - s.size - t.size < 0
    · go_enter Try.func21, Try.ntmps21
      go_wp2
      go_ret
      exact ⟨ret_int (by unfold szInsF; rw [if_neg (by omega), if_pos (by omega)]), (Below.refl _ _).alloc (Nat.le_refl _) _⟩
    · go_enter Try.func21, Try.ntmps21
      go_wp2
      go_ret
      exact ⟨ret_int (by unfold szInsF; rw [if_neg (by omega), if_neg (by omega)]), (Below.refl _ _).alloc (Nat.le_refl _) _⟩
theorem toIns_any (op a b : Int) (s t : ByteArray) (w : World) :
    Calls Try.prog 23 #[insV op a b s t] w fun e w' => e = .returned (insV op a b s t) ∧ Below w.heap.size w w' := by
  go_enter Try.func23, Try.ntmps23
  go_wp2
  exact bodyPost_ret (v := insV op a b s t) (by simp [results, Try.results23, go_sem]) rfl ⟨rfl, by repeat (first | exact Below.refl _ _ | (refine Below.alloc ?_ (by simp; try omega) _) | (refine Below.setCell ?_ (by simp) _))⟩

section
variable {H : Type} {enc : TypeId × Value → H}
theorem open_ins {W : World} {base : Nat} {v0 : Value} {d0 : DataW H} {p0 : List MemPlace} (k0 : Value.okWide Try.prog W .any base 28 v0) (h0 : DataW.Trod enc Try.prog W 0 (fun _ => true) true 28 v0 d0 p0) :
    ∃ (op a b : Int) (s t : ByteArray), v0 = insV op a b s t ∧ s.size ≤ maxLen ∧ t.size ≤ maxLen ∧ (Lit.int .i64 op).wf = true ∧ (Lit.int .i64 a).wf = true ∧ (Lit.int .i64 b).wf = true := by
  obtain ⟨l, n, rfl, hl, hf⟩ := open_aggT (k := 5) (by kernel_rfl) (by kernel_rfl) (by kernel_rfl) (by kernel_rfl) k0 h0
  obtain ⟨u0, y0, e0, t0⟩ := hf 0 3 (by kernel_rfl)
  obtain ⟨u1, y1, e1, t1⟩ := hf 1 3 (by kernel_rfl)
  obtain ⟨u2, y2, e2, t2⟩ := hf 2 3 (by kernel_rfl)
  obtain ⟨u3, y3, e3, t3⟩ := hf 3 9 (by kernel_rfl)
  obtain ⟨u4, y4, e4, t4⟩ := hf 4 9 (by kernel_rfl)
  obtain ⟨op, q0, _, w0⟩ := DataW.trod_int Try.underlying3 t0
  obtain ⟨a, q1, _, w1⟩ := DataW.trod_int Try.underlying3 t1
  obtain ⟨b, q2, _, w2⟩ := DataW.trod_int Try.underlying3 t2
  obtain ⟨s, q3, _, w3⟩ := DataW.trod_string Try.underlying9 t3
  obtain ⟨t, q4, _, w4⟩ := DataW.trod_string Try.underlying9 t4
  obtain ⟨c0, c1, c2, c3, c4, rfl⟩ := five_of hl
  simp at e0 e1 e2 e3 e4 q0 q1 q2 q3 q4
  subst e0 e1 e2 e3 e4 q0 q1 q2 q3 q4
  exact ⟨op, a, b, s, t, rfl, w3, w4, w0, w1, w2⟩
end
end Go.Proofs.Ytefkakjfdodcfaa
