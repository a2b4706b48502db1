/-
  string: the comparisons of the laws say yes where both read alike. Conditions: none.
-/
import Derived.Test.YtffachcddoechaaDoorDataS
namespace Go.Proofs.YtffachcddoechaaDoor
open Go.ChangeShapes Go.WideShapes Go.ChangeAt Go.RowKit Go.Deep Go.Joins
open Go.ChangeMaps (open_string shut_string)
set_option linter.unusedVariables false
set_option linter.unusedSimpArgs false
set_option maxRecDepth 100000
def EqStringS (l : List FStr) : Prop := ∀ (u v : Value) (w : World), RdC w w.heap.size (.s 9 1 l.length (FStr.flat l)) u → RdC w w.heap.size (.s 9 1 l.length (FStr.flat l)) v → Calls Tryd.prog 12 #[u, v] w fun e w' => e = .returned (.bool true) ∧ Below w.heap.size w w'
set_option maxHeartbeats 1000000 in
theorem eqStringS_of (l : List FStr) (hl : l.length ≤ 1000000000) : EqStringS l := by
  intro u v w hu hv
  obtain ⟨A, c, rfl⟩ := hu.form
  obtain ⟨A', c', rfl⟩ := hv.form
  have HC := Lib.hid hu
  have HD := Lib.hid hv
  have hn : l.length ≤ 9223372036854775807 := by omega
  clear hu hv
  go_enter Tryd.func12, Tryd.ntmps12
  go_wp2
  go_loopw [5] (fun i wr => ∃ k : Nat, k ≤ l.length ∧ i = .int .i64 k ∧ Below w.heap.size w wr) (fun i _ => l.length - (intOf i).toNat)
  case atStart => exact ⟨0, Nat.zero_le _, rfl, Below.refl _ _⟩
  case round =>
    obtain ⟨k, hk, rfl, hb⟩ := hrel
    by_cases hlt : k < l.length
    · obtain ⟨x, hx⟩ : ∃ x, l[k]? = some x := ⟨_, List.getElem?_eq_getElem hlt⟩
      obtain ⟨bc, offc, rfl, hblc, hcc⟩ := RdC.at_ FStr.len HC.out hx
      obtain ⟨bd, offd, rfl, hbld, hcd⟩ := RdC.at_ FStr.len HD.out hx
      clear hx
      obtain ⟨z0⟩ := x
      rw [FStr.c_eq] at hcc hcd
      obtain ⟨u0, e0, q0⟩ := hcc 0 _ rfl
      obtain rfl := q0.val
      clear q0
      have c_0 : wr.cell? ⟨bc, offc + k, none⟩ = some (.string z0) := (hb.cell (p := ⟨bc, _, none⟩) hblc).trans (by simpa using e0)
      clear e0
      obtain ⟨u0, e0, q0⟩ := hcd 0 _ rfl
      obtain rfl := q0.val
      clear q0
      have d_0 : wr.cell? ⟨bd, offd + k, none⟩ = some (.string z0) := (hb.cell (p := ⟨bd, _, none⟩) hbld).trans (by simpa using e0)
      clear e0
      clear hcc hcd
      go_wp2_with fail
      go_quiet (fail)
      all_goals go_wp2_with fail
      all_goals go_roundw
      case rel => exact ⟨k + 1, by omega, by go_num, below_drewN hb _⟩
      case measure => simp [intOf]; omega
    · obtain rfl : k = l.length := by omega
      clear hlt
      go_wp2_with fail
      go_ret
      exact ⟨rfl, hb⟩
theorem eqStringS_any (l : List FStr) (hw : l.length + FStr.wts l ≤ 1000000000) : EqStringS l := (eqStringS_of l (by omega))
end Go.Proofs.YtffachcddoechaaDoor
