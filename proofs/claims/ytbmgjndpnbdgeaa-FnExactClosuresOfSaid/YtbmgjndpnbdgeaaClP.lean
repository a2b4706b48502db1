/-
  The closures of a tree, in order: plain. Conditions: none.
-/
import Derived.Test.YtbmgjndpnbdgeaaCopyU
namespace Go.Proofs.Ytbmgjndpnbdgeaa
open Go.ChangeShapes Go.WideShapes Go.ChangeAt Go.RowKit Go.Deep Go.Joins
set_option linter.unusedVariables false
set_option linter.unusedSimpArgs false
mutual
def clN : FNode → List FNode
  | .mk a0 a1 a2 a3 => (if (a0 == 23) = true then [.mk a0 a1 a2 a3] else []) ++ clL a3
def clL : List FNode → List FNode
  | [] => []
  | x :: r => clN x ++ clL r
end
theorem clL_take : ∀ (z : List FNode) (k : Nat) (x : FNode), z[k]? = some x → clL (z.take (k + 1)) = clL (z.take k) ++ clN x
  | [], k, x, h => by simp at h
  | y :: r, 0, x, h => by
    obtain rfl : y = x := by simpa using h
    simp [clL]
  | y :: r, k + 1, x, h => by
    rw [List.take_succ_cons, List.take_succ_cons, clL, clL, clL_take r k x (by simpa using h), List.append_assoc]
theorem FNode.wts_app : ∀ (l r : List FNode), FNode.wts (l ++ r) = FNode.wts l + FNode.wts r
  | [], r => by simp [FNode.wts]
  | x :: l, r => by rw [List.cons_append, FNode.wts, FNode.wts, FNode.wts_app l r]; omega
theorem FNode.wts_mul (M : Nat) : ∀ (l : List FNode), (∀ x ∈ l, x.wt ≤ M) → FNode.wts l ≤ l.length * M
  | [], _ => by simp [FNode.wts]
  | x :: r, h => by
    rw [FNode.wts, List.length_cons, Nat.add_mul]
    have h1 := h x (by simp)
    have h2 := FNode.wts_mul M r fun y hy => h y (by simp [hy])
    omega
mutual
theorem clN_len : ∀ (x : FNode), (clN x).length ≤ x.wt + 1
  | .mk a0 a1 a2 a3 => by
    rw [clN, FNode.wt_eq, List.length_append]
    have h := clL_len a3
    split <;> simp <;> omega
theorem clL_len : ∀ (z : List FNode), (clL z).length ≤ z.length + FNode.wts z
  | [] => by simp [clL, FNode.wts]
  | x :: r => by
    rw [clL, FNode.wts, List.length_cons, List.length_append]
    have h1 := clN_len x
    have h2 := clL_len r
    omega
end
mutual
theorem clN_wt : ∀ (x : FNode) (y : FNode), y ∈ clN x → y.wt ≤ x.wt
  | .mk a0 a1 a2 a3, y, h => by
    rw [clN] at h
    rcases List.mem_append.1 h with h | h
    · split at h
      · rw [List.mem_singleton.1 h]; exact Nat.le_refl _
      · cases h
    · have := clL_wt a3 y h
      rw [FNode.wt_eq]
      omega
theorem clL_wt : ∀ (z : List FNode) (y : FNode), y ∈ clL z → y.wt ≤ FNode.wts z
  | [], y, h => by rw [clL] at h; cases h
  | x :: r, y, h => by
    rw [clL] at h
    rw [FNode.wts]
    rcases List.mem_append.1 h with h | h
    · have := clN_wt x y h; omega
    · have := clL_wt r y h; omega
end
theorem clQ_wt (x : FNode) (h : x.wt ≤ 1048576) : (clN x).length ≤ 1048577 ∧ (∀ y ∈ clN x, y.wt ≤ 1048576) ∧ (clN x).length + FNode.wts (clN x) ≤ 1100000000000 := by
  have h1 := clN_len x
  have h2 : ∀ y ∈ clN x, y.wt ≤ 1048576 := fun y hy => Nat.le_trans (clN_wt x y hy) h
  have h3 := FNode.wts_mul 1048576 (clN x) h2
  refine ⟨by omega, h2, ?_⟩
  have : (clN x).length * 1048576 ≤ 1048577 * 1048576 := Nat.mul_le_mul_right _ (by omega)
  omega
end Go.Proofs.Ytbmgjndpnbdgeaa
