/-
  Which paths a tree includes: plain. Conditions: none.
-/
import Derived.Test.YtbmgjndpnbdgeaaDoorVarP
import Derived.Test.YtbmgjndpnbdgeaaDoorPthN
namespace Go.Proofs.YtbmgjndpnbdgeaaDoor
open Go.ChangeShapes Go.WideShapes Go.ChangeAt Go.RowKit Go.Deep Go.Joins
set_option linter.unusedVariables false
set_option linter.unusedSimpArgs false
theorem nmS_size (s : ByteArray) : (nmS s).size ≤ 60 := by
  cases h : nmOk s with
  | false => rw [nm_f h]; exact Nat.zero_le _
  | true =>
    rw [nm_t h]
    unfold nmOk at h
    simp only [Bool.and_eq_true] at h
    have h2 := h.2.2
    unfold inB at h2
    simp at h2
    show (jn (spV s)).toArray.size ≤ 60
    rw [List.size_toArray]
    omega
def addI (k : Int) (s : ByteArray) (l : List FStr) : List FStr := if (k == 47 && (nmOk s && !inV l (nmS s))) = true then l ++ [⟨nmS s⟩] else l
mutual
def incN : FNode → List FStr → List FStr
  | .mk a0 a1 a2 a3, l => incL a3 (addI a0 a2 l)
def incL : List FNode → List FStr → List FStr
  | [], l => l
  | x :: r, l => incL r (incN x l)
end
def incQ (x : FNode) : List FStr := incN x []
theorem incL_take : ∀ (z : List FNode) (l : List FStr) (k : Nat) (x : FNode), z[k]? = some x → incL (z.take (k + 1)) l = incN x (incL (z.take k) l)
  | [], l, k, x, h => by simp at h
  | y :: r, l, 0, x, h => by
    obtain rfl : y = x := by simpa using h
    simp [incL]
  | y :: r, l, k + 1, x, h => by
    rw [List.take_succ_cons, List.take_succ_cons, incL, incL]
    exact incL_take r _ k x (by simpa using h)
theorem addI_wt (k : Int) (s : ByteArray) (l : List FStr) : (addI k s l).length + FStr.wts (addI k s l) ≤ l.length + FStr.wts l + 61 := by
  have := nmS_size s
  unfold addI
  split
  · rw [FStr.wts_snoc, List.length_append]; simp; omega
  · omega
mutual
theorem incN_wt : ∀ (x : FNode) (l : List FStr), (incN x l).length + FStr.wts (incN x l) ≤ l.length + FStr.wts l + 61 * (1 + x.wt)
  | .mk a0 a1 a2 a3, l => by
    rw [incN, FNode.wt_eq]
    have h1 := incL_wt a3 (addI a0 a2 l)
    have h2 := addI_wt a0 a2 l
    omega
theorem incL_wt : ∀ (z : List FNode) (l : List FStr), (incL z l).length + FStr.wts (incL z l) ≤ l.length + FStr.wts l + 61 * (z.length + FNode.wts z)
  | [], l => by simp [incL, FNode.wts]
  | x :: r, l => by
    rw [incL, FNode.wts, List.length_cons]
    have h1 := incL_wt r (incN x l)
    have h2 := incN_wt x l
    omega
end
theorem incQ_wt (x : FNode) (h : x.wt ≤ 1048576) : (incQ x).length + FStr.wts (incQ x) ≤ 1000000000 := by
  have := incN_wt x []
  unfold incQ
  simp [FStr.wts] at this
  omega
end Go.Proofs.YtbmgjndpnbdgeaaDoor
