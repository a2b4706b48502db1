/-
  IsOutput: plain. Conditions: none.
-/
import Derived.Test.YtnbedjfmhnpjaaaHeadA
import Derived.Test.YtnbedjfmhnpjaaaOutJ
import Derived.Test.YtnbedjfmhnpjaaaSeen
namespace Go.Proofs.Ytnbedjfmhnpjaaa
open Go.ChangeShapes Go.WideShapes Go.ChangeAt Go.RowKit Go.Deep Go.Joins
open Go.ChangeMaps (open_string shut_string)
set_option linter.unusedVariables false
set_option linter.unusedSimpArgs false
set_option maxRecDepth 100000
def nmsF (l : List FHeader) (k : Nat) : List (List UInt8) := ((l.take k).map (fun x => x.a0.toList)).reverse
theorem nms_succ (l : List FHeader) (k : Nat) (x : FHeader) (h : l[k]? = some x) : nmsF l (k + 1) = x.a0.toList :: nmsF l k := by
  unfold nmsF
  rw [List.take_add_one, h]
  simp
theorem nms_no (l : List FHeader) (k : Nat) (s : List UInt8) (h : ∀ (j : Nat) (y : FHeader), j < k → l[j]? = some y → (y.a0.toList == s) = false) : hasS (nmsF l k) s = false := by
  unfold hasS
  rw [Bool.eq_false_iff]
  intro hc
  rw [List.contains_iff_mem] at hc
  unfold nmsF at hc
  rw [List.mem_reverse, List.mem_map] at hc
  obtain ⟨y, hy, e⟩ := hc
  obtain ⟨j, hj⟩ := List.mem_iff_getElem?.1 hy
  rw [List.getElem?_take] at hj
  split at hj
  · rename_i hlt
    have := h j y hlt hj
    rw [e] at this
    simp at this
  · cases hj
theorem nms_yes (l : List FHeader) (k j : Nat) (y : FHeader) (s : List UInt8) (hj : j < k) (hy : l[j]? = some y) (he : (y.a0.toList == s) = true) : hasS (nmsF l k) s = true := by
  unfold hasS
  rw [List.contains_iff_mem]
  unfold nmsF
  rw [List.mem_reverse, List.mem_map]
  refine ⟨y, ?_, by simpa using he⟩
  refine List.mem_of_getElem? (i := j) ?_
  rw [List.getElem?_take, if_pos hj]
  exact hy
def hdAt (l : List FHeader) (k : Nat) : Bool := match l[k]? with
  | none => true
  | some x => !hasS (nmsF l k) x.a0.toList && (hnF x.a0 && hvF x.a1)
def okB (l : List FBuffer) : Bool := l.all (fun b => inB b.a0 0 3)
def isO (o : Out) : Bool := decide (totF o ≤ 3000) && (decide (o.bufs.length ≤ 5) && (decide (o.heads.length ≤ 8) && (okB o.bufs && allB (hdAt o.heads) o.heads.length)))
theorem isO_1 {o : Out} (h : ¬ totF o ≤ 3000) : false = isO o := by unfold isO; rw [decide_eq_false h]; rfl
theorem isO_2 {o : Out} (h : ¬ o.bufs.length ≤ 5) : false = isO o := by unfold isO; rw [decide_eq_false h]; simp
theorem isO_3 {o : Out} (h : ¬ o.heads.length ≤ 8) : false = isO o := by unfold isO; rw [decide_eq_false h]; simp
theorem isO_b {o : Out} {k : Nat} {x : FBuffer} (hx : o.bufs[k]? = some x) (h : inB x.a0 0 3 = false) : false = isO o := by
  have : okB o.bufs = false := by
    unfold okB
    rw [List.all_eq_false]
    exact ⟨x, List.mem_of_getElem? hx, by rw [h]; decide⟩
  unfold isO
  rw [this]
  simp
theorem isO_h {o : Out} {k : Nat} (hk : k < o.heads.length) (h : hdAt o.heads k = false) : false = isO o := by
  unfold isO
  rw [allB_false hk h]
  simp
theorem isO_t {o : Out} (h1 : totF o ≤ 3000) (h2 : o.bufs.length ≤ 5) (h3 : o.heads.length ≤ 8) (h4 : ∀ (k : Nat) (x : FBuffer), k < o.bufs.length → o.bufs[k]? = some x → inB x.a0 0 3 = true) (h5 : ∀ k, k < o.heads.length → hdAt o.heads k = true) : true = isO o := by
  have e4 : okB o.bufs = true := by
    unfold okB
    rw [List.all_eq_true]
    intro x hx
    obtain ⟨k, hk⟩ := List.mem_iff_getElem?.1 hx
    exact h4 k x (List.getElem?_eq_some_iff.1 hk).1 hk
  unfold isO
  rw [decide_eq_true h1, decide_eq_true h2, decide_eq_true h3, e4, allB_true h5]
  rfl
theorem hd_1 {l : List FHeader} {k : Nat} {x : FHeader} (hx : l[k]? = some x) (h : hasS (nmsF l k) x.a0.toList = true) : hdAt l k = false := by unfold hdAt; rw [hx]; simp only; rw [h]; rfl
theorem hd_2 {l : List FHeader} {k : Nat} {x : FHeader} (hx : l[k]? = some x) (h : hnF x.a0 = false) : hdAt l k = false := by unfold hdAt; rw [hx]; simp only; rw [h]; simp
theorem hd_3 {l : List FHeader} {k : Nat} {x : FHeader} (hx : l[k]? = some x) (h : hvF x.a1 = false) : hdAt l k = false := by unfold hdAt; rw [hx]; simp only; rw [h]; simp
theorem hd_t {l : List FHeader} {k : Nat} {x : FHeader} (hx : l[k]? = some x) (h1 : hasS (nmsF l k) x.a0.toList = false) (h2 : hnF x.a0 = true) (h3 : hvF x.a1 = true) : hdAt l k = true := by unfold hdAt; rw [hx]; simp only; rw [h1, h2, h3]; rfl
theorem all_on {p : Nat → Prop} {k : Nat} (h : ∀ j, j < k → p j) (hk : p k) : ∀ j, j < k + 1 → p j := fun j hj => by
  by_cases e : j = k
  · subst e; exact hk
  · exact h j (by omega)
theorem zeroB (w : World) : (zeroValue 4).run Try.prog w = .ok (.bool false) w := by kernel_rfl
end Go.Proofs.Ytnbedjfmhnpjaaa
