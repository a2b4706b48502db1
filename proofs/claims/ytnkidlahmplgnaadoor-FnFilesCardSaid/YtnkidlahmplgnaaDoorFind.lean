/-
  The first element of a list whose name is a given one. Conditions: none.
-/
import Derived.Test.YtnkidlahmplgnaaDoorBase
namespace Go.Proofs.YtnkidlahmplgnaaDoor
open Go.ChangeShapes Go.WideShapes Go.ChangeAt Go.RowKit Go.Deep Go.Joins
open Go.ChangeMaps (open_string shut_string)
set_option linter.unusedVariables false

/-- The place of the first element whose name is s, or -1. -/
def fidx {α : Type} (nm : α → ByteArray) (l : List α) (s : ByteArray) : Int := match l.findIdx? (fun x => (nm x).toList == s.toList) with
  | some i => i
  | none => -1
theorem fidx_hit {α : Type} {nm : α → ByteArray} {l : List α} {s : ByteArray} {k : Nat} {x : α} (hx : l[k]? = some x) (hq : ((nm x).toList == s.toList) = true) (hno : ∀ (j : Nat) (y : α), j < k → l[j]? = some y → ((nm y).toList == s.toList) = false) : fidx nm l s = k := by
  have hk : k < l.length := (List.getElem?_eq_some_iff.1 hx).1
  have he : l[k] = x := (List.getElem?_eq_some_iff.1 hx).2
  have : l.findIdx? (fun x => (nm x).toList == s.toList) = some k := by
    rw [List.findIdx?_eq_some_iff_getElem]
    refine ⟨hk, by rw [he]; exact hq, fun j hj => ?_⟩
    have := hno j l[j] hj (List.getElem?_eq_getElem (by omega))
    rw [this]
    simp
  unfold fidx
  rw [this]
theorem fidx_miss {α : Type} {nm : α → ByteArray} {l : List α} {s : ByteArray} (hno : ∀ (j : Nat) (y : α), l[j]? = some y → ((nm y).toList == s.toList) = false) : fidx nm l s = -1 := by
  have : l.findIdx? (fun x => (nm x).toList == s.toList) = none := by
    rw [List.findIdx?_eq_none_iff]
    intro x hx
    obtain ⟨j, hj⟩ := List.mem_iff_getElem?.1 hx
    rw [hno j x hj]
  unfold fidx
  rw [this]
theorem fidx_lt {α : Type} (nm : α → ByteArray) (l : List α) (s : ByteArray) : fidx nm l s = -1 ∨ ∃ (k : Nat) (x : α), fidx nm l s = k ∧ k < l.length ∧ l[k]? = some x := by
  unfold fidx
  cases h : l.findIdx? (fun x => (nm x).toList == s.toList) with
  | none => exact .inl rfl
  | some k =>
    rw [List.findIdx?_eq_some_iff_getElem] at h
    obtain ⟨hk, _⟩ := h
    exact .inr ⟨k, l[k], rfl, hk, List.getElem?_eq_getElem hk⟩
end Go.Proofs.YtnkidlahmplgnaaDoor
