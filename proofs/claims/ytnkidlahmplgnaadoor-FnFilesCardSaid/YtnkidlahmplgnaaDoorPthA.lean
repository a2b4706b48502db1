/-
  The pieces of a path between its slashes, and what SplitPath makes of them, plain. Conditions: none.
-/
import Derived.Test.YtnkidlahmplgnaaDoorStr
import Derived.Lib.SplitLaws
namespace Go.Proofs.YtnkidlahmplgnaaDoor
open Go.ChangeShapes Go.WideShapes Go.ChangeAt Go.RowKit Go.Deep Go.Joins
set_option linter.unusedVariables false
set_option linter.unusedSimpArgs false
def slash : ByteArray := ⟨#[47]⟩
theorem slash_size : slash.size = 1 := rfl
theorem slash_list : slash.data.toList = [47] := rfl
/-- The pieces of s from a on. -/
def pcs (s : ByteArray) (a : Nat) : List ByteArray := Lib.splitB slash 0 (Lib.countB (s.extract a s.size) slash) (s.extract a s.size)
theorem occ_one (l : List UInt8) (j : Nat) : Lib.occAt l [47] j = (l[j]? == some 47) := by
  unfold Lib.occAt
  rw [← List.head?_drop]
  cases l.drop j with
  | nil => rfl
  | cons x r =>
    simp only [List.isPrefixOf_cons_cons, List.isPrefixOf_nil_left, Bool.and_true, List.head?_cons]
    by_cases h : x = 47
    · subst h; rfl
    · have h1 : ((47 : UInt8) == x) = false := by rw [beq_eq_false_iff_ne]; exact fun e => h e.symm
      have h2 : (some x == some (47 : UInt8)) = false := by rw [beq_eq_false_iff_ne]; exact fun e => h (Option.some.inj e)
      rw [h1, h2]
theorem ext_list (s : ByteArray) (a b : Nat) : (s.extract a b).data.toList = (s.data.toList.take b).drop a := by
  rw [ByteArray.data_extract, Array.toList_extract]
  simp [List.extract, List.drop_take]
theorem ext_end (s : ByteArray) (a : Nat) : (s.extract a s.size).data.toList = s.data.toList.drop a := by
  rw [ext_list, List.take_of_length_le (by rw [← Lib.size_eq]; exact Nat.le_refl _)]
theorem ba_ext {a b : ByteArray} (h : a.data.toList = b.data.toList) : a = b := by
  obtain ⟨⟨x⟩⟩ := a
  obtain ⟨⟨y⟩⟩ := b
  simp at h
  subst h
  rfl
theorem getD_b (s : ByteArray) (k : Nat) (h : k < s.size) : s.data.toList[k]? = some (s[k]'h) := by
  rw [List.getElem?_eq_getElem (by rw [← Lib.size_eq]; exact h)]
  rfl
theorem pcs_hit (s : ByteArray) (a i : Nat) (hai : a ≤ i) (hi : i < s.size) (hno : ∀ j, a ≤ j → j < i → s.data.toList[j]? ≠ some 47) (hs : s.data.toList[i]? = some 47) : pcs s a = s.extract a i :: pcs s (i + 1) := by
  have hix : Lib.indexB (s.extract a s.size) slash = ((i - a : Nat) : Int) := by
    show Lib.index (s.extract a s.size).data.toList slash.data.toList = _
    rw [ext_end, slash_list]
    refine Lib.index_hit (fun j hj => ?_) ?_ ?_
    · rw [occ_one, List.getElem?_drop]
      exact beq_eq_false_iff_ne.2 (hno (a + j) (by omega) (by omega))
    · rw [List.length_drop, ← Lib.size_eq]; omega
    · rw [occ_one, List.getElem?_drop, show a + (i - a) = i by omega, hs]; rfl
  have e1 : (s.extract a s.size).extract ((i - a) + slash.size) (s.extract a s.size).size = s.extract (i + 1) s.size := by
    apply ba_ext
    rw [ext_end, ext_end, ext_end, List.drop_drop, slash_size, show a + (i - a + 1) = i + 1 by omega]
  have e2 : (s.extract a s.size).extract 0 ((i - a) + 0) = s.extract a i := by
    apply ba_ext
    rw [ext_list, ext_end, ext_list, List.drop_zero, Nat.add_zero, List.drop_take]
  unfold pcs
  rw [Lib.countB_hit _ slash (i - a) (by rw [slash_size]; exact Nat.le_refl _) hix, Nat.add_comm 1, Lib.splitB_hit _ _ _ _ _ hix, e1, e2]
theorem pcs_end (s : ByteArray) (a : Nat) (ha : a ≤ s.size) (hno : ∀ j, a ≤ j → j < s.size → s.data.toList[j]? ≠ some 47) : pcs s a = [s.extract a s.size] := by
  have hix : Lib.indexB (s.extract a s.size) slash = -1 := by
    show Lib.index (s.extract a s.size).data.toList slash.data.toList = _
    rw [ext_end, slash_list]
    refine Lib.index_none fun j hj => ?_
    rw [occ_one, List.getElem?_drop]
    refine beq_eq_false_iff_ne.2 fun h => ?_
    have hj2 : a + j < s.size := by
      have := (List.getElem?_eq_some_iff.1 h).1
      rwa [← Lib.size_eq] at this
    exact hno (a + j) (by omega) hj2 h
  unfold pcs
  exact Lib.splitB_miss _ _ _ _ hix
/-! ### what is made of the pieces -/
def ptP (s : ByteArray) (k : Nat) : Bool := ltrI (bI s k) || (digI (bI s k) || (bI s k == 95 || (bI s k == 45 || bI s k == 46)))
def partF (s : ByteArray) : Bool := decide (s.size ≤ 20) && allB (ptP s) s.size
def dotL : List UInt8 := [46]
def upL : List UInt8 := [46, 46]
def foldP : List ByteArray → List ByteArray → Option (List ByteArray)
  | [], acc => some acc
  | p :: r, acc =>
    if (p.toList == ([] : List UInt8)) = true then foldP r acc
    else if (p.toList == dotL) = true then foldP r acc
    else if (p.toList == upL) = true then (if acc.length = 0 then none else foldP r acc.dropLast)
    else if partF p = true then foldP r (acc ++ [p])
    else none
section
variable {p : ByteArray} {r acc : List ByteArray}
theorem fold_e (h : (p.toList == ([] : List UInt8)) = true) : foldP (p :: r) acc = foldP r acc := by rw [foldP, if_pos h]
theorem fold_d (h0 : (p.toList == ([] : List UInt8)) = false) (h : (p.toList == dotL) = true) : foldP (p :: r) acc = foldP r acc := by rw [foldP, if_neg (by rw [h0]; simp), if_pos h]
theorem fold_u0 (h0 : (p.toList == ([] : List UInt8)) = false) (h1 : (p.toList == dotL) = false) (h : (p.toList == upL) = true) (hz : acc.length = 0) : foldP (p :: r) acc = none := by
  rw [foldP, if_neg (by rw [h0]; simp), if_neg (by rw [h1]; simp), if_pos h, if_pos hz]
theorem fold_u (h0 : (p.toList == ([] : List UInt8)) = false) (h1 : (p.toList == dotL) = false) (h : (p.toList == upL) = true) (hz : acc.length ≠ 0) : foldP (p :: r) acc = foldP r acc.dropLast := by
  rw [foldP, if_neg (by rw [h0]; simp), if_neg (by rw [h1]; simp), if_pos h, if_neg hz]
theorem fold_p (h0 : (p.toList == ([] : List UInt8)) = false) (h1 : (p.toList == dotL) = false) (h2 : (p.toList == upL) = false) (h : partF p = true) : foldP (p :: r) acc = foldP r (acc ++ [p]) := by
  rw [foldP, if_neg (by rw [h0]; simp), if_neg (by rw [h1]; simp), if_neg (by rw [h2]; simp), if_pos h]
theorem fold_n (h0 : (p.toList == ([] : List UInt8)) = false) (h1 : (p.toList == dotL) = false) (h2 : (p.toList == upL) = false) (h : partF p = false) : foldP (p :: r) acc = none := by
  rw [foldP, if_neg (by rw [h0]; simp), if_neg (by rw [h1]; simp), if_neg (by rw [h2]; simp), if_neg (by rw [h]; simp)]
end
/-- What is made of the pieces is short, and there is no more of it than there are pieces. -/
theorem fold_len : ∀ (r acc : List ByteArray) (V : List ByteArray), foldP r acc = some V → V.length ≤ acc.length + r.length ∧ ((∀ x ∈ acc, x.size ≤ 20) → ∀ x ∈ V, x.size ≤ 20)
  | [], acc, V, h => by
    rw [foldP] at h
    injection h with h
    subst h
    exact ⟨by simp, fun h => h⟩
  | p :: r, acc, V, h => by
    rw [foldP] at h
    split at h
    · obtain ⟨h1, h2⟩ := fold_len r acc V h
      exact ⟨by rw [List.length_cons]; omega, h2⟩
    · split at h
      · obtain ⟨h1, h2⟩ := fold_len r acc V h
        exact ⟨by rw [List.length_cons]; omega, h2⟩
      · split at h
        · split at h
          · cases h
          · obtain ⟨h1, h2⟩ := fold_len r _ V h
            rw [List.length_dropLast] at h1
            exact ⟨by rw [List.length_cons]; omega, fun hx => h2 fun x hm => hx x (by rw [List.dropLast_eq_take] at hm; exact List.mem_of_mem_take hm)⟩
        · split at h
          · next hp =>
            obtain ⟨h1, h2⟩ := fold_len r _ V h
            rw [List.length_append] at h1
            refine ⟨by rw [List.length_cons]; simp at h1; omega, fun hx => h2 fun x hm => ?_⟩
            rcases List.mem_append.1 hm with hm | hm
            · exact hx x hm
            · obtain rfl := List.mem_singleton.1 hm
              unfold partF at hp
              simp only [Bool.and_eq_true, decide_eq_true_eq] at hp
              exact hp.1
          · cases h
def spO (s : ByteArray) : Option (List ByteArray) := foldP (pcs s 0) []
def spV (s : ByteArray) : List ByteArray := (spO s).getD []
def spB (s : ByteArray) : Bool := (spO s).isSome
theorem sp_none {s : ByteArray} (h : spO s = none) : spV s = [] ∧ spB s = false := by unfold spV spB; rw [h]; exact ⟨rfl, rfl⟩
theorem sp_some {s : ByteArray} {V : List ByteArray} (h : spO s = some V) : spV s = V ∧ spB s = true := by unfold spV spB; rw [h]; exact ⟨rfl, rfl⟩
theorem pcs_len (s : ByteArray) : (pcs s 0).length ≤ s.size + 1 := by
  unfold pcs
  refine Nat.le_trans (Lib.splitB_length_le _ _ _ _) ?_
  have h := Lib.countB_le slash (by rw [slash_size]; exact Nat.le_refl _) _ (s.extract 0 s.size) (Nat.le_refl _)
  have h2 : (s.extract 0 s.size).size ≤ s.size := by
    rw [Lib.size_eq, ext_end, Lib.size_eq, List.drop_zero]; exact Nat.le_refl _
  omega
theorem spV_len (s : ByteArray) : (spV s).length ≤ s.size + 1 ∧ ∀ x ∈ spV s, x.size ≤ 20 := by
  cases h : spO s with
  | none => rw [(sp_none h).1]; exact ⟨by simp, fun x hx => by cases hx⟩
  | some V =>
    rw [(sp_some h).1]
    obtain ⟨h1, h2⟩ := fold_len _ _ V h
    have := pcs_len s
    exact ⟨by simp at h1; omega, h2 fun x hx => by cases hx⟩
end Go.Proofs.YtnkidlahmplgnaaDoor
