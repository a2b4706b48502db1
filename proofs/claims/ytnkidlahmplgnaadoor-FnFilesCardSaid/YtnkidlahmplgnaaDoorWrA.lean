/-
  Writing a file into a site, plain; the cells of a row of files. Conditions: none.
-/
import Derived.Test.YtnkidlahmplgnaaDoorSite
namespace Go.Proofs.YtnkidlahmplgnaaDoor
open Go.ChangeShapes Go.WideShapes Go.ChangeAt Go.RowKit Go.Deep Go.Joins
set_option linter.unusedVariables false
set_option linter.unusedSimpArgs false
def fvals (l : List FFile) : List Value := l.flatMap (fun p => [.string p.a0, .string p.a1, .int .i64 p.a2])
theorem fvals_cons (x : FFile) (r : List FFile) : fvals (x :: r) = .string x.a0 :: .string x.a1 :: .int .i64 x.a2 :: fvals r := List.flatMap_cons
theorem fvals_len (l : List FFile) : (fvals l).length = l.length * 3 := by
  induction l with
  | nil => rfl
  | cons x r ih => rw [fvals_cons, List.length_cons, List.length_cons, List.length_cons, ih, List.length_cons]; omega
theorem fvals_app (l r : List FFile) : fvals (l ++ r) = fvals l ++ fvals r := by unfold fvals; rw [List.flatMap_append]
theorem fvals_at : ∀ (l : List FFile) (k : Nat) (p : FFile), l[k]? = some p → (fvals l)[k * 3]? = some (.string p.a0) ∧ (fvals l)[k * 3 + 1]? = some (.string p.a1) ∧ (fvals l)[k * 3 + 2]? = some (.int .i64 p.a2)
  | [], k, p, h => by simp at h
  | x :: r, 0, p, h => by
    obtain rfl : x = p := by simpa using h
    rw [fvals_cons]
    exact ⟨rfl, rfl, rfl⟩
  | x :: r, k + 1, p, h => by
    obtain ⟨h1, h2, h3⟩ := fvals_at r k p (by simpa using h)
    rw [fvals_cons, show (k + 1) * 3 = k * 3 + 1 + 1 + 1 by omega]
    simp only [List.getElem?_cons_succ]
    exact ⟨h1, h2, h3⟩
/-- A file's source and version are put anew: in the cells. -/
theorem fvals_set : ∀ (l : List FFile) (k : Nat) (p : FFile) (s : ByteArray) (v : Int), l[k]? = some p → ((fvals l).set (k * 3 + 1) (.string s)).set (k * 3 + 2) (.int .i64 v) = fvals (l.set k ⟨p.a0, s, v⟩)
  | [], k, p, s, v, h => by simp at h
  | x :: r, 0, p, s, v, h => by
    obtain rfl : x = p := by simpa using h
    rw [fvals_cons, List.set_cons_zero, fvals_cons]
    rfl
  | x :: r, k + 1, p, s, v, h => by
    have ih := fvals_set r k p s v (by simpa using h)
    rw [show (x :: r).set (k + 1) ⟨p.a0, s, v⟩ = x :: r.set k ⟨p.a0, s, v⟩ from rfl, fvals_cons, fvals_cons, show (k + 1) * 3 + 1 = k * 3 + 1 + 1 + 1 + 1 by omega, show (k + 1) * 3 + 2 = k * 3 + 2 + 1 + 1 + 1 by omega]
    simp only [List.set_cons_succ]
    rw [ih]
theorem fvals_flat : ∀ (l : List FFile), FFile.flat l = (fvals l).map Cel.v
  | [] => rfl
  | x :: r => by
    have e2 : FFile.flat (x :: r) = x.c ++ FFile.flat r := List.flatMap_cons
    obtain ⟨z0, z1, z2⟩ := x
    rw [fvals_cons, e2, fvals_flat r, FFile.c_eq]
    rfl
theorem fvals_rd {w : World} {B : Nat} {e : TypeId} {l : List FFile} {u : Value} (h : RdC w B (.s e 3 l.length (FFile.flat l)) u) : Rd w B 3 u l.length (fvals l) := by
  unfold RdC at h
  obtain ⟨A, c, rfl, h1, h2, h3, h4⟩ := h
  refine ⟨A, c, rfl, h1, h2, fvals_len l, fun hn => ?_⟩
  obtain ⟨b, off, rfl, hb, hL⟩ := h4 hn
  refine ⟨b, off, rfl, hb, fun j u hu => ?_⟩
  obtain ⟨u2, e2, q2⟩ := RdL.get _ off j (.v u) hL (by rw [fvals_flat, List.getElem?_map, hu]; rfl)
  unfold RdC at q2
  rw [e2, q2]
theorem fvals_one (l : List FFile) : ∀ u ∈ fvals l, u.oneCell' = true := by
  intro u hu
  unfold fvals at hu
  rw [List.mem_flatMap] at hu
  obtain ⟨p, _, hp⟩ := hu
  simp only [List.mem_cons, List.not_mem_nil, or_false] at hp
  rcases hp with rfl | rfl | rfl <;> rfl
/-- What WriteFile hands back. -/
def wrO (l : List FFile) (p s : ByteArray) : List FFile × Bool :=
  if (nmOk p && (siF l && decide (s.size ≤ 4000))) = true then
    (if fif l p < 0 then (if 8 ≤ l.length then (l, false) else (l ++ [⟨nmS p, s, 1⟩], true))
     else match l[(fif l p).toNat]? with
       | some x => if x.a2 = 1000000000 then (l, false) else (l.set (fif l p).toNat ⟨x.a0, s, x.a2 + 1⟩, true)
       | none => (l, false))
  else (l, false)
section
variable {l : List FFile} {p s : ByteArray} {x : FFile} {k : Nat}
theorem wr_bad (h : (nmOk p && (siF l && decide (s.size ≤ 4000))) = false) : wrO l p s = (l, false) := if_neg (by rw [h]; simp)
theorem wr_full (h : (nmOk p && (siF l && decide (s.size ≤ 4000))) = true) (hf : fif l p < 0) (h8 : 8 ≤ l.length) : wrO l p s = (l, false) := by unfold wrO; rw [if_pos h, if_pos hf, if_pos h8]
theorem wr_new (h : (nmOk p && (siF l && decide (s.size ≤ 4000))) = true) (hf : fif l p < 0) (h8 : ¬ 8 ≤ l.length) : wrO l p s = (l ++ [⟨nmS p, s, 1⟩], true) := by unfold wrO; rw [if_pos h, if_pos hf, if_neg h8]
theorem wr_max (h : (nmOk p && (siF l && decide (s.size ≤ 4000))) = true) (hf : fif l p = (k : Int)) (hx : l[k]? = some x) (hm : x.a2 = 1000000000) : wrO l p s = (l, false) := by
  unfold wrO; rw [if_pos h, if_neg (by omega), hf, Int.toNat_natCast, hx]; exact if_pos hm
theorem wr_put (h : (nmOk p && (siF l && decide (s.size ≤ 4000))) = true) (hf : fif l p = (k : Int)) (hx : l[k]? = some x) (hm : x.a2 ≠ 1000000000) : wrO l p s = (l.set k ⟨x.a0, s, x.a2 + 1⟩, true) := by
  unfold wrO; rw [if_pos h, if_neg (by omega), hf, Int.toNat_natCast, hx]; exact if_neg hm
end
/-- Where a name is found, there is a file. -/
theorem fif_cases (l : List FFile) (p : ByteArray) : fif l p = -1 ∨ ∃ (k : Nat) (x : FFile), fif l p = (k : Int) ∧ k < l.length ∧ l[k]? = some x := by
  unfold fif
  split
  · exact fidx_lt FFile.nm l (nmS p)
  · exact .inl rfl
theorem siF_ver {l : List FFile} (h : siF l = true) {k : Nat} {x : FFile} (hx : l[k]? = some x) : 1 ≤ x.a2 ∧ x.a2 ≤ 1000000000 ∧ l.length ≤ 8 := by
  unfold siF at h
  simp only [Bool.and_eq_true, decide_eq_true_eq] at h
  obtain ⟨h1, h2⟩ := h
  unfold allK at h1
  rw [List.all_eq_true] at h1
  have h3 := h1 k (List.mem_range.2 (List.getElem?_eq_some_iff.1 hx).1)
  unfold siAt at h3
  rw [hx] at h3
  simp only [Bool.and_eq_true] at h3
  have h4 := h3.2.2.2
  unfold inB at h4
  have h5 : 1 ≤ x.a2 ∧ x.a2 ≤ 1000000000 := by simpa using h4
  exact ⟨h5.1, h5.2, h2⟩
end Go.Proofs.YtnkidlahmplgnaaDoor
