/-
  WriteFile of both packages, in the words of the nested data. Conditions: none.
-/
import Derived.Test.YtnkidlahmplgnaaDoorWrI
import Derived.Test.YtnkidlahmplgnaaDoorWrS
namespace Go.Proofs.YtnkidlahmplgnaaDoor
open Go.ChangeShapes Go.WideShapes Go.ChangeAt Go.RowKit Go.Deep Go.Joins
set_option linter.unusedVariables false
set_option linter.unusedSimpArgs false
theorem nmS_len (s : ByteArray) : (nmS s).size ≤ 60 := by
  by_cases h : nmOk s = true
  · rw [nm_t h]
    have h2 := h
    unfold nmOk at h2
    simp only [Bool.and_eq_true] at h2
    have h3 := h2.2.2
    unfold inB at h3
    simp only [Bool.and_eq_true, decide_eq_true_eq] at h3
    have h4 : (⟨(jn (spV s)).toArray⟩ : ByteArray).size = (jn (spV s)).length := by simp [ByteArray.size]
    rw [h4]
    omega
  · rw [nm_f (by simpa using h)]
    show 0 ≤ 60
    omega
theorem f_wts_app : ∀ (l r : List FFile), FFile.wts (l ++ r) = FFile.wts l + FFile.wts r
  | [], r => by simp [FFile.wts]
  | x :: l, r => by
    rw [List.cons_append, FFile.wts, FFile.wts, f_wts_app l r]
    omega
theorem f_wts_set : ∀ (l : List FFile) (k : Nat) (x y : FFile), FFile.wts (l.set k x) ≤ FFile.wts l + x.wt
  | [], k, x, y => by simp [FFile.wts]
  | z :: r, 0, x, y => by rw [List.set_cons_zero, FFile.wts, FFile.wts]; omega
  | z :: r, k + 1, x, y => by
    rw [List.set_cons_succ, FFile.wts, FFile.wts]
    have := f_wts_set r k x y
    omega
theorem f_wt_mem : ∀ (l : List FFile) (k : Nat) (x : FFile), l[k]? = some x → x.wt ≤ FFile.wts l
  | [], k, x, h => by simp at h
  | z :: r, 0, x, h => by
    obtain rfl : z = x := by simpa using h
    rw [FFile.wts]; omega
  | z :: r, k + 1, x, h => by
    have := f_wt_mem r k x (by simpa using h)
    rw [FFile.wts]; omega
theorem wrQ_wt (l : List FFile) (p s : ByteArray) (h : l.length + FFile.wts l ≤ 1048576) (hs : s.size ≤ 1048576) : (wrO l p s).1.length + FFile.wts (wrO l p s).1 ≤ 1000000000 := by
  have base : (l, false).1.length + FFile.wts (l, false).1 ≤ 1000000000 := by show l.length + FFile.wts l ≤ _; omega
  unfold wrO
  split
  · split
    · split
      · exact base
      · have h6 := nmS_len p
        have h7 : FFile.wts [⟨nmS p, s, 1⟩] = FFile.wt ⟨nmS p, s, 1⟩ + 0 := by simp [FFile.wts]
        have h8 := FFile.wt_eq (nmS p) s 1
        show (l ++ [(⟨nmS p, s, 1⟩ : FFile)]).length + FFile.wts (l ++ [⟨nmS p, s, 1⟩]) ≤ _
        rw [List.length_append, f_wts_app, List.length_singleton]
        omega
    · split
      · rename_i x hx
        split
        · exact base
        · have h6 := f_wt_mem l _ x hx
          have h7 := FFile.wt_eq x.a0 s (x.a2 + 1)
          have h9 := FFile.wt_eq x.a0 x.a1 x.a2
          have h8 := f_wts_set l (fif l p).toNat ⟨x.a0, s, x.a2 + 1⟩ x
          have h10 : x.wt = FFile.wt ⟨x.a0, x.a1, x.a2⟩ := rfl
          show (l.set (fif l p).toNat (⟨x.a0, s, x.a2 + 1⟩ : FFile)).length + FFile.wts (l.set (fif l p).toNat ⟨x.a0, s, x.a2 + 1⟩) ≤ _
          rw [List.length_set]
          omega
      · exact base
  · exact base
theorem f_own (w : World) (lo hi : Nat) : ∀ l : List FFile, OwnI w lo hi (FFile.flat l) (fvals l)
  | [] => OwnI.nil w lo hi
  | x :: r => by
    have e : FFile.flat (x :: r) = .v (.string x.a0) :: .v (.string x.a1) :: .v (.int .i64 x.a2) :: FFile.flat r := by
      show FFile.c x ++ _ = _
      obtain ⟨a, b, c⟩ := x
      rw [FFile.c_eq]
      rfl
    rw [e, fvals_cons]
    exact (((f_own w lo hi r).consv _).consv _).consv _
theorem own_files {w : World} {base c : Nat} {A : Option Addr} {V : List FFile} (h : w.ownsRow base 39 3 (.slice A V.length c) V.length (fvals V)) (hle : base ≤ w.heap.size) :
    OwnI w base w.heap.size [.s 39 3 V.length (FFile.flat V)] [.slice A V.length c] :=
  OwnI.mk h (f_own w w.heap.size w.heap.size V) (fun g hg => ⟨(own_lt h g hg).1, (own_lt h g hg).2, .inl (own_lt h g hg).2⟩) hle (Nat.le_refl _)
theorem WriteQ_impl (l : List FFile) (p s : ByteArray) (u : Value) (w : World) (hp : p.size ≤ 1048576) (hs : s.size ≤ 1048576) (hm : MaxAt w) (hw : l.length + FFile.wts l ≤ 1048576) {B : Nat} (hB0 : B ≤ w.heap.size) (hr0 : RdC w B (.s 39 3 l.length (FFile.flat l)) u) :
    Calls Tryd.prog 10 #[u, .string p, .string s] w fun e w' => ∃ A c, e = .returned (.tuple #[.slice A (wrO l p s).1.length c, .bool (wrO l p s).2]) ∧ OwnI w' w.heap.size w'.heap.size [.s 39 3 (wrO l p s).1.length (FFile.flat (wrO l p s).1)] [.slice A (wrO l p s).1.length c] ∧ Below w.heap.size w w' :=
  (WriteFile_impl l p s u w hp hs hm hw hB0 hr0).mono fun e w' ⟨A, c, h1, h2, h3⟩ => ⟨A, c, h1, own_files h2 h3.size, h3⟩
theorem WriteQ_spec (l : List FFile) (p s : ByteArray) (u : Value) (w : World) (hp : p.size ≤ 1048576) (hs : s.size ≤ 1048576) (hw : l.length + FFile.wts l ≤ 1048576) {B : Nat} (hB0 : B ≤ w.heap.size) (hr0 : RdC w B (.s 39 3 l.length (FFile.flat l)) u) :
    Calls Tryd.prog 22 #[u, .string p, .string s] w fun e w' => ∃ A c, e = .returned (.tuple #[.slice A (wrO l p s).1.length c, .bool (wrO l p s).2]) ∧ OwnI w' w.heap.size w'.heap.size [.s 39 3 (wrO l p s).1.length (FFile.flat (wrO l p s).1)] [.slice A (wrO l p s).1.length c] ∧ Below w.heap.size w w' :=
  (WriteFile_spec l p s u w hp hs hw hB0 hr0).mono fun e w' ⟨A, c, h1, h2, h3⟩ => ⟨A, c, h1, own_files h2 h3.size, h3⟩
end Go.Proofs.YtnkidlahmplgnaaDoor
