/-
  SplitPath of both packages, in the words of the nested data. Conditions: none.
-/
import Derived.Test.YtffachcddoechaaDoorPthI
import Derived.Test.YtffachcddoechaaDoorPthS
import Derived.Test.YtffachcddoechaaDoorDataS
namespace Go.Proofs.YtffachcddoechaaDoor
open Go.ChangeShapes Go.WideShapes Go.ChangeAt Go.RowKit Go.Deep Go.Joins
set_option linter.unusedVariables false
def spQ (s : ByteArray) : List FStr := (spV s).map FStr.mk
theorem spQ_len (s : ByteArray) : (spQ s).length = (spV s).length := by unfold spQ; simp
theorem s_wts : ∀ l : List ByteArray, (∀ x ∈ l, x.size ≤ 20) → FStr.wts (l.map FStr.mk) ≤ 20 * l.length
  | [], _ => Nat.le_refl _
  | x :: r, h => by
    have h1 := s_wts r fun y hy => h y (List.mem_cons_of_mem _ hy)
    have h2 := h x (List.mem_cons_self)
    rw [List.map_cons, FStr.wts, FStr.wt_eq, List.length_cons]
    omega
theorem spQ_wt (s : ByteArray) (h : s.size ≤ 1048576) : (spQ s).length + FStr.wts (spQ s) ≤ 1000000000 := by
  obtain ⟨h1, h2⟩ := spV_len s
  have h3 := s_wts (spV s) h2
  have h4 : FStr.wts (spQ s) ≤ 20 * (spV s).length := h3
  rw [spQ_len]
  omega
theorem s_own (w : World) (lo hi : Nat) : ∀ l : List ByteArray, OwnI w lo hi (FStr.flat (l.map FStr.mk)) (l.map Value.string)
  | [] => OwnI.nil w lo hi
  | x :: r => by
    have e : FStr.flat ((x :: r).map FStr.mk) = .v (.string x) :: FStr.flat (r.map FStr.mk) := by
      rw [List.map_cons]
      show FStr.c ⟨x⟩ ++ _ = _
      rw [FStr.c_eq]
      rfl
    rw [e, List.map_cons]
    exact (s_own w lo hi r).consv _
theorem own_strs {w : World} {base c : Nat} {A : Option Addr} {V : List ByteArray} (h : w.ownsRow base 9 1 (.slice A V.length c) V.length (V.map Value.string)) (hle : base ≤ w.heap.size) :
    OwnI w base w.heap.size [.s 9 1 (V.map FStr.mk).length (FStr.flat (V.map FStr.mk))] [.slice A (V.map FStr.mk).length c] := by
  rw [List.length_map]
  exact OwnI.mk h (s_own w w.heap.size w.heap.size V) (fun g hg => ⟨(own_lt h g hg).1, (own_lt h g hg).2, .inl (own_lt h g hg).2⟩) hle (Nat.le_refl _)
theorem Split_spec (s : ByteArray) (w : World) (hs : s.size ≤ 1048576) :
    Calls Tryd.prog 10 #[.string s] w fun e w' => ∃ A c, e = .returned (.tuple #[.slice A (spQ s).length c, .bool (spB s)]) ∧ OwnI w' w.heap.size w'.heap.size [.s 9 1 (spQ s).length (FStr.flat (spQ s))] [.slice A (spQ s).length c] ∧ Below w.heap.size w w' :=
  (SplitPath_spec s w hs).mono fun e w' ⟨A, c, h1, h2, h3⟩ => ⟨A, c, by rw [spQ_len]; exact h1, own_strs h2 h3.size, h3⟩
theorem Split_impl (s : ByteArray) (w : World) (hs : s.size ≤ 1048576) (hm : MaxAt w) :
    Calls Tryd.prog 11 #[.string s] w fun e w' => ∃ A c, e = .returned (.tuple #[.slice A (spQ s).length c, .bool (spB s)]) ∧ OwnI w' w.heap.size w'.heap.size [.s 9 1 (spQ s).length (FStr.flat (spQ s))] [.slice A (spQ s).length c] ∧ Below w.heap.size w w' :=
  (SplitPath_impl s w hs hm).mono fun e w' ⟨A, c, h1, h2, h3⟩ => ⟨A, c, by rw [spQ_len]; exact h1, own_strs h2 h3.size, h3⟩
end Go.Proofs.YtffachcddoechaaDoor
