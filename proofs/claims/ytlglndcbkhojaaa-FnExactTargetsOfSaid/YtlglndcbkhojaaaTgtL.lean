/-
  TargetsOf of both packages, in the words of the nested data. Conditions: none.
-/
import Derived.Test.YtlglndcbkhojaaaTgtI
import Derived.Test.YtlglndcbkhojaaaTgtS
namespace Go.Proofs.Ytlglndcbkhojaaa
open Go.ChangeShapes Go.WideShapes Go.ChangeAt Go.RowKit Go.Deep Go.Joins
set_option linter.unusedVariables false
def tgQ (l : List FIns) : List FInt := (tgF l).map FInt.mk
theorem tgQ_len (l : List FIns) : (tgQ l).length = (tgF l).length := by unfold tgQ; simp
theorem tgF_len (l : List FIns) : (tgF l).length ≤ l.length := by
  unfold tgF
  refine Nat.le_trans (List.length_filter_le _ _) ?_
  simp
theorem fint_wts : ∀ l : List Int, FInt.wts (l.map FInt.mk) = 0
  | [] => rfl
  | x :: r => by
    rw [List.map_cons, FInt.wts, fint_wts r, FInt.wt_eq]
theorem tgQ_wt (l : List FIns) (h : l.length ≤ 1000000000) : (tgQ l).length + FInt.wts (tgQ l) ≤ 1000000000 := by
  have h1 : FInt.wts (tgQ l) = 0 := fint_wts _
  have h2 := tgF_len l
  rw [h1, tgQ_len]
  omega
theorem own_ints (w : World) (lo hi : Nat) : ∀ l : List Int, OwnI w lo hi (FInt.flat (l.map FInt.mk)) (l.map (Value.int .i64))
  | [] => OwnI.nil w lo hi
  | x :: r => by
    have e : FInt.flat ((x :: r).map FInt.mk) = .v (.int .i64 x) :: FInt.flat (r.map FInt.mk) := by
      rw [List.map_cons]
      show FInt.c ⟨x⟩ ++ _ = _
      rw [FInt.c_eq]
      rfl
    rw [e, List.map_cons]
    exact (own_ints w lo hi r).consv _
theorem own_tgt {w : World} {base c : Nat} {A : Option Addr} {l : List FIns} (h : w.ownsRow base 3 1 (.slice A (tgF l).length c) (tgF l).length ((tgF l).map (Value.int .i64))) (hle : base ≤ w.heap.size) :
    OwnI w base w.heap.size [.s 3 1 (tgQ l).length (FInt.flat (tgQ l))] [.slice A (tgQ l).length c] := by
  rw [tgQ_len]
  exact OwnI.mk h (own_ints w w.heap.size w.heap.size (tgF l)) (fun g hg => ⟨(own_lt h g hg).1, (own_lt h g hg).2, .inl (own_lt h g hg).2⟩) hle (Nat.le_refl _)
theorem Targets_impl (z0 : ByteArray) (z1 : List FParam) (z2 : List FParam) (z3 : List FStr) (z4 : Bool) (z5 : List FIns) (us : List Value) (w : World) (hl : z5.length ≤ 1000000000) {B : Nat} (hB0 : B ≤ w.heap.size) (hr : RdVs w B (FFunc.c ⟨z0, z1, z2, z3, z4, z5⟩) us) :
    Calls Try.prog 28 #[.agg us.toArray] w fun e w' => ∃ A c, e = .returned (.slice A (tgQ z5).length c) ∧ OwnI w' w.heap.size w'.heap.size [.s 3 1 (tgQ z5).length (FInt.flat (tgQ z5))] [.slice A (tgQ z5).length c] ∧ Below w.heap.size w w' :=
  (TargetsOf_impl z0 z1 z2 z3 z4 z5 us w hl hB0 hr).mono fun e w' ⟨A, c, h1, h2, h3⟩ => ⟨A, c, by rw [tgQ_len]; exact h1, own_tgt h2 h3.size, h3⟩
theorem Targets_spec (z0 : ByteArray) (z1 : List FParam) (z2 : List FParam) (z3 : List FStr) (z4 : Bool) (z5 : List FIns) (us : List Value) (w : World) (hl : z5.length ≤ 1000000000) {B : Nat} (hB0 : B ≤ w.heap.size) (hr : RdVs w B (FFunc.c ⟨z0, z1, z2, z3, z4, z5⟩) us) :
    Calls Try.prog 27 #[.agg us.toArray] w fun e w' => ∃ A c, e = .returned (.slice A (tgQ z5).length c) ∧ OwnI w' w.heap.size w'.heap.size [.s 3 1 (tgQ z5).length (FInt.flat (tgQ z5))] [.slice A (tgQ z5).length c] ∧ Below w.heap.size w w' :=
  (TargetsOf_spec z0 z1 z2 z3 z4 z5 us w hl hB0 hr).mono fun e w' ⟨A, c, h1, h2, h3⟩ => ⟨A, c, by rw [tgQ_len]; exact h1, own_tgt h2 h3.size, h3⟩
end Go.Proofs.Ytlglndcbkhojaaa
