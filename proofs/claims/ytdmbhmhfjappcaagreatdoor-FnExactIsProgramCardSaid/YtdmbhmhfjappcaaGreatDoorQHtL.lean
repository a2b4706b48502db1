/-
  Parts of the proof: HtL. Conditions: none.
-/
import Derived.Test.YtdmbhmhfjappcaaGreatDoorQHtI
import Derived.Test.YtdmbhmhfjappcaaGreatDoorQHtS
import Derived.Test.YtdmbhmhfjappcaaGreatDoorQIsIns
namespace Go.Proofs.YtdmbhmhfjappcaaGreatDoor
open Go.ChangeShapes Go.WideShapes Go.ChangeAt Go.RowKit Go.Deep Go.Joins
set_option linter.unusedVariables false
noncomputable def htQ (l : List FIns) (n : Nat) : List FInt := (htV l n).map FInt.mk
theorem htQ_len (l : List FIns) (n : Nat) : (htQ l n).length = (htV l n).length := by unfold htQ; simp
theorem htV_len (l : List FIns) (n : Nat) : (htV l n).length ≤ l.length := by
  unfold htV htOf
  split
  · simp
  · unfold HTab
    split
    · next h => exact Nat.le_of_eq (Classical.choose_spec h).1
    · simp
theorem h_wts : ∀ l : List Int, FInt.wts (l.map FInt.mk) = 0
  | [] => rfl
  | x :: r => by
    rw [List.map_cons, FInt.wts, h_wts r, FInt.wt_eq]
theorem htQ_wt (l : List FIns) (n : Nat) (h : l.length ≤ 1000000000) : (htQ l n).length + FInt.wts (htQ l n) ≤ 1000000000 := by
  have h1 : FInt.wts (htQ l n) = 0 := h_wts _
  have h2 := htV_len l n
  rw [h1, htQ_len]
  omega
theorem h_ints (w : World) (lo hi : Nat) : ∀ l : List Int, OwnI w lo hi (FInt.flat (l.map FInt.mk)) (l.map (Value.int .i64))
  | [] => OwnI.nil w lo hi
  | x :: r => by
    have e : FInt.flat ((x :: r).map FInt.mk) = .v (.int .i64 x) :: FInt.flat (r.map FInt.mk) := by
      rw [List.map_cons]
      show FInt.c ⟨x⟩ ++ _ = _
      rw [FInt.c_eq]
      rfl
    rw [e, List.map_cons]
    exact (h_ints w lo hi r).consv _
theorem own_table {w : World} {base c : Nat} {A : Option Addr} {V : List Int} (h : w.ownsRow base 3 1 (.slice A V.length c) V.length (V.map (Value.int .i64))) (hle : base ≤ w.heap.size) :
    OwnI w base w.heap.size [.s 3 1 (V.map FInt.mk).length (FInt.flat (V.map FInt.mk))] [.slice A (V.map FInt.mk).length c] := by
  rw [List.length_map]
  exact OwnI.mk h (h_ints w w.heap.size w.heap.size V) (fun g hg => ⟨(own_lt h g hg).1, (own_lt h g hg).2, .inl (own_lt h g hg).2⟩) hle (Nat.le_refl _)
theorem Heights_impl (z0 : ByteArray) (z1 : List FParam) (z2 : List FParam) (z3 : List FStr) (z4 : Bool) (z5 : List FIns) (us : List Value) (w : World) (hl : z5.length ≤ 1000000000) (hl3 : z3.length ≤ 1000000000) (hok : ∀ x, x ∈ z5 → x.ok) {B : Nat} (hB0 : B ≤ w.heap.size) (hr : RdVs w B (FFunc.c ⟨z0, z1, z2, z3, z4, z5⟩) us) :
    Calls Tryz.prog 38 #[.agg us.toArray] w fun e w' => ∃ A c, e = .returned (.tuple #[.slice A (htQ z5 z3.length).length c, .bool (htB z5 z3.length)]) ∧ OwnI w' w.heap.size w'.heap.size [.s 3 1 (htQ z5 z3.length).length (FInt.flat (htQ z5 z3.length))] [.slice A (htQ z5 z3.length).length c] ∧ Below w.heap.size w w' :=
  (HeightsOf_impl isIns_impl z0 z1 z2 z3 z4 z5 us w hl hl3 hok hB0 hr).mono fun e w' ⟨A, c, h1, h2, h3⟩ => ⟨A, c, by rw [htQ_len]; exact h1, own_table h2 h3.size, h3⟩
theorem Heights_spec (z0 : ByteArray) (z1 : List FParam) (z2 : List FParam) (z3 : List FStr) (z4 : Bool) (z5 : List FIns) (us : List Value) (w : World) (hl : z5.length ≤ 1000000000) (hl3 : z3.length ≤ 1000000000) (hok : ∀ x, x ∈ z5 → x.ok) {B : Nat} (hB0 : B ≤ w.heap.size) (hr : RdVs w B (FFunc.c ⟨z0, z1, z2, z3, z4, z5⟩) us) :
    Calls Tryz.prog 30 #[.agg us.toArray] w fun e w' => ∃ A c, e = .returned (.tuple #[.slice A (htQ z5 z3.length).length c, .bool (htB z5 z3.length)]) ∧ OwnI w' w.heap.size w'.heap.size [.s 3 1 (htQ z5 z3.length).length (FInt.flat (htQ z5 z3.length))] [.slice A (htQ z5 z3.length).length c] ∧ Below w.heap.size w w' :=
  (HeightsOf_spec isIns_spec z0 z1 z2 z3 z4 z5 us w hl hl3 hok hB0 hr).mono fun e w' ⟨A, c, h1, h2, h3⟩ => ⟨A, c, by rw [htQ_len]; exact h1, own_table h2 h3.size, h3⟩
end Go.Proofs.YtdmbhmhfjappcaaGreatDoor
