/-
  Parts of the proof: IsInsS0. Conditions: none.
-/
import Derived.Test.YtdmbhmhfjappcaaGreatDoorQIsIns0
import Derived.BigGuardPart
namespace Go.Proofs.YtdmbhmhfjappcaaGreatDoor
open Go.ChangeShapes Go.WideShapes Go.ChangeAt Go.RowKit Go.Deep Go.Joins
open Go.ChangeMaps (open_string shut_string)
set_option linter.unusedVariables false
set_option linter.unusedSimpArgs false
set_option maxHeartbeats 40000000 in
set_option maxRecDepth 100000 in
theorem isIns_spec_c0 (op a b : Int) (s t : ByteArray) (slots size : Int) (w : World) (hs : s.size ≤ 9223372036854775807) (ht : t.size ≤ 9223372036854775807) (hop : op = 1 ∨ op = 2 ∨ op = 3 ∨ op = 4 ∨ op = 5 ∨ op = 6 ∨ op = 7) :
    Calls Tryz.prog 52 #[insV op a b s t, .int .i64 slots, .int .i64 size] w fun e w' => e = .returned (.bool (insF op a b s t slots size)) ∧ Below w.heap.size w w' := by
  rcases hop with rfl | rfl | rfl | rfl | rfl | rfl | rfl
  all_goals
    go_enter Tryz.func52, Tryz.ntmps52
    go_wp2_with (first | (go_at_call 15; refine (good_spec _ _ (by omega)).mono ?_; rintro e w1 ⟨rfl, hb1⟩; obtain ⟨hc1, hf1⟩ := bcell hb1; have hz1 := hb1.size; simp at hz1) | go_in)
    all_goals
      go_ret
      refine ⟨ret_bool ?_, ?_⟩
      · first
          | (simp_all [insF, aOK, bOK, textOK, textK, tOK, slotB, htF, inB]; done)
          | (simp_all [insF, aOK, bOK, textOK, textK, tOK, slotB, htF, inB]; omega)
      · first
          | exact (Below.refl _ _).alloc (Nat.le_refl _) _
          | exact ((Below.refl _ _).alloc (Nat.le_refl _) _).alloc (by simp) _
          | exact (((Below.refl _ _).alloc (Nat.le_refl _) _).alloc (by simp) _).alloc (by simp; omega) _
          | exact ((Below.refl _ _).alloc (Nat.le_refl _) _).trans (hb1.mono (by simp))
          | exact (((Below.refl _ _).alloc (Nat.le_refl _) _).trans (by assumption)).trans (hb1.mono (by simp; omega))
set_option maxHeartbeats 40000000 in
set_option maxRecDepth 100000 in
theorem isIns_spec_c4 (op a b : Int) (s t : ByteArray) (slots size : Int) (w : World) (hs : s.size ≤ 9223372036854775807) (ht : t.size ≤ 9223372036854775807) (hop : op = 29 ∨ op = 30 ∨ op = 31 ∨ op = 32 ∨ op = 33 ∨ op = 34 ∨ op = 35) :
    Calls Tryz.prog 52 #[insV op a b s t, .int .i64 slots, .int .i64 size] w fun e w' => e = .returned (.bool (insF op a b s t slots size)) ∧ Below w.heap.size w w' := by
  rcases hop with rfl | rfl | rfl | rfl | rfl | rfl | rfl
  all_goals
    go_enter Tryz.func52, Tryz.ntmps52
    go_wp2_with (first | (go_at_call 15; refine (good_spec _ _ (by omega)).mono ?_; rintro e w1 ⟨rfl, hb1⟩; obtain ⟨hc1, hf1⟩ := bcell hb1; have hz1 := hb1.size; simp at hz1) | go_in)
    all_goals
      go_ret
      refine ⟨ret_bool ?_, ?_⟩
      · first
          | (simp_all [insF, aOK, bOK, textOK, textK, tOK, slotB, htF, inB]; done)
          | (simp_all [insF, aOK, bOK, textOK, textK, tOK, slotB, htF, inB]; omega)
      · first
          | exact (Below.refl _ _).alloc (Nat.le_refl _) _
          | exact ((Below.refl _ _).alloc (Nat.le_refl _) _).alloc (by simp) _
          | exact (((Below.refl _ _).alloc (Nat.le_refl _) _).alloc (by simp) _).alloc (by simp; omega) _
          | exact ((Below.refl _ _).alloc (Nat.le_refl _) _).trans (hb1.mono (by simp))
          | exact (((Below.refl _ _).alloc (Nat.le_refl _) _).trans (by assumption)).trans (hb1.mono (by simp; omega))
end Go.Proofs.YtdmbhmhfjappcaaGreatDoor
