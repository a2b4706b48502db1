/-
  Parts of the proof: IsInsS4. Conditions: none.
-/
import Derived.Test.YtdmbhmhfjappcaaGreatDoorQIsIns0
import Derived.BigGuardPart
namespace Go.Proofs.YtdmbhmhfjappcaaGreatDoor
open Go.ChangeShapes Go.WideShapes Go.ChangeAt Go.RowKit Go.Deep Go.Joins
open Go.ChangeMaps (open_string shut_string)
set_option linter.unusedVariables false
set_option linter.unusedSimpArgs false
set_option maxHeartbeats 40000000 in
set_option maxRecDepth 100000 in
theorem isIns_spec_out (op a b : Int) (s t : ByteArray) (slots size : Int) (w : World) (hs : s.size ≤ 9223372036854775807) (ht : t.size ≤ 9223372036854775807) (hop : op < 1 ∨ 56 < op) :
    Calls Tryz.prog 52 #[insV op a b s t, .int .i64 slots, .int .i64 size] w fun e w' => e = .returned (.bool (insF op a b s t slots size)) ∧ Below w.heap.size w w' := by
  have hin : inB op 1 56 = false := inB_f (by omega)
  rcases hop with hop | hop
  all_goals
    go_enter Tryz.func52, Tryz.ntmps52
    go_wp2_with (first | (go_at_call 15; refine (good_spec _ _ (by omega)).mono ?_; rintro e w1 ⟨rfl, hb1⟩; obtain ⟨hc1, hf1⟩ := bcell hb1; have hz1 := hb1.size; simp at hz1) | (go_at_call 28; refine (l1In_any _ _ _ _).mono ?_; rintro e w1 ⟨rfl, rfl⟩) | go_in)
    all_goals
      go_ret
      refine ⟨ret_bool ?_, ?_⟩
      · first
          | (simp_all [insF, aOK, bOK, textOK, textK, tOK, slotB, htF, inB]; done)
          | (simp_all [insF, aOK, bOK, textOK, textK, tOK, slotB, htF, inB]; omega)
      · first
          | exact (Below.refl _ _).alloc (Nat.le_refl _) _
          | exact ((Below.refl _ _).alloc (Nat.le_refl _) _).alloc (by simp) _
          | exact (((Below.refl _ _).alloc (Nat.le_refl _) _).alloc (by simp) _).alloc (by simp; omega) _
          | exact ((Below.refl _ _).alloc (Nat.le_refl _) _).trans (hb1.mono (by simp))
          | exact (((Below.refl _ _).alloc (Nat.le_refl _) _).trans (by assumption)).trans (hb1.mono (by simp; omega))
set_option maxHeartbeats 40000000 in
set_option maxRecDepth 100000 in
theorem isIns_spec_25 (op a b : Int) (s t : ByteArray) (slots size : Int) (w : World) (hs : s.size ≤ 9223372036854775807) (ht : t.size ≤ 9223372036854775807) (hop : op = 25) :
    Calls Tryz.prog 52 #[insV op a b s t, .int .i64 slots, .int .i64 size] w fun e w' => e = .returned (.bool (insF op a b s t slots size)) ∧ Below w.heap.size w w' := by
  subst hop
  have tok1 : True := trivial
  go_enter Tryz.func52, Tryz.ntmps52
  go_wp2_with (first | (go_at_call 15; have _t := tok1; refine (good_spec _ _ (by omega)).mono ?_; rintro e w1 ⟨rfl, hb1⟩; obtain ⟨hc1, hf1⟩ := bcell hb1; have hz1 := hb1.size; simp at hz1; clear tok1) | (go_at_call 15; refine (good_spec _ _ (by omega)).mono ?_; rintro e w2 ⟨rfl, hb2⟩; have hb3 := hb2.mono (show w.heap.size + 1 ≤ w1.heap.size by omega); obtain ⟨hc2, hf2⟩ := bcell hb3; clear hb2) | go_in)
  all_goals
    go_ret
    refine ⟨ret_bool ?_, ?_⟩
    · first
        | (simp_all [insF, aOK, bOK, textOK, textK, tOK, slotB, htF, inB]; done)
        | (simp_all [insF, aOK, bOK, textOK, textK, tOK, slotB, htF, inB]; omega)
    · exact (((Below.refl _ _).alloc (Nat.le_refl _) _).trans (hb1.mono (by simp))).trans (hb3.mono (by omega))
end Go.Proofs.YtdmbhmhfjappcaaGreatDoor
