/-
 Parts of the proof: IsJ5, IsJ6. Conditions: none.
-/
import Derived.Test.YtkkjnfappndmpaaGreatDoorQFold
import Derived.Test.YtkkjnfappndmpaaGreatDoorQaa
import Derived.Test.YtkkjnfappndmpaaGreatDoorQah
set_option linter.unusedVariables false
set_option linter.unusedSimpArgs false
namespace Go.Proofs.YtkkjnfappndmpaaGreatDoor
set_option maxHeartbeats 40000000
open Lib (hid)
open Go.ChangeShapes Go.WideShapes Go.ChangeAt Go.RowKit Go.Deep Go.Joins
open Go.ChangeMaps (open_string shut_string)
set_option maxRecDepth 100000
def TgI (x : FNode) : Prop := ∀ (us : List Value) (w : World) (B : Nat), MaxAt w → B ≤ w.heap.size → RdVs w B x.c us → Calls Tryz.prog 111 #[.agg us.toArray] w fun e w' => e = .returned (.bool (tgN x && exF x)) ∧ Below w.heap.size w w'
theorem tg_and (x : FNode) : (tgW x && exF x) = (tgN x && exF x) := by
 cases h : exF x with
 | false => rw [Bool.and_false, Bool.and_false]
 | true => rw [tg_eq x h]
theorem tgI_of (x : FNode) (hw : x.wt ≤ 9000000000) (hE : ExI x) : TgI x := by
 intro us w B hmx hB0 hr
 have HQ := hid (tg_and x)
 have HV := hid hE
 have HT := hid (isT_impl x hw)
 obtain ⟨z0, z1, z2, z3⟩ := x
 obtain ⟨A3, c3, rfl, r3⟩ := hr.node
 rw [FNode.wt_eq] at hw
 have hl : z3.length ≤ 9223372036854775807 := qaa
 have HR := hid r3
 have HB := hbA w z0 z1 z2 (.slice A3 z3.length c3)
 clear hr r3 hw hE
 have CALL := hid (HT.out [.int .i64 z0, .int .i64 z1, .string z2, .slice A3 z3.length c3] _ w.heap.size HB.out.size (ndV ((HR.out.up hB0).below HB.out nr)))
 cases ht : tgW ⟨z0, z1, z2, z3⟩ with
 | false =>
  rw [ht] at CALL HQ
  go_enter Tryz.func111, Tryz.ntmps111
  go_wp2_with (go_at_call 134; refine CALL.out.mono ?_; rintro e w3 ⟨rfl, hb3⟩)
  go_ret
  exact ⟨ret_bool HQ.out, HB.out.trans (hb3.mono HB.out.size)⟩
 | true =>
  rw [ht] at CALL HQ
  go_enter Tryz.func111, Tryz.ntmps111
  go_wp2_with (first | (go_at_call 134; refine CALL.out.mono ?_; rintro e w3 ⟨rfl, hb3⟩; have HB3 := hid (HB.out.trans (hb3.mono HB.out.size)); have ⟨bx_0, bx_1, bx_2, bx_3⟩ := box4 hb3) | (go_at_call 106; refine (HV.out [.int .i64 z0, .int .i64 z1, .string z2, .slice A3 z3.length c3] _ w.heap.size (hmx.below HB3.out) HB3.out.size (ndV ((HR.out.up hB0).below HB3.out nr))).mono ?_; rintro e w4 ⟨rfl, hb4⟩))
  all_goals (go_ret; exact ⟨ret_bool (by rw [← HQ.out]; simp), HB3.out.trans (hb4.mono HB3.out.size)⟩)
theorem stI_41 (z1 : Int) (z2 : ByteArray) (z3 : List FNode) (hw : (FNode.mk 41 z1 z2 z3).wt ≤ 9000000000) (hE : ∀ x, x ∈ z3 → TgI x) : StI (.mk 41 z1 z2 z3) := by
 intro us w B hmx hB0 hr
 obtain ⟨A3, c3, rfl, r3⟩ := hr.node
 rw [FNode.wt_eq] at hw
 have hz : z2.size ≤ 9223372036854775807 := qaa
 have hl : z3.length ≤ 9223372036854775807 := qaa
 have EX := hid (show stF ⟨41, z1, z2, z3⟩ = (((z1 == 0) && emT z2) && (z3.length == 1 && (hdT z3 && z3.all exF))) from by rw [stF_mk]; rfl)
 obtain ⟨m, hm⟩ : ∃ m, z3.length = m := ⟨_, rfl⟩
 try rw [hm] at EX
 rw [hm] at hl r3  ⊢
 have HB := hbA w 41 z1 z2 (.slice A3 m c3)
 clear hr
 have HR := hid r3
 clear r3
 by_cases e2 : z1 = 0
 ·subst e2
  by_cases e1 : m = 1
  ·subst e1
   obtain ⟨⟨y0, y1, y2, y3⟩, rfl⟩ := List.length_eq_one_iff.mp hm
   have HV := hid (hE ⟨y0, y1, y2, y3⟩ (List.mem_singleton.mpr rfl))
   obtain ⟨bcy, offcy, Ey, hblcy, hcc⟩ := RdC.at_ (l := [FNode.mk y0 y1 y2 y3]) FNode.len HR.out (i := 0) (x := FNode.mk y0 y1 y2 y3) rfl
   obtain ⟨Dy, dy, cy_0, cy_1, cy_2, cy_3, q3⟩ := opN HB.out qaa hcc (offcy) (offcy + 1) (offcy + 2) (offcy + 3) qaa
   have Qy := hid q3
   clear hcc q3
   subst Ey
   have CALL := hid (HV.out [.int .i64 y0, .int .i64 y1, .string y2, .slice Dy y3.length dy] _ w.heap.size (hmx.below HB.out) HB.out.size (ndV ((Qy.out.up hB0).below HB.out nr)))
   clear hm hw hE
   rw [show (hdT [FNode.mk y0 y1 y2 y3] && [FNode.mk y0 y1 y2 y3].all exF) = (tgN ⟨y0, y1, y2, y3⟩ && exF ⟨y0, y1, y2, y3⟩) from by simp [hdT]] at EX
   go_enter Tryz.func70, Tryz.ntmps70
   go_wp2_with (first | (go_at_call 111; refine CALL.out.mono ?_; rintro e w' ⟨rfl, hb3⟩))
   all_goals exact zz22
  ·clear hm hw hE
   exact zz215
 ·clear hm hw hE
  exact zz215
end Go.Proofs.YtkkjnfappndmpaaGreatDoor
