/-
 Parts of the proof: IsI2, IsI4. Conditions: none.
-/
import Derived.Test.YtkkjnfappndmpaaGreatDoorQFold
import Derived.Test.YtkkjnfappndmpaaGreatDoorQaa
import Derived.Test.YtkkjnfappndmpaaGreatDoorQag
set_option linter.unusedVariables false
set_option linter.unusedSimpArgs false
namespace Go.Proofs.YtkkjnfappndmpaaGreatDoor
open Lib (hid)
open Go.ChangeShapes Go.WideShapes Go.ChangeAt Go.RowKit Go.Deep Go.Joins
open Go.ChangeMaps (open_string shut_string)
set_option maxRecDepth 100000
theorem exI_10 (z1 : Int) (z2 : ByteArray) (z3 : List FNode) (hw : (FNode.mk 10 z1 z2 z3).wt ≤ 9000000000) (hA : AlI z3) : ExI (.mk 10 z1 z2 z3) := by
 intro us w B hmx hB0 hr
 obtain ⟨A3, c3, rfl, r3⟩ := hr.node
 rw [FNode.wt_eq] at hw
 have hz : z2.size ≤ 9223372036854775807 := qaa
 have hl : z3.length ≤ 9223372036854775807 := qaa
 have EX := hid (show exF ⟨10, z1, z2, z3⟩ = ((inB z1 1 15 && emT z2) && (z3.length == 2 && z3.all exF)) from by rw [exF_mk]; rfl)
 unfold AlI at hA
 obtain ⟨m, hm⟩ : ∃ m, z3.length = m := ⟨_, rfl⟩
 try rw [hm] at EX
 rw [hm] at hl r3 hA ⊢
 have HB := hbA w 10 z1 z2 (.slice A3 m c3)
 have CALL := hid (hA _ _ w.heap.size (hmx.below HB.out) HB.out.size ((r3.up hB0).below HB.out nr))
 clear hm hr r3 hw hA
 by_cases e1 : m = 2
 ·subst e1
  go_enter Tryz.func106, Tryz.ntmps106
  exact zz207
 ·
  go_enter Tryz.func106, Tryz.ntmps106
  exact zz207
theorem exI_11 (z1 : Int) (z2 : ByteArray) (z3 : List FNode) (hw : (FNode.mk 11 z1 z2 z3).wt ≤ 9000000000) (hA : AlI z3) : ExI (.mk 11 z1 z2 z3) := by
 have EX := hid (show exF ⟨11, z1, z2, z3⟩ = (((z1 == 0) && emT z2) && (z3.length == 2 && z3.all exF)) from by rw [exF_mk]; rfl)
 have Hf (w : World) u := hbA w 11 z1 z2 u
 exact zz167
theorem exI_12 (z1 : Int) (z2 : ByteArray) (z3 : List FNode) (hw : (FNode.mk 12 z1 z2 z3).wt ≤ 9000000000) (hA : AlI z3) : ExI (.mk 12 z1 z2 z3) := by
 have EX := hid (show exF ⟨12, z1, z2, z3⟩ = (((z1 == 0) && emT z2) && (z3.length == 2 && z3.all exF)) from by rw [exF_mk]; rfl)
 have Hf (w : World) u := hbA w 12 z1 z2 u
 exact zz167
theorem exI_13 (z1 : Int) (z2 : ByteArray) (z3 : List FNode) (hw : (FNode.mk 13 z1 z2 z3).wt ≤ 9000000000) (hA : AlI z3) : ExI (.mk 13 z1 z2 z3) := by
 have EX := hid (show exF ⟨13, z1, z2, z3⟩ = (((z1 == 0) && emT z2) && (z3.length == 2 && z3.all exF)) from by rw [exF_mk]; rfl)
 have Hf (w : World) u := hbA w 13 z1 z2 u
 exact zz167
set_option maxHeartbeats 40000000
theorem exI_4 (z1 : Int) (z2 : ByteArray) (z3 : List FNode) (hw : (FNode.mk 4 z1 z2 z3).wt ≤ 9000000000) : ExI (.mk 4 z1 z2 z3) := by
 intro us w B hmx hB0 hr
 have HV := hid (var_impl _ hw)
 obtain ⟨A3, c3, rfl, r3⟩ := hr.node
 rw [FNode.wt_eq] at hw
 have hl : z3.length ≤ 9223372036854775807 := qaa
 have EX := hid (show exF ⟨4, z1, z2, z3⟩ = varF ⟨4, z1, z2, z3⟩ from varF_ex ⟨4, z1, z2, z3⟩)
 have HB := hbA w 4 z1 z2 (.slice A3 z3.length c3)
 have CALL := hid (HV.out [.int .i64 4, .int .i64 z1, .string z2, .slice A3 z3.length c3] _ w.heap.size (ndV ((r3.up hB0).below HB.out nr)))
 clear hr r3 hw HV
 go_enter Tryz.func106, Tryz.ntmps106
 go_wp2_with (first | (go_at_call 109; refine CALL.out.mono ?_; rintro e w' ⟨rfl, hb3⟩))
 all_goals (go_ret; exact ⟨ret_bool (by rw [EX.out]), HB.out.trans (Below.mono qad HB.out.size)⟩)
theorem exI_9 (z1 : Int) (z2 : ByteArray) (z3 : List FNode) (hw : (FNode.mk 9 z1 z2 z3).wt ≤ 9000000000) (hA : AlI z3) : ExI (.mk 9 z1 z2 z3) := by
 intro us w B hmx hB0 hr
 obtain ⟨A3, c3, rfl, r3⟩ := hr.node
 rw [FNode.wt_eq] at hw
 have hz : z2.size ≤ 9223372036854775807 := qaa
 have hl : z3.length ≤ 9223372036854775807 := qaa
 have EX := hid (show exF ⟨9, z1, z2, z3⟩ = ((inB z1 1 2 && emT z2) && (z3.length == 1 && z3.all exF)) from by rw [exF_mk]; rfl)
 unfold AlI at hA
 obtain ⟨m, hm⟩ : ∃ m, z3.length = m := ⟨_, rfl⟩
 try rw [hm] at EX
 rw [hm] at hl r3 hA ⊢
 have HB := hbA w 9 z1 z2 (.slice A3 m c3)
 have CALL := hid (hA _ _ w.heap.size (hmx.below HB.out) HB.out.size ((r3.up hB0).below HB.out nr))
 clear hm hr r3 hw hA
 by_cases e9 : z1 = 1
 ·subst e9
  have hin : inB 1 1 2 = true := by decide
  by_cases e1 : m = 1
  ·subst e1
   exact zz184
  exact zz179
 ·by_cases e8 : z1 = 2
  ·subst e8
   have hin : inB 2 1 2 = true := by decide
   by_cases e1 : m = 1
   ·subst e1
    exact zz184
   exact zz179
  ·have hin : inB z1 1 2 = false := inB_f qaa
   exact zz184
theorem exI_17 (z1 : Int) (z2 : ByteArray) (z3 : List FNode) (hw : (FNode.mk 17 z1 z2 z3).wt ≤ 9000000000) : ExI (.mk 17 z1 z2 z3) := by
 intro us w B hmx hB0 hr
 obtain ⟨A3, c3, rfl, r3⟩ := hr.node
 rw [FNode.wt_eq] at hw
 have hz : z2.size ≤ 9223372036854775807 := qaa
 have hl : z3.length ≤ 9223372036854775807 := qaa
 have EX := hid (show exF ⟨17, z1, z2, z3⟩ = (((z1 == 0) && goodF z2) && (z3.length == 1 && (hd4 z3 && z3.all exF))) from by rw [exF_mk]; rfl)
 obtain ⟨m, hm⟩ : ∃ m, z3.length = m := ⟨_, rfl⟩
 try rw [hm] at EX
 rw [hm] at hl r3  ⊢
 have HB := hbA w 17 z1 z2 (.slice A3 m c3)
 clear hr
 have HR := hid r3
 clear r3
 by_cases e2 : z1 = 0
 ·subst e2
  by_cases e1 : m = 1
  ·subst e1
   obtain ⟨⟨y0, y1, y2, y3⟩, rfl⟩ := List.length_eq_one_iff.mp hm
   have hy : (FNode.mk y0 y1 y2 y3).wt ≤ 9000000000 := by have := FNode.wts_at [FNode.mk y0 y1 y2 y3] _ (List.mem_singleton.mpr rfl); omega
   have HV := hid (varF_ex ⟨y0, y1, y2, y3⟩)
   obtain ⟨bcy, offcy, Ey, hblcy, hcc⟩ := RdC.at_ (l := [FNode.mk y0 y1 y2 y3]) FNode.len HR.out (i := 0) (x := FNode.mk y0 y1 y2 y3) rfl
   obtain ⟨Dy, dy, cy_0, cy_1, cy_2, cy_3, q3⟩ := opN HB.out qaa hcc (offcy) (offcy + 1) (offcy + 2) (offcy + 3) qaa
   have Qy := hid q3
   clear hcc q3
   subst Ey
   have CALL := hid (var_impl _ hy [.int .i64 y0, .int .i64 y1, .string y2, .slice Dy y3.length dy] _ w.heap.size (ndV ((Qy.out.up hB0).below HB.out nr)))
   clear hm hw hy
   rw [show (hd4 [FNode.mk y0 y1 y2 y3] && [FNode.mk y0 y1 y2 y3].all exF) = varF ⟨y0, y1, y2, y3⟩ from by rw [← HV.out]; simp [hd4, FNode.kd]] at EX
   go_enter Tryz.func106, Tryz.ntmps106
   go_wp2_with (first | (go_at_call 104; refine zkp (good_impl _ _ hz) ?_) | (go_at_call 109; refine CALL.out.mono ?_; rintro e w' ⟨rfl, hb3⟩))
   all_goals exact zz22
  ·clear hm hw
   go_enter Tryz.func106, Tryz.ntmps106
   exact zz189
 ·clear hm hw
  go_enter Tryz.func106, Tryz.ntmps106
  exact zz189
end Go.Proofs.YtkkjnfappndmpaaGreatDoor
