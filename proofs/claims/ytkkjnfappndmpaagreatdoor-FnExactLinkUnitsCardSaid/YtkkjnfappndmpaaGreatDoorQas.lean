/-
 Parts of the proof: IsI1, IsI3. Conditions: none.
-/
import Derived.Test.YtkkjnfappndmpaaGreatDoorQFold
import Derived.Test.YtkkjnfappndmpaaGreatDoorQaa
import Derived.Test.YtkkjnfappndmpaaGreatDoorQag
set_option linter.unusedVariables false
set_option linter.unusedSimpArgs false
namespace Go.Proofs.YtkkjnfappndmpaaGreatDoor
open Lib (hid)
open Go.ChangeShapes Go.WideShapes Go.ChangeAt Go.RowKit Go.Deep Go.Joins
open Go.ChangeMaps (open_string shut_string)
set_option maxRecDepth 100000
theorem exI_1 (z1 : Int) (z2 : ByteArray) (z3 : List FNode) (hw : (FNode.mk 1 z1 z2 z3).wt ≤ 9000000000) : ExI (.mk 1 z1 z2 z3) := by
 have EX := hid (show exF ⟨1, z1, z2, z3⟩ = ((inB z1 0 1000000000 && emT z2) && (z3.length == 0)) from by rw [exF_mk]; rfl)
 have Hf (w : World) u := hbA w 1 z1 z2 u
 exact zz178
theorem exI_2 (z1 : Int) (z2 : ByteArray) (z3 : List FNode) (hw : (FNode.mk 2 z1 z2 z3).wt ≤ 9000000000) : ExI (.mk 2 z1 z2 z3) := by
 intro us w B hmx hB0 hr
 obtain ⟨A3, c3, rfl, r3⟩ := hr.node
 rw [FNode.wt_eq] at hw
 have hz : z2.size ≤ 9223372036854775807 := qaa
 have hl : z3.length ≤ 9223372036854775807 := qaa
 have EX := hid (show exF ⟨2, z1, z2, z3⟩ = (((z1 == 0) && decide (z2.size ≤ 400)) && (z3.length == 0)) from by rw [exF_mk]; rfl)
 obtain ⟨m, hm⟩ : ∃ m, z3.length = m := ⟨_, rfl⟩
 try rw [hm] at EX
 rw [hm] at hl r3  ⊢
 have HB := hbA w 2 z1 z2 (.slice A3 m c3)
 clear hm hr r3 hw
 by_cases e2 : z1 = 0
 ·subst e2
  by_cases e1 : m = 0
  ·subst e1
   go_enter Tryz.func106, Tryz.ntmps106
   exact zz176
  ·
   go_enter Tryz.func106, Tryz.ntmps106
   exact zz176
 ·
  go_enter Tryz.func106, Tryz.ntmps106
  exact zz176
theorem exI_3 (z1 : Int) (z2 : ByteArray) (z3 : List FNode) (hw : (FNode.mk 3 z1 z2 z3).wt ≤ 9000000000) : ExI (.mk 3 z1 z2 z3) := by
 have EX := hid (show exF ⟨3, z1, z2, z3⟩ = ((inB z1 0 2 && emT z2) && (z3.length == 0)) from by rw [exF_mk]; rfl)
 have Hf (w : World) u := hbA w 3 z1 z2 u
 exact zz178
theorem exI_7 (z1 : Int) (z2 : ByteArray) (z3 : List FNode) (hw : (FNode.mk 7 z1 z2 z3).wt ≤ 9000000000) (hA : AlI z3) : ExI (.mk 7 z1 z2 z3) := by
 have EX := hid (show exF ⟨7, z1, z2, z3⟩ = (((z1 == 0) && emT z2) && (z3.length == 2 && z3.all exF)) from by rw [exF_mk]; rfl)
 have Hf (w : World) u := hbA w 7 z1 z2 u
 exact zz167
theorem exI_8 (z1 : Int) (z2 : ByteArray) (z3 : List FNode) (hw : (FNode.mk 8 z1 z2 z3).wt ≤ 9000000000) (hA : AlI z3) : ExI (.mk 8 z1 z2 z3) := by
 intro us w B hmx hB0 hr
 obtain ⟨A3, c3, rfl, r3⟩ := hr.node
 rw [FNode.wt_eq] at hw
 have hz : z2.size ≤ 9223372036854775807 := qaa
 have hl : z3.length ≤ 9223372036854775807 := qaa
 have EX := hid (show exF ⟨8, z1, z2, z3⟩ = (((z1 == 0) && goodF z2) && (z3.length == 1 && z3.all exF)) from by rw [exF_mk]; rfl)
 unfold AlI at hA
 obtain ⟨m, hm⟩ : ∃ m, z3.length = m := ⟨_, rfl⟩
 try rw [hm] at EX
 rw [hm] at hl r3 hA ⊢
 have HB := hbA w 8 z1 z2 (.slice A3 m c3)
 have CALL := hid (hA _ _ w.heap.size (hmx.below HB.out) HB.out.size ((r3.up hB0).below HB.out nr))
 clear hm hr r3 hw hA
 by_cases e2 : z1 = 0
 ·subst e2
  by_cases e1 : m = 1
  ·subst e1
   go_enter Tryz.func106, Tryz.ntmps106
   exact zz170
  ·
   go_enter Tryz.func106, Tryz.ntmps106
   exact zz170
 ·
  go_enter Tryz.func106, Tryz.ntmps106
  exact zz170
theorem exI_14 (z1 : Int) (z2 : ByteArray) (z3 : List FNode) (hw : (FNode.mk 14 z1 z2 z3).wt ≤ 9000000000) (hA : AlI z3) : ExI (.mk 14 z1 z2 z3) := by
 intro us w B hmx hB0 hr
 obtain ⟨A3, c3, rfl, r3⟩ := hr.node
 rw [FNode.wt_eq] at hw
 have hz : z2.size ≤ 9223372036854775807 := qaa
 have hl : z3.length ≤ 9223372036854775807 := qaa
 have EX := hid (show exF ⟨14, z1, z2, z3⟩ = (((z1 == 0) && emT z2) && (z3.length == 3 && z3.all exF)) from by rw [exF_mk]; rfl)
 unfold AlI at hA
 obtain ⟨m, hm⟩ : ∃ m, z3.length = m := ⟨_, rfl⟩
 try rw [hm] at EX
 rw [hm] at hl r3 hA ⊢
 have HB := hbA w 14 z1 z2 (.slice A3 m c3)
 have CALL := hid (hA _ _ w.heap.size (hmx.below HB.out) HB.out.size ((r3.up hB0).below HB.out nr))
 clear hm hr r3 hw hA
 by_cases e2 : z1 = 0
 ·subst e2
  by_cases e1 : m = 3
  ·subst e1
   exact zz184
  exact zz179
 exact zz179
theorem exI_18 (z1 : Int) (z2 : ByteArray) (z3 : List FNode) (hw : (FNode.mk 18 z1 z2 z3).wt ≤ 9000000000) (hA : AlI z3) : ExI (.mk 18 z1 z2 z3) := by
 intro us w B hmx hB0 hr
 obtain ⟨A3, c3, rfl, r3⟩ := hr.node
 rw [FNode.wt_eq] at hw
 have hz : z2.size ≤ 9223372036854775807 := qaa
 have hl : z3.length ≤ 9223372036854775807 := qaa
 have EX := hid (show exF ⟨18, z1, z2, z3⟩ = (((z1 == 0) && goodF z2) && z3.all exF) from by rw [exF_mk]; rfl)
 unfold AlI at hA
 obtain ⟨m, hm⟩ : ∃ m, z3.length = m := ⟨_, rfl⟩
 try rw [hm] at EX
 rw [hm] at hl r3 hA ⊢
 have HB := hbA w 18 z1 z2 (.slice A3 m c3)
 exact zz214
theorem exI_19 (z1 : Int) (z2 : ByteArray) (z3 : List FNode) (hw : (FNode.mk 19 z1 z2 z3).wt ≤ 9000000000) (hA : AlI z3) : ExI (.mk 19 z1 z2 z3) := by
 intro us w B hmx hB0 hr
 obtain ⟨A3, c3, rfl, r3⟩ := hr.node
 rw [FNode.wt_eq] at hw
 have hz : z2.size ≤ 9223372036854775807 := qaa
 have hl : z3.length ≤ 9223372036854775807 := qaa
 have EX := hid (show exF ⟨19, z1, z2, z3⟩ = (((z1 == 0) && emT z2) && (decide (1 ≤ z3.length) && z3.all exF)) from by rw [exF_mk]; rfl)
 unfold AlI at hA
 obtain ⟨m, hm⟩ : ∃ m, z3.length = m := ⟨_, rfl⟩
 try rw [hm] at EX
 rw [hm] at hl r3 hA ⊢
 have HB := hbA w 19 z1 z2 (.slice A3 m c3)
 have CALL := hid (hA _ _ w.heap.size (hmx.below HB.out) HB.out.size ((r3.up hB0).below HB.out nr))
 clear hm hr r3 hw hA
 by_cases e1 : z1 = 0
 ·subst e1
  exact zz184
 exact zz179
theorem exI_20 (z1 : Int) (z2 : ByteArray) (z3 : List FNode) (hw : (FNode.mk 20 z1 z2 z3).wt ≤ 9000000000) (hA : AlI z3) : ExI (.mk 20 z1 z2 z3) := by
 intro us w B hmx hB0 hr
 obtain ⟨A3, c3, rfl, r3⟩ := hr.node
 rw [FNode.wt_eq] at hw
 have hz : z2.size ≤ 9223372036854775807 := qaa
 have hl : z3.length ≤ 9223372036854775807 := qaa
 have EX := hid (show exF ⟨20, z1, z2, z3⟩ = (((z1 == 0) && goodF z2) && (decide (1 ≤ z3.length) && z3.all exF)) from by rw [exF_mk]; rfl)
 unfold AlI at hA
 obtain ⟨m, hm⟩ : ∃ m, z3.length = m := ⟨_, rfl⟩
 try rw [hm] at EX
 rw [hm] at hl r3 hA ⊢
 have HB := hbA w 20 z1 z2 (.slice A3 m c3)
 exact zz214
theorem exI_22 (z1 : Int) (z2 : ByteArray) (z3 : List FNode) (hw : (FNode.mk 22 z1 z2 z3).wt ≤ 9000000000) (hA : AlI z3) : ExI (.mk 22 z1 z2 z3) := by
 intro us w B hmx hB0 hr
 obtain ⟨A3, c3, rfl, r3⟩ := hr.node
 rw [FNode.wt_eq] at hw
 have hz : z2.size ≤ 9223372036854775807 := qaa
 have hl : z3.length ≤ 9223372036854775807 := qaa
 have EX := hid (show exF ⟨22, z1, z2, z3⟩ = (((z1 == 0) && (goodF z2 || z2.toList == statL)) && z3.all exF) from by rw [exF_mk]; rfl)
 unfold AlI at hA
 obtain ⟨m, hm⟩ : ∃ m, z3.length = m := ⟨_, rfl⟩
 try rw [hm] at EX
 rw [hm] at hl r3 hA ⊢
 have HB := hbA w 22 z1 z2 (.slice A3 m c3)
 exact zz214
end Go.Proofs.YtkkjnfappndmpaaGreatDoor
