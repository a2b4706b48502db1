/-
 Parts of the proof: IsS5, IsS6, IsS7. Conditions: none.
-/
import Derived.Test.YtkkjnfappndmpaaGreatDoorQFold
import Derived.Test.YtkkjnfappndmpaaGreatDoorQaa
import Derived.Test.YtkkjnfappndmpaaGreatDoorQau
import Derived.Test.YtkkjnfappndmpaaGreatDoorQam
set_option linter.unusedVariables false
set_option linter.unusedSimpArgs false
namespace Go.Proofs.YtkkjnfappndmpaaGreatDoor
open Lib (hid)
open Go.ChangeShapes Go.WideShapes Go.ChangeAt Go.RowKit Go.Deep Go.Joins
open Go.ChangeMaps (open_string shut_string)
set_option maxRecDepth 100000
theorem exS_1 (z1 : Int) (z2 : ByteArray) (z3 : List FNode) (hw : (FNode.mk 1 z1 z2 z3).wt ≤ 9000000000) (hn : fN 1 z1 = true) (ht : fT 1 z2 = true) : SaB 88 (FNode.mk 1 z1 z2 z3) (z3.length == 0) := by
 have Hf (w : World) u := hbA w 1 z1 z2 u
 exact zz168
theorem exS_2 (z1 : Int) (z2 : ByteArray) (z3 : List FNode) (hw : (FNode.mk 2 z1 z2 z3).wt ≤ 9000000000) (hn : fN 2 z1 = true) (ht : fT 2 z2 = true) : SaB 88 (FNode.mk 2 z1 z2 z3) (z3.length == 0) := by
 have Hf (w : World) u := hbA w 2 z1 z2 u
 exact zz168
theorem exS_3 (z1 : Int) (z2 : ByteArray) (z3 : List FNode) (hw : (FNode.mk 3 z1 z2 z3).wt ≤ 9000000000) (hn : fN 3 z1 = true) (ht : fT 3 z2 = true) : SaB 88 (FNode.mk 3 z1 z2 z3) (z3.length == 0) := by
 have Hf (w : World) u := hbA w 3 z1 z2 u
 exact zz168
theorem exS_4 (z1 : Int) (z2 : ByteArray) (z3 : List FNode) (hw : (FNode.mk 4 z1 z2 z3).wt ≤ 9000000000) (hn : fN 4 z1 = true) (ht : fT 4 z2 = true) : SaB 88 (FNode.mk 4 z1 z2 z3) (z3.length == 0) := by
 have Hf (w : World) u := hbA w 4 z1 z2 u
 exact zz168
theorem exS_7 (z1 : Int) (z2 : ByteArray) (z3 : List FNode) (hw : (FNode.mk 7 z1 z2 z3).wt ≤ 9000000000) (hn : fN 7 z1 = true) (ht : fT 7 z2 = true) (hA : EaS z3) : SaB 88 (FNode.mk 7 z1 z2 z3) (z3.length == 2 && z3.all exF) := by
 have Hf (w : World) u := hbA w 7 z1 z2 u
 exact zz164
theorem exS_10 (z1 : Int) (z2 : ByteArray) (z3 : List FNode) (hw : (FNode.mk 10 z1 z2 z3).wt ≤ 9000000000) (hn : fN 10 z1 = true) (ht : fT 10 z2 = true) (hA : EaS z3) : SaB 88 (FNode.mk 10 z1 z2 z3) (z3.length == 2 && z3.all exF) := by
 have Hf (w : World) u := hbA w 10 z1 z2 u
 exact zz164
theorem exS_11 (z1 : Int) (z2 : ByteArray) (z3 : List FNode) (hw : (FNode.mk 11 z1 z2 z3).wt ≤ 9000000000) (hn : fN 11 z1 = true) (ht : fT 11 z2 = true) (hA : EaS z3) : SaB 88 (FNode.mk 11 z1 z2 z3) (z3.length == 2 && z3.all exF) := by
 have Hf (w : World) u := hbA w 11 z1 z2 u
 exact zz164
theorem exS_12 (z1 : Int) (z2 : ByteArray) (z3 : List FNode) (hw : (FNode.mk 12 z1 z2 z3).wt ≤ 9000000000) (hn : fN 12 z1 = true) (ht : fT 12 z2 = true) (hA : EaS z3) : SaB 88 (FNode.mk 12 z1 z2 z3) (z3.length == 2 && z3.all exF) := by
 have Hf (w : World) u := hbA w 12 z1 z2 u
 exact zz164
theorem exS_13 (z1 : Int) (z2 : ByteArray) (z3 : List FNode) (hw : (FNode.mk 13 z1 z2 z3).wt ≤ 9000000000) (hn : fN 13 z1 = true) (ht : fT 13 z2 = true) (hA : EaS z3) : SaB 88 (FNode.mk 13 z1 z2 z3) (z3.length == 2 && z3.all exF) := by
 have Hf (w : World) u := hbA w 13 z1 z2 u
 exact zz164
theorem exS_14 (z1 : Int) (z2 : ByteArray) (z3 : List FNode) (hw : (FNode.mk 14 z1 z2 z3).wt ≤ 9000000000) (hn : fN 14 z1 = true) (ht : fT 14 z2 = true) (hA : EaS z3) : SaB 88 (FNode.mk 14 z1 z2 z3) (z3.length == 3 && z3.all exF) := by
 intro us w B hB0 hr
 have FD := fd_spec _ hw
 obtain ⟨A3, c3, rfl, r3⟩ := hr.node
 rw [FNode.wt_eq] at hw
 have hz : z2.size ≤ 9223372036854775807 := qaa
 have hl : z3.length ≤ 9000000000 := qaa
 have FDC := fdC FD hn ht hB0 r3
 clear FD
 have hpos3 := r3
 obtain ⟨m, hm⟩ : ∃ m, z3.length = m := ⟨_, rfl⟩
 try rw [hm] at hl r3 FDC ⊢
 have HR := hid r3
 have HB := hbA w 14 z1 z2 (.slice A3 m c3)
 clear hr r3 hpos3
 unfold EaS at hA
 rw [hm] at hA
 have HA := hid hA
 clear hA
 clear hm hw
 by_cases e1 : m = 3
 ·subst e1
  go_enter Tryz.func88, Tryz.ntmps88
  exact zz3
 ·
  go_enter Tryz.func88, Tryz.ntmps88
  exact zz0
theorem exS_18 (z1 : Int) (z2 : ByteArray) (z3 : List FNode) (hw : (FNode.mk 18 z1 z2 z3).wt ≤ 9000000000) (hn : fN 18 z1 = true) (ht : fT 18 z2 = true) (hA : EaS z3) : SaB 88 (FNode.mk 18 z1 z2 z3) (z3.all exF) := by
 have Hf (w : World) u := hbA w 18 z1 z2 u
 exact zz173
theorem exS_21 (z1 : Int) (z2 : ByteArray) (z3 : List FNode) (hw : (FNode.mk 21 z1 z2 z3).wt ≤ 9000000000) (hn : fN 21 z1 = true) (ht : fT 21 z2 = true) (hA : EaS z3) : SaB 88 (FNode.mk 21 z1 z2 z3) (z3.all exF) := by
 have Hf (w : World) u := hbA w 21 z1 z2 u
 exact zz173
theorem exS_22 (z1 : Int) (z2 : ByteArray) (z3 : List FNode) (hw : (FNode.mk 22 z1 z2 z3).wt ≤ 9000000000) (hn : fN 22 z1 = true) (ht : fT 22 z2 = true) (hA : EaS z3) : SaB 88 (FNode.mk 22 z1 z2 z3) (z3.all exF) := by
 have Hf (w : World) u := hbA w 22 z1 z2 u
 exact zz173
theorem exS_19 (z1 : Int) (z2 : ByteArray) (z3 : List FNode) (hw : (FNode.mk 19 z1 z2 z3).wt ≤ 9000000000) (hn : fN 19 z1 = true) (ht : fT 19 z2 = true) (hA : EaS z3) : SaB 88 (FNode.mk 19 z1 z2 z3) (decide (1 ≤ z3.length) && z3.all exF) := by
 have Hf (w : World) u := hbA w 19 z1 z2 u
 exact zz177
theorem exS_20 (z1 : Int) (z2 : ByteArray) (z3 : List FNode) (hw : (FNode.mk 20 z1 z2 z3).wt ≤ 9000000000) (hn : fN 20 z1 = true) (ht : fT 20 z2 = true) (hA : EaS z3) : SaB 88 (FNode.mk 20 z1 z2 z3) (decide (1 ≤ z3.length) && z3.all exF) := by
 have Hf (w : World) u := hbA w 20 z1 z2 u
 exact zz177
theorem exS_8 (z1 : Int) (z2 : ByteArray) (z3 : List FNode) (hw : (FNode.mk 8 z1 z2 z3).wt ≤ 9000000000) (hn : fN 8 z1 = true) (ht : fT 8 z2 = true) (hE : ∀ x, x ∈ z3 → ExS x) : SaB 88 (FNode.mk 8 z1 z2 z3) (z3.length == 1 && z3.all exF) := by
 have Hf (w : World) u := hbA w 8 z1 z2 u
 exact zz212
theorem exS_9 (z1 : Int) (z2 : ByteArray) (z3 : List FNode) (hw : (FNode.mk 9 z1 z2 z3).wt ≤ 9000000000) (hn : fN 9 z1 = true) (ht : fT 9 z2 = true) (hE : ∀ x, x ∈ z3 → ExS x) : SaB 88 (FNode.mk 9 z1 z2 z3) (z3.length == 1 && z3.all exF) := by
 have Hf (w : World) u := hbA w 9 z1 z2 u
 exact zz212
set_option maxHeartbeats 40000000
theorem exS_15 (z1 : Int) (z2 : ByteArray) (z3 : List FNode) (hw : (FNode.mk 15 z1 z2 z3).wt ≤ 9000000000) (hn : fN 15 z1 = true) (ht : fT 15 z2 = true) (hA : EaS z3) : SaB 88 (FNode.mk 15 z1 z2 z3) (z3.length == 2 && (hdT z3 && z3.all exF)) := by
 have Hf (w : World) u := hbA w 15 z1 z2 u
 exact zz162
theorem exS_16 (z1 : Int) (z2 : ByteArray) (z3 : List FNode) (hw : (FNode.mk 16 z1 z2 z3).wt ≤ 9000000000) (hn : fN 16 z1 = true) (ht : fT 16 z2 = true) (hA : EaS z3) : SaB 88 (FNode.mk 16 z1 z2 z3) (z3.length == 2 && (hdT z3 && z3.all exF)) := by
 have Hf (w : World) u := hbA w 16 z1 z2 u
 exact zz162
theorem exS_17 (z1 : Int) (z2 : ByteArray) (z3 : List FNode) (hw : (FNode.mk 17 z1 z2 z3).wt ≤ 9000000000) (hn : fN 17 z1 = true) (ht : fT 17 z2 = true) (hE : ∀ x, x ∈ z3 → ExS x) : SaB 88 (FNode.mk 17 z1 z2 z3) (z3.length == 1 && (hd4 z3 && z3.all exF)) := by
 intro us w B hB0 hr
 have FD := fd_spec _ hw
 obtain ⟨A3, c3, rfl, r3⟩ := hr.node
 rw [FNode.wt_eq] at hw
 have hz : z2.size ≤ 9223372036854775807 := qaa
 have hl : z3.length ≤ 9000000000 := qaa
 have FDC := fdC FD hn ht hB0 r3
 clear FD
 have hpos3 := r3
 obtain ⟨m, hm⟩ : ∃ m, z3.length = m := ⟨_, rfl⟩
 try rw [hm] at hl r3 FDC ⊢
 have HR := hid r3
 have HB := hbA w 17 z1 z2 (.slice A3 m c3)
 clear hr r3 hpos3
 by_cases e1 : m = 1
 ·subst e1
  obtain ⟨⟨y0, y1, y2, y3⟩, rfl⟩ := List.length_eq_one_iff.mp hm
  have HV := hid (hE ⟨y0, y1, y2, y3⟩ (List.mem_singleton.mpr rfl))
  obtain ⟨bcy, offcy, Ey, hblcy, hcc⟩ := RdC.at_ (l := [FNode.mk y0 y1 y2 y3]) FNode.len HR.out (i := 0) (x := FNode.mk y0 y1 y2 y3) rfl
  obtain ⟨Dy, dy, cy_0, cy_1, cy_2, cy_3, q3⟩ := opN (Below.refl w.heap.size w) qaa hcc (offcy) (offcy + 1) (offcy + 2) (offcy + 3) qaa
  have Qy := hid q3
  clear hcc q3
  have hbl : bcy < w.heap.size := Nat.lt_of_lt_of_le hblcy hB0
  subst Ey
  clear hm hw hE
  rw [show (hd4 [FNode.mk y0 y1 y2 y3] && [FNode.mk y0 y1 y2 y3].all exF) = (y0 == 4 && exF ⟨y0, y1, y2, y3⟩) from by simp [hd4, FNode.kd]]
  unfold ExS at HV
  generalize exF ⟨y0, y1, y2, y3⟩ = b at *
  by_cases e4 : y0 = 4
  ·subst e4
   go_enter Tryz.func88, Tryz.ntmps88
   go_wp2_with (first | (go_at_call 53; refine FDC.out.mono ?_; rintro e w3 ⟨rfl, hb3⟩; have HB3 := hid (HB.out.trans (hb3.mono HB.out.size)); have ⟨bx_w3_0, bx_w3_1, bx_w3_2, bx_w3_3⟩ := box4 hb3; have sz_w3 := szA hb3; have ⟨k_w3_y0, k_w3_y1, k_w3_y2, k_w3_y3⟩ := cell4 HB3.out hbl cy_0 cy_1 cy_2 cy_3) | (go_at_call 88; refine (HV.out [.int .i64 4, .int .i64 y1, .string y2, .slice Dy y3.length dy] _ w.heap.size HB3.out.size (ndV ((Qy.out.up hB0).below HB3.out nr))).mono ?_; rintro e w4 ⟨rfl, hb_w4⟩; have HB4 := hid (HB3.out.trans (hb_w4.mono HB3.out.size))))
   all_goals exact zz12
  ·
   go_enter Tryz.func88, Tryz.ntmps88
   go_wp2_with (first | (go_at_call 53; refine FDC.out.mono ?_; rintro e w3 ⟨rfl, hb3⟩; have HB3 := hid (HB.out.trans (hb3.mono HB.out.size)); have ⟨bx_w3_0, bx_w3_1, bx_w3_2, bx_w3_3⟩ := box4 hb3; have sz_w3 := szA hb3; have ⟨k_w3_y0, k_w3_y1, k_w3_y2, k_w3_y3⟩ := cell4 HB3.out hbl cy_0 cy_1 cy_2 cy_3))
   all_goals exact zz12
 ·clear hm hw hE
  go_enter Tryz.func88, Tryz.ntmps88
  exact zz0
theorem exS_23 (z1 : Int) (z2 : ByteArray) (z3 : List FNode) (hw : (FNode.mk 23 z1 z2 z3).wt ≤ 9000000000) (hn : fN 23 z1 = true) (ht : fT 23 z2 = true) (hU : UsS true z3) : SaB 88 (FNode.mk 23 z1 z2 z3) (usF true z3) := by
 intro us w B hB0 hr
 have FD := fd_spec _ hw
 obtain ⟨A3, c3, rfl, r3⟩ := hr.node
 rw [FNode.wt_eq] at hw
 have hz : z2.size ≤ 9223372036854775807 := qaa
 have hl : z3.length ≤ 9000000000 := qaa
 have FDC := fdC FD hn ht hB0 r3
 clear FD
 have hpos3 := r3
 obtain ⟨m, hm⟩ : ∃ m, z3.length = m := ⟨_, rfl⟩
 try rw [hm] at hl r3 FDC ⊢
 have HR := hid r3
 have HB := hbA w 23 z1 z2 (.slice A3 m c3)
 clear hr r3 hpos3
 unfold UsS at hU
 rw [hm] at hU
 have HU := hid hU
 clear hm hw hU
 go_enter Tryz.func88, Tryz.ntmps88
 go_wp2_with (first | (go_at_call 53; refine FDC.out.mono ?_; rintro e w3 ⟨rfl, hb3⟩; have HB3 := hid (HB.out.trans (hb3.mono HB.out.size)); have ⟨bx_w3_0, bx_w3_1, bx_w3_2, bx_w3_3⟩ := box4 hb3; have sz_w3 := szA hb3) | (go_at_call 55; refine (HU.out _ _ w.heap.size HB3.out.size ((HR.out.up hB0).below HB3.out nr)).mono ?_; rintro e w4 ⟨rfl, hb4⟩; have HB4 := hid (HB3.out.trans (hb4.mono HB3.out.size))))
 all_goals exact zz12
end Go.Proofs.YtkkjnfappndmpaaGreatDoor
