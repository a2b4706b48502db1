/-
  Parts of the proof: IsS6, IsS7. Conditions: none.
-/
import Derived.Test.YtimiieckkdogeaaGreatQGBaseNd
import Derived.Test.YtimiieckkdogeaaGreatQIsS4
import Derived.Test.YtimiieckkdogeaaGreatQIsI5
set_option linter.unusedVariables false
set_option linter.unusedSimpArgs false
namespace Go.Proofs.YtimiieckkdogeaaGreat
open Lib (hid)
open Go.ChangeShapes Go.WideShapes Go.ChangeAt Go.RowKit Go.Deep Go.Joins
open Go.ChangeMaps (open_string shut_string)
set_option maxRecDepth 100000
theorem exS_18 (z1 : Int) (z2 : ByteArray) (z3 : List FNode) (hw : (FNode.mk 18 z1 z2 z3).wt ≤ 9000000000) (hn : fN 18 z1 = true) (ht : fT 18 z2 = true) (hA : EaS z3) : SaB 76 (FNode.mk 18 z1 z2 z3) (z3.all exF) := by
  intro us w B hB0 hr
  have FD := fd_spec _ hw
  obtain ⟨A3, c3, rfl, r3⟩ := hr.node
  rw [FNode.wt_eq] at hw
  have hz : z2.size ≤ 9223372036854775807 := by omega
  have hl : z3.length ≤ 9000000000 := by omega
  have FDC := fdC FD hn ht hB0 r3
  clear FD
  have hpos3 := r3
  obtain ⟨m, hm⟩ : ∃ m, z3.length = m := ⟨_, rfl⟩
  try rw [hm] at hl r3 FDC ⊢
  have HR := hid r3
  have HB := hbA w 18 z1 z2 (.slice A3 m c3)
  clear hr r3 hpos3
  unfold EaS at hA
  rw [hm] at hA
  have HA := hid hA
  clear hA
  clear hm hw
  go_enter Tryz.func76, Tryz.ntmps76
  go_wp2_with (first | (go_at_call 43; refine FDC.out.mono ?_; rintro e w3 ⟨rfl, hb3⟩; have HB3 := hid (HB.out.trans (hb3.mono HB.out.size)); have ⟨bx_w3_0, bx_w3_1, bx_w3_2, bx_w3_3⟩ := box4 hb3; have sz_w3 := szA hb3) | (go_at_call 77; refine (HA.out _ _ w.heap.size HB3.out.size ((HR.out.up hB0).below HB3.out (Nat.le_refl _))).mono ?_; rintro e w4 ⟨rfl, hbe⟩; have HB4 := hid (HB3.out.trans (hbe.mono HB3.out.size))))
  all_goals (first | (go_ret; exact ⟨ret_bool (by exact fZ), Hid.out (by assumption)⟩))
theorem exS_21 (z1 : Int) (z2 : ByteArray) (z3 : List FNode) (hw : (FNode.mk 21 z1 z2 z3).wt ≤ 9000000000) (hn : fN 21 z1 = true) (ht : fT 21 z2 = true) (hA : EaS z3) : SaB 76 (FNode.mk 21 z1 z2 z3) (z3.all exF) := by
  intro us w B hB0 hr
  have FD := fd_spec _ hw
  obtain ⟨A3, c3, rfl, r3⟩ := hr.node
  rw [FNode.wt_eq] at hw
  have hz : z2.size ≤ 9223372036854775807 := by omega
  have hl : z3.length ≤ 9000000000 := by omega
  have FDC := fdC FD hn ht hB0 r3
  clear FD
  have hpos3 := r3
  obtain ⟨m, hm⟩ : ∃ m, z3.length = m := ⟨_, rfl⟩
  try rw [hm] at hl r3 FDC ⊢
  have HR := hid r3
  have HB := hbA w 21 z1 z2 (.slice A3 m c3)
  clear hr r3 hpos3
  unfold EaS at hA
  rw [hm] at hA
  have HA := hid hA
  clear hA
  clear hm hw
  go_enter Tryz.func76, Tryz.ntmps76
  go_wp2_with (first | (go_at_call 43; refine FDC.out.mono ?_; rintro e w3 ⟨rfl, hb3⟩; have HB3 := hid (HB.out.trans (hb3.mono HB.out.size)); have ⟨bx_w3_0, bx_w3_1, bx_w3_2, bx_w3_3⟩ := box4 hb3; have sz_w3 := szA hb3) | (go_at_call 77; refine (HA.out _ _ w.heap.size HB3.out.size ((HR.out.up hB0).below HB3.out (Nat.le_refl _))).mono ?_; rintro e w4 ⟨rfl, hbe⟩; have HB4 := hid (HB3.out.trans (hbe.mono HB3.out.size))))
  all_goals (first | (go_ret; exact ⟨ret_bool (by exact fZ), Hid.out (by assumption)⟩))
theorem exS_22 (z1 : Int) (z2 : ByteArray) (z3 : List FNode) (hw : (FNode.mk 22 z1 z2 z3).wt ≤ 9000000000) (hn : fN 22 z1 = true) (ht : fT 22 z2 = true) (hA : EaS z3) : SaB 76 (FNode.mk 22 z1 z2 z3) (z3.all exF) := by
  intro us w B hB0 hr
  have FD := fd_spec _ hw
  obtain ⟨A3, c3, rfl, r3⟩ := hr.node
  rw [FNode.wt_eq] at hw
  have hz : z2.size ≤ 9223372036854775807 := by omega
  have hl : z3.length ≤ 9000000000 := by omega
  have FDC := fdC FD hn ht hB0 r3
  clear FD
  have hpos3 := r3
  obtain ⟨m, hm⟩ : ∃ m, z3.length = m := ⟨_, rfl⟩
  try rw [hm] at hl r3 FDC ⊢
  have HR := hid r3
  have HB := hbA w 22 z1 z2 (.slice A3 m c3)
  clear hr r3 hpos3
  unfold EaS at hA
  rw [hm] at hA
  have HA := hid hA
  clear hA
  clear hm hw
  go_enter Tryz.func76, Tryz.ntmps76
  go_wp2_with (first | (go_at_call 43; refine FDC.out.mono ?_; rintro e w3 ⟨rfl, hb3⟩; have HB3 := hid (HB.out.trans (hb3.mono HB.out.size)); have ⟨bx_w3_0, bx_w3_1, bx_w3_2, bx_w3_3⟩ := box4 hb3; have sz_w3 := szA hb3) | (go_at_call 77; refine (HA.out _ _ w.heap.size HB3.out.size ((HR.out.up hB0).below HB3.out (Nat.le_refl _))).mono ?_; rintro e w4 ⟨rfl, hbe⟩; have HB4 := hid (HB3.out.trans (hbe.mono HB3.out.size))))
  all_goals (first | (go_ret; exact ⟨ret_bool (by exact fZ), Hid.out (by assumption)⟩))
theorem exS_19 (z1 : Int) (z2 : ByteArray) (z3 : List FNode) (hw : (FNode.mk 19 z1 z2 z3).wt ≤ 9000000000) (hn : fN 19 z1 = true) (ht : fT 19 z2 = true) (hA : EaS z3) : SaB 76 (FNode.mk 19 z1 z2 z3) (decide (1 ≤ z3.length) && z3.all exF) := by
  intro us w B hB0 hr
  have FD := fd_spec _ hw
  obtain ⟨A3, c3, rfl, r3⟩ := hr.node
  rw [FNode.wt_eq] at hw
  have hz : z2.size ≤ 9223372036854775807 := by omega
  have hl : z3.length ≤ 9000000000 := by omega
  have FDC := fdC FD hn ht hB0 r3
  clear FD
  have hpos3 := r3
  obtain ⟨m, hm⟩ : ∃ m, z3.length = m := ⟨_, rfl⟩
  try rw [hm] at hl r3 FDC ⊢
  have HR := hid r3
  have HB := hbA w 19 z1 z2 (.slice A3 m c3)
  clear hr r3 hpos3
  unfold EaS at hA
  rw [hm] at hA
  have HA := hid hA
  clear hA
  clear hm hw
  by_cases e1 : 1 ≤ m
  · rw [show decide (1 ≤ m) = true from decide_eq_true e1]
    go_enter Tryz.func76, Tryz.ntmps76
    go_wp2_with (first | (go_at_call 43; refine FDC.out.mono ?_; rintro e w3 ⟨rfl, hb3⟩; have HB3 := hid (HB.out.trans (hb3.mono HB.out.size)); have ⟨bx_w3_0, bx_w3_1, bx_w3_2, bx_w3_3⟩ := box4 hb3; have sz_w3 := szA hb3) | (go_at_call 77; refine (HA.out _ _ w.heap.size HB3.out.size ((HR.out.up hB0).below HB3.out (Nat.le_refl _))).mono ?_; rintro e w4 ⟨rfl, hbe⟩; have HB4 := hid (HB3.out.trans (hbe.mono HB3.out.size))))
    all_goals (first | (go_ret; exact ⟨ret_bool (by exact fZ), Hid.out (by assumption)⟩))
  · rw [show decide (1 ≤ m) = false from decide_eq_false e1]
    go_enter Tryz.func76, Tryz.ntmps76
    go_wp2_with ((go_at_call 43; refine FDC.out.mono ?_; rintro e w3 ⟨rfl, hb3⟩; have HB3 := hid (HB.out.trans (hb3.mono HB.out.size)); have ⟨bx_w3_0, bx_w3_1, bx_w3_2, bx_w3_3⟩ := box4 hb3; have sz_w3 := szA hb3))
    all_goals (first | (go_ret; exact ⟨ret_bool (by exact fZ), Hid.out (by assumption)⟩))
theorem exS_20 (z1 : Int) (z2 : ByteArray) (z3 : List FNode) (hw : (FNode.mk 20 z1 z2 z3).wt ≤ 9000000000) (hn : fN 20 z1 = true) (ht : fT 20 z2 = true) (hA : EaS z3) : SaB 76 (FNode.mk 20 z1 z2 z3) (decide (1 ≤ z3.length) && z3.all exF) := by
  intro us w B hB0 hr
  have FD := fd_spec _ hw
  obtain ⟨A3, c3, rfl, r3⟩ := hr.node
  rw [FNode.wt_eq] at hw
  have hz : z2.size ≤ 9223372036854775807 := by omega
  have hl : z3.length ≤ 9000000000 := by omega
  have FDC := fdC FD hn ht hB0 r3
  clear FD
  have hpos3 := r3
  obtain ⟨m, hm⟩ : ∃ m, z3.length = m := ⟨_, rfl⟩
  try rw [hm] at hl r3 FDC ⊢
  have HR := hid r3
  have HB := hbA w 20 z1 z2 (.slice A3 m c3)
  clear hr r3 hpos3
  unfold EaS at hA
  rw [hm] at hA
  have HA := hid hA
  clear hA
  clear hm hw
  by_cases e1 : 1 ≤ m
  · rw [show decide (1 ≤ m) = true from decide_eq_true e1]
    go_enter Tryz.func76, Tryz.ntmps76
    go_wp2_with (first | (go_at_call 43; refine FDC.out.mono ?_; rintro e w3 ⟨rfl, hb3⟩; have HB3 := hid (HB.out.trans (hb3.mono HB.out.size)); have ⟨bx_w3_0, bx_w3_1, bx_w3_2, bx_w3_3⟩ := box4 hb3; have sz_w3 := szA hb3) | (go_at_call 77; refine (HA.out _ _ w.heap.size HB3.out.size ((HR.out.up hB0).below HB3.out (Nat.le_refl _))).mono ?_; rintro e w4 ⟨rfl, hbe⟩; have HB4 := hid (HB3.out.trans (hbe.mono HB3.out.size))))
    all_goals (first | (go_ret; exact ⟨ret_bool (by exact fZ), Hid.out (by assumption)⟩))
  · rw [show decide (1 ≤ m) = false from decide_eq_false e1]
    go_enter Tryz.func76, Tryz.ntmps76
    go_wp2_with ((go_at_call 43; refine FDC.out.mono ?_; rintro e w3 ⟨rfl, hb3⟩; have HB3 := hid (HB.out.trans (hb3.mono HB.out.size)); have ⟨bx_w3_0, bx_w3_1, bx_w3_2, bx_w3_3⟩ := box4 hb3; have sz_w3 := szA hb3))
    all_goals (first | (go_ret; exact ⟨ret_bool (by exact fZ), Hid.out (by assumption)⟩))
theorem exS_8 (z1 : Int) (z2 : ByteArray) (z3 : List FNode) (hw : (FNode.mk 8 z1 z2 z3).wt ≤ 9000000000) (hn : fN 8 z1 = true) (ht : fT 8 z2 = true) (hE : ∀ x, x ∈ z3 → ExS x) : SaB 76 (FNode.mk 8 z1 z2 z3) (z3.length == 1 && z3.all exF) := by
  intro us w B hB0 hr
  have FD := fd_spec _ hw
  obtain ⟨A3, c3, rfl, r3⟩ := hr.node
  rw [FNode.wt_eq] at hw
  have hz : z2.size ≤ 9223372036854775807 := by omega
  have hl : z3.length ≤ 9000000000 := by omega
  have FDC := fdC FD hn ht hB0 r3
  clear FD
  have hpos3 := r3
  obtain ⟨m, hm⟩ : ∃ m, z3.length = m := ⟨_, rfl⟩
  try rw [hm] at hl r3 FDC ⊢
  have HR := hid r3
  have HB := hbA w 8 z1 z2 (.slice A3 m c3)
  clear hr r3 hpos3
  by_cases e1 : m = 1
  · subst e1
    obtain ⟨⟨y0, y1, y2, y3⟩, rfl⟩ := List.length_eq_one_iff.mp hm
    have HV := hid (hE ⟨y0, y1, y2, y3⟩ (List.mem_singleton.mpr rfl))
    obtain ⟨bcy, offcy, Ey, hblcy, hcc⟩ := RdC.at_ (l := [FNode.mk y0 y1 y2 y3]) FNode.len HR.out (i := 0) (x := FNode.mk y0 y1 y2 y3) rfl
    obtain ⟨Dy, dy, cy_0, cy_1, cy_2, cy_3, q3⟩ := opN (Below.refl w.heap.size w) (by omega) hcc (offcy) (offcy + 1) (offcy + 2) (offcy + 3) (by omega)
    have Qy := hid q3
    clear hcc q3
    have hbl : bcy < w.heap.size := Nat.lt_of_lt_of_le hblcy hB0
    subst Ey
    clear hm hw hE
    rw [show [FNode.mk y0 y1 y2 y3].all exF = exF ⟨y0, y1, y2, y3⟩ from by simp]
    unfold ExS at HV
    generalize exF ⟨y0, y1, y2, y3⟩ = b at *
    go_enter Tryz.func76, Tryz.ntmps76
    go_wp2_with (first | (go_at_call 43; refine FDC.out.mono ?_; rintro e w3 ⟨rfl, hb3⟩; have HB3 := hid (HB.out.trans (hb3.mono HB.out.size)); have ⟨bx_w3_0, bx_w3_1, bx_w3_2, bx_w3_3⟩ := box4 hb3; have sz_w3 := szA hb3; have ⟨_, _, _, _⟩ := cell4 HB3.out hbl cy_0 cy_1 cy_2 cy_3) | (go_at_call 76; refine (HV.out [.int .i64 y0, .int .i64 y1, .string y2, .slice Dy y3.length dy] _ w.heap.size HB3.out.size (ndV ((Qy.out.up hB0).below HB3.out (Nat.le_refl _)))).mono ?_; rintro e w4 ⟨rfl, hb_w4⟩; have HB4 := hid (HB3.out.trans (hb_w4.mono HB3.out.size))))
    all_goals (first | (go_ret; exact ⟨ret_bool (by exact fZ), Hid.out (by assumption)⟩))
  · clear hm hw hE
    go_enter Tryz.func76, Tryz.ntmps76
    go_wp2_with ((go_at_call 43; refine FDC.out.mono ?_; rintro e w3 ⟨rfl, hb3⟩; have HB3 := hid (HB.out.trans (hb3.mono HB.out.size)); have ⟨bx_w3_0, bx_w3_1, bx_w3_2, bx_w3_3⟩ := box4 hb3; have sz_w3 := szA hb3))
    all_goals (first | (go_ret; exact ⟨ret_bool (by exact fZ), Hid.out (by assumption)⟩))
theorem exS_9 (z1 : Int) (z2 : ByteArray) (z3 : List FNode) (hw : (FNode.mk 9 z1 z2 z3).wt ≤ 9000000000) (hn : fN 9 z1 = true) (ht : fT 9 z2 = true) (hE : ∀ x, x ∈ z3 → ExS x) : SaB 76 (FNode.mk 9 z1 z2 z3) (z3.length == 1 && z3.all exF) := by
  intro us w B hB0 hr
  have FD := fd_spec _ hw
  obtain ⟨A3, c3, rfl, r3⟩ := hr.node
  rw [FNode.wt_eq] at hw
  have hz : z2.size ≤ 9223372036854775807 := by omega
  have hl : z3.length ≤ 9000000000 := by omega
  have FDC := fdC FD hn ht hB0 r3
  clear FD
  have hpos3 := r3
  obtain ⟨m, hm⟩ : ∃ m, z3.length = m := ⟨_, rfl⟩
  try rw [hm] at hl r3 FDC ⊢
  have HR := hid r3
  have HB := hbA w 9 z1 z2 (.slice A3 m c3)
  clear hr r3 hpos3
  by_cases e1 : m = 1
  · subst e1
    obtain ⟨⟨y0, y1, y2, y3⟩, rfl⟩ := List.length_eq_one_iff.mp hm
    have HV := hid (hE ⟨y0, y1, y2, y3⟩ (List.mem_singleton.mpr rfl))
    obtain ⟨bcy, offcy, Ey, hblcy, hcc⟩ := RdC.at_ (l := [FNode.mk y0 y1 y2 y3]) FNode.len HR.out (i := 0) (x := FNode.mk y0 y1 y2 y3) rfl
    obtain ⟨Dy, dy, cy_0, cy_1, cy_2, cy_3, q3⟩ := opN (Below.refl w.heap.size w) (by omega) hcc (offcy) (offcy + 1) (offcy + 2) (offcy + 3) (by omega)
    have Qy := hid q3
    clear hcc q3
    have hbl : bcy < w.heap.size := Nat.lt_of_lt_of_le hblcy hB0
    subst Ey
    clear hm hw hE
    rw [show [FNode.mk y0 y1 y2 y3].all exF = exF ⟨y0, y1, y2, y3⟩ from by simp]
    unfold ExS at HV
    generalize exF ⟨y0, y1, y2, y3⟩ = b at *
    go_enter Tryz.func76, Tryz.ntmps76
    go_wp2_with (first | (go_at_call 43; refine FDC.out.mono ?_; rintro e w3 ⟨rfl, hb3⟩; have HB3 := hid (HB.out.trans (hb3.mono HB.out.size)); have ⟨bx_w3_0, bx_w3_1, bx_w3_2, bx_w3_3⟩ := box4 hb3; have sz_w3 := szA hb3; have ⟨_, _, _, _⟩ := cell4 HB3.out hbl cy_0 cy_1 cy_2 cy_3) | (go_at_call 76; refine (HV.out [.int .i64 y0, .int .i64 y1, .string y2, .slice Dy y3.length dy] _ w.heap.size HB3.out.size (ndV ((Qy.out.up hB0).below HB3.out (Nat.le_refl _)))).mono ?_; rintro e w4 ⟨rfl, hb_w4⟩; have HB4 := hid (HB3.out.trans (hb_w4.mono HB3.out.size))))
    all_goals (first | (go_ret; exact ⟨ret_bool (by exact fZ), Hid.out (by assumption)⟩))
  · clear hm hw hE
    go_enter Tryz.func76, Tryz.ntmps76
    go_wp2_with ((go_at_call 43; refine FDC.out.mono ?_; rintro e w3 ⟨rfl, hb3⟩; have HB3 := hid (HB.out.trans (hb3.mono HB.out.size)); have ⟨bx_w3_0, bx_w3_1, bx_w3_2, bx_w3_3⟩ := box4 hb3; have sz_w3 := szA hb3))
    all_goals (first | (go_ret; exact ⟨ret_bool (by exact fZ), Hid.out (by assumption)⟩))
end Go.Proofs.YtimiieckkdogeaaGreat
namespace Go.Proofs.YtimiieckkdogeaaGreat
set_option maxHeartbeats 40000000
open Lib (hid)
open Go.ChangeShapes Go.WideShapes Go.ChangeAt Go.RowKit Go.Deep Go.Joins
open Go.ChangeMaps (open_string shut_string)
set_option maxRecDepth 100000
theorem exS_15 (z1 : Int) (z2 : ByteArray) (z3 : List FNode) (hw : (FNode.mk 15 z1 z2 z3).wt ≤ 9000000000) (hn : fN 15 z1 = true) (ht : fT 15 z2 = true) (hA : EaS z3) : SaB 76 (FNode.mk 15 z1 z2 z3) (z3.length == 2 && (hdT z3 && z3.all exF)) := by
  intro us w B hB0 hr
  have FD := fd_spec _ hw
  obtain ⟨A3, c3, rfl, r3⟩ := hr.node
  rw [FNode.wt_eq] at hw
  have hz : z2.size ≤ 9223372036854775807 := by omega
  have hl : z3.length ≤ 9000000000 := by omega
  have FDC := fdC FD hn ht hB0 r3
  clear FD
  have hpos3 := r3
  obtain ⟨m, hm⟩ : ∃ m, z3.length = m := ⟨_, rfl⟩
  try rw [hm] at hl r3 FDC ⊢
  have HR := hid r3
  have HB := hbA w 15 z1 z2 (.slice A3 m c3)
  clear hr r3 hpos3
  unfold EaS at hA
  rw [hm] at hA
  have HA := hid hA
  clear hA
  by_cases e1 : m = 2
  · subst e1
    obtain ⟨⟨y0, y1, y2, y3⟩, yb, rfl⟩ := two_of hm
    have hy : (FNode.mk y0 y1 y2 y3).wt ≤ 9000000000 := by have := FNode.wts_at [FNode.mk y0 y1 y2 y3, yb] _ (List.mem_cons_self ..); omega
    obtain ⟨bcy, offcy, Ey, hblcy, hcc⟩ := RdC.at_ (l := [FNode.mk y0 y1 y2 y3, yb]) FNode.len HR.out (i := 0) (x := FNode.mk y0 y1 y2 y3) rfl
    obtain ⟨Dy, dy, cy_0, cy_1, cy_2, cy_3, q3⟩ := opN (Below.refl w.heap.size w) (by omega) hcc (offcy) (offcy + 1) (offcy + 2) (offcy + 3) (by omega)
    have Qy := hid q3
    clear hcc q3
    have hbl : bcy < w.heap.size := Nat.lt_of_lt_of_le hblcy hB0
    subst Ey
    clear hm hw
    rw [show hdT [FNode.mk y0 y1 y2 y3, yb] = tgN ⟨y0, y1, y2, y3⟩ from rfl]
    generalize [FNode.mk y0 y1 y2 y3, yb].all exF = ball at *
    cases hv : tgN ⟨y0, y1, y2, y3⟩ with
    | false =>
      have HT := hid hv
      go_enter Tryz.func76, Tryz.ntmps76
      go_wp2_with (first | (go_at_call 43; refine FDC.out.mono ?_; rintro e w3 ⟨rfl, hb3⟩; have HB3 := hid (HB.out.trans (hb3.mono HB.out.size)); have ⟨bx_w3_0, bx_w3_1, bx_w3_2, bx_w3_3⟩ := box4 hb3; have sz_w3 := szA hb3; have ⟨k_w3_y0, k_w3_y1, k_w3_y2, k_w3_y3⟩ := cell4 HB3.out hbl cy_0 cy_1 cy_2 cy_3) | (go_at_call 78; refine (tg_spec ⟨y0, y1, y2, y3⟩ hy [.int .i64 y0, .int .i64 y1, .string y2, .slice Dy y3.length dy] _ w.heap.size HB3.out.size (ndV ((Qy.out.up hB0).below HB3.out (Nat.le_refl _)))).mono ?_; rw [HT.out]; rintro e w4 ⟨rfl, hb4⟩; have HB4 := hid (HB3.out.trans (hb4.mono HB3.out.size)); have ⟨bx_w4_0, bx_w4_1, bx_w4_2, bx_w4_3⟩ := cell4 hb4 sz_w3 bx_w3_0 bx_w3_1 bx_w3_2 bx_w3_3; have sz_w4 := Nat.lt_of_lt_of_le sz_w3 hb4.size))
      all_goals (first | (go_ret; exact ⟨ret_bool (by exact fZ), Hid.out (by assumption)⟩))
    | true =>
      have HT := hid hv
      go_enter Tryz.func76, Tryz.ntmps76
      go_wp2_with (first | (go_at_call 43; refine FDC.out.mono ?_; rintro e w3 ⟨rfl, hb3⟩; have HB3 := hid (HB.out.trans (hb3.mono HB.out.size)); have ⟨bx_w3_0, bx_w3_1, bx_w3_2, bx_w3_3⟩ := box4 hb3; have sz_w3 := szA hb3; have ⟨k_w3_y0, k_w3_y1, k_w3_y2, k_w3_y3⟩ := cell4 HB3.out hbl cy_0 cy_1 cy_2 cy_3) | (go_at_call 78; refine (tg_spec ⟨y0, y1, y2, y3⟩ hy [.int .i64 y0, .int .i64 y1, .string y2, .slice Dy y3.length dy] _ w.heap.size HB3.out.size (ndV ((Qy.out.up hB0).below HB3.out (Nat.le_refl _)))).mono ?_; rw [HT.out]; rintro e w4 ⟨rfl, hb4⟩; have HB4 := hid (HB3.out.trans (hb4.mono HB3.out.size)); have ⟨bx_w4_0, bx_w4_1, bx_w4_2, bx_w4_3⟩ := cell4 hb4 sz_w3 bx_w3_0 bx_w3_1 bx_w3_2 bx_w3_3; have sz_w4 := Nat.lt_of_lt_of_le sz_w3 hb4.size) | (go_at_call 77; refine (HA.out _ _ w.heap.size HB4.out.size ((HR.out.up hB0).below HB4.out (Nat.le_refl _))).mono ?_; rintro e w5 ⟨rfl, hbe⟩; have HB5 := hid (HB4.out.trans (hbe.mono HB4.out.size))))
      all_goals (first | (go_ret; exact ⟨ret_bool (by exact fZ), Hid.out (by assumption)⟩))
  · clear hm hw
    go_enter Tryz.func76, Tryz.ntmps76
    go_wp2_with ((go_at_call 43; refine FDC.out.mono ?_; rintro e w3 ⟨rfl, hb3⟩; have HB3 := hid (HB.out.trans (hb3.mono HB.out.size)); have ⟨bx_w3_0, bx_w3_1, bx_w3_2, bx_w3_3⟩ := box4 hb3; have sz_w3 := szA hb3))
    all_goals (first | (go_ret; exact ⟨ret_bool (by exact fZ), Hid.out (by assumption)⟩))
theorem exS_16 (z1 : Int) (z2 : ByteArray) (z3 : List FNode) (hw : (FNode.mk 16 z1 z2 z3).wt ≤ 9000000000) (hn : fN 16 z1 = true) (ht : fT 16 z2 = true) (hA : EaS z3) : SaB 76 (FNode.mk 16 z1 z2 z3) (z3.length == 2 && (hdT z3 && z3.all exF)) := by
  intro us w B hB0 hr
  have FD := fd_spec _ hw
  obtain ⟨A3, c3, rfl, r3⟩ := hr.node
  rw [FNode.wt_eq] at hw
  have hz : z2.size ≤ 9223372036854775807 := by omega
  have hl : z3.length ≤ 9000000000 := by omega
  have FDC := fdC FD hn ht hB0 r3
  clear FD
  have hpos3 := r3
  obtain ⟨m, hm⟩ : ∃ m, z3.length = m := ⟨_, rfl⟩
  try rw [hm] at hl r3 FDC ⊢
  have HR := hid r3
  have HB := hbA w 16 z1 z2 (.slice A3 m c3)
  clear hr r3 hpos3
  unfold EaS at hA
  rw [hm] at hA
  have HA := hid hA
  clear hA
  by_cases e1 : m = 2
  · subst e1
    obtain ⟨⟨y0, y1, y2, y3⟩, yb, rfl⟩ := two_of hm
    have hy : (FNode.mk y0 y1 y2 y3).wt ≤ 9000000000 := by have := FNode.wts_at [FNode.mk y0 y1 y2 y3, yb] _ (List.mem_cons_self ..); omega
    obtain ⟨bcy, offcy, Ey, hblcy, hcc⟩ := RdC.at_ (l := [FNode.mk y0 y1 y2 y3, yb]) FNode.len HR.out (i := 0) (x := FNode.mk y0 y1 y2 y3) rfl
    obtain ⟨Dy, dy, cy_0, cy_1, cy_2, cy_3, q3⟩ := opN (Below.refl w.heap.size w) (by omega) hcc (offcy) (offcy + 1) (offcy + 2) (offcy + 3) (by omega)
    have Qy := hid q3
    clear hcc q3
    have hbl : bcy < w.heap.size := Nat.lt_of_lt_of_le hblcy hB0
    subst Ey
    clear hm hw
    rw [show hdT [FNode.mk y0 y1 y2 y3, yb] = tgN ⟨y0, y1, y2, y3⟩ from rfl]
    generalize [FNode.mk y0 y1 y2 y3, yb].all exF = ball at *
    cases hv : tgN ⟨y0, y1, y2, y3⟩ with
    | false =>
      have HT := hid hv
      go_enter Tryz.func76, Tryz.ntmps76
      go_wp2_with (first | (go_at_call 43; refine FDC.out.mono ?_; rintro e w3 ⟨rfl, hb3⟩; have HB3 := hid (HB.out.trans (hb3.mono HB.out.size)); have ⟨bx_w3_0, bx_w3_1, bx_w3_2, bx_w3_3⟩ := box4 hb3; have sz_w3 := szA hb3; have ⟨k_w3_y0, k_w3_y1, k_w3_y2, k_w3_y3⟩ := cell4 HB3.out hbl cy_0 cy_1 cy_2 cy_3) | (go_at_call 78; refine (tg_spec ⟨y0, y1, y2, y3⟩ hy [.int .i64 y0, .int .i64 y1, .string y2, .slice Dy y3.length dy] _ w.heap.size HB3.out.size (ndV ((Qy.out.up hB0).below HB3.out (Nat.le_refl _)))).mono ?_; rw [HT.out]; rintro e w4 ⟨rfl, hb4⟩; have HB4 := hid (HB3.out.trans (hb4.mono HB3.out.size)); have ⟨bx_w4_0, bx_w4_1, bx_w4_2, bx_w4_3⟩ := cell4 hb4 sz_w3 bx_w3_0 bx_w3_1 bx_w3_2 bx_w3_3; have sz_w4 := Nat.lt_of_lt_of_le sz_w3 hb4.size))
      all_goals (first | (go_ret; exact ⟨ret_bool (by exact fZ), Hid.out (by assumption)⟩))
    | true =>
      have HT := hid hv
      go_enter Tryz.func76, Tryz.ntmps76
      go_wp2_with (first | (go_at_call 43; refine FDC.out.mono ?_; rintro e w3 ⟨rfl, hb3⟩; have HB3 := hid (HB.out.trans (hb3.mono HB.out.size)); have ⟨bx_w3_0, bx_w3_1, bx_w3_2, bx_w3_3⟩ := box4 hb3; have sz_w3 := szA hb3; have ⟨k_w3_y0, k_w3_y1, k_w3_y2, k_w3_y3⟩ := cell4 HB3.out hbl cy_0 cy_1 cy_2 cy_3) | (go_at_call 78; refine (tg_spec ⟨y0, y1, y2, y3⟩ hy [.int .i64 y0, .int .i64 y1, .string y2, .slice Dy y3.length dy] _ w.heap.size HB3.out.size (ndV ((Qy.out.up hB0).below HB3.out (Nat.le_refl _)))).mono ?_; rw [HT.out]; rintro e w4 ⟨rfl, hb4⟩; have HB4 := hid (HB3.out.trans (hb4.mono HB3.out.size)); have ⟨bx_w4_0, bx_w4_1, bx_w4_2, bx_w4_3⟩ := cell4 hb4 sz_w3 bx_w3_0 bx_w3_1 bx_w3_2 bx_w3_3; have sz_w4 := Nat.lt_of_lt_of_le sz_w3 hb4.size) | (go_at_call 77; refine (HA.out _ _ w.heap.size HB4.out.size ((HR.out.up hB0).below HB4.out (Nat.le_refl _))).mono ?_; rintro e w5 ⟨rfl, hbe⟩; have HB5 := hid (HB4.out.trans (hbe.mono HB4.out.size))))
      all_goals (first | (go_ret; exact ⟨ret_bool (by exact fZ), Hid.out (by assumption)⟩))
  · clear hm hw
    go_enter Tryz.func76, Tryz.ntmps76
    go_wp2_with ((go_at_call 43; refine FDC.out.mono ?_; rintro e w3 ⟨rfl, hb3⟩; have HB3 := hid (HB.out.trans (hb3.mono HB.out.size)); have ⟨bx_w3_0, bx_w3_1, bx_w3_2, bx_w3_3⟩ := box4 hb3; have sz_w3 := szA hb3))
    all_goals (first | (go_ret; exact ⟨ret_bool (by exact fZ), Hid.out (by assumption)⟩))
theorem exS_17 (z1 : Int) (z2 : ByteArray) (z3 : List FNode) (hw : (FNode.mk 17 z1 z2 z3).wt ≤ 9000000000) (hn : fN 17 z1 = true) (ht : fT 17 z2 = true) (hE : ∀ x, x ∈ z3 → ExS x) : SaB 76 (FNode.mk 17 z1 z2 z3) (z3.length == 1 && (hd4 z3 && z3.all exF)) := by
  intro us w B hB0 hr
  have FD := fd_spec _ hw
  obtain ⟨A3, c3, rfl, r3⟩ := hr.node
  rw [FNode.wt_eq] at hw
  have hz : z2.size ≤ 9223372036854775807 := by omega
  have hl : z3.length ≤ 9000000000 := by omega
  have FDC := fdC FD hn ht hB0 r3
  clear FD
  have hpos3 := r3
  obtain ⟨m, hm⟩ : ∃ m, z3.length = m := ⟨_, rfl⟩
  try rw [hm] at hl r3 FDC ⊢
  have HR := hid r3
  have HB := hbA w 17 z1 z2 (.slice A3 m c3)
  clear hr r3 hpos3
  by_cases e1 : m = 1
  · subst e1
    obtain ⟨⟨y0, y1, y2, y3⟩, rfl⟩ := List.length_eq_one_iff.mp hm
    have HV := hid (hE ⟨y0, y1, y2, y3⟩ (List.mem_singleton.mpr rfl))
    obtain ⟨bcy, offcy, Ey, hblcy, hcc⟩ := RdC.at_ (l := [FNode.mk y0 y1 y2 y3]) FNode.len HR.out (i := 0) (x := FNode.mk y0 y1 y2 y3) rfl
    obtain ⟨Dy, dy, cy_0, cy_1, cy_2, cy_3, q3⟩ := opN (Below.refl w.heap.size w) (by omega) hcc (offcy) (offcy + 1) (offcy + 2) (offcy + 3) (by omega)
    have Qy := hid q3
    clear hcc q3
    have hbl : bcy < w.heap.size := Nat.lt_of_lt_of_le hblcy hB0
    subst Ey
    clear hm hw hE
    rw [show (hd4 [FNode.mk y0 y1 y2 y3] && [FNode.mk y0 y1 y2 y3].all exF) = (y0 == 4 && exF ⟨y0, y1, y2, y3⟩) from by simp [hd4, FNode.kd]]
    unfold ExS at HV
    generalize exF ⟨y0, y1, y2, y3⟩ = b at *
    by_cases e4 : y0 = 4
    · subst e4
      go_enter Tryz.func76, Tryz.ntmps76
      go_wp2_with (first | (go_at_call 43; refine FDC.out.mono ?_; rintro e w3 ⟨rfl, hb3⟩; have HB3 := hid (HB.out.trans (hb3.mono HB.out.size)); have ⟨bx_w3_0, bx_w3_1, bx_w3_2, bx_w3_3⟩ := box4 hb3; have sz_w3 := szA hb3; have ⟨k_w3_y0, k_w3_y1, k_w3_y2, k_w3_y3⟩ := cell4 HB3.out hbl cy_0 cy_1 cy_2 cy_3) | (go_at_call 76; refine (HV.out [.int .i64 4, .int .i64 y1, .string y2, .slice Dy y3.length dy] _ w.heap.size HB3.out.size (ndV ((Qy.out.up hB0).below HB3.out (Nat.le_refl _)))).mono ?_; rintro e w4 ⟨rfl, hb_w4⟩; have HB4 := hid (HB3.out.trans (hb_w4.mono HB3.out.size))))
      all_goals (first | (go_ret; exact ⟨ret_bool (by exact fZ), Hid.out (by assumption)⟩))
    ·
      go_enter Tryz.func76, Tryz.ntmps76
      go_wp2_with (first | (go_at_call 43; refine FDC.out.mono ?_; rintro e w3 ⟨rfl, hb3⟩; have HB3 := hid (HB.out.trans (hb3.mono HB.out.size)); have ⟨bx_w3_0, bx_w3_1, bx_w3_2, bx_w3_3⟩ := box4 hb3; have sz_w3 := szA hb3; have ⟨k_w3_y0, k_w3_y1, k_w3_y2, k_w3_y3⟩ := cell4 HB3.out hbl cy_0 cy_1 cy_2 cy_3))
      all_goals (first | (go_ret; exact ⟨ret_bool (by exact fZ), Hid.out (by assumption)⟩))
  · clear hm hw hE
    go_enter Tryz.func76, Tryz.ntmps76
    go_wp2_with ((go_at_call 43; refine FDC.out.mono ?_; rintro e w3 ⟨rfl, hb3⟩; have HB3 := hid (HB.out.trans (hb3.mono HB.out.size)); have ⟨bx_w3_0, bx_w3_1, bx_w3_2, bx_w3_3⟩ := box4 hb3; have sz_w3 := szA hb3))
    all_goals (first | (go_ret; exact ⟨ret_bool (by exact fZ), Hid.out (by assumption)⟩))
theorem exS_23 (z1 : Int) (z2 : ByteArray) (z3 : List FNode) (hw : (FNode.mk 23 z1 z2 z3).wt ≤ 9000000000) (hn : fN 23 z1 = true) (ht : fT 23 z2 = true) (hU : UsS true z3) : SaB 76 (FNode.mk 23 z1 z2 z3) (usF true z3) := by
  intro us w B hB0 hr
  have FD := fd_spec _ hw
  obtain ⟨A3, c3, rfl, r3⟩ := hr.node
  rw [FNode.wt_eq] at hw
  have hz : z2.size ≤ 9223372036854775807 := by omega
  have hl : z3.length ≤ 9000000000 := by omega
  have FDC := fdC FD hn ht hB0 r3
  clear FD
  have hpos3 := r3
  obtain ⟨m, hm⟩ : ∃ m, z3.length = m := ⟨_, rfl⟩
  try rw [hm] at hl r3 FDC ⊢
  have HR := hid r3
  have HB := hbA w 23 z1 z2 (.slice A3 m c3)
  clear hr r3 hpos3
  unfold UsS at hU
  rw [hm] at hU
  have HU := hid hU
  clear hm hw hU
  go_enter Tryz.func76, Tryz.ntmps76
  go_wp2_with (first | (go_at_call 43; refine FDC.out.mono ?_; rintro e w3 ⟨rfl, hb3⟩; have HB3 := hid (HB.out.trans (hb3.mono HB.out.size)); have ⟨bx_w3_0, bx_w3_1, bx_w3_2, bx_w3_3⟩ := box4 hb3; have sz_w3 := szA hb3) | (go_at_call 45; refine (HU.out _ _ w.heap.size HB3.out.size ((HR.out.up hB0).below HB3.out (Nat.le_refl _))).mono ?_; rintro e w4 ⟨rfl, hb4⟩; have HB4 := hid (HB3.out.trans (hb4.mono HB3.out.size))))
  all_goals (first | (go_ret; exact ⟨ret_bool (by exact fZ), Hid.out (by assumption)⟩))
end Go.Proofs.YtimiieckkdogeaaGreat
