/-
  Parts of the proof: IsS5. Conditions: none.
-/
import Derived.Test.YtimiieckkdogeaaGreatQGBaseNd
import Derived.Test.YtimiieckkdogeaaGreatQIsS4
set_option linter.unusedVariables false
set_option linter.unusedSimpArgs false
namespace Go.Proofs.YtimiieckkdogeaaGreat
open Lib (hid)
open Go.ChangeShapes Go.WideShapes Go.ChangeAt Go.RowKit Go.Deep Go.Joins
open Go.ChangeMaps (open_string shut_string)
set_option maxRecDepth 100000
theorem exS_1 (z1 : Int) (z2 : ByteArray) (z3 : List FNode) (hw : (FNode.mk 1 z1 z2 z3).wt ≤ 9000000000) (hn : fN 1 z1 = true) (ht : fT 1 z2 = true) : SaB 76 (FNode.mk 1 z1 z2 z3) (z3.length == 0) := by
  intro us w B hB0 hr
  have FD := fd_spec _ hw
  obtain ⟨A3, c3, rfl, r3⟩ := hr.node
  rw [FNode.wt_eq] at hw
  have hz : z2.size ≤ 9223372036854775807 := by omega
  have hl : z3.length ≤ 9000000000 := by omega
  have FDC := fdC FD hn ht hB0 r3
  clear FD
  have hpos3 := r3
  obtain ⟨m, hm⟩ : ∃ m, z3.length = m := ⟨_, rfl⟩
  try rw [hm] at hl r3 FDC ⊢
  have HR := hid r3
  have HB := hbA w 1 z1 z2 (.slice A3 m c3)
  clear hr r3 hpos3
  clear hm hw
  by_cases e1 : m = 0
  · subst e1
    go_enter Tryz.func76, Tryz.ntmps76
    go_wp2_with ((go_at_call 43; refine FDC.out.mono ?_; rintro e w3 ⟨rfl, hb3⟩; have HB3 := hid (HB.out.trans (hb3.mono HB.out.size)); have ⟨bx_w3_0, bx_w3_1, bx_w3_2, bx_w3_3⟩ := box4 hb3; have sz_w3 := szA hb3))
    all_goals (first | (go_ret; exact ⟨ret_bool (by exact fZ), Hid.out (by assumption)⟩))
  ·
    go_enter Tryz.func76, Tryz.ntmps76
    go_wp2_with ((go_at_call 43; refine FDC.out.mono ?_; rintro e w3 ⟨rfl, hb3⟩; have HB3 := hid (HB.out.trans (hb3.mono HB.out.size)); have ⟨bx_w3_0, bx_w3_1, bx_w3_2, bx_w3_3⟩ := box4 hb3; have sz_w3 := szA hb3))
    all_goals (first | (go_ret; exact ⟨ret_bool (by exact fZ), Hid.out (by assumption)⟩))
theorem exS_2 (z1 : Int) (z2 : ByteArray) (z3 : List FNode) (hw : (FNode.mk 2 z1 z2 z3).wt ≤ 9000000000) (hn : fN 2 z1 = true) (ht : fT 2 z2 = true) : SaB 76 (FNode.mk 2 z1 z2 z3) (z3.length == 0) := by
  intro us w B hB0 hr
  have FD := fd_spec _ hw
  obtain ⟨A3, c3, rfl, r3⟩ := hr.node
  rw [FNode.wt_eq] at hw
  have hz : z2.size ≤ 9223372036854775807 := by omega
  have hl : z3.length ≤ 9000000000 := by omega
  have FDC := fdC FD hn ht hB0 r3
  clear FD
  have hpos3 := r3
  obtain ⟨m, hm⟩ : ∃ m, z3.length = m := ⟨_, rfl⟩
  try rw [hm] at hl r3 FDC ⊢
  have HR := hid r3
  have HB := hbA w 2 z1 z2 (.slice A3 m c3)
  clear hr r3 hpos3
  clear hm hw
  by_cases e1 : m = 0
  · subst e1
    go_enter Tryz.func76, Tryz.ntmps76
    go_wp2_with ((go_at_call 43; refine FDC.out.mono ?_; rintro e w3 ⟨rfl, hb3⟩; have HB3 := hid (HB.out.trans (hb3.mono HB.out.size)); have ⟨bx_w3_0, bx_w3_1, bx_w3_2, bx_w3_3⟩ := box4 hb3; have sz_w3 := szA hb3))
    all_goals (first | (go_ret; exact ⟨ret_bool (by exact fZ), Hid.out (by assumption)⟩))
  ·
    go_enter Tryz.func76, Tryz.ntmps76
    go_wp2_with ((go_at_call 43; refine FDC.out.mono ?_; rintro e w3 ⟨rfl, hb3⟩; have HB3 := hid (HB.out.trans (hb3.mono HB.out.size)); have ⟨bx_w3_0, bx_w3_1, bx_w3_2, bx_w3_3⟩ := box4 hb3; have sz_w3 := szA hb3))
    all_goals (first | (go_ret; exact ⟨ret_bool (by exact fZ), Hid.out (by assumption)⟩))
theorem exS_3 (z1 : Int) (z2 : ByteArray) (z3 : List FNode) (hw : (FNode.mk 3 z1 z2 z3).wt ≤ 9000000000) (hn : fN 3 z1 = true) (ht : fT 3 z2 = true) : SaB 76 (FNode.mk 3 z1 z2 z3) (z3.length == 0) := by
  intro us w B hB0 hr
  have FD := fd_spec _ hw
  obtain ⟨A3, c3, rfl, r3⟩ := hr.node
  rw [FNode.wt_eq] at hw
  have hz : z2.size ≤ 9223372036854775807 := by omega
  have hl : z3.length ≤ 9000000000 := by omega
  have FDC := fdC FD hn ht hB0 r3
  clear FD
  have hpos3 := r3
  obtain ⟨m, hm⟩ : ∃ m, z3.length = m := ⟨_, rfl⟩
  try rw [hm] at hl r3 FDC ⊢
  have HR := hid r3
  have HB := hbA w 3 z1 z2 (.slice A3 m c3)
  clear hr r3 hpos3
  clear hm hw
  by_cases e1 : m = 0
  · subst e1
    go_enter Tryz.func76, Tryz.ntmps76
    go_wp2_with ((go_at_call 43; refine FDC.out.mono ?_; rintro e w3 ⟨rfl, hb3⟩; have HB3 := hid (HB.out.trans (hb3.mono HB.out.size)); have ⟨bx_w3_0, bx_w3_1, bx_w3_2, bx_w3_3⟩ := box4 hb3; have sz_w3 := szA hb3))
    all_goals (first | (go_ret; exact ⟨ret_bool (by exact fZ), Hid.out (by assumption)⟩))
  ·
    go_enter Tryz.func76, Tryz.ntmps76
    go_wp2_with ((go_at_call 43; refine FDC.out.mono ?_; rintro e w3 ⟨rfl, hb3⟩; have HB3 := hid (HB.out.trans (hb3.mono HB.out.size)); have ⟨bx_w3_0, bx_w3_1, bx_w3_2, bx_w3_3⟩ := box4 hb3; have sz_w3 := szA hb3))
    all_goals (first | (go_ret; exact ⟨ret_bool (by exact fZ), Hid.out (by assumption)⟩))
theorem exS_4 (z1 : Int) (z2 : ByteArray) (z3 : List FNode) (hw : (FNode.mk 4 z1 z2 z3).wt ≤ 9000000000) (hn : fN 4 z1 = true) (ht : fT 4 z2 = true) : SaB 76 (FNode.mk 4 z1 z2 z3) (z3.length == 0) := by
  intro us w B hB0 hr
  have FD := fd_spec _ hw
  obtain ⟨A3, c3, rfl, r3⟩ := hr.node
  rw [FNode.wt_eq] at hw
  have hz : z2.size ≤ 9223372036854775807 := by omega
  have hl : z3.length ≤ 9000000000 := by omega
  have FDC := fdC FD hn ht hB0 r3
  clear FD
  have hpos3 := r3
  obtain ⟨m, hm⟩ : ∃ m, z3.length = m := ⟨_, rfl⟩
  try rw [hm] at hl r3 FDC ⊢
  have HR := hid r3
  have HB := hbA w 4 z1 z2 (.slice A3 m c3)
  clear hr r3 hpos3
  clear hm hw
  by_cases e1 : m = 0
  · subst e1
    go_enter Tryz.func76, Tryz.ntmps76
    go_wp2_with ((go_at_call 43; refine FDC.out.mono ?_; rintro e w3 ⟨rfl, hb3⟩; have HB3 := hid (HB.out.trans (hb3.mono HB.out.size)); have ⟨bx_w3_0, bx_w3_1, bx_w3_2, bx_w3_3⟩ := box4 hb3; have sz_w3 := szA hb3))
    all_goals (first | (go_ret; exact ⟨ret_bool (by exact fZ), Hid.out (by assumption)⟩))
  ·
    go_enter Tryz.func76, Tryz.ntmps76
    go_wp2_with ((go_at_call 43; refine FDC.out.mono ?_; rintro e w3 ⟨rfl, hb3⟩; have HB3 := hid (HB.out.trans (hb3.mono HB.out.size)); have ⟨bx_w3_0, bx_w3_1, bx_w3_2, bx_w3_3⟩ := box4 hb3; have sz_w3 := szA hb3))
    all_goals (first | (go_ret; exact ⟨ret_bool (by exact fZ), Hid.out (by assumption)⟩))
theorem exS_7 (z1 : Int) (z2 : ByteArray) (z3 : List FNode) (hw : (FNode.mk 7 z1 z2 z3).wt ≤ 9000000000) (hn : fN 7 z1 = true) (ht : fT 7 z2 = true) (hA : EaS z3) : SaB 76 (FNode.mk 7 z1 z2 z3) (z3.length == 2 && z3.all exF) := by
  intro us w B hB0 hr
  have FD := fd_spec _ hw
  obtain ⟨A3, c3, rfl, r3⟩ := hr.node
  rw [FNode.wt_eq] at hw
  have hz : z2.size ≤ 9223372036854775807 := by omega
  have hl : z3.length ≤ 9000000000 := by omega
  have FDC := fdC FD hn ht hB0 r3
  clear FD
  have hpos3 := r3
  obtain ⟨m, hm⟩ : ∃ m, z3.length = m := ⟨_, rfl⟩
  try rw [hm] at hl r3 FDC ⊢
  have HR := hid r3
  have HB := hbA w 7 z1 z2 (.slice A3 m c3)
  clear hr r3 hpos3
  unfold EaS at hA
  rw [hm] at hA
  have HA := hid hA
  clear hA
  clear hm hw
  by_cases e1 : m = 2
  · subst e1
    go_enter Tryz.func76, Tryz.ntmps76
    go_wp2_with (first | (go_at_call 43; refine FDC.out.mono ?_; rintro e w3 ⟨rfl, hb3⟩; have HB3 := hid (HB.out.trans (hb3.mono HB.out.size)); have ⟨bx_w3_0, bx_w3_1, bx_w3_2, bx_w3_3⟩ := box4 hb3; have sz_w3 := szA hb3) | (go_at_call 77; refine (HA.out _ _ w.heap.size HB3.out.size ((HR.out.up hB0).below HB3.out (Nat.le_refl _))).mono ?_; rintro e w4 ⟨rfl, hbe⟩; have HB4 := hid (HB3.out.trans (hbe.mono HB3.out.size))))
    all_goals (first | (go_ret; exact ⟨ret_bool (by exact fZ), Hid.out (by assumption)⟩))
  ·
    go_enter Tryz.func76, Tryz.ntmps76
    go_wp2_with ((go_at_call 43; refine FDC.out.mono ?_; rintro e w3 ⟨rfl, hb3⟩; have HB3 := hid (HB.out.trans (hb3.mono HB.out.size)); have ⟨bx_w3_0, bx_w3_1, bx_w3_2, bx_w3_3⟩ := box4 hb3; have sz_w3 := szA hb3))
    all_goals (first | (go_ret; exact ⟨ret_bool (by exact fZ), Hid.out (by assumption)⟩))
theorem exS_10 (z1 : Int) (z2 : ByteArray) (z3 : List FNode) (hw : (FNode.mk 10 z1 z2 z3).wt ≤ 9000000000) (hn : fN 10 z1 = true) (ht : fT 10 z2 = true) (hA : EaS z3) : SaB 76 (FNode.mk 10 z1 z2 z3) (z3.length == 2 && z3.all exF) := by
  intro us w B hB0 hr
  have FD := fd_spec _ hw
  obtain ⟨A3, c3, rfl, r3⟩ := hr.node
  rw [FNode.wt_eq] at hw
  have hz : z2.size ≤ 9223372036854775807 := by omega
  have hl : z3.length ≤ 9000000000 := by omega
  have FDC := fdC FD hn ht hB0 r3
  clear FD
  have hpos3 := r3
  obtain ⟨m, hm⟩ : ∃ m, z3.length = m := ⟨_, rfl⟩
  try rw [hm] at hl r3 FDC ⊢
  have HR := hid r3
  have HB := hbA w 10 z1 z2 (.slice A3 m c3)
  clear hr r3 hpos3
  unfold EaS at hA
  rw [hm] at hA
  have HA := hid hA
  clear hA
  clear hm hw
  by_cases e1 : m = 2
  · subst e1
    go_enter Tryz.func76, Tryz.ntmps76
    go_wp2_with (first | (go_at_call 43; refine FDC.out.mono ?_; rintro e w3 ⟨rfl, hb3⟩; have HB3 := hid (HB.out.trans (hb3.mono HB.out.size)); have ⟨bx_w3_0, bx_w3_1, bx_w3_2, bx_w3_3⟩ := box4 hb3; have sz_w3 := szA hb3) | (go_at_call 77; refine (HA.out _ _ w.heap.size HB3.out.size ((HR.out.up hB0).below HB3.out (Nat.le_refl _))).mono ?_; rintro e w4 ⟨rfl, hbe⟩; have HB4 := hid (HB3.out.trans (hbe.mono HB3.out.size))))
    all_goals (first | (go_ret; exact ⟨ret_bool (by exact fZ), Hid.out (by assumption)⟩))
  ·
    go_enter Tryz.func76, Tryz.ntmps76
    go_wp2_with ((go_at_call 43; refine FDC.out.mono ?_; rintro e w3 ⟨rfl, hb3⟩; have HB3 := hid (HB.out.trans (hb3.mono HB.out.size)); have ⟨bx_w3_0, bx_w3_1, bx_w3_2, bx_w3_3⟩ := box4 hb3; have sz_w3 := szA hb3))
    all_goals (first | (go_ret; exact ⟨ret_bool (by exact fZ), Hid.out (by assumption)⟩))
theorem exS_11 (z1 : Int) (z2 : ByteArray) (z3 : List FNode) (hw : (FNode.mk 11 z1 z2 z3).wt ≤ 9000000000) (hn : fN 11 z1 = true) (ht : fT 11 z2 = true) (hA : EaS z3) : SaB 76 (FNode.mk 11 z1 z2 z3) (z3.length == 2 && z3.all exF) := by
  intro us w B hB0 hr
  have FD := fd_spec _ hw
  obtain ⟨A3, c3, rfl, r3⟩ := hr.node
  rw [FNode.wt_eq] at hw
  have hz : z2.size ≤ 9223372036854775807 := by omega
  have hl : z3.length ≤ 9000000000 := by omega
  have FDC := fdC FD hn ht hB0 r3
  clear FD
  have hpos3 := r3
  obtain ⟨m, hm⟩ : ∃ m, z3.length = m := ⟨_, rfl⟩
  try rw [hm] at hl r3 FDC ⊢
  have HR := hid r3
  have HB := hbA w 11 z1 z2 (.slice A3 m c3)
  clear hr r3 hpos3
  unfold EaS at hA
  rw [hm] at hA
  have HA := hid hA
  clear hA
  clear hm hw
  by_cases e1 : m = 2
  · subst e1
    go_enter Tryz.func76, Tryz.ntmps76
    go_wp2_with (first | (go_at_call 43; refine FDC.out.mono ?_; rintro e w3 ⟨rfl, hb3⟩; have HB3 := hid (HB.out.trans (hb3.mono HB.out.size)); have ⟨bx_w3_0, bx_w3_1, bx_w3_2, bx_w3_3⟩ := box4 hb3; have sz_w3 := szA hb3) | (go_at_call 77; refine (HA.out _ _ w.heap.size HB3.out.size ((HR.out.up hB0).below HB3.out (Nat.le_refl _))).mono ?_; rintro e w4 ⟨rfl, hbe⟩; have HB4 := hid (HB3.out.trans (hbe.mono HB3.out.size))))
    all_goals (first | (go_ret; exact ⟨ret_bool (by exact fZ), Hid.out (by assumption)⟩))
  ·
    go_enter Tryz.func76, Tryz.ntmps76
    go_wp2_with ((go_at_call 43; refine FDC.out.mono ?_; rintro e w3 ⟨rfl, hb3⟩; have HB3 := hid (HB.out.trans (hb3.mono HB.out.size)); have ⟨bx_w3_0, bx_w3_1, bx_w3_2, bx_w3_3⟩ := box4 hb3; have sz_w3 := szA hb3))
    all_goals (first | (go_ret; exact ⟨ret_bool (by exact fZ), Hid.out (by assumption)⟩))
theorem exS_12 (z1 : Int) (z2 : ByteArray) (z3 : List FNode) (hw : (FNode.mk 12 z1 z2 z3).wt ≤ 9000000000) (hn : fN 12 z1 = true) (ht : fT 12 z2 = true) (hA : EaS z3) : SaB 76 (FNode.mk 12 z1 z2 z3) (z3.length == 2 && z3.all exF) := by
  intro us w B hB0 hr
  have FD := fd_spec _ hw
  obtain ⟨A3, c3, rfl, r3⟩ := hr.node
  rw [FNode.wt_eq] at hw
  have hz : z2.size ≤ 9223372036854775807 := by omega
  have hl : z3.length ≤ 9000000000 := by omega
  have FDC := fdC FD hn ht hB0 r3
  clear FD
  have hpos3 := r3
  obtain ⟨m, hm⟩ : ∃ m, z3.length = m := ⟨_, rfl⟩
  try rw [hm] at hl r3 FDC ⊢
  have HR := hid r3
  have HB := hbA w 12 z1 z2 (.slice A3 m c3)
  clear hr r3 hpos3
  unfold EaS at hA
  rw [hm] at hA
  have HA := hid hA
  clear hA
  clear hm hw
  by_cases e1 : m = 2
  · subst e1
    go_enter Tryz.func76, Tryz.ntmps76
    go_wp2_with (first | (go_at_call 43; refine FDC.out.mono ?_; rintro e w3 ⟨rfl, hb3⟩; have HB3 := hid (HB.out.trans (hb3.mono HB.out.size)); have ⟨bx_w3_0, bx_w3_1, bx_w3_2, bx_w3_3⟩ := box4 hb3; have sz_w3 := szA hb3) | (go_at_call 77; refine (HA.out _ _ w.heap.size HB3.out.size ((HR.out.up hB0).below HB3.out (Nat.le_refl _))).mono ?_; rintro e w4 ⟨rfl, hbe⟩; have HB4 := hid (HB3.out.trans (hbe.mono HB3.out.size))))
    all_goals (first | (go_ret; exact ⟨ret_bool (by exact fZ), Hid.out (by assumption)⟩))
  ·
    go_enter Tryz.func76, Tryz.ntmps76
    go_wp2_with ((go_at_call 43; refine FDC.out.mono ?_; rintro e w3 ⟨rfl, hb3⟩; have HB3 := hid (HB.out.trans (hb3.mono HB.out.size)); have ⟨bx_w3_0, bx_w3_1, bx_w3_2, bx_w3_3⟩ := box4 hb3; have sz_w3 := szA hb3))
    all_goals (first | (go_ret; exact ⟨ret_bool (by exact fZ), Hid.out (by assumption)⟩))
theorem exS_13 (z1 : Int) (z2 : ByteArray) (z3 : List FNode) (hw : (FNode.mk 13 z1 z2 z3).wt ≤ 9000000000) (hn : fN 13 z1 = true) (ht : fT 13 z2 = true) (hA : EaS z3) : SaB 76 (FNode.mk 13 z1 z2 z3) (z3.length == 2 && z3.all exF) := by
  intro us w B hB0 hr
  have FD := fd_spec _ hw
  obtain ⟨A3, c3, rfl, r3⟩ := hr.node
  rw [FNode.wt_eq] at hw
  have hz : z2.size ≤ 9223372036854775807 := by omega
  have hl : z3.length ≤ 9000000000 := by omega
  have FDC := fdC FD hn ht hB0 r3
  clear FD
  have hpos3 := r3
  obtain ⟨m, hm⟩ : ∃ m, z3.length = m := ⟨_, rfl⟩
  try rw [hm] at hl r3 FDC ⊢
  have HR := hid r3
  have HB := hbA w 13 z1 z2 (.slice A3 m c3)
  clear hr r3 hpos3
  unfold EaS at hA
  rw [hm] at hA
  have HA := hid hA
  clear hA
  clear hm hw
  by_cases e1 : m = 2
  · subst e1
    go_enter Tryz.func76, Tryz.ntmps76
    go_wp2_with (first | (go_at_call 43; refine FDC.out.mono ?_; rintro e w3 ⟨rfl, hb3⟩; have HB3 := hid (HB.out.trans (hb3.mono HB.out.size)); have ⟨bx_w3_0, bx_w3_1, bx_w3_2, bx_w3_3⟩ := box4 hb3; have sz_w3 := szA hb3) | (go_at_call 77; refine (HA.out _ _ w.heap.size HB3.out.size ((HR.out.up hB0).below HB3.out (Nat.le_refl _))).mono ?_; rintro e w4 ⟨rfl, hbe⟩; have HB4 := hid (HB3.out.trans (hbe.mono HB3.out.size))))
    all_goals (first | (go_ret; exact ⟨ret_bool (by exact fZ), Hid.out (by assumption)⟩))
  ·
    go_enter Tryz.func76, Tryz.ntmps76
    go_wp2_with ((go_at_call 43; refine FDC.out.mono ?_; rintro e w3 ⟨rfl, hb3⟩; have HB3 := hid (HB.out.trans (hb3.mono HB.out.size)); have ⟨bx_w3_0, bx_w3_1, bx_w3_2, bx_w3_3⟩ := box4 hb3; have sz_w3 := szA hb3))
    all_goals (first | (go_ret; exact ⟨ret_bool (by exact fZ), Hid.out (by assumption)⟩))
theorem exS_14 (z1 : Int) (z2 : ByteArray) (z3 : List FNode) (hw : (FNode.mk 14 z1 z2 z3).wt ≤ 9000000000) (hn : fN 14 z1 = true) (ht : fT 14 z2 = true) (hA : EaS z3) : SaB 76 (FNode.mk 14 z1 z2 z3) (z3.length == 3 && z3.all exF) := by
  intro us w B hB0 hr
  have FD := fd_spec _ hw
  obtain ⟨A3, c3, rfl, r3⟩ := hr.node
  rw [FNode.wt_eq] at hw
  have hz : z2.size ≤ 9223372036854775807 := by omega
  have hl : z3.length ≤ 9000000000 := by omega
  have FDC := fdC FD hn ht hB0 r3
  clear FD
  have hpos3 := r3
  obtain ⟨m, hm⟩ : ∃ m, z3.length = m := ⟨_, rfl⟩
  try rw [hm] at hl r3 FDC ⊢
  have HR := hid r3
  have HB := hbA w 14 z1 z2 (.slice A3 m c3)
  clear hr r3 hpos3
  unfold EaS at hA
  rw [hm] at hA
  have HA := hid hA
  clear hA
  clear hm hw
  by_cases e1 : m = 3
  · subst e1
    go_enter Tryz.func76, Tryz.ntmps76
    go_wp2_with (first | (go_at_call 43; refine FDC.out.mono ?_; rintro e w3 ⟨rfl, hb3⟩; have HB3 := hid (HB.out.trans (hb3.mono HB.out.size)); have ⟨bx_w3_0, bx_w3_1, bx_w3_2, bx_w3_3⟩ := box4 hb3; have sz_w3 := szA hb3) | (go_at_call 77; refine (HA.out _ _ w.heap.size HB3.out.size ((HR.out.up hB0).below HB3.out (Nat.le_refl _))).mono ?_; rintro e w4 ⟨rfl, hbe⟩; have HB4 := hid (HB3.out.trans (hbe.mono HB3.out.size))))
    all_goals (first | (go_ret; exact ⟨ret_bool (by exact fZ), Hid.out (by assumption)⟩))
  ·
    go_enter Tryz.func76, Tryz.ntmps76
    go_wp2_with ((go_at_call 43; refine FDC.out.mono ?_; rintro e w3 ⟨rfl, hb3⟩; have HB3 := hid (HB.out.trans (hb3.mono HB.out.size)); have ⟨bx_w3_0, bx_w3_1, bx_w3_2, bx_w3_3⟩ := box4 hb3; have sz_w3 := szA hb3))
    all_goals (first | (go_ret; exact ⟨ret_bool (by exact fZ), Hid.out (by assumption)⟩))
end Go.Proofs.YtimiieckkdogeaaGreat
