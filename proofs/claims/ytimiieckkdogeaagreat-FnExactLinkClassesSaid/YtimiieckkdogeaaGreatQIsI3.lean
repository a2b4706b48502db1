/-
  Parts of the proof: IsI3. Conditions: none.
-/
import Derived.Test.YtimiieckkdogeaaGreatQGBaseNd
import Derived.Test.YtimiieckkdogeaaGreatQGIsCIsI0
set_option linter.unusedVariables false
set_option linter.unusedSimpArgs false
namespace Go.Proofs.YtimiieckkdogeaaGreat
open Lib (hid)
open Go.ChangeShapes Go.WideShapes Go.ChangeAt Go.RowKit Go.Deep Go.Joins
open Go.ChangeMaps (open_string shut_string)
set_option maxRecDepth 100000
theorem exI_14 (z1 : Int) (z2 : ByteArray) (z3 : List FNode) (hw : (FNode.mk 14 z1 z2 z3).wt ≤ 9000000000) (hA : AlI z3) : ExI (.mk 14 z1 z2 z3) := by
  intro us w B hmx hB0 hr
  obtain ⟨A3, c3, rfl, r3⟩ := hr.node
  rw [FNode.wt_eq] at hw
  have hz : z2.size ≤ 9223372036854775807 := by omega
  have hl : z3.length ≤ 9223372036854775807 := by omega
  have EX := hid (show exF ⟨14, z1, z2, z3⟩ = (((z1 == 0) && emT z2) && (z3.length == 3 && z3.all exF)) from by rw [exF_mk]; rfl)
  unfold AlI at hA
  obtain ⟨m, hm⟩ : ∃ m, z3.length = m := ⟨_, rfl⟩
  try rw [hm] at EX
  rw [hm] at hl r3 hA ⊢
  have HB := hbA w 14 z1 z2 (.slice A3 m c3)
  have CALL := hid (hA _ _ w.heap.size (hmx.below HB.out) HB.out.size ((r3.up hB0).below HB.out (Nat.le_refl _)))
  clear hm hr r3 hw hA
  by_cases e2 : z1 = 0
  · subst e2
    by_cases e1 : m = 3
    · subst e1
      go_enter Tryz.func88, Tryz.ntmps88
      go_wp2_with (first | (go_at_call 92; refine CALL.out.mono ?_; rintro e w' ⟨rfl, hb3⟩))
      all_goals (go_ret; exact ⟨ret_bool (by rw [EX.out]; exact fZ), bT HB⟩)
    ·
      go_enter Tryz.func88, Tryz.ntmps88
      go_wp2_with (first | (go_at_call 92; refine CALL.out.mono ?_; rintro e w' ⟨rfl, hb3⟩))
      all_goals (go_ret; exact ⟨ret_bool (by rw [EX.out]; exact fZ), bT HB⟩)
  ·
    go_enter Tryz.func88, Tryz.ntmps88
    go_wp2_with (first | (go_at_call 92; refine CALL.out.mono ?_; rintro e w' ⟨rfl, hb3⟩))
    all_goals (go_ret; exact ⟨ret_bool (by rw [EX.out]; exact fZ), bT HB⟩)
theorem exI_18 (z1 : Int) (z2 : ByteArray) (z3 : List FNode) (hw : (FNode.mk 18 z1 z2 z3).wt ≤ 9000000000) (hA : AlI z3) : ExI (.mk 18 z1 z2 z3) := by
  intro us w B hmx hB0 hr
  obtain ⟨A3, c3, rfl, r3⟩ := hr.node
  rw [FNode.wt_eq] at hw
  have hz : z2.size ≤ 9223372036854775807 := by omega
  have hl : z3.length ≤ 9223372036854775807 := by omega
  have EX := hid (show exF ⟨18, z1, z2, z3⟩ = (((z1 == 0) && goodF z2) && z3.all exF) from by rw [exF_mk]; rfl)
  unfold AlI at hA
  obtain ⟨m, hm⟩ : ∃ m, z3.length = m := ⟨_, rfl⟩
  try rw [hm] at EX
  rw [hm] at hl r3 hA ⊢
  have HB := hbA w 18 z1 z2 (.slice A3 m c3)
  have CALL := hid (hA _ _ w.heap.size (hmx.below HB.out) HB.out.size ((r3.up hB0).below HB.out (Nat.le_refl _)))
  clear hm hr r3 hw hA
  by_cases e1 : z1 = 0
  · subst e1
    go_enter Tryz.func88, Tryz.ntmps88
    go_wp2_with (first | (go_at_call 85; refine (good_impl _ _ hz).mono ?_; rintro e w' ⟨rfl, rfl⟩) | (go_at_call 92; refine CALL.out.mono ?_; rintro e w' ⟨rfl, hb3⟩))
    all_goals (go_ret; exact ⟨ret_bool (by rw [EX.out]; exact fZ), bT HB⟩)
  ·
    go_enter Tryz.func88, Tryz.ntmps88
    go_wp2_with (first | (go_at_call 85; refine (good_impl _ _ hz).mono ?_; rintro e w' ⟨rfl, rfl⟩) | (go_at_call 92; refine CALL.out.mono ?_; rintro e w' ⟨rfl, hb3⟩))
    all_goals (go_ret; exact ⟨ret_bool (by rw [EX.out]; exact fZ), bT HB⟩)
theorem exI_19 (z1 : Int) (z2 : ByteArray) (z3 : List FNode) (hw : (FNode.mk 19 z1 z2 z3).wt ≤ 9000000000) (hA : AlI z3) : ExI (.mk 19 z1 z2 z3) := by
  intro us w B hmx hB0 hr
  obtain ⟨A3, c3, rfl, r3⟩ := hr.node
  rw [FNode.wt_eq] at hw
  have hz : z2.size ≤ 9223372036854775807 := by omega
  have hl : z3.length ≤ 9223372036854775807 := by omega
  have EX := hid (show exF ⟨19, z1, z2, z3⟩ = (((z1 == 0) && emT z2) && (decide (1 ≤ z3.length) && z3.all exF)) from by rw [exF_mk]; rfl)
  unfold AlI at hA
  obtain ⟨m, hm⟩ : ∃ m, z3.length = m := ⟨_, rfl⟩
  try rw [hm] at EX
  rw [hm] at hl r3 hA ⊢
  have HB := hbA w 19 z1 z2 (.slice A3 m c3)
  have CALL := hid (hA _ _ w.heap.size (hmx.below HB.out) HB.out.size ((r3.up hB0).below HB.out (Nat.le_refl _)))
  clear hm hr r3 hw hA
  by_cases e1 : z1 = 0
  · subst e1
    go_enter Tryz.func88, Tryz.ntmps88
    go_wp2_with (first | (go_at_call 92; refine CALL.out.mono ?_; rintro e w' ⟨rfl, hb3⟩))
    all_goals (go_ret; exact ⟨ret_bool (by rw [EX.out]; exact fZ), bT HB⟩)
  ·
    go_enter Tryz.func88, Tryz.ntmps88
    go_wp2_with (first | (go_at_call 92; refine CALL.out.mono ?_; rintro e w' ⟨rfl, hb3⟩))
    all_goals (go_ret; exact ⟨ret_bool (by rw [EX.out]; exact fZ), bT HB⟩)
theorem exI_20 (z1 : Int) (z2 : ByteArray) (z3 : List FNode) (hw : (FNode.mk 20 z1 z2 z3).wt ≤ 9000000000) (hA : AlI z3) : ExI (.mk 20 z1 z2 z3) := by
  intro us w B hmx hB0 hr
  obtain ⟨A3, c3, rfl, r3⟩ := hr.node
  rw [FNode.wt_eq] at hw
  have hz : z2.size ≤ 9223372036854775807 := by omega
  have hl : z3.length ≤ 9223372036854775807 := by omega
  have EX := hid (show exF ⟨20, z1, z2, z3⟩ = (((z1 == 0) && goodF z2) && (decide (1 ≤ z3.length) && z3.all exF)) from by rw [exF_mk]; rfl)
  unfold AlI at hA
  obtain ⟨m, hm⟩ : ∃ m, z3.length = m := ⟨_, rfl⟩
  try rw [hm] at EX
  rw [hm] at hl r3 hA ⊢
  have HB := hbA w 20 z1 z2 (.slice A3 m c3)
  have CALL := hid (hA _ _ w.heap.size (hmx.below HB.out) HB.out.size ((r3.up hB0).below HB.out (Nat.le_refl _)))
  clear hm hr r3 hw hA
  by_cases e1 : z1 = 0
  · subst e1
    go_enter Tryz.func88, Tryz.ntmps88
    go_wp2_with (first | (go_at_call 85; refine (good_impl _ _ hz).mono ?_; rintro e w' ⟨rfl, rfl⟩) | (go_at_call 92; refine CALL.out.mono ?_; rintro e w' ⟨rfl, hb3⟩))
    all_goals (go_ret; exact ⟨ret_bool (by rw [EX.out]; exact fZ), bT HB⟩)
  ·
    go_enter Tryz.func88, Tryz.ntmps88
    go_wp2_with (first | (go_at_call 85; refine (good_impl _ _ hz).mono ?_; rintro e w' ⟨rfl, rfl⟩) | (go_at_call 92; refine CALL.out.mono ?_; rintro e w' ⟨rfl, hb3⟩))
    all_goals (go_ret; exact ⟨ret_bool (by rw [EX.out]; exact fZ), bT HB⟩)
theorem exI_22 (z1 : Int) (z2 : ByteArray) (z3 : List FNode) (hw : (FNode.mk 22 z1 z2 z3).wt ≤ 9000000000) (hA : AlI z3) : ExI (.mk 22 z1 z2 z3) := by
  intro us w B hmx hB0 hr
  obtain ⟨A3, c3, rfl, r3⟩ := hr.node
  rw [FNode.wt_eq] at hw
  have hz : z2.size ≤ 9223372036854775807 := by omega
  have hl : z3.length ≤ 9223372036854775807 := by omega
  have EX := hid (show exF ⟨22, z1, z2, z3⟩ = (((z1 == 0) && (goodF z2 || z2.toList == statL)) && z3.all exF) from by rw [exF_mk]; rfl)
  unfold AlI at hA
  obtain ⟨m, hm⟩ : ∃ m, z3.length = m := ⟨_, rfl⟩
  try rw [hm] at EX
  rw [hm] at hl r3 hA ⊢
  have HB := hbA w 22 z1 z2 (.slice A3 m c3)
  have CALL := hid (hA _ _ w.heap.size (hmx.below HB.out) HB.out.size ((r3.up hB0).below HB.out (Nat.le_refl _)))
  clear hm hr r3 hw hA
  by_cases e1 : z1 = 0
  · subst e1
    go_enter Tryz.func88, Tryz.ntmps88
    go_wp2_with (first | (go_at_call 85; refine (good_impl _ _ hz).mono ?_; rintro e w' ⟨rfl, rfl⟩) | (go_at_call 92; refine CALL.out.mono ?_; rintro e w' ⟨rfl, hb3⟩))
    all_goals (go_ret; exact ⟨ret_bool (by rw [EX.out]; exact fZ), bT HB⟩)
  ·
    go_enter Tryz.func88, Tryz.ntmps88
    go_wp2_with (first | (go_at_call 85; refine (good_impl _ _ hz).mono ?_; rintro e w' ⟨rfl, rfl⟩) | (go_at_call 92; refine CALL.out.mono ?_; rintro e w' ⟨rfl, hb3⟩))
    all_goals (go_ret; exact ⟨ret_bool (by rw [EX.out]; exact fZ), bT HB⟩)
end Go.Proofs.YtimiieckkdogeaaGreat
