/-
  Parts of the proof: IsI2. Conditions: none.
-/
import Derived.Test.YtgejkfcemlkclaaQGIsCIsI0
namespace Go.Proofs.Ytgejkfcemlkclaa
open Go.ChangeShapes Go.WideShapes Go.ChangeAt Go.RowKit Go.Deep Go.Joins
open Go.ChangeMaps (open_string shut_string)
set_option linter.unusedVariables false
set_option linter.unusedSimpArgs false
set_option maxRecDepth 100000
theorem exI_10 (z1 : Int) (z2 : ByteArray) (z3 : List FNode) (hw : (FNode.mk 10 z1 z2 z3).wt ≤ 9000000000) (hA : AlI z3) : ExI (.mk 10 z1 z2 z3) := by
  intro us w B hmx hB0 hr
  rw [FNode.c_eq] at hr
  obtain ⟨us0, rfl, hr_0⟩ := hr.unv
  obtain ⟨us1, rfl, hr_1⟩ := hr_0.unv
  obtain ⟨us2, rfl, hr_2⟩ := hr_1.unv
  obtain ⟨A3, c3, us3, rfl, r3, hr_3⟩ := hr_2.uns
  obtain rfl := hr_3.un0
  rw [FNode.wt_eq] at hw
  have hz : z2.size ≤ 9223372036854775807 := by omega
  have hl : z3.length ≤ 9223372036854775807 := by omega
  have EX := Lib.hid (show exF ⟨10, z1, z2, z3⟩ = ((inB z1 1 15 && emT z2) && (z3.length == 2 && z3.all exF)) from by rw [exF_mk]; rfl)
  unfold AlI at hA
  obtain ⟨m, hm⟩ : ∃ m, z3.length = m := ⟨_, rfl⟩
  try rw [hm] at EX
  rw [hm] at hl r3 hA ⊢
  have HB := Lib.hid ((Below.refl _ w).alloc (Nat.le_refl _) (.cells #[.int .i64 10, .int .i64 z1, .string z2, .slice A3 m c3] 29))
  have CALL := Lib.hid (hA _ _ w.heap.size (hmx.below HB.out) HB.out.size ((r3.up hB0).below HB.out (Nat.le_refl _)))
  clear hm hr r3 hr_0 hr_1 hr_2 hr_3 hw hA
  by_cases e1 : m = 2
  · subst e1
    go_enter Try.func55, Try.ntmps55
    go_wp2_with (first | (go_at_call 54; refine (inRange_any _ _ _ _).mono ?_; rintro e w' ⟨rfl, rfl⟩) | (go_at_call 59; refine CALL.out.mono ?_; rintro e w' ⟨rfl, hb3⟩))
    all_goals (first | (go_ret; exact ⟨ret_bool (by rw [EX.out]; (first | (simp_all [emT_t, emT_f, beq_0, statL]; done) | (simp_all [emT, beq_0, statL]; done) | (simp_all [emT_t, emT_f, beq_0, statL]; omega))), HB.out⟩) | (go_ret; exact ⟨ret_bool (by rw [EX.out]; (first | (simp_all [emT_t, emT_f, beq_0, statL]; done) | (simp_all [emT, beq_0, statL]; done) | (simp_all [emT_t, emT_f, beq_0, statL]; omega))), HB.out.trans (Below.mono (by assumption) HB.out.size)⟩))
  ·
    go_enter Try.func55, Try.ntmps55
    go_wp2_with (first | (go_at_call 54; refine (inRange_any _ _ _ _).mono ?_; rintro e w' ⟨rfl, rfl⟩) | (go_at_call 59; refine CALL.out.mono ?_; rintro e w' ⟨rfl, hb3⟩))
    all_goals (first | (go_ret; exact ⟨ret_bool (by rw [EX.out]; (first | (simp_all [emT_t, emT_f, beq_0, statL]; done) | (simp_all [emT, beq_0, statL]; done) | (simp_all [emT_t, emT_f, beq_0, statL]; omega))), HB.out⟩) | (go_ret; exact ⟨ret_bool (by rw [EX.out]; (first | (simp_all [emT_t, emT_f, beq_0, statL]; done) | (simp_all [emT, beq_0, statL]; done) | (simp_all [emT_t, emT_f, beq_0, statL]; omega))), HB.out.trans (Below.mono (by assumption) HB.out.size)⟩))
theorem exI_11 (z1 : Int) (z2 : ByteArray) (z3 : List FNode) (hw : (FNode.mk 11 z1 z2 z3).wt ≤ 9000000000) (hA : AlI z3) : ExI (.mk 11 z1 z2 z3) := by
  intro us w B hmx hB0 hr
  rw [FNode.c_eq] at hr
  obtain ⟨us0, rfl, hr_0⟩ := hr.unv
  obtain ⟨us1, rfl, hr_1⟩ := hr_0.unv
  obtain ⟨us2, rfl, hr_2⟩ := hr_1.unv
  obtain ⟨A3, c3, us3, rfl, r3, hr_3⟩ := hr_2.uns
  obtain rfl := hr_3.un0
  rw [FNode.wt_eq] at hw
  have hz : z2.size ≤ 9223372036854775807 := by omega
  have hl : z3.length ≤ 9223372036854775807 := by omega
  have EX := Lib.hid (show exF ⟨11, z1, z2, z3⟩ = (((z1 == 0) && emT z2) && (z3.length == 2 && z3.all exF)) from by rw [exF_mk]; rfl)
  unfold AlI at hA
  obtain ⟨m, hm⟩ : ∃ m, z3.length = m := ⟨_, rfl⟩
  try rw [hm] at EX
  rw [hm] at hl r3 hA ⊢
  have HB := Lib.hid ((Below.refl _ w).alloc (Nat.le_refl _) (.cells #[.int .i64 11, .int .i64 z1, .string z2, .slice A3 m c3] 29))
  have CALL := Lib.hid (hA _ _ w.heap.size (hmx.below HB.out) HB.out.size ((r3.up hB0).below HB.out (Nat.le_refl _)))
  clear hm hr r3 hr_0 hr_1 hr_2 hr_3 hw hA
  by_cases e2 : z1 = 0
  · subst e2
    by_cases e1 : m = 2
    · subst e1
      go_enter Try.func55, Try.ntmps55
      go_wp2_with (first | (go_at_call 59; refine CALL.out.mono ?_; rintro e w' ⟨rfl, hb3⟩))
      all_goals (first | (go_ret; exact ⟨ret_bool (by rw [EX.out]; (first | (simp_all [emT_t, emT_f, beq_0, statL]; done) | (simp_all [emT, beq_0, statL]; done) | (simp_all [emT_t, emT_f, beq_0, statL]; omega))), HB.out⟩) | (go_ret; exact ⟨ret_bool (by rw [EX.out]; (first | (simp_all [emT_t, emT_f, beq_0, statL]; done) | (simp_all [emT, beq_0, statL]; done) | (simp_all [emT_t, emT_f, beq_0, statL]; omega))), HB.out.trans (Below.mono (by assumption) HB.out.size)⟩))
    ·
      go_enter Try.func55, Try.ntmps55
      go_wp2_with (first | (go_at_call 59; refine CALL.out.mono ?_; rintro e w' ⟨rfl, hb3⟩))
      all_goals (first | (go_ret; exact ⟨ret_bool (by rw [EX.out]; (first | (simp_all [emT_t, emT_f, beq_0, statL]; done) | (simp_all [emT, beq_0, statL]; done) | (simp_all [emT_t, emT_f, beq_0, statL]; omega))), HB.out⟩) | (go_ret; exact ⟨ret_bool (by rw [EX.out]; (first | (simp_all [emT_t, emT_f, beq_0, statL]; done) | (simp_all [emT, beq_0, statL]; done) | (simp_all [emT_t, emT_f, beq_0, statL]; omega))), HB.out.trans (Below.mono (by assumption) HB.out.size)⟩))
  ·
    go_enter Try.func55, Try.ntmps55
    go_wp2_with (first | (go_at_call 59; refine CALL.out.mono ?_; rintro e w' ⟨rfl, hb3⟩))
    all_goals (first | (go_ret; exact ⟨ret_bool (by rw [EX.out]; (first | (simp_all [emT_t, emT_f, beq_0, statL]; done) | (simp_all [emT, beq_0, statL]; done) | (simp_all [emT_t, emT_f, beq_0, statL]; omega))), HB.out⟩) | (go_ret; exact ⟨ret_bool (by rw [EX.out]; (first | (simp_all [emT_t, emT_f, beq_0, statL]; done) | (simp_all [emT, beq_0, statL]; done) | (simp_all [emT_t, emT_f, beq_0, statL]; omega))), HB.out.trans (Below.mono (by assumption) HB.out.size)⟩))
theorem exI_12 (z1 : Int) (z2 : ByteArray) (z3 : List FNode) (hw : (FNode.mk 12 z1 z2 z3).wt ≤ 9000000000) (hA : AlI z3) : ExI (.mk 12 z1 z2 z3) := by
  intro us w B hmx hB0 hr
  rw [FNode.c_eq] at hr
  obtain ⟨us0, rfl, hr_0⟩ := hr.unv
  obtain ⟨us1, rfl, hr_1⟩ := hr_0.unv
  obtain ⟨us2, rfl, hr_2⟩ := hr_1.unv
  obtain ⟨A3, c3, us3, rfl, r3, hr_3⟩ := hr_2.uns
  obtain rfl := hr_3.un0
  rw [FNode.wt_eq] at hw
  have hz : z2.size ≤ 9223372036854775807 := by omega
  have hl : z3.length ≤ 9223372036854775807 := by omega
  have EX := Lib.hid (show exF ⟨12, z1, z2, z3⟩ = (((z1 == 0) && emT z2) && (z3.length == 2 && z3.all exF)) from by rw [exF_mk]; rfl)
  unfold AlI at hA
  obtain ⟨m, hm⟩ : ∃ m, z3.length = m := ⟨_, rfl⟩
  try rw [hm] at EX
  rw [hm] at hl r3 hA ⊢
  have HB := Lib.hid ((Below.refl _ w).alloc (Nat.le_refl _) (.cells #[.int .i64 12, .int .i64 z1, .string z2, .slice A3 m c3] 29))
  have CALL := Lib.hid (hA _ _ w.heap.size (hmx.below HB.out) HB.out.size ((r3.up hB0).below HB.out (Nat.le_refl _)))
  clear hm hr r3 hr_0 hr_1 hr_2 hr_3 hw hA
  by_cases e2 : z1 = 0
  · subst e2
    by_cases e1 : m = 2
    · subst e1
      go_enter Try.func55, Try.ntmps55
      go_wp2_with (first | (go_at_call 59; refine CALL.out.mono ?_; rintro e w' ⟨rfl, hb3⟩))
      all_goals (first | (go_ret; exact ⟨ret_bool (by rw [EX.out]; (first | (simp_all [emT_t, emT_f, beq_0, statL]; done) | (simp_all [emT, beq_0, statL]; done) | (simp_all [emT_t, emT_f, beq_0, statL]; omega))), HB.out⟩) | (go_ret; exact ⟨ret_bool (by rw [EX.out]; (first | (simp_all [emT_t, emT_f, beq_0, statL]; done) | (simp_all [emT, beq_0, statL]; done) | (simp_all [emT_t, emT_f, beq_0, statL]; omega))), HB.out.trans (Below.mono (by assumption) HB.out.size)⟩))
    ·
      go_enter Try.func55, Try.ntmps55
      go_wp2_with (first | (go_at_call 59; refine CALL.out.mono ?_; rintro e w' ⟨rfl, hb3⟩))
      all_goals (first | (go_ret; exact ⟨ret_bool (by rw [EX.out]; (first | (simp_all [emT_t, emT_f, beq_0, statL]; done) | (simp_all [emT, beq_0, statL]; done) | (simp_all [emT_t, emT_f, beq_0, statL]; omega))), HB.out⟩) | (go_ret; exact ⟨ret_bool (by rw [EX.out]; (first | (simp_all [emT_t, emT_f, beq_0, statL]; done) | (simp_all [emT, beq_0, statL]; done) | (simp_all [emT_t, emT_f, beq_0, statL]; omega))), HB.out.trans (Below.mono (by assumption) HB.out.size)⟩))
  ·
    go_enter Try.func55, Try.ntmps55
    go_wp2_with (first | (go_at_call 59; refine CALL.out.mono ?_; rintro e w' ⟨rfl, hb3⟩))
    all_goals (first | (go_ret; exact ⟨ret_bool (by rw [EX.out]; (first | (simp_all [emT_t, emT_f, beq_0, statL]; done) | (simp_all [emT, beq_0, statL]; done) | (simp_all [emT_t, emT_f, beq_0, statL]; omega))), HB.out⟩) | (go_ret; exact ⟨ret_bool (by rw [EX.out]; (first | (simp_all [emT_t, emT_f, beq_0, statL]; done) | (simp_all [emT, beq_0, statL]; done) | (simp_all [emT_t, emT_f, beq_0, statL]; omega))), HB.out.trans (Below.mono (by assumption) HB.out.size)⟩))
theorem exI_13 (z1 : Int) (z2 : ByteArray) (z3 : List FNode) (hw : (FNode.mk 13 z1 z2 z3).wt ≤ 9000000000) (hA : AlI z3) : ExI (.mk 13 z1 z2 z3) := by
  intro us w B hmx hB0 hr
  rw [FNode.c_eq] at hr
  obtain ⟨us0, rfl, hr_0⟩ := hr.unv
  obtain ⟨us1, rfl, hr_1⟩ := hr_0.unv
  obtain ⟨us2, rfl, hr_2⟩ := hr_1.unv
  obtain ⟨A3, c3, us3, rfl, r3, hr_3⟩ := hr_2.uns
  obtain rfl := hr_3.un0
  rw [FNode.wt_eq] at hw
  have hz : z2.size ≤ 9223372036854775807 := by omega
  have hl : z3.length ≤ 9223372036854775807 := by omega
  have EX := Lib.hid (show exF ⟨13, z1, z2, z3⟩ = (((z1 == 0) && emT z2) && (z3.length == 2 && z3.all exF)) from by rw [exF_mk]; rfl)
  unfold AlI at hA
  obtain ⟨m, hm⟩ : ∃ m, z3.length = m := ⟨_, rfl⟩
  try rw [hm] at EX
  rw [hm] at hl r3 hA ⊢
  have HB := Lib.hid ((Below.refl _ w).alloc (Nat.le_refl _) (.cells #[.int .i64 13, .int .i64 z1, .string z2, .slice A3 m c3] 29))
  have CALL := Lib.hid (hA _ _ w.heap.size (hmx.below HB.out) HB.out.size ((r3.up hB0).below HB.out (Nat.le_refl _)))
  clear hm hr r3 hr_0 hr_1 hr_2 hr_3 hw hA
  by_cases e2 : z1 = 0
  · subst e2
    by_cases e1 : m = 2
    · subst e1
      go_enter Try.func55, Try.ntmps55
      go_wp2_with (first | (go_at_call 59; refine CALL.out.mono ?_; rintro e w' ⟨rfl, hb3⟩))
      all_goals (first | (go_ret; exact ⟨ret_bool (by rw [EX.out]; (first | (simp_all [emT_t, emT_f, beq_0, statL]; done) | (simp_all [emT, beq_0, statL]; done) | (simp_all [emT_t, emT_f, beq_0, statL]; omega))), HB.out⟩) | (go_ret; exact ⟨ret_bool (by rw [EX.out]; (first | (simp_all [emT_t, emT_f, beq_0, statL]; done) | (simp_all [emT, beq_0, statL]; done) | (simp_all [emT_t, emT_f, beq_0, statL]; omega))), HB.out.trans (Below.mono (by assumption) HB.out.size)⟩))
    ·
      go_enter Try.func55, Try.ntmps55
      go_wp2_with (first | (go_at_call 59; refine CALL.out.mono ?_; rintro e w' ⟨rfl, hb3⟩))
      all_goals (first | (go_ret; exact ⟨ret_bool (by rw [EX.out]; (first | (simp_all [emT_t, emT_f, beq_0, statL]; done) | (simp_all [emT, beq_0, statL]; done) | (simp_all [emT_t, emT_f, beq_0, statL]; omega))), HB.out⟩) | (go_ret; exact ⟨ret_bool (by rw [EX.out]; (first | (simp_all [emT_t, emT_f, beq_0, statL]; done) | (simp_all [emT, beq_0, statL]; done) | (simp_all [emT_t, emT_f, beq_0, statL]; omega))), HB.out.trans (Below.mono (by assumption) HB.out.size)⟩))
  ·
    go_enter Try.func55, Try.ntmps55
    go_wp2_with (first | (go_at_call 59; refine CALL.out.mono ?_; rintro e w' ⟨rfl, hb3⟩))
    all_goals (first | (go_ret; exact ⟨ret_bool (by rw [EX.out]; (first | (simp_all [emT_t, emT_f, beq_0, statL]; done) | (simp_all [emT, beq_0, statL]; done) | (simp_all [emT_t, emT_f, beq_0, statL]; omega))), HB.out⟩) | (go_ret; exact ⟨ret_bool (by rw [EX.out]; (first | (simp_all [emT_t, emT_f, beq_0, statL]; done) | (simp_all [emT, beq_0, statL]; done) | (simp_all [emT_t, emT_f, beq_0, statL]; omega))), HB.out.trans (Below.mono (by assumption) HB.out.size)⟩))
end Go.Proofs.Ytgejkfcemlkclaa
