/-
  Parts of the proof: IsI7. Conditions: none.
-/
import Derived.Test.YtgejkfcemlkclaaQGIsFRdD
namespace Go.Proofs.Ytgejkfcemlkclaa
open Go.ChangeShapes Go.WideShapes Go.ChangeAt Go.RowKit Go.Deep Go.Joins
open Go.ChangeMaps (open_string shut_string)
set_option linter.unusedVariables false
set_option linter.unusedSimpArgs false
set_option maxRecDepth 100000
theorem exI_23 (z1 : Int) (z2 : ByteArray) (z3 : List FNode) (hw : (FNode.mk 23 z1 z2 z3).wt ≤ 9000000000) (hA : FuI true z3) : ExI (.mk 23 z1 z2 z3) := by
  intro us w B hmx hB0 hr
  rw [FNode.c_eq] at hr
  obtain ⟨us0, rfl, hr_0⟩ := hr.unv
  obtain ⟨us1, rfl, hr_1⟩ := hr_0.unv
  obtain ⟨us2, rfl, hr_2⟩ := hr_1.unv
  obtain ⟨A3, c3, us3, rfl, r3, hr_3⟩ := hr_2.uns
  obtain rfl := hr_3.un0
  rw [FNode.wt_eq] at hw
  have hz : z2.size ≤ 9223372036854775807 := by omega
  have hl : z3.length ≤ 9223372036854775807 := by omega
  have EX := Lib.hid (show exF ⟨23, z1, z2, z3⟩ = (((z1 == 0) && emT z2) && usF true z3) from by rw [exF_mk]; rfl)
  unfold FuI at hA
  obtain ⟨m, hm⟩ : ∃ m, z3.length = m := ⟨_, rfl⟩
  try rw [hm] at EX
  rw [hm] at hl r3 hA ⊢
  have HB := Lib.hid ((Below.refl _ w).alloc (Nat.le_refl _) (.cells #[.int .i64 23, .int .i64 z1, .string z2, .slice A3 m c3] 29))
  have CALL := Lib.hid (hA _ _ w.heap.size (hmx.below HB.out) HB.out.size ((r3.up hB0).below HB.out (Nat.le_refl _)))
  clear hm hr r3 hr_0 hr_1 hr_2 hr_3 hw hA
  by_cases e1 : z1 = 0
  · subst e1
    go_enter Try.func55, Try.ntmps55
    go_wp2_with (first | (go_at_call 53; refine CALL.out.mono ?_; rintro e w' ⟨rfl, hb3⟩))
    all_goals (first | (go_ret; exact ⟨ret_bool (by rw [EX.out]; (first | (simp_all [emT_t, emT_f, beq_0, statL]; done) | (simp_all [emT, beq_0, statL]; done) | (simp_all [emT_t, emT_f, beq_0, statL]; omega))), HB.out⟩) | (go_ret; exact ⟨ret_bool (by rw [EX.out]; (first | (simp_all [emT_t, emT_f, beq_0, statL]; done) | (simp_all [emT, beq_0, statL]; done) | (simp_all [emT_t, emT_f, beq_0, statL]; omega))), HB.out.trans (Below.mono (by assumption) HB.out.size)⟩))
  ·
    go_enter Try.func55, Try.ntmps55
    go_wp2_with (first | (go_at_call 53; refine CALL.out.mono ?_; rintro e w' ⟨rfl, hb3⟩))
    all_goals (first | (go_ret; exact ⟨ret_bool (by rw [EX.out]; (first | (simp_all [emT_t, emT_f, beq_0, statL]; done) | (simp_all [emT, beq_0, statL]; done) | (simp_all [emT_t, emT_f, beq_0, statL]; omega))), HB.out⟩) | (go_ret; exact ⟨ret_bool (by rw [EX.out]; (first | (simp_all [emT_t, emT_f, beq_0, statL]; done) | (simp_all [emT, beq_0, statL]; done) | (simp_all [emT_t, emT_f, beq_0, statL]; omega))), HB.out.trans (Below.mono (by assumption) HB.out.size)⟩))
set_option maxHeartbeats 1000000 in
theorem exI_o (z0 z1 : Int) (z2 : ByteArray) (z3 : List FNode) (hw : (FNode.mk z0 z1 z2 z3).wt ≤ 9000000000) (n1 : ¬ z0 = 1) (n2 : ¬ z0 = 2) (n3 : ¬ z0 = 3) (n4 : ¬ z0 = 4) (n5 : ¬ z0 = 5) (n7 : ¬ z0 = 7) (n8 : ¬ z0 = 8) (n9 : ¬ z0 = 9) (n10 : ¬ z0 = 10) (n11 : ¬ z0 = 11) (n12 : ¬ z0 = 12) (n13 : ¬ z0 = 13) (n14 : ¬ z0 = 14) (n15 : ¬ z0 = 15) (n16 : ¬ z0 = 16) (n17 : ¬ z0 = 17) (n18 : ¬ z0 = 18) (n19 : ¬ z0 = 19) (n20 : ¬ z0 = 20) (n21 : ¬ z0 = 21) (n22 : ¬ z0 = 22) (n23 : ¬ z0 = 23) : ExI (.mk z0 z1 z2 z3) := by
  intro us w B hmx hB0 hr
  rw [FNode.c_eq] at hr
  obtain ⟨us0, rfl, hr_0⟩ := hr.unv
  obtain ⟨us1, rfl, hr_1⟩ := hr_0.unv
  obtain ⟨us2, rfl, hr_2⟩ := hr_1.unv
  obtain ⟨A3, c3, us3, rfl, r3, hr_3⟩ := hr_2.uns
  obtain rfl := hr_3.un0
  rw [FNode.wt_eq] at hw
  have hz : z2.size ≤ 9223372036854775807 := by omega
  have hl : z3.length ≤ 9223372036854775807 := by omega
  have EX := Lib.hid (show exF ⟨z0, z1, z2, z3⟩ = false from by rw [exF_mk]; unfold exK; simp [n1, n2, n3, n4, n5, n7, n8, n9, n10, n11, n12, n13, n14, n15, n16, n17, n18, n19, n20, n21, n22, n23])

  obtain ⟨m, hm⟩ : ∃ m, z3.length = m := ⟨_, rfl⟩
  try rw [hm] at EX
  rw [hm] at hl r3  ⊢
  have HB := Lib.hid ((Below.refl _ w).alloc (Nat.le_refl _) (.cells #[.int .i64 z0, .int .i64 z1, .string z2, .slice A3 m c3] 29))

  clear hm hr r3 hr_0 hr_1 hr_2 hr_3 hw
  go_enter Try.func55, Try.ntmps55
  go_wp2_with (fail)
  all_goals (go_ret; exact ⟨ret_bool EX.out.symm, HB.out⟩)
end Go.Proofs.Ytgejkfcemlkclaa
