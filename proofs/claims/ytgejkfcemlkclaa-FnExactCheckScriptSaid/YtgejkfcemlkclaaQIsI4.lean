/-
  Parts of the proof: IsI4. Conditions: none.
-/
import Derived.Test.YtgejkfcemlkclaaQGIsCIsI0
namespace Go.Proofs.Ytgejkfcemlkclaa
open Go.ChangeShapes Go.WideShapes Go.ChangeAt Go.RowKit Go.Deep Go.Joins
open Go.ChangeMaps (open_string shut_string)
set_option linter.unusedVariables false
set_option linter.unusedSimpArgs false
set_option maxRecDepth 100000
theorem exI_4 (z1 : Int) (z2 : ByteArray) (z3 : List FNode) (hw : (FNode.mk 4 z1 z2 z3).wt ≤ 9000000000) : ExI (.mk 4 z1 z2 z3) := by
  intro us w B hmx hB0 hr
  have HV := Lib.hid (var_impl _ hw)
  rw [FNode.c_eq] at hr
  obtain ⟨us0, rfl, hr_0⟩ := hr.unv
  obtain ⟨us1, rfl, hr_1⟩ := hr_0.unv
  obtain ⟨us2, rfl, hr_2⟩ := hr_1.unv
  obtain ⟨A3, c3, us3, rfl, r3, hr_3⟩ := hr_2.uns
  obtain rfl := hr_3.un0
  rw [FNode.wt_eq] at hw
  have hl : z3.length ≤ 9223372036854775807 := by omega
  have EX := Lib.hid (show exF ⟨4, z1, z2, z3⟩ = varF ⟨4, z1, z2, z3⟩ from varF_ex ⟨4, z1, z2, z3⟩)
  have HB := Lib.hid ((Below.refl _ w).alloc (Nat.le_refl _) (.cells #[.int .i64 4, .int .i64 z1, .string z2, .slice A3 z3.length c3] 29))
  have CALL := Lib.hid (HV.out [.int .i64 4, .int .i64 z1, .string z2, .slice A3 z3.length c3] _ w.heap.size (by rw [FNode.c_eq]; exact RdVs.cons (by unfold RdC; rfl) (RdVs.cons (by unfold RdC; rfl) (RdVs.cons (by unfold RdC; rfl) (RdVs.cons ((r3.up hB0).below HB.out (Nat.le_refl _)) (RdVs.nil _ _))))))
  clear hr r3 hr_0 hr_1 hr_2 hr_3 hw HV
  go_enter Try.func55, Try.ntmps55
  go_wp2_with (first | (go_at_call 58; refine CALL.out.mono ?_; rintro e w' ⟨rfl, hb3⟩))
  all_goals (go_ret; exact ⟨ret_bool (by rw [EX.out]), HB.out.trans (Below.mono (by assumption) HB.out.size)⟩)
set_option maxHeartbeats 1000000 in
theorem exI_9 (z1 : Int) (z2 : ByteArray) (z3 : List FNode) (hw : (FNode.mk 9 z1 z2 z3).wt ≤ 9000000000) (hA : AlI z3) : ExI (.mk 9 z1 z2 z3) := by
  intro us w B hmx hB0 hr
  rw [FNode.c_eq] at hr
  obtain ⟨us0, rfl, hr_0⟩ := hr.unv
  obtain ⟨us1, rfl, hr_1⟩ := hr_0.unv
  obtain ⟨us2, rfl, hr_2⟩ := hr_1.unv
  obtain ⟨A3, c3, us3, rfl, r3, hr_3⟩ := hr_2.uns
  obtain rfl := hr_3.un0
  rw [FNode.wt_eq] at hw
  have hz : z2.size ≤ 9223372036854775807 := by omega
  have hl : z3.length ≤ 9223372036854775807 := by omega
  have EX := Lib.hid (show exF ⟨9, z1, z2, z3⟩ = ((inB z1 1 2 && emT z2) && (z3.length == 1 && z3.all exF)) from by rw [exF_mk]; rfl)
  unfold AlI at hA
  obtain ⟨m, hm⟩ : ∃ m, z3.length = m := ⟨_, rfl⟩
  try rw [hm] at EX
  rw [hm] at hl r3 hA ⊢
  have HB := Lib.hid ((Below.refl _ w).alloc (Nat.le_refl _) (.cells #[.int .i64 9, .int .i64 z1, .string z2, .slice A3 m c3] 29))
  have CALL := Lib.hid (hA _ _ w.heap.size (hmx.below HB.out) HB.out.size ((r3.up hB0).below HB.out (Nat.le_refl _)))
  clear hm hr r3 hr_0 hr_1 hr_2 hr_3 hw hA
  by_cases e9 : z1 = 1
  · subst e9
    have hin : inB 1 1 2 = true := by decide
    by_cases e1 : m = 1
    · subst e1
      go_enter Try.func55, Try.ntmps55
      go_wp2_with (first | (go_at_call 59; refine CALL.out.mono ?_; rintro e w' ⟨rfl, hb3⟩))
      all_goals (first | (go_ret; exact ⟨ret_bool (by rw [EX.out]; (first | (simp_all [emT_t, emT_f, beq_0, statL]; done) | (simp_all [emT, beq_0, statL]; done) | (simp_all [emT_t, emT_f, beq_0, statL]; omega))), HB.out⟩) | (go_ret; exact ⟨ret_bool (by rw [EX.out]; (first | (simp_all [emT_t, emT_f, beq_0, statL]; done) | (simp_all [emT, beq_0, statL]; done) | (simp_all [emT_t, emT_f, beq_0, statL]; omega))), HB.out.trans (Below.mono (by assumption) HB.out.size)⟩))
    ·
      go_enter Try.func55, Try.ntmps55
      go_wp2_with (first | (go_at_call 59; refine CALL.out.mono ?_; rintro e w' ⟨rfl, hb3⟩))
      all_goals (first | (go_ret; exact ⟨ret_bool (by rw [EX.out]; (first | (simp_all [emT_t, emT_f, beq_0, statL]; done) | (simp_all [emT, beq_0, statL]; done) | (simp_all [emT_t, emT_f, beq_0, statL]; omega))), HB.out⟩) | (go_ret; exact ⟨ret_bool (by rw [EX.out]; (first | (simp_all [emT_t, emT_f, beq_0, statL]; done) | (simp_all [emT, beq_0, statL]; done) | (simp_all [emT_t, emT_f, beq_0, statL]; omega))), HB.out.trans (Below.mono (by assumption) HB.out.size)⟩))
  · by_cases e8 : z1 = 2
    · subst e8
      have hin : inB 2 1 2 = true := by decide
      by_cases e1 : m = 1
      · subst e1
        go_enter Try.func55, Try.ntmps55
        go_wp2_with (first | (go_at_call 59; refine CALL.out.mono ?_; rintro e w' ⟨rfl, hb3⟩))
        all_goals (first | (go_ret; exact ⟨ret_bool (by rw [EX.out]; (first | (simp_all [emT_t, emT_f, beq_0, statL]; done) | (simp_all [emT, beq_0, statL]; done) | (simp_all [emT_t, emT_f, beq_0, statL]; omega))), HB.out⟩) | (go_ret; exact ⟨ret_bool (by rw [EX.out]; (first | (simp_all [emT_t, emT_f, beq_0, statL]; done) | (simp_all [emT, beq_0, statL]; done) | (simp_all [emT_t, emT_f, beq_0, statL]; omega))), HB.out.trans (Below.mono (by assumption) HB.out.size)⟩))
      ·
        go_enter Try.func55, Try.ntmps55
        go_wp2_with (first | (go_at_call 59; refine CALL.out.mono ?_; rintro e w' ⟨rfl, hb3⟩))
        all_goals (first | (go_ret; exact ⟨ret_bool (by rw [EX.out]; (first | (simp_all [emT_t, emT_f, beq_0, statL]; done) | (simp_all [emT, beq_0, statL]; done) | (simp_all [emT_t, emT_f, beq_0, statL]; omega))), HB.out⟩) | (go_ret; exact ⟨ret_bool (by rw [EX.out]; (first | (simp_all [emT_t, emT_f, beq_0, statL]; done) | (simp_all [emT, beq_0, statL]; done) | (simp_all [emT_t, emT_f, beq_0, statL]; omega))), HB.out.trans (Below.mono (by assumption) HB.out.size)⟩))
    · have hin : inB z1 1 2 = false := inB_f (by omega)
      go_enter Try.func55, Try.ntmps55
      go_wp2_with (first | (go_at_call 59; refine CALL.out.mono ?_; rintro e w' ⟨rfl, hb3⟩))
      all_goals (first | (go_ret; exact ⟨ret_bool (by rw [EX.out]; (first | (simp_all [emT_t, emT_f, beq_0, statL]; done) | (simp_all [emT, beq_0, statL]; done) | (simp_all [emT_t, emT_f, beq_0, statL]; omega))), HB.out⟩) | (go_ret; exact ⟨ret_bool (by rw [EX.out]; (first | (simp_all [emT_t, emT_f, beq_0, statL]; done) | (simp_all [emT, beq_0, statL]; done) | (simp_all [emT_t, emT_f, beq_0, statL]; omega))), HB.out.trans (Below.mono (by assumption) HB.out.size)⟩))
theorem exI_17 (z1 : Int) (z2 : ByteArray) (z3 : List FNode) (hw : (FNode.mk 17 z1 z2 z3).wt ≤ 9000000000) : ExI (.mk 17 z1 z2 z3) := by
  intro us w B hmx hB0 hr
  rw [FNode.c_eq] at hr
  obtain ⟨us0, rfl, hr_0⟩ := hr.unv
  obtain ⟨us1, rfl, hr_1⟩ := hr_0.unv
  obtain ⟨us2, rfl, hr_2⟩ := hr_1.unv
  obtain ⟨A3, c3, us3, rfl, r3, hr_3⟩ := hr_2.uns
  obtain rfl := hr_3.un0
  rw [FNode.wt_eq] at hw
  have hz : z2.size ≤ 9223372036854775807 := by omega
  have hl : z3.length ≤ 9223372036854775807 := by omega
  have EX := Lib.hid (show exF ⟨17, z1, z2, z3⟩ = (((z1 == 0) && goodF z2) && (z3.length == 1 && (hd4 z3 && z3.all exF))) from by rw [exF_mk]; rfl)

  obtain ⟨m, hm⟩ : ∃ m, z3.length = m := ⟨_, rfl⟩
  try rw [hm] at EX
  rw [hm] at hl r3  ⊢
  have HB := Lib.hid ((Below.refl _ w).alloc (Nat.le_refl _) (.cells #[.int .i64 17, .int .i64 z1, .string z2, .slice A3 m c3] 29))

  clear hr hr_0 hr_1 hr_2 hr_3
  have HR := Lib.hid r3
  clear r3
  by_cases e2 : z1 = 0
  · subst e2
    by_cases e1 : m = 1
    · subst e1
      obtain ⟨⟨y0, y1, y2, y3⟩, rfl⟩ := List.length_eq_one_iff.mp hm
      have hy : (FNode.mk y0 y1 y2 y3).wt ≤ 9000000000 := by have := FNode.wts_at [FNode.mk y0 y1 y2 y3] _ (List.mem_singleton.mpr rfl); omega
      have HV := Lib.hid (varF_ex ⟨y0, y1, y2, y3⟩)
      obtain ⟨bcy, offcy, Ey, hblcy, hcc⟩ := RdC.at_ (l := [FNode.mk y0 y1 y2 y3]) FNode.len HR.out (i := 0) (x := FNode.mk y0 y1 y2 y3) rfl
      rw [FNode.c_eq] at hcc
      obtain ⟨u0, e0, q0⟩ := hcc 0 _ rfl
      obtain rfl := q0.val
      have cy_0 : (w.alloc (.cells #[.int .i64 17, .int .i64 0, .string z2, .slice A3 1 c3] 29)).cell? ⟨bcy, offcy, none⟩ = some (.int .i64 y0) := (HB.out.cell (p := ⟨bcy, _, none⟩) (by show bcy < w.heap.size; omega)).trans (by simpa using e0)
      obtain ⟨u1, e1, q1⟩ := hcc 1 _ rfl
      obtain rfl := q1.val
      have cy_1 : (w.alloc (.cells #[.int .i64 17, .int .i64 0, .string z2, .slice A3 1 c3] 29)).cell? ⟨bcy, offcy + 1, none⟩ = some (.int .i64 y1) := (HB.out.cell (p := ⟨bcy, _, none⟩) (by show bcy < w.heap.size; omega)).trans (by simpa using e1)
      obtain ⟨u2, e2, q2⟩ := hcc 2 _ rfl
      obtain rfl := q2.val
      have cy_2 : (w.alloc (.cells #[.int .i64 17, .int .i64 0, .string z2, .slice A3 1 c3] 29)).cell? ⟨bcy, offcy + 2, none⟩ = some (.string y2) := (HB.out.cell (p := ⟨bcy, _, none⟩) (by show bcy < w.heap.size; omega)).trans (by simpa using e2)
      obtain ⟨u3, e3, q3⟩ := hcc 3 _ rfl
      obtain ⟨Dy, dy, rfl⟩ := q3.form
      have cy_3 : (w.alloc (.cells #[.int .i64 17, .int .i64 0, .string z2, .slice A3 1 c3] 29)).cell? ⟨bcy, offcy + 3, none⟩ = some (.slice Dy y3.length dy) := (HB.out.cell (p := ⟨bcy, _, none⟩) (by show bcy < w.heap.size; omega)).trans (by simpa using e3)
      have Qy := Lib.hid q3
      clear hcc e0 e1 e2 e3 q0 q1 q2 q3
      subst Ey
      have CALL := Lib.hid (var_impl _ hy [.int .i64 y0, .int .i64 y1, .string y2, .slice Dy y3.length dy] _ w.heap.size (by rw [FNode.c_eq]; exact RdVs.cons (by unfold RdC; rfl) (RdVs.cons (by unfold RdC; rfl) (RdVs.cons (by unfold RdC; rfl) (RdVs.cons ((Qy.out.up hB0).below HB.out (Nat.le_refl _)) (RdVs.nil _ _))))))
      clear hm hw hy
      rw [show (hd4 [FNode.mk y0 y1 y2 y3] && [FNode.mk y0 y1 y2 y3].all exF) = varF ⟨y0, y1, y2, y3⟩ from by rw [← HV.out]; simp [hd4, FNode.kd]] at EX
      go_enter Try.func55, Try.ntmps55
      go_wp2_with (first | (go_at_call 52; refine (good_impl _ _ hz).mono ?_; rintro e w' ⟨rfl, rfl⟩) | (go_at_call 58; refine CALL.out.mono ?_; rintro e w' ⟨rfl, hb3⟩))
      all_goals (first | (go_ret; exact ⟨ret_bool (by rw [EX.out]; (first | (simp_all [emT_t, emT_f, beq_0, statL]; done) | (simp_all [emT, beq_0, statL]; done) | (simp_all [emT_t, emT_f, beq_0, statL]; omega))), HB.out⟩) | (go_ret; exact ⟨ret_bool (by rw [EX.out]; (first | (simp_all [emT_t, emT_f, beq_0, statL]; done) | (simp_all [emT, beq_0, statL]; done) | (simp_all [emT_t, emT_f, beq_0, statL]; omega))), HB.out.trans (Below.mono (by assumption) HB.out.size)⟩))
    · clear hm hw
      go_enter Try.func55, Try.ntmps55
      go_wp2_with (first | (go_at_call 52; refine (good_impl _ _ hz).mono ?_; rintro e w' ⟨rfl, rfl⟩))
      all_goals (first | (go_ret; exact ⟨ret_bool (by rw [EX.out]; (first | (simp_all [emT_t, emT_f, beq_0, statL]; done) | (simp_all [emT, beq_0, statL]; done) | (simp_all [emT_t, emT_f, beq_0, statL]; omega))), HB.out⟩) | (go_ret; exact ⟨ret_bool (by rw [EX.out]; (first | (simp_all [emT_t, emT_f, beq_0, statL]; done) | (simp_all [emT, beq_0, statL]; done) | (simp_all [emT_t, emT_f, beq_0, statL]; omega))), HB.out.trans (Below.mono (by assumption) HB.out.size)⟩))
  · clear hm hw
    go_enter Try.func55, Try.ntmps55
    go_wp2_with (first | (go_at_call 52; refine (good_impl _ _ hz).mono ?_; rintro e w' ⟨rfl, rfl⟩))
    all_goals (first | (go_ret; exact ⟨ret_bool (by rw [EX.out]; (first | (simp_all [emT_t, emT_f, beq_0, statL]; done) | (simp_all [emT, beq_0, statL]; done) | (simp_all [emT_t, emT_f, beq_0, statL]; omega))), HB.out⟩) | (go_ret; exact ⟨ret_bool (by rw [EX.out]; (first | (simp_all [emT_t, emT_f, beq_0, statL]; done) | (simp_all [emT, beq_0, statL]; done) | (simp_all [emT_t, emT_f, beq_0, statL]; omega))), HB.out.trans (Below.mono (by assumption) HB.out.size)⟩))
end Go.Proofs.Ytgejkfcemlkclaa
