/-
  Parts of the proof: IsI5. Conditions: none.
-/
import Derived.Test.YtgejkfcemlkclaaQGIsTScQ
namespace Go.Proofs.Ytgejkfcemlkclaa
open Go.ChangeShapes Go.WideShapes Go.ChangeAt Go.RowKit Go.Deep Go.Joins
open Go.ChangeMaps (open_string shut_string)
set_option linter.unusedVariables false
set_option linter.unusedSimpArgs false
set_option maxRecDepth 100000
theorem two_of {l : List FNode} (h : l.length = 2) : ∃ a b, l = [a, b] := by
  match l, h with
  | [a, b], _ => exact ⟨a, b, rfl⟩
set_option maxHeartbeats 1000000 in
theorem exI_15 (z1 : Int) (z2 : ByteArray) (z3 : List FNode) (hw : (FNode.mk 15 z1 z2 z3).wt ≤ 9000000000) (hA : AlI z3) : ExI (.mk 15 z1 z2 z3) := by
  intro us w B hmx hB0 hr
  rw [FNode.c_eq] at hr
  obtain ⟨us0, rfl, hr_0⟩ := hr.unv
  obtain ⟨us1, rfl, hr_1⟩ := hr_0.unv
  obtain ⟨us2, rfl, hr_2⟩ := hr_1.unv
  obtain ⟨A3, c3, us3, rfl, r3, hr_3⟩ := hr_2.uns
  obtain rfl := hr_3.un0
  rw [FNode.wt_eq] at hw
  have hz : z2.size ≤ 9223372036854775807 := by omega
  have hl : z3.length ≤ 9223372036854775807 := by omega
  have EX := Lib.hid (show exF ⟨15, z1, z2, z3⟩ = (((z1 == 0) && emT z2) && (z3.length == 2 && (hdT z3 && z3.all exF))) from by rw [exF_mk]; rfl)
  unfold AlI at hA
  obtain ⟨m, hm⟩ : ∃ m, z3.length = m := ⟨_, rfl⟩
  try rw [hm] at EX
  rw [hm] at hl r3 hA ⊢
  have HB := Lib.hid ((Below.refl _ w).alloc (Nat.le_refl _) (.cells #[.int .i64 15, .int .i64 z1, .string z2, .slice A3 m c3] 29))
  have CALL := Lib.hid (hA _ _ w.heap.size (hmx.below HB.out) HB.out.size ((r3.up hB0).below HB.out (Nat.le_refl _)))
  clear hr hr_0 hr_1 hr_2 hr_3
  have HR := Lib.hid r3
  clear r3
  by_cases e2 : z1 = 0
  · subst e2
    by_cases e1 : m = 2
    · subst e1
      obtain ⟨⟨y0, y1, y2, y3⟩, yb, rfl⟩ := two_of hm
      have hy : (FNode.mk y0 y1 y2 y3).wt ≤ 9000000000 := by have := FNode.wts_at [FNode.mk y0 y1 y2 y3, yb] _ (List.mem_cons_self ..); omega
      obtain ⟨bcy, offcy, Ey, hblcy, hcc⟩ := RdC.at_ (l := [FNode.mk y0 y1 y2 y3, yb]) FNode.len HR.out (i := 0) (x := FNode.mk y0 y1 y2 y3) rfl
      rw [FNode.c_eq] at hcc
      obtain ⟨u0, e0, q0⟩ := hcc 0 _ rfl
      obtain rfl := q0.val
      have c_0 : w.cell? ⟨bcy, offcy, none⟩ = some (.int .i64 y0) := ((Below.refl w.heap.size w).cell (p := ⟨bcy, _, none⟩) (by show bcy < w.heap.size; omega)).trans (by simpa using e0)
      obtain ⟨u1, e1, q1⟩ := hcc 1 _ rfl
      obtain rfl := q1.val
      have c_1 : w.cell? ⟨bcy, offcy + 1, none⟩ = some (.int .i64 y1) := ((Below.refl w.heap.size w).cell (p := ⟨bcy, _, none⟩) (by show bcy < w.heap.size; omega)).trans (by simpa using e1)
      obtain ⟨u2, e2, q2⟩ := hcc 2 _ rfl
      obtain rfl := q2.val
      have c_2 : w.cell? ⟨bcy, offcy + 2, none⟩ = some (.string y2) := ((Below.refl w.heap.size w).cell (p := ⟨bcy, _, none⟩) (by show bcy < w.heap.size; omega)).trans (by simpa using e2)
      obtain ⟨u3, e3, q3⟩ := hcc 3 _ rfl
      obtain ⟨Dy, dy, rfl⟩ := q3.form
      have c_3 : w.cell? ⟨bcy, offcy + 3, none⟩ = some (.slice Dy y3.length dy) := ((Below.refl w.heap.size w).cell (p := ⟨bcy, _, none⟩) (by show bcy < w.heap.size; omega)).trans (by simpa using e3)
      have Qy := Lib.hid q3
      clear hcc e0 e1 e2 e3 q0 q1 q2 q3
      subst Ey
      have hbl : bcy < w.heap.size := Nat.lt_of_lt_of_le hblcy hB0
      cases hv : [FNode.mk y0 y1 y2 y3, yb].all exF with
      | false =>
        rw [hv] at CALL EX
        clear hm hw hy hv
        go_enter Try.func55, Try.ntmps55
        go_wp2_with (first | (go_at_call 59; refine CALL.out.mono ?_; rintro e w' ⟨rfl, hb3⟩))
        all_goals (first | (go_ret; exact ⟨ret_bool (by rw [EX.out]; (first | (simp_all [emT_t, emT_f, beq_0, statL]; done) | (simp_all [emT, beq_0, statL]; done) | (simp_all [emT_t, emT_f, beq_0, statL]; omega))), HB.out⟩) | (go_ret; exact ⟨ret_bool (by rw [EX.out]; (first | (simp_all [emT_t, emT_f, beq_0, statL]; done) | (simp_all [emT, beq_0, statL]; done) | (simp_all [emT_t, emT_f, beq_0, statL]; omega))), HB.out.trans (Below.mono (by assumption) HB.out.size)⟩))
      | true =>
        have HT := Lib.hid (tg_eq ⟨y0, y1, y2, y3⟩ (by simp at hv; exact hv.1))
        rw [hv, show hdT [FNode.mk y0 y1 y2 y3, yb] = tgN ⟨y0, y1, y2, y3⟩ from rfl] at EX
        rw [hv] at CALL
        clear hm hw hv
        go_enter Try.func55, Try.ntmps55
        go_wp2_with (first | (go_at_call 59; refine CALL.out.mono ?_; rintro e w3 ⟨rfl, hb3⟩; have HB3 := Lib.hid (HB.out.trans (hb3.mono HB.out.size)); have bx : w3.cell? ⟨w.heap.size, 3, none⟩ = some (.slice (some ⟨bcy, offcy, none⟩) 2 c3) := (hb3.cell (p := ⟨w.heap.size, 3, none⟩) (by show w.heap.size < _; simp)).trans (by rw [World.cell?_alloc_new]; rfl); have cy_0 := (HB3.out.cell (p := ⟨bcy, offcy, none⟩) hbl).trans c_0; have cy_1 := (HB3.out.cell (p := ⟨bcy, offcy + 1, none⟩) hbl).trans c_1; have cy_2 := (HB3.out.cell (p := ⟨bcy, offcy + 2, none⟩) hbl).trans c_2; have cy_3 := (HB3.out.cell (p := ⟨bcy, offcy + 3, none⟩) hbl).trans c_3) | (go_at_call 81; refine (isT_impl ⟨y0, y1, y2, y3⟩ hy [.int .i64 y0, .int .i64 y1, .string y2, .slice Dy y3.length dy] _ w.heap.size HB3.out.size (by rw [FNode.c_eq]; exact RdVs.cons (by unfold RdC; rfl) (RdVs.cons (by unfold RdC; rfl) (RdVs.cons (by unfold RdC; rfl) (RdVs.cons ((Qy.out.up hB0).below HB3.out (Nat.le_refl _)) (RdVs.nil _ _)))))).mono ?_; rw [HT.out]; rintro e w4 ⟨rfl, hb4⟩))
        all_goals (first | (go_ret; exact ⟨ret_bool (by rw [EX.out]; (first | (simp_all [emT_t, emT_f, beq_0, statL]; done) | (simp_all [emT, beq_0, statL]; done) | (simp_all [emT_t, emT_f, beq_0, statL]; omega))), HB.out⟩) | (go_ret; exact ⟨ret_bool (by rw [EX.out]; (first | (simp_all [emT_t, emT_f, beq_0, statL]; done) | (simp_all [emT, beq_0, statL]; done) | (simp_all [emT_t, emT_f, beq_0, statL]; omega))), HB3.out.trans (Below.mono (by assumption) HB3.out.size)⟩))
    · clear hm hw hA
      go_enter Try.func55, Try.ntmps55
      go_wp2_with (fail)
      all_goals (first | (go_ret; exact ⟨ret_bool (by rw [EX.out]; (first | (simp_all [emT_t, emT_f, beq_0, statL]; done) | (simp_all [emT, beq_0, statL]; done) | (simp_all [emT_t, emT_f, beq_0, statL]; omega))), HB.out⟩) | (go_ret; exact ⟨ret_bool (by rw [EX.out]; (first | (simp_all [emT_t, emT_f, beq_0, statL]; done) | (simp_all [emT, beq_0, statL]; done) | (simp_all [emT_t, emT_f, beq_0, statL]; omega))), HB.out.trans (Below.mono (by assumption) HB.out.size)⟩))
  · clear hm hw hA
    go_enter Try.func55, Try.ntmps55
    go_wp2_with (fail)
    all_goals (first | (go_ret; exact ⟨ret_bool (by rw [EX.out]; (first | (simp_all [emT_t, emT_f, beq_0, statL]; done) | (simp_all [emT, beq_0, statL]; done) | (simp_all [emT_t, emT_f, beq_0, statL]; omega))), HB.out⟩) | (go_ret; exact ⟨ret_bool (by rw [EX.out]; (first | (simp_all [emT_t, emT_f, beq_0, statL]; done) | (simp_all [emT, beq_0, statL]; done) | (simp_all [emT_t, emT_f, beq_0, statL]; omega))), HB.out.trans (Below.mono (by assumption) HB.out.size)⟩))
set_option maxHeartbeats 1000000 in
theorem exI_16 (z1 : Int) (z2 : ByteArray) (z3 : List FNode) (hw : (FNode.mk 16 z1 z2 z3).wt ≤ 9000000000) (hA : AlI z3) : ExI (.mk 16 z1 z2 z3) := by
  intro us w B hmx hB0 hr
  rw [FNode.c_eq] at hr
  obtain ⟨us0, rfl, hr_0⟩ := hr.unv
  obtain ⟨us1, rfl, hr_1⟩ := hr_0.unv
  obtain ⟨us2, rfl, hr_2⟩ := hr_1.unv
  obtain ⟨A3, c3, us3, rfl, r3, hr_3⟩ := hr_2.uns
  obtain rfl := hr_3.un0
  rw [FNode.wt_eq] at hw
  have hz : z2.size ≤ 9223372036854775807 := by omega
  have hl : z3.length ≤ 9223372036854775807 := by omega
  have EX := Lib.hid (show exF ⟨16, z1, z2, z3⟩ = (((z1 == 0) && emT z2) && (z3.length == 2 && (hdT z3 && z3.all exF))) from by rw [exF_mk]; rfl)
  unfold AlI at hA
  obtain ⟨m, hm⟩ : ∃ m, z3.length = m := ⟨_, rfl⟩
  try rw [hm] at EX
  rw [hm] at hl r3 hA ⊢
  have HB := Lib.hid ((Below.refl _ w).alloc (Nat.le_refl _) (.cells #[.int .i64 16, .int .i64 z1, .string z2, .slice A3 m c3] 29))
  have CALL := Lib.hid (hA _ _ w.heap.size (hmx.below HB.out) HB.out.size ((r3.up hB0).below HB.out (Nat.le_refl _)))
  clear hr hr_0 hr_1 hr_2 hr_3
  have HR := Lib.hid r3
  clear r3
  by_cases e2 : z1 = 0
  · subst e2
    by_cases e1 : m = 2
    · subst e1
      obtain ⟨⟨y0, y1, y2, y3⟩, yb, rfl⟩ := two_of hm
      have hy : (FNode.mk y0 y1 y2 y3).wt ≤ 9000000000 := by have := FNode.wts_at [FNode.mk y0 y1 y2 y3, yb] _ (List.mem_cons_self ..); omega
      obtain ⟨bcy, offcy, Ey, hblcy, hcc⟩ := RdC.at_ (l := [FNode.mk y0 y1 y2 y3, yb]) FNode.len HR.out (i := 0) (x := FNode.mk y0 y1 y2 y3) rfl
      rw [FNode.c_eq] at hcc
      obtain ⟨u0, e0, q0⟩ := hcc 0 _ rfl
      obtain rfl := q0.val
      have c_0 : w.cell? ⟨bcy, offcy, none⟩ = some (.int .i64 y0) := ((Below.refl w.heap.size w).cell (p := ⟨bcy, _, none⟩) (by show bcy < w.heap.size; omega)).trans (by simpa using e0)
      obtain ⟨u1, e1, q1⟩ := hcc 1 _ rfl
      obtain rfl := q1.val
      have c_1 : w.cell? ⟨bcy, offcy + 1, none⟩ = some (.int .i64 y1) := ((Below.refl w.heap.size w).cell (p := ⟨bcy, _, none⟩) (by show bcy < w.heap.size; omega)).trans (by simpa using e1)
      obtain ⟨u2, e2, q2⟩ := hcc 2 _ rfl
      obtain rfl := q2.val
      have c_2 : w.cell? ⟨bcy, offcy + 2, none⟩ = some (.string y2) := ((Below.refl w.heap.size w).cell (p := ⟨bcy, _, none⟩) (by show bcy < w.heap.size; omega)).trans (by simpa using e2)
      obtain ⟨u3, e3, q3⟩ := hcc 3 _ rfl
      obtain ⟨Dy, dy, rfl⟩ := q3.form
      have c_3 : w.cell? ⟨bcy, offcy + 3, none⟩ = some (.slice Dy y3.length dy) := ((Below.refl w.heap.size w).cell (p := ⟨bcy, _, none⟩) (by show bcy < w.heap.size; omega)).trans (by simpa using e3)
      have Qy := Lib.hid q3
      clear hcc e0 e1 e2 e3 q0 q1 q2 q3
      subst Ey
      have hbl : bcy < w.heap.size := Nat.lt_of_lt_of_le hblcy hB0
      cases hv : [FNode.mk y0 y1 y2 y3, yb].all exF with
      | false =>
        rw [hv] at CALL EX
        clear hm hw hy hv
        go_enter Try.func55, Try.ntmps55
        go_wp2_with (first | (go_at_call 59; refine CALL.out.mono ?_; rintro e w' ⟨rfl, hb3⟩))
        all_goals (first | (go_ret; exact ⟨ret_bool (by rw [EX.out]; (first | (simp_all [emT_t, emT_f, beq_0, statL]; done) | (simp_all [emT, beq_0, statL]; done) | (simp_all [emT_t, emT_f, beq_0, statL]; omega))), HB.out⟩) | (go_ret; exact ⟨ret_bool (by rw [EX.out]; (first | (simp_all [emT_t, emT_f, beq_0, statL]; done) | (simp_all [emT, beq_0, statL]; done) | (simp_all [emT_t, emT_f, beq_0, statL]; omega))), HB.out.trans (Below.mono (by assumption) HB.out.size)⟩))
      | true =>
        have HT := Lib.hid (tg_eq ⟨y0, y1, y2, y3⟩ (by simp at hv; exact hv.1))
        rw [hv, show hdT [FNode.mk y0 y1 y2 y3, yb] = tgN ⟨y0, y1, y2, y3⟩ from rfl] at EX
        rw [hv] at CALL
        clear hm hw hv
        go_enter Try.func55, Try.ntmps55
        go_wp2_with (first | (go_at_call 59; refine CALL.out.mono ?_; rintro e w3 ⟨rfl, hb3⟩; have HB3 := Lib.hid (HB.out.trans (hb3.mono HB.out.size)); have bx : w3.cell? ⟨w.heap.size, 3, none⟩ = some (.slice (some ⟨bcy, offcy, none⟩) 2 c3) := (hb3.cell (p := ⟨w.heap.size, 3, none⟩) (by show w.heap.size < _; simp)).trans (by rw [World.cell?_alloc_new]; rfl); have cy_0 := (HB3.out.cell (p := ⟨bcy, offcy, none⟩) hbl).trans c_0; have cy_1 := (HB3.out.cell (p := ⟨bcy, offcy + 1, none⟩) hbl).trans c_1; have cy_2 := (HB3.out.cell (p := ⟨bcy, offcy + 2, none⟩) hbl).trans c_2; have cy_3 := (HB3.out.cell (p := ⟨bcy, offcy + 3, none⟩) hbl).trans c_3) | (go_at_call 81; refine (isT_impl ⟨y0, y1, y2, y3⟩ hy [.int .i64 y0, .int .i64 y1, .string y2, .slice Dy y3.length dy] _ w.heap.size HB3.out.size (by rw [FNode.c_eq]; exact RdVs.cons (by unfold RdC; rfl) (RdVs.cons (by unfold RdC; rfl) (RdVs.cons (by unfold RdC; rfl) (RdVs.cons ((Qy.out.up hB0).below HB3.out (Nat.le_refl _)) (RdVs.nil _ _)))))).mono ?_; rw [HT.out]; rintro e w4 ⟨rfl, hb4⟩))
        all_goals (first | (go_ret; exact ⟨ret_bool (by rw [EX.out]; (first | (simp_all [emT_t, emT_f, beq_0, statL]; done) | (simp_all [emT, beq_0, statL]; done) | (simp_all [emT_t, emT_f, beq_0, statL]; omega))), HB.out⟩) | (go_ret; exact ⟨ret_bool (by rw [EX.out]; (first | (simp_all [emT_t, emT_f, beq_0, statL]; done) | (simp_all [emT, beq_0, statL]; done) | (simp_all [emT_t, emT_f, beq_0, statL]; omega))), HB3.out.trans (Below.mono (by assumption) HB3.out.size)⟩))
    · clear hm hw hA
      go_enter Try.func55, Try.ntmps55
      go_wp2_with (fail)
      all_goals (first | (go_ret; exact ⟨ret_bool (by rw [EX.out]; (first | (simp_all [emT_t, emT_f, beq_0, statL]; done) | (simp_all [emT, beq_0, statL]; done) | (simp_all [emT_t, emT_f, beq_0, statL]; omega))), HB.out⟩) | (go_ret; exact ⟨ret_bool (by rw [EX.out]; (first | (simp_all [emT_t, emT_f, beq_0, statL]; done) | (simp_all [emT, beq_0, statL]; done) | (simp_all [emT_t, emT_f, beq_0, statL]; omega))), HB.out.trans (Below.mono (by assumption) HB.out.size)⟩))
  · clear hm hw hA
    go_enter Try.func55, Try.ntmps55
    go_wp2_with (fail)
    all_goals (first | (go_ret; exact ⟨ret_bool (by rw [EX.out]; (first | (simp_all [emT_t, emT_f, beq_0, statL]; done) | (simp_all [emT, beq_0, statL]; done) | (simp_all [emT_t, emT_f, beq_0, statL]; omega))), HB.out⟩) | (go_ret; exact ⟨ret_bool (by rw [EX.out]; (first | (simp_all [emT_t, emT_f, beq_0, statL]; done) | (simp_all [emT, beq_0, statL]; done) | (simp_all [emT_t, emT_f, beq_0, statL]; omega))), HB.out.trans (Below.mono (by assumption) HB.out.size)⟩))
end Go.Proofs.Ytgejkfcemlkclaa
