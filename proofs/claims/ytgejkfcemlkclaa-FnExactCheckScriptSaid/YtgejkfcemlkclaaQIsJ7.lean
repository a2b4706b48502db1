/-
  Parts of the proof: IsJ7. Conditions: none.
-/
import Derived.Test.YtgejkfcemlkclaaQGIsFRdD
import Derived.Test.YtgejkfcemlkclaaQIsI5
namespace Go.Proofs.Ytgejkfcemlkclaa
open Go.ChangeShapes Go.WideShapes Go.ChangeAt Go.RowKit Go.Deep Go.Joins
open Go.ChangeMaps (open_string shut_string)
set_option linter.unusedVariables false
set_option linter.unusedSimpArgs false
set_option maxRecDepth 100000
theorem three_of {l : List FNode} (h : l.length = 3) : ∃ a b c, l = [a, b, c] := by
  match l, h with
  | [a, b, c], _ => exact ⟨a, b, c, rfl⟩
theorem ifK_no (l : List FNode) (h : ¬ l.length = 2 ∧ ¬ l.length = 3) : ifK l = false := by
  match l, h with
  | [], _ => rfl
  | [_], _ => rfl
  | [_, _], h => simp at h
  | [_, _, _], h => simp at h
  | _ :: _ :: _ :: _ :: _, _ => rfl
theorem whK_no (l : List FNode) (h : ¬ l.length = 2) : whK l = false := by
  match l, h with
  | [], _ => rfl
  | [_], _ => rfl
  | [_, _], h => simp at h
  | _ :: _ :: _ :: _, _ => rfl
set_option maxHeartbeats 1000000 in
theorem stI_35 (z1 : Int) (z2 : ByteArray) (z3 : List FNode) (hw : (FNode.mk 35 z1 z2 z3).wt ≤ 9000000000) (hE : ∀ x, x ∈ z3 → ExI x) (hBl : BlI z3.tail) : StI (.mk 35 z1 z2 z3) := by
  intro us w B hmx hB0 hr
  rw [FNode.c_eq] at hr
  obtain ⟨us0, rfl, hr_0⟩ := hr.unv
  obtain ⟨us1, rfl, hr_1⟩ := hr_0.unv
  obtain ⟨us2, rfl, hr_2⟩ := hr_1.unv
  obtain ⟨A3, c3, us3, rfl, r3, hr_3⟩ := hr_2.uns
  obtain rfl := hr_3.un0
  rw [FNode.wt_eq] at hw
  have hz : z2.size ≤ 9223372036854775807 := by omega
  have hl : z3.length ≤ 9223372036854775807 := by omega
  have EX := Lib.hid (show stF ⟨35, z1, z2, z3⟩ = (((z1 == 0) && emT z2) && whK z3) from by rw [stF_mk]; rfl)

  obtain ⟨m, hm⟩ : ∃ m, z3.length = m := ⟨_, rfl⟩
  try rw [hm] at EX
  rw [hm] at hl r3  ⊢
  have HB := Lib.hid ((Below.refl _ w).alloc (Nat.le_refl _) (.cells #[.int .i64 35, .int .i64 z1, .string z2, .slice A3 m c3] 29))

  clear hr hr_0 hr_1 hr_2 hr_3
  have HR := Lib.hid r3
  have hcap : m ≤ c3 := by
    have h := r3
    unfold RdC at h
    obtain ⟨A', c', hA, k1, k2, _, _⟩ := h
    simp only [Value.slice.injEq, true_and] at hA
    omega
  clear r3
  by_cases e2 : z1 = 0
  · subst e2
    by_cases e1 : m = 2
    · subst e1
      obtain ⟨⟨y0, y1, y2, y3⟩, yb, rfl⟩ := two_of hm
      have HV := Lib.hid (hE ⟨y0, y1, y2, y3⟩ (List.mem_cons_self ..))
      have HL : Hid (BlI [yb]) := Lib.hid hBl
      obtain ⟨bcy, offcy, Ey, hblcy, hcc⟩ := RdC.at_ (l := [FNode.mk y0 y1 y2 y3, yb]) FNode.len HR.out (i := 0) (x := FNode.mk y0 y1 y2 y3) rfl
      rw [FNode.c_eq] at hcc
      obtain ⟨u0, e0, q0⟩ := hcc 0 _ rfl
      obtain rfl := q0.val
      have cy_0 : (w.alloc (.cells #[.int .i64 35, .int .i64 0, .string z2, .slice A3 2 c3] 29)).cell? ⟨bcy, offcy, none⟩ = some (.int .i64 y0) := (HB.out.cell (p := ⟨bcy, _, none⟩) (by show bcy < w.heap.size; omega)).trans (by simpa using e0)
      obtain ⟨u1, e1, q1⟩ := hcc 1 _ rfl
      obtain rfl := q1.val
      have cy_1 : (w.alloc (.cells #[.int .i64 35, .int .i64 0, .string z2, .slice A3 2 c3] 29)).cell? ⟨bcy, offcy + 1, none⟩ = some (.int .i64 y1) := (HB.out.cell (p := ⟨bcy, _, none⟩) (by show bcy < w.heap.size; omega)).trans (by simpa using e1)
      obtain ⟨u2, e2, q2⟩ := hcc 2 _ rfl
      obtain rfl := q2.val
      have cy_2 : (w.alloc (.cells #[.int .i64 35, .int .i64 0, .string z2, .slice A3 2 c3] 29)).cell? ⟨bcy, offcy + 2, none⟩ = some (.string y2) := (HB.out.cell (p := ⟨bcy, _, none⟩) (by show bcy < w.heap.size; omega)).trans (by simpa using e2)
      obtain ⟨u3, e3, q3⟩ := hcc 3 _ rfl
      obtain ⟨Dy, dy, rfl⟩ := q3.form
      have cy_3 : (w.alloc (.cells #[.int .i64 35, .int .i64 0, .string z2, .slice A3 2 c3] 29)).cell? ⟨bcy, offcy + 3, none⟩ = some (.slice Dy y3.length dy) := (HB.out.cell (p := ⟨bcy, _, none⟩) (by show bcy < w.heap.size; omega)).trans (by simpa using e3)
      have Qy := Lib.hid q3
      clear hcc e0 e1 e2 e3 q0 q1 q2 q3
      subst Ey
      have RT := Lib.hid (rd_drop (p := [FNode.mk y0 y1 y2 y3]) (l := [yb]) (Nat.zero_lt_succ _) rfl HR.out)
      have CALL := Lib.hid (HV.out [.int .i64 y0, .int .i64 y1, .string y2, .slice Dy y3.length dy] _ w.heap.size (hmx.below HB.out) HB.out.size (by rw [FNode.c_eq]; exact RdVs.cons (by unfold RdC; rfl) (RdVs.cons (by unfold RdC; rfl) (RdVs.cons (by unfold RdC; rfl) (RdVs.cons ((Qy.out.up hB0).below HB.out (Nat.le_refl _)) (RdVs.nil _ _))))))
      clear hm hw hE hBl
      rw [show whK [FNode.mk y0 y1 y2 y3, yb] = (exF ⟨y0, y1, y2, y3⟩ && [yb].all blF) from by simp [whK]] at EX
      cases hv : exF ⟨y0, y1, y2, y3⟩ with
      | false =>
        rw [hv] at CALL EX
        go_enter Try.func34, Try.ntmps34
        go_wp2_with (first | (go_at_call 54; refine (inRange_any _ _ _ _).mono ?_; rintro e w' ⟨rfl, rfl⟩) | (go_at_call 55; refine CALL.out.mono ?_; rintro e w' ⟨rfl, hb3⟩))
        all_goals (first | (go_ret; exact ⟨ret_bool (by rw [EX.out]; (first | (simp_all [emT_t, emT_f, beq_0, statL]; done) | (simp_all [emT, beq_0, statL]; done) | (simp_all [emT_t, emT_f, beq_0, statL]; omega))), HB.out⟩) | (go_ret; exact ⟨ret_bool (by rw [EX.out]; (first | (simp_all [emT_t, emT_f, beq_0, statL]; done) | (simp_all [emT, beq_0, statL]; done) | (simp_all [emT_t, emT_f, beq_0, statL]; omega))), HB.out.trans (Below.mono (by assumption) HB.out.size)⟩))
      | true =>
        rw [hv] at CALL EX
        go_enter Try.func34, Try.ntmps34
        go_wp2_with (first | (go_at_call 54; refine (inRange_any _ _ _ _).mono ?_; rintro e w' ⟨rfl, rfl⟩) | (go_at_call 55; refine CALL.out.mono ?_; rintro e w3 ⟨rfl, hb3⟩; have HB3 := Lib.hid (HB.out.trans (hb3.mono HB.out.size)); have bx_3 : w3.cell? ⟨w.heap.size, 3, none⟩ = some (.slice (some ⟨bcy, offcy, none⟩) 2 c3) := (hb3.cell (p := ⟨w.heap.size, 3, none⟩) (by show w.heap.size < _; simp)).trans (by rw [World.cell?_alloc_new]; rfl)) | (go_at_call 57; refine (HL.out _ _ w.heap.size (hmx.below HB3.out) HB3.out.size ((RT.out.up hB0).below HB3.out (Nat.le_refl _))).mono ?_; rintro e w4 ⟨rfl, hb4⟩))
        all_goals (first | (go_ret; exact ⟨ret_bool (by rw [EX.out]; (first | (simp_all [emT_t, emT_f, beq_0, statL]; done) | (simp_all [emT, beq_0, statL]; done) | (simp_all [emT_t, emT_f, beq_0, statL]; omega))), HB.out⟩) | (go_ret; exact ⟨ret_bool (by rw [EX.out]; (first | (simp_all [emT_t, emT_f, beq_0, statL]; done) | (simp_all [emT, beq_0, statL]; done) | (simp_all [emT_t, emT_f, beq_0, statL]; omega))), HB3.out.trans (Below.mono (by assumption) HB3.out.size)⟩))
    ·
      have hk : whK z3 = false := whK_no z3 (by omega)
      rw [hk] at EX
      clear hm hw hE hBl
      go_enter Try.func34, Try.ntmps34
      go_wp2_with (first | (go_at_call 54; refine (inRange_any _ _ _ _).mono ?_; rw [HIN.out]; rintro e w' ⟨rfl, rfl⟩))
      all_goals (first | (go_ret; exact ⟨ret_bool (by rw [EX.out]; (first | (simp_all [emT_t, emT_f, beq_0, statL]; done) | (simp_all [emT, beq_0, statL]; done) | (simp_all [emT_t, emT_f, beq_0, statL]; omega))), HB.out⟩) | (go_ret; exact ⟨ret_bool (by rw [EX.out]; (first | (simp_all [emT_t, emT_f, beq_0, statL]; done) | (simp_all [emT, beq_0, statL]; done) | (simp_all [emT_t, emT_f, beq_0, statL]; omega))), HB.out.trans (Below.mono (by assumption) HB.out.size)⟩))
  · clear hm hw hE hBl
    go_enter Try.func34, Try.ntmps34
    go_wp2_with (fail)
    all_goals (first | (go_ret; exact ⟨ret_bool (by rw [EX.out]; (first | (simp_all [emT_t, emT_f, beq_0, statL]; done) | (simp_all [emT, beq_0, statL]; done) | (simp_all [emT_t, emT_f, beq_0, statL]; omega))), HB.out⟩) | (go_ret; exact ⟨ret_bool (by rw [EX.out]; (first | (simp_all [emT_t, emT_f, beq_0, statL]; done) | (simp_all [emT, beq_0, statL]; done) | (simp_all [emT_t, emT_f, beq_0, statL]; omega))), HB.out.trans (Below.mono (by assumption) HB.out.size)⟩))
set_option maxHeartbeats 1000000 in
theorem stI_34 (z1 : Int) (z2 : ByteArray) (z3 : List FNode) (hw : (FNode.mk 34 z1 z2 z3).wt ≤ 9000000000) (hE : ∀ x, x ∈ z3 → ExI x) (hBl : BlI z3.tail) : StI (.mk 34 z1 z2 z3) := by
  intro us w B hmx hB0 hr
  rw [FNode.c_eq] at hr
  obtain ⟨us0, rfl, hr_0⟩ := hr.unv
  obtain ⟨us1, rfl, hr_1⟩ := hr_0.unv
  obtain ⟨us2, rfl, hr_2⟩ := hr_1.unv
  obtain ⟨A3, c3, us3, rfl, r3, hr_3⟩ := hr_2.uns
  obtain rfl := hr_3.un0
  rw [FNode.wt_eq] at hw
  have hz : z2.size ≤ 9223372036854775807 := by omega
  have hl : z3.length ≤ 9223372036854775807 := by omega
  have EX := Lib.hid (show stF ⟨34, z1, z2, z3⟩ = (((z1 == 0) && emT z2) && ifK z3) from by rw [stF_mk]; rfl)

  obtain ⟨m, hm⟩ : ∃ m, z3.length = m := ⟨_, rfl⟩
  try rw [hm] at EX
  rw [hm] at hl r3  ⊢
  have HB := Lib.hid ((Below.refl _ w).alloc (Nat.le_refl _) (.cells #[.int .i64 34, .int .i64 z1, .string z2, .slice A3 m c3] 29))

  clear hr hr_0 hr_1 hr_2 hr_3
  have HR := Lib.hid r3
  have hcap : m ≤ c3 := by
    have h := r3
    unfold RdC at h
    obtain ⟨A', c', hA, k1, k2, _, _⟩ := h
    simp only [Value.slice.injEq, true_and] at hA
    omega
  clear r3
  by_cases e2 : z1 = 0
  · subst e2
    by_cases e1 : m = 2
    · subst e1
      obtain ⟨⟨y0, y1, y2, y3⟩, yb, rfl⟩ := two_of hm
      have HV := Lib.hid (hE ⟨y0, y1, y2, y3⟩ (List.mem_cons_self ..))
      have HL : Hid (BlI [yb]) := Lib.hid hBl
      obtain ⟨bcy, offcy, Ey, hblcy, hcc⟩ := RdC.at_ (l := [FNode.mk y0 y1 y2 y3, yb]) FNode.len HR.out (i := 0) (x := FNode.mk y0 y1 y2 y3) rfl
      rw [FNode.c_eq] at hcc
      obtain ⟨u0, e0, q0⟩ := hcc 0 _ rfl
      obtain rfl := q0.val
      have cy_0 : (w.alloc (.cells #[.int .i64 34, .int .i64 0, .string z2, .slice A3 2 c3] 29)).cell? ⟨bcy, offcy, none⟩ = some (.int .i64 y0) := (HB.out.cell (p := ⟨bcy, _, none⟩) (by show bcy < w.heap.size; omega)).trans (by simpa using e0)
      obtain ⟨u1, e1, q1⟩ := hcc 1 _ rfl
      obtain rfl := q1.val
      have cy_1 : (w.alloc (.cells #[.int .i64 34, .int .i64 0, .string z2, .slice A3 2 c3] 29)).cell? ⟨bcy, offcy + 1, none⟩ = some (.int .i64 y1) := (HB.out.cell (p := ⟨bcy, _, none⟩) (by show bcy < w.heap.size; omega)).trans (by simpa using e1)
      obtain ⟨u2, e2, q2⟩ := hcc 2 _ rfl
      obtain rfl := q2.val
      have cy_2 : (w.alloc (.cells #[.int .i64 34, .int .i64 0, .string z2, .slice A3 2 c3] 29)).cell? ⟨bcy, offcy + 2, none⟩ = some (.string y2) := (HB.out.cell (p := ⟨bcy, _, none⟩) (by show bcy < w.heap.size; omega)).trans (by simpa using e2)
      obtain ⟨u3, e3, q3⟩ := hcc 3 _ rfl
      obtain ⟨Dy, dy, rfl⟩ := q3.form
      have cy_3 : (w.alloc (.cells #[.int .i64 34, .int .i64 0, .string z2, .slice A3 2 c3] 29)).cell? ⟨bcy, offcy + 3, none⟩ = some (.slice Dy y3.length dy) := (HB.out.cell (p := ⟨bcy, _, none⟩) (by show bcy < w.heap.size; omega)).trans (by simpa using e3)
      have Qy := Lib.hid q3
      clear hcc e0 e1 e2 e3 q0 q1 q2 q3
      subst Ey
      have RT := Lib.hid (rd_drop (p := [FNode.mk y0 y1 y2 y3]) (l := [yb]) (Nat.zero_lt_succ _) rfl HR.out)
      have CALL := Lib.hid (HV.out [.int .i64 y0, .int .i64 y1, .string y2, .slice Dy y3.length dy] _ w.heap.size (hmx.below HB.out) HB.out.size (by rw [FNode.c_eq]; exact RdVs.cons (by unfold RdC; rfl) (RdVs.cons (by unfold RdC; rfl) (RdVs.cons (by unfold RdC; rfl) (RdVs.cons ((Qy.out.up hB0).below HB.out (Nat.le_refl _)) (RdVs.nil _ _))))))
      clear hm hw hE hBl
      rw [show ifK [FNode.mk y0 y1 y2 y3, yb] = (exF ⟨y0, y1, y2, y3⟩ && [yb].all blF) from by simp [ifK]] at EX
      cases hv : exF ⟨y0, y1, y2, y3⟩ with
      | false =>
        rw [hv] at CALL EX
        go_enter Try.func34, Try.ntmps34
        go_wp2_with (first | (go_at_call 54; refine (inRange_any _ _ _ _).mono ?_; rintro e w' ⟨rfl, rfl⟩) | (go_at_call 55; refine CALL.out.mono ?_; rintro e w' ⟨rfl, hb3⟩))
        all_goals (first | (go_ret; exact ⟨ret_bool (by rw [EX.out]; (first | (simp_all [emT_t, emT_f, beq_0, statL]; done) | (simp_all [emT, beq_0, statL]; done) | (simp_all [emT_t, emT_f, beq_0, statL]; omega))), HB.out⟩) | (go_ret; exact ⟨ret_bool (by rw [EX.out]; (first | (simp_all [emT_t, emT_f, beq_0, statL]; done) | (simp_all [emT, beq_0, statL]; done) | (simp_all [emT_t, emT_f, beq_0, statL]; omega))), HB.out.trans (Below.mono (by assumption) HB.out.size)⟩))
      | true =>
        rw [hv] at CALL EX
        go_enter Try.func34, Try.ntmps34
        go_wp2_with (first | (go_at_call 54; refine (inRange_any _ _ _ _).mono ?_; rintro e w' ⟨rfl, rfl⟩) | (go_at_call 55; refine CALL.out.mono ?_; rintro e w3 ⟨rfl, hb3⟩; have HB3 := Lib.hid (HB.out.trans (hb3.mono HB.out.size)); have bx_3 : w3.cell? ⟨w.heap.size, 3, none⟩ = some (.slice (some ⟨bcy, offcy, none⟩) 2 c3) := (hb3.cell (p := ⟨w.heap.size, 3, none⟩) (by show w.heap.size < _; simp)).trans (by rw [World.cell?_alloc_new]; rfl)) | (go_at_call 57; refine (HL.out _ _ w.heap.size (hmx.below HB3.out) HB3.out.size ((RT.out.up hB0).below HB3.out (Nat.le_refl _))).mono ?_; rintro e w4 ⟨rfl, hb4⟩))
        all_goals (first | (go_ret; exact ⟨ret_bool (by rw [EX.out]; (first | (simp_all [emT_t, emT_f, beq_0, statL]; done) | (simp_all [emT, beq_0, statL]; done) | (simp_all [emT_t, emT_f, beq_0, statL]; omega))), HB.out⟩) | (go_ret; exact ⟨ret_bool (by rw [EX.out]; (first | (simp_all [emT_t, emT_f, beq_0, statL]; done) | (simp_all [emT, beq_0, statL]; done) | (simp_all [emT_t, emT_f, beq_0, statL]; omega))), HB3.out.trans (Below.mono (by assumption) HB3.out.size)⟩))
    ·
      by_cases e1 : m = 3
      · subst e1
        obtain ⟨⟨y0, y1, y2, y3⟩, yb, yd, rfl⟩ := three_of hm
        have HV := Lib.hid (hE ⟨y0, y1, y2, y3⟩ (List.mem_cons_self ..))
        have HL : Hid (BlI [yb, yd]) := Lib.hid hBl
        obtain ⟨bcy, offcy, Ey, hblcy, hcc⟩ := RdC.at_ (l := [FNode.mk y0 y1 y2 y3, yb, yd]) FNode.len HR.out (i := 0) (x := FNode.mk y0 y1 y2 y3) rfl
        rw [FNode.c_eq] at hcc
        obtain ⟨u0, e0, q0⟩ := hcc 0 _ rfl
        obtain rfl := q0.val
        have cy_0 : (w.alloc (.cells #[.int .i64 34, .int .i64 0, .string z2, .slice A3 3 c3] 29)).cell? ⟨bcy, offcy, none⟩ = some (.int .i64 y0) := (HB.out.cell (p := ⟨bcy, _, none⟩) (by show bcy < w.heap.size; omega)).trans (by simpa using e0)
        obtain ⟨u1, e1, q1⟩ := hcc 1 _ rfl
        obtain rfl := q1.val
        have cy_1 : (w.alloc (.cells #[.int .i64 34, .int .i64 0, .string z2, .slice A3 3 c3] 29)).cell? ⟨bcy, offcy + 1, none⟩ = some (.int .i64 y1) := (HB.out.cell (p := ⟨bcy, _, none⟩) (by show bcy < w.heap.size; omega)).trans (by simpa using e1)
        obtain ⟨u2, e2, q2⟩ := hcc 2 _ rfl
        obtain rfl := q2.val
        have cy_2 : (w.alloc (.cells #[.int .i64 34, .int .i64 0, .string z2, .slice A3 3 c3] 29)).cell? ⟨bcy, offcy + 2, none⟩ = some (.string y2) := (HB.out.cell (p := ⟨bcy, _, none⟩) (by show bcy < w.heap.size; omega)).trans (by simpa using e2)
        obtain ⟨u3, e3, q3⟩ := hcc 3 _ rfl
        obtain ⟨Dy, dy, rfl⟩ := q3.form
        have cy_3 : (w.alloc (.cells #[.int .i64 34, .int .i64 0, .string z2, .slice A3 3 c3] 29)).cell? ⟨bcy, offcy + 3, none⟩ = some (.slice Dy y3.length dy) := (HB.out.cell (p := ⟨bcy, _, none⟩) (by show bcy < w.heap.size; omega)).trans (by simpa using e3)
        have Qy := Lib.hid q3
        clear hcc e0 e1 e2 e3 q0 q1 q2 q3
        subst Ey
        have RT := Lib.hid (rd_drop (p := [FNode.mk y0 y1 y2 y3]) (l := [yb, yd]) (Nat.zero_lt_succ _) rfl HR.out)
        have CALL := Lib.hid (HV.out [.int .i64 y0, .int .i64 y1, .string y2, .slice Dy y3.length dy] _ w.heap.size (hmx.below HB.out) HB.out.size (by rw [FNode.c_eq]; exact RdVs.cons (by unfold RdC; rfl) (RdVs.cons (by unfold RdC; rfl) (RdVs.cons (by unfold RdC; rfl) (RdVs.cons ((Qy.out.up hB0).below HB.out (Nat.le_refl _)) (RdVs.nil _ _))))))
        clear hm hw hE hBl
        rw [show ifK [FNode.mk y0 y1 y2 y3, yb, yd] = (exF ⟨y0, y1, y2, y3⟩ && [yb, yd].all blF) from by simp [ifK]] at EX
        cases hv : exF ⟨y0, y1, y2, y3⟩ with
        | false =>
          rw [hv] at CALL EX
          go_enter Try.func34, Try.ntmps34
          go_wp2_with (first | (go_at_call 54; refine (inRange_any _ _ _ _).mono ?_; rintro e w' ⟨rfl, rfl⟩) | (go_at_call 55; refine CALL.out.mono ?_; rintro e w' ⟨rfl, hb3⟩))
          all_goals (first | (go_ret; exact ⟨ret_bool (by rw [EX.out]; (first | (simp_all [emT_t, emT_f, beq_0, statL]; done) | (simp_all [emT, beq_0, statL]; done) | (simp_all [emT_t, emT_f, beq_0, statL]; omega))), HB.out⟩) | (go_ret; exact ⟨ret_bool (by rw [EX.out]; (first | (simp_all [emT_t, emT_f, beq_0, statL]; done) | (simp_all [emT, beq_0, statL]; done) | (simp_all [emT_t, emT_f, beq_0, statL]; omega))), HB.out.trans (Below.mono (by assumption) HB.out.size)⟩))
        | true =>
          rw [hv] at CALL EX
          go_enter Try.func34, Try.ntmps34
          go_wp2_with (first | (go_at_call 54; refine (inRange_any _ _ _ _).mono ?_; rintro e w' ⟨rfl, rfl⟩) | (go_at_call 55; refine CALL.out.mono ?_; rintro e w3 ⟨rfl, hb3⟩; have HB3 := Lib.hid (HB.out.trans (hb3.mono HB.out.size)); have bx_3 : w3.cell? ⟨w.heap.size, 3, none⟩ = some (.slice (some ⟨bcy, offcy, none⟩) 3 c3) := (hb3.cell (p := ⟨w.heap.size, 3, none⟩) (by show w.heap.size < _; simp)).trans (by rw [World.cell?_alloc_new]; rfl)) | (go_at_call 57; refine (HL.out _ _ w.heap.size (hmx.below HB3.out) HB3.out.size ((RT.out.up hB0).below HB3.out (Nat.le_refl _))).mono ?_; rintro e w4 ⟨rfl, hb4⟩))
          all_goals (first | (go_ret; exact ⟨ret_bool (by rw [EX.out]; (first | (simp_all [emT_t, emT_f, beq_0, statL]; done) | (simp_all [emT, beq_0, statL]; done) | (simp_all [emT_t, emT_f, beq_0, statL]; omega))), HB.out⟩) | (go_ret; exact ⟨ret_bool (by rw [EX.out]; (first | (simp_all [emT_t, emT_f, beq_0, statL]; done) | (simp_all [emT, beq_0, statL]; done) | (simp_all [emT_t, emT_f, beq_0, statL]; omega))), HB3.out.trans (Below.mono (by assumption) HB3.out.size)⟩))
      ·
        have hk : ifK z3 = false := ifK_no z3 (by omega)
        rw [hk] at EX
        clear hm hw hE hBl
        have HIN := Lib.hid (show inB (m : Int) 2 3 = false from inB_f (by omega))
        go_enter Try.func34, Try.ntmps34
        go_wp2_with (first | (go_at_call 54; refine (inRange_any _ _ _ _).mono ?_; rw [HIN.out]; rintro e w' ⟨rfl, rfl⟩))
        all_goals (first | (go_ret; exact ⟨ret_bool (by rw [EX.out]; (first | (simp_all [emT_t, emT_f, beq_0, statL]; done) | (simp_all [emT, beq_0, statL]; done) | (simp_all [emT_t, emT_f, beq_0, statL]; omega))), HB.out⟩) | (go_ret; exact ⟨ret_bool (by rw [EX.out]; (first | (simp_all [emT_t, emT_f, beq_0, statL]; done) | (simp_all [emT, beq_0, statL]; done) | (simp_all [emT_t, emT_f, beq_0, statL]; omega))), HB.out.trans (Below.mono (by assumption) HB.out.size)⟩))
  · clear hm hw hE hBl
    go_enter Try.func34, Try.ntmps34
    go_wp2_with (fail)
    all_goals (first | (go_ret; exact ⟨ret_bool (by rw [EX.out]; (first | (simp_all [emT_t, emT_f, beq_0, statL]; done) | (simp_all [emT, beq_0, statL]; done) | (simp_all [emT_t, emT_f, beq_0, statL]; omega))), HB.out⟩) | (go_ret; exact ⟨ret_bool (by rw [EX.out]; (first | (simp_all [emT_t, emT_f, beq_0, statL]; done) | (simp_all [emT, beq_0, statL]; done) | (simp_all [emT_t, emT_f, beq_0, statL]; omega))), HB.out.trans (Below.mono (by assumption) HB.out.size)⟩))
end Go.Proofs.Ytgejkfcemlkclaa
