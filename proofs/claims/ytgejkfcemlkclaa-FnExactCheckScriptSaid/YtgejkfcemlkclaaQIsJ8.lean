/-
  Parts of the proof: IsJ8. Conditions: none.
-/
import Derived.Test.YtgejkfcemlkclaaQIsJ7
namespace Go.Proofs.Ytgejkfcemlkclaa
open Go.ChangeShapes Go.WideShapes Go.ChangeAt Go.RowKit Go.Deep Go.Joins
open Go.ChangeMaps (open_string shut_string)
set_option linter.unusedVariables false
set_option linter.unusedSimpArgs false
set_option maxRecDepth 100000
theorem four_of {l : List FNode} (h : l.length = 4) : ∃ a b c d, l = [a, b, c, d] := by
  match l, h with
  | [a, b, c, d], _ => exact ⟨a, b, c, d, rfl⟩
theorem feK_no (l : List FNode) (h : ¬ l.length = 3 ∧ ¬ l.length = 4) : feK l = false := by
  match l, h with
  | [], _ => rfl
  | [_], _ => rfl
  | [_, _], _ => rfl
  | [_, _, _], h => simp at h
  | [_, _, _, _], h => simp at h
  | _ :: _ :: _ :: _ :: _ :: _, _ => rfl
theorem fe3_eq (a y d : FNode) : feK [a, y, d] = (exF a && ((y.kd == 4 && exF y) && blF d)) := by
  show (exF a && (exF y && (y.kd == 4 && blF d))) = _
  cases exF a <;> cases exF y <;> cases (y.kd == 4) <;> cases blF d <;> rfl
theorem fe4_eq (a y z d : FNode) : feK [a, y, z, d] = (exF a && ((y.kd == 4 && exF y) && ((z.kd == 4 && exF z) && blF d))) := by
  show (exF a && (exF y && (exF z && (y.kd == 4 && (z.kd == 4 && blF d))))) = _
  cases exF a <;> cases exF y <;> cases (y.kd == 4) <;> cases exF z <;> cases (z.kd == 4) <;> cases blF d <;> rfl
theorem yi_eq (y d : FNode) : (decide (1 ≤ 2 ∧ 2 ≤ 2) && ([y, d].all exF && (2 == 1 || hd4 [y, d]))) = ((y.kd == 4 && exF y) && exF d) := by
  show (true && ((exF y && (exF d && true)) && (false || y.kd == 4))) = _
  cases exF y <;> cases (y.kd == 4) <;> cases exF d <;> rfl
set_option maxHeartbeats 2000000 in
theorem stI_36 (z1 : Int) (z2 : ByteArray) (z3 : List FNode) (hw : (FNode.mk 36 z1 z2 z3).wt ≤ 9000000000) (hE : ∀ x, x ∈ z3 → ExI x) (hBl : ∀ x, x ∈ z3 → BlI [x]) : StI (.mk 36 z1 z2 z3) := by
  intro us w B hmx hB0 hr
  rw [FNode.c_eq] at hr
  obtain ⟨us0, rfl, hr_0⟩ := hr.unv
  obtain ⟨us1, rfl, hr_1⟩ := hr_0.unv
  obtain ⟨us2, rfl, hr_2⟩ := hr_1.unv
  obtain ⟨A3, c3, us3, rfl, r3, hr_3⟩ := hr_2.uns
  obtain rfl := hr_3.un0
  rw [FNode.wt_eq] at hw
  have hz : z2.size ≤ 9223372036854775807 := by omega
  have hl : z3.length ≤ 9223372036854775807 := by omega
  have EX := Lib.hid (show stF ⟨36, z1, z2, z3⟩ = (((z1 == 0) && emT z2) && feK z3) from by rw [stF_mk]; rfl)

  obtain ⟨m, hm⟩ : ∃ m, z3.length = m := ⟨_, rfl⟩
  try rw [hm] at EX
  rw [hm] at hl r3  ⊢
  have HB := Lib.hid ((Below.refl _ w).alloc (Nat.le_refl _) (.cells #[.int .i64 36, .int .i64 z1, .string z2, .slice A3 m c3] 29))

  clear hr hr_0 hr_1 hr_2 hr_3
  have HR := Lib.hid r3
  have hcap : m ≤ c3 := by
    have h := r3
    unfold RdC at h
    obtain ⟨A', c', hA, k1, k2, _, _⟩ := h
    simp only [Value.slice.injEq, true_and] at hA
    omega
  clear r3
  by_cases e2 : z1 = 0
  · subst e2
    by_cases e3 : m = 3
    · subst e3
      obtain ⟨⟨y0, y1, y2, y3⟩, ⟨t0, t1, t2, t3⟩, ye, rfl⟩ := three_of hm
      obtain ⟨bcy, offcy, Ey, hblcy, hcc⟩ := RdC.at_ (l := [FNode.mk y0 y1 y2 y3, FNode.mk t0 t1 t2 t3, ye]) FNode.len HR.out (i := 0) (x := FNode.mk y0 y1 y2 y3) rfl
      rw [FNode.c_eq] at hcc
      obtain ⟨u0, e0, q0⟩ := hcc 0 _ rfl
      obtain rfl := q0.val
      have cy_0 : w.cell? ⟨bcy, offcy, none⟩ = some (.int .i64 y0) := ((Below.refl w.heap.size w).cell (p := ⟨bcy, _, none⟩) (by show bcy < w.heap.size; omega)).trans (by simpa using e0)
      obtain ⟨u1, e1, q1⟩ := hcc 1 _ rfl
      obtain rfl := q1.val
      have cy_1 : w.cell? ⟨bcy, offcy + 1, none⟩ = some (.int .i64 y1) := ((Below.refl w.heap.size w).cell (p := ⟨bcy, _, none⟩) (by show bcy < w.heap.size; omega)).trans (by simpa using e1)
      obtain ⟨u2, e2, q2⟩ := hcc 2 _ rfl
      obtain rfl := q2.val
      have cy_2 : w.cell? ⟨bcy, offcy + 2, none⟩ = some (.string y2) := ((Below.refl w.heap.size w).cell (p := ⟨bcy, _, none⟩) (by show bcy < w.heap.size; omega)).trans (by simpa using e2)
      obtain ⟨u3, e3, q3⟩ := hcc 3 _ rfl
      obtain ⟨Dy, dy, rfl⟩ := q3.form
      have cy_3 : w.cell? ⟨bcy, offcy + 3, none⟩ = some (.slice Dy y3.length dy) := ((Below.refl w.heap.size w).cell (p := ⟨bcy, _, none⟩) (by show bcy < w.heap.size; omega)).trans (by simpa using e3)
      have Qy := Lib.hid q3
      clear hcc e0 e1 e2 e3 q0 q1 q2 q3
      obtain ⟨bct, offct, Et, hblct, hcc⟩ := RdC.at_ (l := [FNode.mk y0 y1 y2 y3, FNode.mk t0 t1 t2 t3, ye]) FNode.len HR.out (i := 1) (x := FNode.mk t0 t1 t2 t3) rfl
      rw [FNode.c_eq] at hcc
      obtain ⟨u0, e0, q0⟩ := hcc 0 _ rfl
      obtain rfl := q0.val
      have ct_0 : w.cell? ⟨bct, offct + 4, none⟩ = some (.int .i64 t0) := ((Below.refl w.heap.size w).cell (p := ⟨bct, _, none⟩) (by show bct < w.heap.size; omega)).trans (by simpa using e0)
      obtain ⟨u1, e1, q1⟩ := hcc 1 _ rfl
      obtain rfl := q1.val
      have ct_1 : w.cell? ⟨bct, offct + 5, none⟩ = some (.int .i64 t1) := ((Below.refl w.heap.size w).cell (p := ⟨bct, _, none⟩) (by show bct < w.heap.size; omega)).trans (by simpa using e1)
      obtain ⟨u2, e2, q2⟩ := hcc 2 _ rfl
      obtain rfl := q2.val
      have ct_2 : w.cell? ⟨bct, offct + 6, none⟩ = some (.string t2) := ((Below.refl w.heap.size w).cell (p := ⟨bct, _, none⟩) (by show bct < w.heap.size; omega)).trans (by simpa using e2)
      obtain ⟨u3, e3, q3⟩ := hcc 3 _ rfl
      obtain ⟨Dt, dt, rfl⟩ := q3.form
      have ct_3 : w.cell? ⟨bct, offct + 7, none⟩ = some (.slice Dt t3.length dt) := ((Below.refl w.heap.size w).cell (p := ⟨bct, _, none⟩) (by show bct < w.heap.size; omega)).trans (by simpa using e3)
      have Qt := Lib.hid q3
      clear hcc e0 e1 e2 e3 q0 q1 q2 q3
      have hbl : bcy < w.heap.size := Nat.lt_of_lt_of_le hblcy hB0
      subst Ey
      obtain ⟨g1, g2⟩ : bcy = bct ∧ offcy = offct := by simpa using Et
      subst g1
      subst g2
      clear Et
      have ay_0 := (HB.out.cell (p := ⟨bcy, offcy, none⟩) hbl).trans cy_0
      have ay_1 := (HB.out.cell (p := ⟨bcy, offcy + 1, none⟩) hbl).trans cy_1
      have ay_2 := (HB.out.cell (p := ⟨bcy, offcy + 2, none⟩) hbl).trans cy_2
      have ay_3 := (HB.out.cell (p := ⟨bcy, offcy + 3, none⟩) hbl).trans cy_3
      have HV := Lib.hid (hE ⟨y0, y1, y2, y3⟩ (List.mem_cons_self ..))
      have HL := Lib.hid (hBl ye (by simp))
      have RT := Lib.hid (rd_drop (p := [FNode.mk y0 y1 y2 y3, FNode.mk t0 t1 t2 t3]) (l := [ye]) (Nat.zero_lt_succ _) rfl HR.out)
      have hwt : (FNode.mk t0 t1 t2 t3).wt ≤ 9000000000 := by have := FNode.wts_at [FNode.mk y0 y1 y2 y3, FNode.mk t0 t1 t2 t3, ye] (FNode.mk t0 t1 t2 t3) (by simp); omega
      have HVt := Lib.hid (var_impl _ hwt)
      have CALL := Lib.hid (HV.out [.int .i64 y0, .int .i64 y1, .string y2, .slice Dy y3.length dy] _ w.heap.size (hmx.below HB.out) HB.out.size (by rw [FNode.c_eq]; exact RdVs.cons (by unfold RdC; rfl) (RdVs.cons (by unfold RdC; rfl) (RdVs.cons (by unfold RdC; rfl) (RdVs.cons ((Qy.out.up hB0).below HB.out (Nat.le_refl _)) (RdVs.nil _ _))))))
      clear hm hw hE hBl hwt
      rw [show feK [FNode.mk y0 y1 y2 y3, FNode.mk t0 t1 t2 t3, ye] = (exF ⟨y0, y1, y2, y3⟩ && (varF ⟨t0, t1, t2, t3⟩ && blF ye)) from by rw [← varF_ex ⟨t0, t1, t2, t3⟩]; exact fe3_eq _ _ _ ] at EX
      cases hv : exF ⟨y0, y1, y2, y3⟩ with
      | false =>
        rw [hv] at CALL EX
        clear hv
        go_enter Try.func34, Try.ntmps34
        go_wp2_with (first | (go_at_call 54; refine (inRange_any _ _ _ _).mono ?_; rintro e w' ⟨rfl, rfl⟩) | (go_at_call 55; refine CALL.out.mono ?_; rintro e w3 ⟨rfl, hb3⟩; have HB3 := Lib.hid (HB.out.trans (hb3.mono HB.out.size))))
        all_goals (first | (go_ret; exact ⟨ret_bool (by rw [EX.out]; (first | (simp_all [emT_t, emT_f, beq_0, statL]; done) | (simp_all [emT, beq_0, statL]; done) | (simp_all [emT_t, emT_f, beq_0, statL]; omega))), HB.out⟩) | (go_ret; exact ⟨ret_bool (by rw [EX.out]; (first | (simp_all [emT_t, emT_f, beq_0, statL]; done) | (simp_all [emT, beq_0, statL]; done) | (simp_all [emT_t, emT_f, beq_0, statL]; omega))), HB3.out⟩) | (go_ret; exact ⟨ret_bool (by rw [EX.out]; (first | (simp_all [emT_t, emT_f, beq_0, statL]; done) | (simp_all [emT, beq_0, statL]; done) | (simp_all [emT_t, emT_f, beq_0, statL]; omega))), HB3.out.trans (Below.mono (by assumption) HB3.out.size)⟩))
      | true =>
        rw [hv] at CALL EX
        clear hv
        cases hv : varF ⟨t0, t1, t2, t3⟩ with
        | false =>
          rw [hv] at HVt EX
          clear hv
          have tok_t : True := trivial
          go_enter Try.func34, Try.ntmps34
          go_wp2_with (first | (go_at_call 54; refine (inRange_any _ _ _ _).mono ?_; rintro e w' ⟨rfl, rfl⟩) | (go_at_call 55; refine CALL.out.mono ?_; rintro e w3 ⟨rfl, hb3⟩; have HB3 := Lib.hid (HB.out.trans (hb3.mono HB.out.size)); have bx_w3 : w3.cell? ⟨w.heap.size, 3, none⟩ = some (.slice (some ⟨bcy, offcy, none⟩) 3 c3) := (hb3.cell (p := ⟨w.heap.size, 3, none⟩) (by show w.heap.size < _; simp)).trans (by rw [World.cell?_alloc_new]; rfl); have sz_w3 : w.heap.size < w3.heap.size := Nat.lt_of_lt_of_le (by simp) hb3.size; have c_w3_t0 := (HB3.out.cell (p := ⟨bcy, offcy + 4, none⟩) hbl).trans ct_0; have c_w3_t1 := (HB3.out.cell (p := ⟨bcy, offcy + 5, none⟩) hbl).trans ct_1; have c_w3_t2 := (HB3.out.cell (p := ⟨bcy, offcy + 6, none⟩) hbl).trans ct_2; have c_w3_t3 := (HB3.out.cell (p := ⟨bcy, offcy + 7, none⟩) hbl).trans ct_3) | (go_at_call 58; clear tok_t; refine (HVt.out [.int .i64 t0, .int .i64 t1, .string t2, .slice Dt t3.length dt] w3 w.heap.size (by rw [FNode.c_eq]; exact RdVs.cons (by unfold RdC; rfl) (RdVs.cons (by unfold RdC; rfl) (RdVs.cons (by unfold RdC; rfl) (RdVs.cons ((Qt.out.up hB0).below HB3.out (Nat.le_refl _)) (RdVs.nil _ _)))))).mono ?_; rintro e w4 ⟨rfl, hb4⟩; have HB4 := Lib.hid (HB3.out.trans (hb4.mono HB3.out.size)); have bx_w4 : w4.cell? ⟨w.heap.size, 3, none⟩ = some (.slice (some ⟨bcy, offcy, none⟩) 3 c3) := (hb4.cell (p := ⟨w.heap.size, 3, none⟩) sz_w3).trans bx_w3; have sz_w4 : w.heap.size < w4.heap.size := Nat.lt_of_lt_of_le sz_w3 hb4.size))
          all_goals (first | (go_ret; exact ⟨ret_bool (by rw [EX.out]; (first | (simp_all [emT_t, emT_f, beq_0, statL]; done) | (simp_all [emT, beq_0, statL]; done) | (simp_all [emT_t, emT_f, beq_0, statL]; omega))), HB.out⟩) | (go_ret; exact ⟨ret_bool (by rw [EX.out]; (first | (simp_all [emT_t, emT_f, beq_0, statL]; done) | (simp_all [emT, beq_0, statL]; done) | (simp_all [emT_t, emT_f, beq_0, statL]; omega))), HB4.out⟩) | (go_ret; exact ⟨ret_bool (by rw [EX.out]; (first | (simp_all [emT_t, emT_f, beq_0, statL]; done) | (simp_all [emT, beq_0, statL]; done) | (simp_all [emT_t, emT_f, beq_0, statL]; omega))), HB4.out.trans (Below.mono (by assumption) HB4.out.size)⟩))
        | true =>
          rw [hv] at HVt EX
          clear hv
          have tok_t : True := trivial
          go_enter Try.func34, Try.ntmps34
          go_wp2_with (first | (go_at_call 54; refine (inRange_any _ _ _ _).mono ?_; rintro e w' ⟨rfl, rfl⟩) | (go_at_call 55; refine CALL.out.mono ?_; rintro e w3 ⟨rfl, hb3⟩; have HB3 := Lib.hid (HB.out.trans (hb3.mono HB.out.size)); have bx_w3 : w3.cell? ⟨w.heap.size, 3, none⟩ = some (.slice (some ⟨bcy, offcy, none⟩) 3 c3) := (hb3.cell (p := ⟨w.heap.size, 3, none⟩) (by show w.heap.size < _; simp)).trans (by rw [World.cell?_alloc_new]; rfl); have sz_w3 : w.heap.size < w3.heap.size := Nat.lt_of_lt_of_le (by simp) hb3.size; have c_w3_t0 := (HB3.out.cell (p := ⟨bcy, offcy + 4, none⟩) hbl).trans ct_0; have c_w3_t1 := (HB3.out.cell (p := ⟨bcy, offcy + 5, none⟩) hbl).trans ct_1; have c_w3_t2 := (HB3.out.cell (p := ⟨bcy, offcy + 6, none⟩) hbl).trans ct_2; have c_w3_t3 := (HB3.out.cell (p := ⟨bcy, offcy + 7, none⟩) hbl).trans ct_3) | (go_at_call 58; clear tok_t; refine (HVt.out [.int .i64 t0, .int .i64 t1, .string t2, .slice Dt t3.length dt] w3 w.heap.size (by rw [FNode.c_eq]; exact RdVs.cons (by unfold RdC; rfl) (RdVs.cons (by unfold RdC; rfl) (RdVs.cons (by unfold RdC; rfl) (RdVs.cons ((Qt.out.up hB0).below HB3.out (Nat.le_refl _)) (RdVs.nil _ _)))))).mono ?_; rintro e w4 ⟨rfl, hb4⟩; have HB4 := Lib.hid (HB3.out.trans (hb4.mono HB3.out.size)); have bx_w4 : w4.cell? ⟨w.heap.size, 3, none⟩ = some (.slice (some ⟨bcy, offcy, none⟩) 3 c3) := (hb4.cell (p := ⟨w.heap.size, 3, none⟩) sz_w3).trans bx_w3; have sz_w4 : w.heap.size < w4.heap.size := Nat.lt_of_lt_of_le sz_w3 hb4.size) | (go_at_call 57; refine (HL.out _ _ w.heap.size (hmx.below HB4.out) HB4.out.size ((RT.out.up hB0).below HB4.out (Nat.le_refl _))).mono ?_; rintro e w9 ⟨rfl, hb9⟩))
          all_goals (first | (go_ret; exact ⟨ret_bool (by rw [EX.out]; (first | (simp_all [emT_t, emT_f, beq_0, statL]; done) | (simp_all [emT, beq_0, statL]; done) | (simp_all [emT_t, emT_f, beq_0, statL]; omega))), HB.out⟩) | (go_ret; exact ⟨ret_bool (by rw [EX.out]; (first | (simp_all [emT_t, emT_f, beq_0, statL]; done) | (simp_all [emT, beq_0, statL]; done) | (simp_all [emT_t, emT_f, beq_0, statL]; omega))), HB4.out⟩) | (go_ret; exact ⟨ret_bool (by rw [EX.out]; (first | (simp_all [emT_t, emT_f, beq_0, statL]; done) | (simp_all [emT, beq_0, statL]; done) | (simp_all [emT_t, emT_f, beq_0, statL]; omega))), HB4.out.trans (Below.mono (by assumption) HB4.out.size)⟩))
    ·
      by_cases e4 : m = 4
      · subst e4
        obtain ⟨⟨y0, y1, y2, y3⟩, ⟨t0, t1, t2, t3⟩, ⟨u0, u1, u2, u3⟩, ye, rfl⟩ := four_of hm
        obtain ⟨bcy, offcy, Ey, hblcy, hcc⟩ := RdC.at_ (l := [FNode.mk y0 y1 y2 y3, FNode.mk t0 t1 t2 t3, FNode.mk u0 u1 u2 u3, ye]) FNode.len HR.out (i := 0) (x := FNode.mk y0 y1 y2 y3) rfl
        rw [FNode.c_eq] at hcc
        obtain ⟨u0, e0, q0⟩ := hcc 0 _ rfl
        obtain rfl := q0.val
        have cy_0 : w.cell? ⟨bcy, offcy, none⟩ = some (.int .i64 y0) := ((Below.refl w.heap.size w).cell (p := ⟨bcy, _, none⟩) (by show bcy < w.heap.size; omega)).trans (by simpa using e0)
        obtain ⟨u1, e1, q1⟩ := hcc 1 _ rfl
        obtain rfl := q1.val
        have cy_1 : w.cell? ⟨bcy, offcy + 1, none⟩ = some (.int .i64 y1) := ((Below.refl w.heap.size w).cell (p := ⟨bcy, _, none⟩) (by show bcy < w.heap.size; omega)).trans (by simpa using e1)
        obtain ⟨u2, e2, q2⟩ := hcc 2 _ rfl
        obtain rfl := q2.val
        have cy_2 : w.cell? ⟨bcy, offcy + 2, none⟩ = some (.string y2) := ((Below.refl w.heap.size w).cell (p := ⟨bcy, _, none⟩) (by show bcy < w.heap.size; omega)).trans (by simpa using e2)
        obtain ⟨u3, e3, q3⟩ := hcc 3 _ rfl
        obtain ⟨Dy, dy, rfl⟩ := q3.form
        have cy_3 : w.cell? ⟨bcy, offcy + 3, none⟩ = some (.slice Dy y3.length dy) := ((Below.refl w.heap.size w).cell (p := ⟨bcy, _, none⟩) (by show bcy < w.heap.size; omega)).trans (by simpa using e3)
        have Qy := Lib.hid q3
        clear hcc e0 e1 e2 e3 q0 q1 q2 q3
        obtain ⟨bct, offct, Et, hblct, hcc⟩ := RdC.at_ (l := [FNode.mk y0 y1 y2 y3, FNode.mk t0 t1 t2 t3, FNode.mk u0 u1 u2 u3, ye]) FNode.len HR.out (i := 1) (x := FNode.mk t0 t1 t2 t3) rfl
        rw [FNode.c_eq] at hcc
        obtain ⟨u0, e0, q0⟩ := hcc 0 _ rfl
        obtain rfl := q0.val
        have ct_0 : w.cell? ⟨bct, offct + 4, none⟩ = some (.int .i64 t0) := ((Below.refl w.heap.size w).cell (p := ⟨bct, _, none⟩) (by show bct < w.heap.size; omega)).trans (by simpa using e0)
        obtain ⟨u1, e1, q1⟩ := hcc 1 _ rfl
        obtain rfl := q1.val
        have ct_1 : w.cell? ⟨bct, offct + 5, none⟩ = some (.int .i64 t1) := ((Below.refl w.heap.size w).cell (p := ⟨bct, _, none⟩) (by show bct < w.heap.size; omega)).trans (by simpa using e1)
        obtain ⟨u2, e2, q2⟩ := hcc 2 _ rfl
        obtain rfl := q2.val
        have ct_2 : w.cell? ⟨bct, offct + 6, none⟩ = some (.string t2) := ((Below.refl w.heap.size w).cell (p := ⟨bct, _, none⟩) (by show bct < w.heap.size; omega)).trans (by simpa using e2)
        obtain ⟨u3, e3, q3⟩ := hcc 3 _ rfl
        obtain ⟨Dt, dt, rfl⟩ := q3.form
        have ct_3 : w.cell? ⟨bct, offct + 7, none⟩ = some (.slice Dt t3.length dt) := ((Below.refl w.heap.size w).cell (p := ⟨bct, _, none⟩) (by show bct < w.heap.size; omega)).trans (by simpa using e3)
        have Qt := Lib.hid q3
        clear hcc e0 e1 e2 e3 q0 q1 q2 q3
        obtain ⟨bcu, offcu, Eu, hblcu, hcc⟩ := RdC.at_ (l := [FNode.mk y0 y1 y2 y3, FNode.mk t0 t1 t2 t3, FNode.mk u0 u1 u2 u3, ye]) FNode.len HR.out (i := 2) (x := FNode.mk u0 u1 u2 u3) rfl
        rw [FNode.c_eq] at hcc
        obtain ⟨u0, e0, q0⟩ := hcc 0 _ rfl
        obtain rfl := q0.val
        have cu_0 : w.cell? ⟨bcu, offcu + 8, none⟩ = some (.int .i64 u0) := ((Below.refl w.heap.size w).cell (p := ⟨bcu, _, none⟩) (by show bcu < w.heap.size; omega)).trans (by simpa using e0)
        obtain ⟨u1, e1, q1⟩ := hcc 1 _ rfl
        obtain rfl := q1.val
        have cu_1 : w.cell? ⟨bcu, offcu + 9, none⟩ = some (.int .i64 u1) := ((Below.refl w.heap.size w).cell (p := ⟨bcu, _, none⟩) (by show bcu < w.heap.size; omega)).trans (by simpa using e1)
        obtain ⟨u2, e2, q2⟩ := hcc 2 _ rfl
        obtain rfl := q2.val
        have cu_2 : w.cell? ⟨bcu, offcu + 10, none⟩ = some (.string u2) := ((Below.refl w.heap.size w).cell (p := ⟨bcu, _, none⟩) (by show bcu < w.heap.size; omega)).trans (by simpa using e2)
        obtain ⟨u3, e3, q3⟩ := hcc 3 _ rfl
        obtain ⟨Du, du, rfl⟩ := q3.form
        have cu_3 : w.cell? ⟨bcu, offcu + 11, none⟩ = some (.slice Du u3.length du) := ((Below.refl w.heap.size w).cell (p := ⟨bcu, _, none⟩) (by show bcu < w.heap.size; omega)).trans (by simpa using e3)
        have Qu := Lib.hid q3
        clear hcc e0 e1 e2 e3 q0 q1 q2 q3
        have hbl : bcy < w.heap.size := Nat.lt_of_lt_of_le hblcy hB0
        subst Ey
        obtain ⟨g1, g2⟩ : bcy = bct ∧ offcy = offct := by simpa using Et
        subst g1
        subst g2
        clear Et
        obtain ⟨g1, g2⟩ : bcy = bcu ∧ offcy = offcu := by simpa using Eu
        subst g1
        subst g2
        clear Eu
        have ay_0 := (HB.out.cell (p := ⟨bcy, offcy, none⟩) hbl).trans cy_0
        have ay_1 := (HB.out.cell (p := ⟨bcy, offcy + 1, none⟩) hbl).trans cy_1
        have ay_2 := (HB.out.cell (p := ⟨bcy, offcy + 2, none⟩) hbl).trans cy_2
        have ay_3 := (HB.out.cell (p := ⟨bcy, offcy + 3, none⟩) hbl).trans cy_3
        have HV := Lib.hid (hE ⟨y0, y1, y2, y3⟩ (List.mem_cons_self ..))
        have HL := Lib.hid (hBl ye (by simp))
        have RT := Lib.hid (rd_drop (p := [FNode.mk y0 y1 y2 y3, FNode.mk t0 t1 t2 t3, FNode.mk u0 u1 u2 u3]) (l := [ye]) (Nat.zero_lt_succ _) rfl HR.out)
        have hwt : (FNode.mk t0 t1 t2 t3).wt ≤ 9000000000 := by have := FNode.wts_at [FNode.mk y0 y1 y2 y3, FNode.mk t0 t1 t2 t3, FNode.mk u0 u1 u2 u3, ye] (FNode.mk t0 t1 t2 t3) (by simp); omega
        have HVt := Lib.hid (var_impl _ hwt)
        have hwu : (FNode.mk u0 u1 u2 u3).wt ≤ 9000000000 := by have := FNode.wts_at [FNode.mk y0 y1 y2 y3, FNode.mk t0 t1 t2 t3, FNode.mk u0 u1 u2 u3, ye] (FNode.mk u0 u1 u2 u3) (by simp); omega
        have HVu := Lib.hid (var_impl _ hwu)
        have CALL := Lib.hid (HV.out [.int .i64 y0, .int .i64 y1, .string y2, .slice Dy y3.length dy] _ w.heap.size (hmx.below HB.out) HB.out.size (by rw [FNode.c_eq]; exact RdVs.cons (by unfold RdC; rfl) (RdVs.cons (by unfold RdC; rfl) (RdVs.cons (by unfold RdC; rfl) (RdVs.cons ((Qy.out.up hB0).below HB.out (Nat.le_refl _)) (RdVs.nil _ _))))))
        clear hm hw hE hBl hwt hwu
        rw [show feK [FNode.mk y0 y1 y2 y3, FNode.mk t0 t1 t2 t3, FNode.mk u0 u1 u2 u3, ye] = (exF ⟨y0, y1, y2, y3⟩ && (varF ⟨t0, t1, t2, t3⟩ && (varF ⟨u0, u1, u2, u3⟩ && blF ye))) from by rw [← varF_ex ⟨t0, t1, t2, t3⟩]; rw [← varF_ex ⟨u0, u1, u2, u3⟩]; exact fe4_eq _ _ _ _ ] at EX
        cases hv : exF ⟨y0, y1, y2, y3⟩ with
        | false =>
          rw [hv] at CALL EX
          clear hv
          go_enter Try.func34, Try.ntmps34
          go_wp2_with (first | (go_at_call 54; refine (inRange_any _ _ _ _).mono ?_; rintro e w' ⟨rfl, rfl⟩) | (go_at_call 55; refine CALL.out.mono ?_; rintro e w3 ⟨rfl, hb3⟩; have HB3 := Lib.hid (HB.out.trans (hb3.mono HB.out.size))))
          all_goals (first | (go_ret; exact ⟨ret_bool (by rw [EX.out]; (first | (simp_all [emT_t, emT_f, beq_0, statL]; done) | (simp_all [emT, beq_0, statL]; done) | (simp_all [emT_t, emT_f, beq_0, statL]; omega))), HB.out⟩) | (go_ret; exact ⟨ret_bool (by rw [EX.out]; (first | (simp_all [emT_t, emT_f, beq_0, statL]; done) | (simp_all [emT, beq_0, statL]; done) | (simp_all [emT_t, emT_f, beq_0, statL]; omega))), HB3.out⟩) | (go_ret; exact ⟨ret_bool (by rw [EX.out]; (first | (simp_all [emT_t, emT_f, beq_0, statL]; done) | (simp_all [emT, beq_0, statL]; done) | (simp_all [emT_t, emT_f, beq_0, statL]; omega))), HB3.out.trans (Below.mono (by assumption) HB3.out.size)⟩))
        | true =>
          rw [hv] at CALL EX
          clear hv
          cases hv : varF ⟨t0, t1, t2, t3⟩ with
          | false =>
            rw [hv] at HVt EX
            clear hv
            have tok_t : True := trivial
            go_enter Try.func34, Try.ntmps34
            go_wp2_with (first | (go_at_call 54; refine (inRange_any _ _ _ _).mono ?_; rintro e w' ⟨rfl, rfl⟩) | (go_at_call 55; refine CALL.out.mono ?_; rintro e w3 ⟨rfl, hb3⟩; have HB3 := Lib.hid (HB.out.trans (hb3.mono HB.out.size)); have bx_w3 : w3.cell? ⟨w.heap.size, 3, none⟩ = some (.slice (some ⟨bcy, offcy, none⟩) 4 c3) := (hb3.cell (p := ⟨w.heap.size, 3, none⟩) (by show w.heap.size < _; simp)).trans (by rw [World.cell?_alloc_new]; rfl); have sz_w3 : w.heap.size < w3.heap.size := Nat.lt_of_lt_of_le (by simp) hb3.size; have c_w3_t0 := (HB3.out.cell (p := ⟨bcy, offcy + 4, none⟩) hbl).trans ct_0; have c_w3_t1 := (HB3.out.cell (p := ⟨bcy, offcy + 5, none⟩) hbl).trans ct_1; have c_w3_t2 := (HB3.out.cell (p := ⟨bcy, offcy + 6, none⟩) hbl).trans ct_2; have c_w3_t3 := (HB3.out.cell (p := ⟨bcy, offcy + 7, none⟩) hbl).trans ct_3; have c_w3_u0 := (HB3.out.cell (p := ⟨bcy, offcy + 8, none⟩) hbl).trans cu_0; have c_w3_u1 := (HB3.out.cell (p := ⟨bcy, offcy + 9, none⟩) hbl).trans cu_1; have c_w3_u2 := (HB3.out.cell (p := ⟨bcy, offcy + 10, none⟩) hbl).trans cu_2; have c_w3_u3 := (HB3.out.cell (p := ⟨bcy, offcy + 11, none⟩) hbl).trans cu_3) | (go_at_call 58; clear tok_t; refine (HVt.out [.int .i64 t0, .int .i64 t1, .string t2, .slice Dt t3.length dt] w3 w.heap.size (by rw [FNode.c_eq]; exact RdVs.cons (by unfold RdC; rfl) (RdVs.cons (by unfold RdC; rfl) (RdVs.cons (by unfold RdC; rfl) (RdVs.cons ((Qt.out.up hB0).below HB3.out (Nat.le_refl _)) (RdVs.nil _ _)))))).mono ?_; rintro e w4 ⟨rfl, hb4⟩; have HB4 := Lib.hid (HB3.out.trans (hb4.mono HB3.out.size)); have bx_w4 : w4.cell? ⟨w.heap.size, 3, none⟩ = some (.slice (some ⟨bcy, offcy, none⟩) 4 c3) := (hb4.cell (p := ⟨w.heap.size, 3, none⟩) sz_w3).trans bx_w3; have sz_w4 : w.heap.size < w4.heap.size := Nat.lt_of_lt_of_le sz_w3 hb4.size; have c_w4_u0 := (HB4.out.cell (p := ⟨bcy, offcy + 8, none⟩) hbl).trans cu_0; have c_w4_u1 := (HB4.out.cell (p := ⟨bcy, offcy + 9, none⟩) hbl).trans cu_1; have c_w4_u2 := (HB4.out.cell (p := ⟨bcy, offcy + 10, none⟩) hbl).trans cu_2; have c_w4_u3 := (HB4.out.cell (p := ⟨bcy, offcy + 11, none⟩) hbl).trans cu_3))
            all_goals (first | (go_ret; exact ⟨ret_bool (by rw [EX.out]; (first | (simp_all [emT_t, emT_f, beq_0, statL]; done) | (simp_all [emT, beq_0, statL]; done) | (simp_all [emT_t, emT_f, beq_0, statL]; omega))), HB.out⟩) | (go_ret; exact ⟨ret_bool (by rw [EX.out]; (first | (simp_all [emT_t, emT_f, beq_0, statL]; done) | (simp_all [emT, beq_0, statL]; done) | (simp_all [emT_t, emT_f, beq_0, statL]; omega))), HB4.out⟩) | (go_ret; exact ⟨ret_bool (by rw [EX.out]; (first | (simp_all [emT_t, emT_f, beq_0, statL]; done) | (simp_all [emT, beq_0, statL]; done) | (simp_all [emT_t, emT_f, beq_0, statL]; omega))), HB4.out.trans (Below.mono (by assumption) HB4.out.size)⟩))
          | true =>
            rw [hv] at HVt EX
            clear hv
            cases hv : varF ⟨u0, u1, u2, u3⟩ with
            | false =>
              rw [hv] at HVu EX
              clear hv
              have tok_t : True := trivial
              have tok_u : True := trivial
              go_enter Try.func34, Try.ntmps34
              go_wp2_with (first | (go_at_call 54; refine (inRange_any _ _ _ _).mono ?_; rintro e w' ⟨rfl, rfl⟩) | (go_at_call 55; refine CALL.out.mono ?_; rintro e w3 ⟨rfl, hb3⟩; have HB3 := Lib.hid (HB.out.trans (hb3.mono HB.out.size)); have bx_w3 : w3.cell? ⟨w.heap.size, 3, none⟩ = some (.slice (some ⟨bcy, offcy, none⟩) 4 c3) := (hb3.cell (p := ⟨w.heap.size, 3, none⟩) (by show w.heap.size < _; simp)).trans (by rw [World.cell?_alloc_new]; rfl); have sz_w3 : w.heap.size < w3.heap.size := Nat.lt_of_lt_of_le (by simp) hb3.size; have c_w3_t0 := (HB3.out.cell (p := ⟨bcy, offcy + 4, none⟩) hbl).trans ct_0; have c_w3_t1 := (HB3.out.cell (p := ⟨bcy, offcy + 5, none⟩) hbl).trans ct_1; have c_w3_t2 := (HB3.out.cell (p := ⟨bcy, offcy + 6, none⟩) hbl).trans ct_2; have c_w3_t3 := (HB3.out.cell (p := ⟨bcy, offcy + 7, none⟩) hbl).trans ct_3; have c_w3_u0 := (HB3.out.cell (p := ⟨bcy, offcy + 8, none⟩) hbl).trans cu_0; have c_w3_u1 := (HB3.out.cell (p := ⟨bcy, offcy + 9, none⟩) hbl).trans cu_1; have c_w3_u2 := (HB3.out.cell (p := ⟨bcy, offcy + 10, none⟩) hbl).trans cu_2; have c_w3_u3 := (HB3.out.cell (p := ⟨bcy, offcy + 11, none⟩) hbl).trans cu_3) | (go_at_call 58; clear tok_t; refine (HVt.out [.int .i64 t0, .int .i64 t1, .string t2, .slice Dt t3.length dt] w3 w.heap.size (by rw [FNode.c_eq]; exact RdVs.cons (by unfold RdC; rfl) (RdVs.cons (by unfold RdC; rfl) (RdVs.cons (by unfold RdC; rfl) (RdVs.cons ((Qt.out.up hB0).below HB3.out (Nat.le_refl _)) (RdVs.nil _ _)))))).mono ?_; rintro e w4 ⟨rfl, hb4⟩; have HB4 := Lib.hid (HB3.out.trans (hb4.mono HB3.out.size)); have bx_w4 : w4.cell? ⟨w.heap.size, 3, none⟩ = some (.slice (some ⟨bcy, offcy, none⟩) 4 c3) := (hb4.cell (p := ⟨w.heap.size, 3, none⟩) sz_w3).trans bx_w3; have sz_w4 : w.heap.size < w4.heap.size := Nat.lt_of_lt_of_le sz_w3 hb4.size; have c_w4_u0 := (HB4.out.cell (p := ⟨bcy, offcy + 8, none⟩) hbl).trans cu_0; have c_w4_u1 := (HB4.out.cell (p := ⟨bcy, offcy + 9, none⟩) hbl).trans cu_1; have c_w4_u2 := (HB4.out.cell (p := ⟨bcy, offcy + 10, none⟩) hbl).trans cu_2; have c_w4_u3 := (HB4.out.cell (p := ⟨bcy, offcy + 11, none⟩) hbl).trans cu_3) | (go_at_call 58; clear tok_u; refine (HVu.out [.int .i64 u0, .int .i64 u1, .string u2, .slice Du u3.length du] w4 w.heap.size (by rw [FNode.c_eq]; exact RdVs.cons (by unfold RdC; rfl) (RdVs.cons (by unfold RdC; rfl) (RdVs.cons (by unfold RdC; rfl) (RdVs.cons ((Qu.out.up hB0).below HB4.out (Nat.le_refl _)) (RdVs.nil _ _)))))).mono ?_; rintro e w5 ⟨rfl, hb5⟩; have HB5 := Lib.hid (HB4.out.trans (hb5.mono HB4.out.size)); have bx_w5 : w5.cell? ⟨w.heap.size, 3, none⟩ = some (.slice (some ⟨bcy, offcy, none⟩) 4 c3) := (hb5.cell (p := ⟨w.heap.size, 3, none⟩) sz_w4).trans bx_w4; have sz_w5 : w.heap.size < w5.heap.size := Nat.lt_of_lt_of_le sz_w4 hb5.size))
              all_goals (first | (go_ret; exact ⟨ret_bool (by rw [EX.out]; (first | (simp_all [emT_t, emT_f, beq_0, statL]; done) | (simp_all [emT, beq_0, statL]; done) | (simp_all [emT_t, emT_f, beq_0, statL]; omega))), HB.out⟩) | (go_ret; exact ⟨ret_bool (by rw [EX.out]; (first | (simp_all [emT_t, emT_f, beq_0, statL]; done) | (simp_all [emT, beq_0, statL]; done) | (simp_all [emT_t, emT_f, beq_0, statL]; omega))), HB5.out⟩) | (go_ret; exact ⟨ret_bool (by rw [EX.out]; (first | (simp_all [emT_t, emT_f, beq_0, statL]; done) | (simp_all [emT, beq_0, statL]; done) | (simp_all [emT_t, emT_f, beq_0, statL]; omega))), HB5.out.trans (Below.mono (by assumption) HB5.out.size)⟩))
            | true =>
              rw [hv] at HVu EX
              clear hv
              have tok_t : True := trivial
              have tok_u : True := trivial
              go_enter Try.func34, Try.ntmps34
              go_wp2_with (first | (go_at_call 54; refine (inRange_any _ _ _ _).mono ?_; rintro e w' ⟨rfl, rfl⟩) | (go_at_call 55; refine CALL.out.mono ?_; rintro e w3 ⟨rfl, hb3⟩; have HB3 := Lib.hid (HB.out.trans (hb3.mono HB.out.size)); have bx_w3 : w3.cell? ⟨w.heap.size, 3, none⟩ = some (.slice (some ⟨bcy, offcy, none⟩) 4 c3) := (hb3.cell (p := ⟨w.heap.size, 3, none⟩) (by show w.heap.size < _; simp)).trans (by rw [World.cell?_alloc_new]; rfl); have sz_w3 : w.heap.size < w3.heap.size := Nat.lt_of_lt_of_le (by simp) hb3.size; have c_w3_t0 := (HB3.out.cell (p := ⟨bcy, offcy + 4, none⟩) hbl).trans ct_0; have c_w3_t1 := (HB3.out.cell (p := ⟨bcy, offcy + 5, none⟩) hbl).trans ct_1; have c_w3_t2 := (HB3.out.cell (p := ⟨bcy, offcy + 6, none⟩) hbl).trans ct_2; have c_w3_t3 := (HB3.out.cell (p := ⟨bcy, offcy + 7, none⟩) hbl).trans ct_3; have c_w3_u0 := (HB3.out.cell (p := ⟨bcy, offcy + 8, none⟩) hbl).trans cu_0; have c_w3_u1 := (HB3.out.cell (p := ⟨bcy, offcy + 9, none⟩) hbl).trans cu_1; have c_w3_u2 := (HB3.out.cell (p := ⟨bcy, offcy + 10, none⟩) hbl).trans cu_2; have c_w3_u3 := (HB3.out.cell (p := ⟨bcy, offcy + 11, none⟩) hbl).trans cu_3) | (go_at_call 58; clear tok_t; refine (HVt.out [.int .i64 t0, .int .i64 t1, .string t2, .slice Dt t3.length dt] w3 w.heap.size (by rw [FNode.c_eq]; exact RdVs.cons (by unfold RdC; rfl) (RdVs.cons (by unfold RdC; rfl) (RdVs.cons (by unfold RdC; rfl) (RdVs.cons ((Qt.out.up hB0).below HB3.out (Nat.le_refl _)) (RdVs.nil _ _)))))).mono ?_; rintro e w4 ⟨rfl, hb4⟩; have HB4 := Lib.hid (HB3.out.trans (hb4.mono HB3.out.size)); have bx_w4 : w4.cell? ⟨w.heap.size, 3, none⟩ = some (.slice (some ⟨bcy, offcy, none⟩) 4 c3) := (hb4.cell (p := ⟨w.heap.size, 3, none⟩) sz_w3).trans bx_w3; have sz_w4 : w.heap.size < w4.heap.size := Nat.lt_of_lt_of_le sz_w3 hb4.size; have c_w4_u0 := (HB4.out.cell (p := ⟨bcy, offcy + 8, none⟩) hbl).trans cu_0; have c_w4_u1 := (HB4.out.cell (p := ⟨bcy, offcy + 9, none⟩) hbl).trans cu_1; have c_w4_u2 := (HB4.out.cell (p := ⟨bcy, offcy + 10, none⟩) hbl).trans cu_2; have c_w4_u3 := (HB4.out.cell (p := ⟨bcy, offcy + 11, none⟩) hbl).trans cu_3) | (go_at_call 58; clear tok_u; refine (HVu.out [.int .i64 u0, .int .i64 u1, .string u2, .slice Du u3.length du] w4 w.heap.size (by rw [FNode.c_eq]; exact RdVs.cons (by unfold RdC; rfl) (RdVs.cons (by unfold RdC; rfl) (RdVs.cons (by unfold RdC; rfl) (RdVs.cons ((Qu.out.up hB0).below HB4.out (Nat.le_refl _)) (RdVs.nil _ _)))))).mono ?_; rintro e w5 ⟨rfl, hb5⟩; have HB5 := Lib.hid (HB4.out.trans (hb5.mono HB4.out.size)); have bx_w5 : w5.cell? ⟨w.heap.size, 3, none⟩ = some (.slice (some ⟨bcy, offcy, none⟩) 4 c3) := (hb5.cell (p := ⟨w.heap.size, 3, none⟩) sz_w4).trans bx_w4; have sz_w5 : w.heap.size < w5.heap.size := Nat.lt_of_lt_of_le sz_w4 hb5.size) | (go_at_call 57; refine (HL.out _ _ w.heap.size (hmx.below HB5.out) HB5.out.size ((RT.out.up hB0).below HB5.out (Nat.le_refl _))).mono ?_; rintro e w9 ⟨rfl, hb9⟩))
              all_goals (first | (go_ret; exact ⟨ret_bool (by rw [EX.out]; (first | (simp_all [emT_t, emT_f, beq_0, statL]; done) | (simp_all [emT, beq_0, statL]; done) | (simp_all [emT_t, emT_f, beq_0, statL]; omega))), HB.out⟩) | (go_ret; exact ⟨ret_bool (by rw [EX.out]; (first | (simp_all [emT_t, emT_f, beq_0, statL]; done) | (simp_all [emT, beq_0, statL]; done) | (simp_all [emT_t, emT_f, beq_0, statL]; omega))), HB5.out⟩) | (go_ret; exact ⟨ret_bool (by rw [EX.out]; (first | (simp_all [emT_t, emT_f, beq_0, statL]; done) | (simp_all [emT, beq_0, statL]; done) | (simp_all [emT_t, emT_f, beq_0, statL]; omega))), HB5.out.trans (Below.mono (by assumption) HB5.out.size)⟩))
      ·
        have hk : feK z3 = false := feK_no z3 (by omega)
        rw [hk] at EX
        clear hm hw hE hBl
        have HIN := Lib.hid (show inB (m : Int) 3 4 = false from inB_f (by omega))
        go_enter Try.func34, Try.ntmps34
        go_wp2_with (first | (go_at_call 54; refine (inRange_any _ _ _ _).mono ?_; rw [HIN.out]; rintro e w' ⟨rfl, rfl⟩))
        all_goals (first | (go_ret; exact ⟨ret_bool (by rw [EX.out]; (first | (simp_all [emT_t, emT_f, beq_0, statL]; done) | (simp_all [emT, beq_0, statL]; done) | (simp_all [emT_t, emT_f, beq_0, statL]; omega))), HB.out⟩) | (go_ret; exact ⟨ret_bool (by rw [EX.out]; (first | (simp_all [emT_t, emT_f, beq_0, statL]; done) | (simp_all [emT, beq_0, statL]; done) | (simp_all [emT_t, emT_f, beq_0, statL]; omega))), HB.out.trans (Below.mono (by assumption) HB.out.size)⟩))
  · clear hm hw hE hBl
    go_enter Try.func34, Try.ntmps34
    go_wp2_with (fail)
    all_goals (first | (go_ret; exact ⟨ret_bool (by rw [EX.out]; (first | (simp_all [emT_t, emT_f, beq_0, statL]; done) | (simp_all [emT, beq_0, statL]; done) | (simp_all [emT_t, emT_f, beq_0, statL]; omega))), HB.out⟩) | (go_ret; exact ⟨ret_bool (by rw [EX.out]; (first | (simp_all [emT_t, emT_f, beq_0, statL]; done) | (simp_all [emT, beq_0, statL]; done) | (simp_all [emT_t, emT_f, beq_0, statL]; omega))), HB.out.trans (Below.mono (by assumption) HB.out.size)⟩))
end Go.Proofs.Ytgejkfcemlkclaa
