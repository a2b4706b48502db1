/-
  Parts of the proof: IsJ9. Conditions: none.
-/
import Derived.Test.YtgejkfcemlkclaaQIsJ8
namespace Go.Proofs.Ytgejkfcemlkclaa
open Go.ChangeShapes Go.WideShapes Go.ChangeAt Go.RowKit Go.Deep Go.Joins
open Go.ChangeMaps (open_string shut_string)
set_option linter.unusedVariables false
set_option linter.unusedSimpArgs false
set_option maxRecDepth 100000
set_option maxHeartbeats 2000000 in
theorem stI_46 (z1 : Int) (z2 : ByteArray) (z3 : List FNode) (hw : (FNode.mk 46 z1 z2 z3).wt ≤ 9000000000) (hE : ∀ x, x ∈ z3 → ExI x) : StI (.mk 46 z1 z2 z3) := by
  intro us w B hmx hB0 hr
  rw [FNode.c_eq] at hr
  obtain ⟨us0, rfl, hr_0⟩ := hr.unv
  obtain ⟨us1, rfl, hr_1⟩ := hr_0.unv
  obtain ⟨us2, rfl, hr_2⟩ := hr_1.unv
  obtain ⟨A3, c3, us3, rfl, r3, hr_3⟩ := hr_2.uns
  obtain rfl := hr_3.un0
  rw [FNode.wt_eq] at hw
  have hz : z2.size ≤ 9223372036854775807 := by omega
  have hl : z3.length ≤ 9223372036854775807 := by omega
  have EX := Lib.hid (show stF ⟨46, z1, z2, z3⟩ = (((z1 == 0) && emT z2) && (decide (1 ≤ z3.length ∧ z3.length ≤ 2) && (z3.all exF && (z3.length == 1 || hd4 z3)))) from by rw [stF_mk]; rfl)

  obtain ⟨m, hm⟩ : ∃ m, z3.length = m := ⟨_, rfl⟩
  try rw [hm] at EX
  rw [hm] at hl r3  ⊢
  have HB := Lib.hid ((Below.refl _ w).alloc (Nat.le_refl _) (.cells #[.int .i64 46, .int .i64 z1, .string z2, .slice A3 m c3] 29))

  clear hr hr_0 hr_1 hr_2 hr_3
  have HR := Lib.hid r3
  have hcap : m ≤ c3 := by
    have h := r3
    unfold RdC at h
    obtain ⟨A', c', hA, k1, k2, _, _⟩ := h
    simp only [Value.slice.injEq, true_and] at hA
    omega
  clear r3
  by_cases e2 : z1 = 0
  · subst e2
    by_cases e1 : m = 1
    · subst e1
      obtain ⟨⟨y0, y1, y2, y3⟩, rfl⟩ := List.length_eq_one_iff.mp hm
      have HV := Lib.hid (hE ⟨y0, y1, y2, y3⟩ (List.mem_singleton.mpr rfl))
      obtain ⟨bcy, offcy, Ey, hblcy, hcc⟩ := RdC.at_ (l := [FNode.mk y0 y1 y2 y3]) FNode.len HR.out (i := 0) (x := FNode.mk y0 y1 y2 y3) rfl
      rw [FNode.c_eq] at hcc
      obtain ⟨u0, e0, q0⟩ := hcc 0 _ rfl
      obtain rfl := q0.val
      have cy_0 : (w.alloc (.cells #[.int .i64 46, .int .i64 0, .string z2, .slice A3 1 c3] 29)).cell? ⟨bcy, offcy, none⟩ = some (.int .i64 y0) := (HB.out.cell (p := ⟨bcy, _, none⟩) (by show bcy < w.heap.size; omega)).trans (by simpa using e0)
      obtain ⟨u1, e1, q1⟩ := hcc 1 _ rfl
      obtain rfl := q1.val
      have cy_1 : (w.alloc (.cells #[.int .i64 46, .int .i64 0, .string z2, .slice A3 1 c3] 29)).cell? ⟨bcy, offcy + 1, none⟩ = some (.int .i64 y1) := (HB.out.cell (p := ⟨bcy, _, none⟩) (by show bcy < w.heap.size; omega)).trans (by simpa using e1)
      obtain ⟨u2, e2, q2⟩ := hcc 2 _ rfl
      obtain rfl := q2.val
      have cy_2 : (w.alloc (.cells #[.int .i64 46, .int .i64 0, .string z2, .slice A3 1 c3] 29)).cell? ⟨bcy, offcy + 2, none⟩ = some (.string y2) := (HB.out.cell (p := ⟨bcy, _, none⟩) (by show bcy < w.heap.size; omega)).trans (by simpa using e2)
      obtain ⟨u3, e3, q3⟩ := hcc 3 _ rfl
      obtain ⟨Dy, dy, rfl⟩ := q3.form
      have cy_3 : (w.alloc (.cells #[.int .i64 46, .int .i64 0, .string z2, .slice A3 1 c3] 29)).cell? ⟨bcy, offcy + 3, none⟩ = some (.slice Dy y3.length dy) := (HB.out.cell (p := ⟨bcy, _, none⟩) (by show bcy < w.heap.size; omega)).trans (by simpa using e3)
      have Qy := Lib.hid q3
      clear hcc e0 e1 e2 e3 q0 q1 q2 q3
      subst Ey
      have CALL := Lib.hid (HV.out [.int .i64 y0, .int .i64 y1, .string y2, .slice Dy y3.length dy] _ w.heap.size (hmx.below HB.out) HB.out.size (by rw [FNode.c_eq]; exact RdVs.cons (by unfold RdC; rfl) (RdVs.cons (by unfold RdC; rfl) (RdVs.cons (by unfold RdC; rfl) (RdVs.cons ((Qy.out.up hB0).below HB.out (Nat.le_refl _)) (RdVs.nil _ _))))))
      clear hm hw hE
      rw [show (decide (1 ≤ 1 ∧ 1 ≤ 2) && ([FNode.mk y0 y1 y2 y3].all exF && (1 == 1 || hd4 [FNode.mk y0 y1 y2 y3]))) = exF ⟨y0, y1, y2, y3⟩ from by simp] at EX
      go_enter Try.func34, Try.ntmps34
      go_wp2_with (first | (go_at_call 55; refine CALL.out.mono ?_; rintro e w' ⟨rfl, hb3⟩))
      all_goals (first | (go_ret; exact ⟨ret_bool (by rw [EX.out]; (first | (simp_all [emT_t, emT_f, beq_0, statL]; done) | (simp_all [emT, beq_0, statL]; done) | (simp_all [emT_t, emT_f, beq_0, statL]; omega))), HB.out⟩) | (go_ret; exact ⟨ret_bool (by rw [EX.out]; (first | (simp_all [emT_t, emT_f, beq_0, statL]; done) | (simp_all [emT, beq_0, statL]; done) | (simp_all [emT_t, emT_f, beq_0, statL]; omega))), HB.out.trans (Below.mono (by assumption) HB.out.size)⟩))
    · by_cases e3 : m = 2
      · subst e3
        obtain ⟨⟨y0, y1, y2, y3⟩, ⟨t0, t1, t2, t3⟩, rfl⟩ := two_of hm
        have hwy : (FNode.mk y0 y1 y2 y3).wt ≤ 9000000000 := by have := FNode.wts_at [FNode.mk y0 y1 y2 y3, FNode.mk t0 t1 t2 t3] (FNode.mk y0 y1 y2 y3) (by simp); omega
        have HV := Lib.hid (hE ⟨t0, t1, t2, t3⟩ (by simp))
        obtain ⟨bcy, offcy, Ey, hblcy, hcc⟩ := RdC.at_ (l := [FNode.mk y0 y1 y2 y3, FNode.mk t0 t1 t2 t3]) FNode.len HR.out (i := 0) (x := FNode.mk y0 y1 y2 y3) rfl
        rw [FNode.c_eq] at hcc
        obtain ⟨u0, e0, q0⟩ := hcc 0 _ rfl
        obtain rfl := q0.val
        have cy_0 : w.cell? ⟨bcy, offcy, none⟩ = some (.int .i64 y0) := ((Below.refl w.heap.size w).cell (p := ⟨bcy, _, none⟩) (by show bcy < w.heap.size; omega)).trans (by simpa using e0)
        obtain ⟨u1, e1, q1⟩ := hcc 1 _ rfl
        obtain rfl := q1.val
        have cy_1 : w.cell? ⟨bcy, offcy + 1, none⟩ = some (.int .i64 y1) := ((Below.refl w.heap.size w).cell (p := ⟨bcy, _, none⟩) (by show bcy < w.heap.size; omega)).trans (by simpa using e1)
        obtain ⟨u2, e2, q2⟩ := hcc 2 _ rfl
        obtain rfl := q2.val
        have cy_2 : w.cell? ⟨bcy, offcy + 2, none⟩ = some (.string y2) := ((Below.refl w.heap.size w).cell (p := ⟨bcy, _, none⟩) (by show bcy < w.heap.size; omega)).trans (by simpa using e2)
        obtain ⟨u3, e3, q3⟩ := hcc 3 _ rfl
        obtain ⟨Dy, dy, rfl⟩ := q3.form
        have cy_3 : w.cell? ⟨bcy, offcy + 3, none⟩ = some (.slice Dy y3.length dy) := ((Below.refl w.heap.size w).cell (p := ⟨bcy, _, none⟩) (by show bcy < w.heap.size; omega)).trans (by simpa using e3)
        have Qy := Lib.hid q3
        clear hcc e0 e1 e2 e3 q0 q1 q2 q3
        obtain ⟨bct, offct, Et, hblct, hcc⟩ := RdC.at_ (l := [FNode.mk y0 y1 y2 y3, FNode.mk t0 t1 t2 t3]) FNode.len HR.out (i := 1) (x := FNode.mk t0 t1 t2 t3) rfl
        rw [FNode.c_eq] at hcc
        obtain ⟨u0, e0, q0⟩ := hcc 0 _ rfl
        obtain rfl := q0.val
        have ct_0 : w.cell? ⟨bct, offct + 4, none⟩ = some (.int .i64 t0) := ((Below.refl w.heap.size w).cell (p := ⟨bct, _, none⟩) (by show bct < w.heap.size; omega)).trans (by simpa using e0)
        obtain ⟨u1, e1, q1⟩ := hcc 1 _ rfl
        obtain rfl := q1.val
        have ct_1 : w.cell? ⟨bct, offct + 5, none⟩ = some (.int .i64 t1) := ((Below.refl w.heap.size w).cell (p := ⟨bct, _, none⟩) (by show bct < w.heap.size; omega)).trans (by simpa using e1)
        obtain ⟨u2, e2, q2⟩ := hcc 2 _ rfl
        obtain rfl := q2.val
        have ct_2 : w.cell? ⟨bct, offct + 6, none⟩ = some (.string t2) := ((Below.refl w.heap.size w).cell (p := ⟨bct, _, none⟩) (by show bct < w.heap.size; omega)).trans (by simpa using e2)
        obtain ⟨u3, e3, q3⟩ := hcc 3 _ rfl
        obtain ⟨Dt, dt, rfl⟩ := q3.form
        have ct_3 : w.cell? ⟨bct, offct + 7, none⟩ = some (.slice Dt t3.length dt) := ((Below.refl w.heap.size w).cell (p := ⟨bct, _, none⟩) (by show bct < w.heap.size; omega)).trans (by simpa using e3)
        have Qt := Lib.hid q3
        clear hcc e0 e1 e2 e3 q0 q1 q2 q3
        have hbl : bcy < w.heap.size := Nat.lt_of_lt_of_le hblcy hB0
        subst Ey
        obtain ⟨g1, g2⟩ : bcy = bct ∧ offcy = offct := by simpa using Et
        subst g1
        subst g2
        clear Et
        have ay_0 := (HB.out.cell (p := ⟨bcy, offcy, none⟩) hbl).trans cy_0
        have ay_1 := (HB.out.cell (p := ⟨bcy, offcy + 1, none⟩) hbl).trans cy_1
        have ay_2 := (HB.out.cell (p := ⟨bcy, offcy + 2, none⟩) hbl).trans cy_2
        have ay_3 := (HB.out.cell (p := ⟨bcy, offcy + 3, none⟩) hbl).trans cy_3
        have CALL := Lib.hid (var_impl _ hwy [.int .i64 y0, .int .i64 y1, .string y2, .slice Dy y3.length dy] _ w.heap.size (by rw [FNode.c_eq]; exact RdVs.cons (by unfold RdC; rfl) (RdVs.cons (by unfold RdC; rfl) (RdVs.cons (by unfold RdC; rfl) (RdVs.cons ((Qy.out.up hB0).below HB.out (Nat.le_refl _)) (RdVs.nil _ _))))))
        clear hm hw hE hwy
        rw [show (decide (1 ≤ 2 ∧ 2 ≤ 2) && ([FNode.mk y0 y1 y2 y3, FNode.mk t0 t1 t2 t3].all exF && (2 == 1 || hd4 [FNode.mk y0 y1 y2 y3, FNode.mk t0 t1 t2 t3]))) = (varF ⟨y0, y1, y2, y3⟩ && exF ⟨t0, t1, t2, t3⟩) from by rw [← varF_ex]; exact yi_eq _ _] at EX
        cases hv : varF ⟨y0, y1, y2, y3⟩ with
        | false =>
          rw [hv] at CALL EX
          clear hv
          go_enter Try.func34, Try.ntmps34
          go_wp2_with (first | (go_at_call 58; refine CALL.out.mono ?_; rintro e w3 ⟨rfl, hb3⟩; have HB3 := Lib.hid (HB.out.trans (hb3.mono HB.out.size))))
          all_goals (first | (go_ret; exact ⟨ret_bool (by rw [EX.out]; (first | (simp_all [emT_t, emT_f, beq_0, statL]; done) | (simp_all [emT, beq_0, statL]; done) | (simp_all [emT_t, emT_f, beq_0, statL]; omega))), HB.out⟩) | (go_ret; exact ⟨ret_bool (by rw [EX.out]; (first | (simp_all [emT_t, emT_f, beq_0, statL]; done) | (simp_all [emT, beq_0, statL]; done) | (simp_all [emT_t, emT_f, beq_0, statL]; omega))), HB3.out⟩) | (go_ret; exact ⟨ret_bool (by rw [EX.out]; (first | (simp_all [emT_t, emT_f, beq_0, statL]; done) | (simp_all [emT, beq_0, statL]; done) | (simp_all [emT_t, emT_f, beq_0, statL]; omega))), HB3.out.trans (Below.mono (by assumption) HB3.out.size)⟩))
        | true =>
          rw [hv] at CALL EX
          clear hv
          go_enter Try.func34, Try.ntmps34
          go_wp2_with (first | (go_at_call 58; refine CALL.out.mono ?_; rintro e w3 ⟨rfl, hb3⟩; have HB3 := Lib.hid (HB.out.trans (hb3.mono HB.out.size)); have bx_w3 : w3.cell? ⟨w.heap.size, 3, none⟩ = some (.slice (some ⟨bcy, offcy, none⟩) 2 c3) := (hb3.cell (p := ⟨w.heap.size, 3, none⟩) (by show w.heap.size < _; simp)).trans (by rw [World.cell?_alloc_new]; rfl); have sz_w3 : w.heap.size < w3.heap.size := Nat.lt_of_lt_of_le (by simp) hb3.size; have c_w3_t0 := (HB3.out.cell (p := ⟨bcy, offcy + 4, none⟩) hbl).trans ct_0; have c_w3_t1 := (HB3.out.cell (p := ⟨bcy, offcy + 5, none⟩) hbl).trans ct_1; have c_w3_t2 := (HB3.out.cell (p := ⟨bcy, offcy + 6, none⟩) hbl).trans ct_2; have c_w3_t3 := (HB3.out.cell (p := ⟨bcy, offcy + 7, none⟩) hbl).trans ct_3) | (go_at_call 55; refine (HV.out [.int .i64 t0, .int .i64 t1, .string t2, .slice Dt t3.length dt] w3 w.heap.size (hmx.below HB3.out) HB3.out.size (by rw [FNode.c_eq]; exact RdVs.cons (by unfold RdC; rfl) (RdVs.cons (by unfold RdC; rfl) (RdVs.cons (by unfold RdC; rfl) (RdVs.cons ((Qt.out.up hB0).below HB3.out (Nat.le_refl _)) (RdVs.nil _ _)))))).mono ?_; rintro e w4 ⟨rfl, hb4⟩))
          all_goals (first | (go_ret; exact ⟨ret_bool (by rw [EX.out]; (first | (simp_all [emT_t, emT_f, beq_0, statL]; done) | (simp_all [emT, beq_0, statL]; done) | (simp_all [emT_t, emT_f, beq_0, statL]; omega))), HB.out⟩) | (go_ret; exact ⟨ret_bool (by rw [EX.out]; (first | (simp_all [emT_t, emT_f, beq_0, statL]; done) | (simp_all [emT, beq_0, statL]; done) | (simp_all [emT_t, emT_f, beq_0, statL]; omega))), HB3.out⟩) | (go_ret; exact ⟨ret_bool (by rw [EX.out]; (first | (simp_all [emT_t, emT_f, beq_0, statL]; done) | (simp_all [emT, beq_0, statL]; done) | (simp_all [emT_t, emT_f, beq_0, statL]; omega))), HB3.out.trans (Below.mono (by assumption) HB3.out.size)⟩))
      · rw [show decide (1 ≤ m ∧ m ≤ 2) = false from decide_eq_false (by omega)] at EX
        clear hm hw hE
        go_enter Try.func34, Try.ntmps34
        go_wp2_with (fail)
        all_goals (first | (go_ret; exact ⟨ret_bool (by rw [EX.out]; (first | (simp_all [emT_t, emT_f, beq_0, statL]; done) | (simp_all [emT, beq_0, statL]; done) | (simp_all [emT_t, emT_f, beq_0, statL]; omega))), HB.out⟩) | (go_ret; exact ⟨ret_bool (by rw [EX.out]; (first | (simp_all [emT_t, emT_f, beq_0, statL]; done) | (simp_all [emT, beq_0, statL]; done) | (simp_all [emT_t, emT_f, beq_0, statL]; omega))), HB.out.trans (Below.mono (by assumption) HB.out.size)⟩))
  · clear hm hw hE
    go_enter Try.func34, Try.ntmps34
    go_wp2_with (fail)
    all_goals (first | (go_ret; exact ⟨ret_bool (by rw [EX.out]; (first | (simp_all [emT_t, emT_f, beq_0, statL]; done) | (simp_all [emT, beq_0, statL]; done) | (simp_all [emT_t, emT_f, beq_0, statL]; omega))), HB.out⟩) | (go_ret; exact ⟨ret_bool (by rw [EX.out]; (first | (simp_all [emT_t, emT_f, beq_0, statL]; done) | (simp_all [emT, beq_0, statL]; done) | (simp_all [emT_t, emT_f, beq_0, statL]; omega))), HB.out.trans (Below.mono (by assumption) HB.out.size)⟩))
set_option maxHeartbeats 1000000 in
theorem stI_o (z0 z1 : Int) (z2 : ByteArray) (z3 : List FNode) (hw : (FNode.mk z0 z1 z2 z3).wt ≤ 9000000000) (n31 : ¬ z0 = 31) (n32 : ¬ z0 = 32) (n33 : ¬ z0 = 33) (n34 : ¬ z0 = 34) (n35 : ¬ z0 = 35) (n36 : ¬ z0 = 36) (n37 : ¬ z0 = 37) (n38 : ¬ z0 = 38) (n39 : ¬ z0 = 39) (n40 : ¬ z0 = 40) (n41 : ¬ z0 = 41) (n42 : ¬ z0 = 42) (n43 : ¬ z0 = 43) (n46 : ¬ z0 = 46) (n47 : ¬ z0 = 47) (n48 : ¬ z0 = 48) : StI (.mk z0 z1 z2 z3) := by
  intro us w B hmx hB0 hr
  rw [FNode.c_eq] at hr
  obtain ⟨us0, rfl, hr_0⟩ := hr.unv
  obtain ⟨us1, rfl, hr_1⟩ := hr_0.unv
  obtain ⟨us2, rfl, hr_2⟩ := hr_1.unv
  obtain ⟨A3, c3, us3, rfl, r3, hr_3⟩ := hr_2.uns
  obtain rfl := hr_3.un0
  rw [FNode.wt_eq] at hw
  have hz : z2.size ≤ 9223372036854775807 := by omega
  have hl : z3.length ≤ 9223372036854775807 := by omega
  have EX := Lib.hid (show stF ⟨z0, z1, z2, z3⟩ = false from by rw [stF_mk]; unfold stK; simp [n31, n32, n33, n34, n35, n36, n37, n38, n39, n40, n41, n42, n43, n46, n47, n48])

  obtain ⟨m, hm⟩ : ∃ m, z3.length = m := ⟨_, rfl⟩
  try rw [hm] at EX
  rw [hm] at hl r3  ⊢
  have HB := Lib.hid ((Below.refl _ w).alloc (Nat.le_refl _) (.cells #[.int .i64 z0, .int .i64 z1, .string z2, .slice A3 m c3] 29))

  clear hm hr r3 hr_0 hr_1 hr_2 hr_3 hw
  go_enter Try.func34, Try.ntmps34
  go_wp2_with (fail)
  all_goals (go_ret; exact ⟨ret_bool EX.out.symm, HB.out⟩)
end Go.Proofs.Ytgejkfcemlkclaa
