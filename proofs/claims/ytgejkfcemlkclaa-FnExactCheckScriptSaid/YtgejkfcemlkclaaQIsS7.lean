/-
  Parts of the proof: IsS7. Conditions: none.
-/
import Derived.Test.YtgejkfcemlkclaaQIsS4
import Derived.Test.YtgejkfcemlkclaaQIsI5
namespace Go.Proofs.Ytgejkfcemlkclaa
open Go.ChangeShapes Go.WideShapes Go.ChangeAt Go.RowKit Go.Deep Go.Joins
open Go.ChangeMaps (open_string shut_string)
set_option linter.unusedVariables false
set_option linter.unusedSimpArgs false
set_option maxRecDepth 100000
set_option maxHeartbeats 1000000 in
theorem exS_15 (z1 : Int) (z2 : ByteArray) (z3 : List FNode) (hw : (FNode.mk 15 z1 z2 z3).wt ≤ 9000000000) (hn : fN 15 z1 = true) (ht : fT 15 z2 = true) (hA : EaS z3) (us : List Value) (w : World) (B : Nat) (hB0 : B ≤ w.heap.size) (hr : RdVs w B (FNode.mk 15 z1 z2 z3).c us) :
    Calls Try.prog 68 #[.agg us.toArray] w fun e w' => e = .returned (.bool (z3.length == 2 && (hdT z3 && z3.all exF))) ∧ Below w.heap.size w w' := by
  have FD := fd_spec _ hw
  rw [FNode.c_eq] at hr
  obtain ⟨us0, rfl, hr_0⟩ := hr.unv
  obtain ⟨us1, rfl, hr_1⟩ := hr_0.unv
  obtain ⟨us2, rfl, hr_2⟩ := hr_1.unv
  obtain ⟨A3, c3, us3, rfl, r3, hr_3⟩ := hr_2.uns
  obtain rfl := hr_3.un0
  rw [FNode.wt_eq] at hw
  have hz : z2.size ≤ 9223372036854775807 := by omega
  have hl : z3.length ≤ 9000000000 := by omega
  have HB0 : Below w.heap.size w (w.alloc (.cells #[.int .i64 15, .int .i64 z1, .string z2, .slice A3 z3.length c3] 29)) := (Below.refl _ w).alloc (Nat.le_refl _) _
  have FDC := Lib.hid (FD [.int .i64 15, .int .i64 z1, .string z2, .slice A3 z3.length c3] _ w.heap.size HB0.size (by rw [FNode.c_eq]; exact RdVs.cons (by unfold RdC; rfl) (RdVs.cons (by unfold RdC; rfl) (RdVs.cons (by unfold RdC; rfl) (RdVs.cons ((r3.up hB0).below HB0 (Nat.le_refl _)) (RdVs.nil _ _))))))
  simp only [FNode.kd, FNode.nu, FNode.tx] at FDC
  rw [hn, ht] at FDC
  clear FD HB0
  have hpos3 := r3
  obtain ⟨m, hm⟩ : ∃ m, z3.length = m := ⟨_, rfl⟩
  try rw [hm] at hl r3 FDC ⊢
  have HR := Lib.hid r3
  have HB := Lib.hid ((Below.refl _ w).alloc (Nat.le_refl _) (.cells #[.int .i64 15, .int .i64 z1, .string z2, .slice A3 m c3] 29))
  clear hr hr_0 hr_1 hr_2 hr_3 r3 hpos3
  unfold EaS at hA
  rw [hm] at hA
  have HA := Lib.hid hA
  clear hA
  by_cases e1 : m = 2
  · subst e1
    obtain ⟨⟨y0, y1, y2, y3⟩, yb, rfl⟩ := two_of hm
    have hy : (FNode.mk y0 y1 y2 y3).wt ≤ 9000000000 := by have := FNode.wts_at [FNode.mk y0 y1 y2 y3, yb] _ (List.mem_cons_self ..); omega
    obtain ⟨bcy, offcy, Ey, hblcy, hcc⟩ := RdC.at_ (l := [FNode.mk y0 y1 y2 y3, yb]) FNode.len HR.out (i := 0) (x := FNode.mk y0 y1 y2 y3) rfl
    rw [FNode.c_eq] at hcc
    obtain ⟨u0, e0, q0⟩ := hcc 0 _ rfl
    obtain rfl := q0.val
    have cy_0 : w.cell? ⟨bcy, offcy, none⟩ = some (.int .i64 y0) := ((Below.refl w.heap.size w).cell (p := ⟨bcy, _, none⟩) (by show bcy < w.heap.size; omega)).trans (by simpa using e0)
    obtain ⟨u1, e1, q1⟩ := hcc 1 _ rfl
    obtain rfl := q1.val
    have cy_1 : w.cell? ⟨bcy, offcy + 1, none⟩ = some (.int .i64 y1) := ((Below.refl w.heap.size w).cell (p := ⟨bcy, _, none⟩) (by show bcy < w.heap.size; omega)).trans (by simpa using e1)
    obtain ⟨u2, e2, q2⟩ := hcc 2 _ rfl
    obtain rfl := q2.val
    have cy_2 : w.cell? ⟨bcy, offcy + 2, none⟩ = some (.string y2) := ((Below.refl w.heap.size w).cell (p := ⟨bcy, _, none⟩) (by show bcy < w.heap.size; omega)).trans (by simpa using e2)
    obtain ⟨u3, e3, q3⟩ := hcc 3 _ rfl
    obtain ⟨Dy, dy, rfl⟩ := q3.form
    have cy_3 : w.cell? ⟨bcy, offcy + 3, none⟩ = some (.slice Dy y3.length dy) := ((Below.refl w.heap.size w).cell (p := ⟨bcy, _, none⟩) (by show bcy < w.heap.size; omega)).trans (by simpa using e3)
    have Qy := Lib.hid q3
    clear hcc e0 e1 e2 e3 q0 q1 q2 q3
    have hbl : bcy < w.heap.size := Nat.lt_of_lt_of_le hblcy hB0
    subst Ey
    clear hm hw
    rw [show hdT [FNode.mk y0 y1 y2 y3, yb] = tgN ⟨y0, y1, y2, y3⟩ from rfl]
    generalize [FNode.mk y0 y1 y2 y3, yb].all exF = ball at *
    cases hv : tgN ⟨y0, y1, y2, y3⟩ with
    | false =>
      have HT := Lib.hid hv
      go_enter Try.func68, Try.ntmps68
      go_wp2_with (first | (go_at_call 36; refine FDC.out.mono ?_; rintro e w3 ⟨rfl, hb3⟩; have HB3 := Lib.hid (HB.out.trans (hb3.mono HB.out.size)); have bx_w3_0 : w3.cell? ⟨w.heap.size, 0, none⟩ = some (.int .i64 15) := (hb3.cell (p := ⟨w.heap.size, 0, none⟩) (by show w.heap.size < _; simp)).trans (by rw [World.cell?_alloc_new]; rfl); have bx_w3_1 : w3.cell? ⟨w.heap.size, 1, none⟩ = some (.int .i64 z1) := (hb3.cell (p := ⟨w.heap.size, 1, none⟩) (by show w.heap.size < _; simp)).trans (by rw [World.cell?_alloc_new]; rfl); have bx_w3_2 : w3.cell? ⟨w.heap.size, 2, none⟩ = some (.string z2) := (hb3.cell (p := ⟨w.heap.size, 2, none⟩) (by show w.heap.size < _; simp)).trans (by rw [World.cell?_alloc_new]; rfl); have bx_w3_3 : w3.cell? ⟨w.heap.size, 3, none⟩ = some (.slice (some ⟨bcy, offcy, none⟩) 2 c3) := (hb3.cell (p := ⟨w.heap.size, 3, none⟩) (by show w.heap.size < _; simp)).trans (by rw [World.cell?_alloc_new]; rfl); have sz_w3 : w.heap.size < w3.heap.size := Nat.lt_of_lt_of_le (by simp) hb3.size; have k_w3_y0 := (HB3.out.cell (p := ⟨bcy, offcy, none⟩) hbl).trans cy_0; have k_w3_y1 := (HB3.out.cell (p := ⟨bcy, offcy + 1, none⟩) hbl).trans cy_1; have k_w3_y2 := (HB3.out.cell (p := ⟨bcy, offcy + 2, none⟩) hbl).trans cy_2; have k_w3_y3 := (HB3.out.cell (p := ⟨bcy, offcy + 3, none⟩) hbl).trans cy_3) | (go_at_call 70; refine (tg_spec ⟨y0, y1, y2, y3⟩ hy [.int .i64 y0, .int .i64 y1, .string y2, .slice Dy y3.length dy] _ w.heap.size HB3.out.size (by rw [FNode.c_eq]; exact RdVs.cons (by unfold RdC; rfl) (RdVs.cons (by unfold RdC; rfl) (RdVs.cons (by unfold RdC; rfl) (RdVs.cons ((Qy.out.up hB0).below HB3.out (Nat.le_refl _)) (RdVs.nil _ _)))))).mono ?_; rw [HT.out]; rintro e w4 ⟨rfl, hb4⟩; have HB4 := Lib.hid (HB3.out.trans (hb4.mono HB3.out.size)); have bx_w4_0 := (hb4.cell (p := ⟨w.heap.size, 0, none⟩) sz_w3).trans bx_w3_0; have bx_w4_1 := (hb4.cell (p := ⟨w.heap.size, 1, none⟩) sz_w3).trans bx_w3_1; have bx_w4_2 := (hb4.cell (p := ⟨w.heap.size, 2, none⟩) sz_w3).trans bx_w3_2; have bx_w4_3 := (hb4.cell (p := ⟨w.heap.size, 3, none⟩) sz_w3).trans bx_w3_3; have sz_w4 : w.heap.size < w4.heap.size := Nat.lt_of_lt_of_le sz_w3 hb4.size))
      all_goals (first | (go_ret; exact ⟨ret_bool (by (first | (simp_all [emT_t, emT_f, beq_0, statL]; done) | (simp_all [emT, beq_0, statL]; done) | (simp_all [emT_t, emT_f, beq_0, statL]; omega))), by first | exact HB7.out | exact HB6.out | exact HB5.out | exact HB4.out | exact HB3.out⟩))
    | true =>
      have HT := Lib.hid hv
      go_enter Try.func68, Try.ntmps68
      go_wp2_with (first | (go_at_call 36; refine FDC.out.mono ?_; rintro e w3 ⟨rfl, hb3⟩; have HB3 := Lib.hid (HB.out.trans (hb3.mono HB.out.size)); have bx_w3_0 : w3.cell? ⟨w.heap.size, 0, none⟩ = some (.int .i64 15) := (hb3.cell (p := ⟨w.heap.size, 0, none⟩) (by show w.heap.size < _; simp)).trans (by rw [World.cell?_alloc_new]; rfl); have bx_w3_1 : w3.cell? ⟨w.heap.size, 1, none⟩ = some (.int .i64 z1) := (hb3.cell (p := ⟨w.heap.size, 1, none⟩) (by show w.heap.size < _; simp)).trans (by rw [World.cell?_alloc_new]; rfl); have bx_w3_2 : w3.cell? ⟨w.heap.size, 2, none⟩ = some (.string z2) := (hb3.cell (p := ⟨w.heap.size, 2, none⟩) (by show w.heap.size < _; simp)).trans (by rw [World.cell?_alloc_new]; rfl); have bx_w3_3 : w3.cell? ⟨w.heap.size, 3, none⟩ = some (.slice (some ⟨bcy, offcy, none⟩) 2 c3) := (hb3.cell (p := ⟨w.heap.size, 3, none⟩) (by show w.heap.size < _; simp)).trans (by rw [World.cell?_alloc_new]; rfl); have sz_w3 : w.heap.size < w3.heap.size := Nat.lt_of_lt_of_le (by simp) hb3.size; have k_w3_y0 := (HB3.out.cell (p := ⟨bcy, offcy, none⟩) hbl).trans cy_0; have k_w3_y1 := (HB3.out.cell (p := ⟨bcy, offcy + 1, none⟩) hbl).trans cy_1; have k_w3_y2 := (HB3.out.cell (p := ⟨bcy, offcy + 2, none⟩) hbl).trans cy_2; have k_w3_y3 := (HB3.out.cell (p := ⟨bcy, offcy + 3, none⟩) hbl).trans cy_3) | (go_at_call 70; refine (tg_spec ⟨y0, y1, y2, y3⟩ hy [.int .i64 y0, .int .i64 y1, .string y2, .slice Dy y3.length dy] _ w.heap.size HB3.out.size (by rw [FNode.c_eq]; exact RdVs.cons (by unfold RdC; rfl) (RdVs.cons (by unfold RdC; rfl) (RdVs.cons (by unfold RdC; rfl) (RdVs.cons ((Qy.out.up hB0).below HB3.out (Nat.le_refl _)) (RdVs.nil _ _)))))).mono ?_; rw [HT.out]; rintro e w4 ⟨rfl, hb4⟩; have HB4 := Lib.hid (HB3.out.trans (hb4.mono HB3.out.size)); have bx_w4_0 := (hb4.cell (p := ⟨w.heap.size, 0, none⟩) sz_w3).trans bx_w3_0; have bx_w4_1 := (hb4.cell (p := ⟨w.heap.size, 1, none⟩) sz_w3).trans bx_w3_1; have bx_w4_2 := (hb4.cell (p := ⟨w.heap.size, 2, none⟩) sz_w3).trans bx_w3_2; have bx_w4_3 := (hb4.cell (p := ⟨w.heap.size, 3, none⟩) sz_w3).trans bx_w3_3; have sz_w4 : w.heap.size < w4.heap.size := Nat.lt_of_lt_of_le sz_w3 hb4.size) | (go_at_call 69; refine (HA.out _ _ w.heap.size HB4.out.size ((HR.out.up hB0).below HB4.out (Nat.le_refl _))).mono ?_; rintro e w5 ⟨rfl, hbe⟩; have HB5 := Lib.hid (HB4.out.trans (hbe.mono HB4.out.size))))
      all_goals (first | (go_ret; exact ⟨ret_bool (by (first | (simp_all [emT_t, emT_f, beq_0, statL]; done) | (simp_all [emT, beq_0, statL]; done) | (simp_all [emT_t, emT_f, beq_0, statL]; omega))), by first | exact HB7.out | exact HB6.out | exact HB5.out | exact HB4.out | exact HB3.out⟩))
  · clear hm hw
    go_enter Try.func68, Try.ntmps68
    go_wp2_with ((go_at_call 36; refine FDC.out.mono ?_; rintro e w3 ⟨rfl, hb3⟩; have HB3 := Lib.hid (HB.out.trans (hb3.mono HB.out.size)); have bx_w3_0 : w3.cell? ⟨w.heap.size, 0, none⟩ = some (.int .i64 15) := (hb3.cell (p := ⟨w.heap.size, 0, none⟩) (by show w.heap.size < _; simp)).trans (by rw [World.cell?_alloc_new]; rfl); have bx_w3_1 : w3.cell? ⟨w.heap.size, 1, none⟩ = some (.int .i64 z1) := (hb3.cell (p := ⟨w.heap.size, 1, none⟩) (by show w.heap.size < _; simp)).trans (by rw [World.cell?_alloc_new]; rfl); have bx_w3_2 : w3.cell? ⟨w.heap.size, 2, none⟩ = some (.string z2) := (hb3.cell (p := ⟨w.heap.size, 2, none⟩) (by show w.heap.size < _; simp)).trans (by rw [World.cell?_alloc_new]; rfl); have bx_w3_3 : w3.cell? ⟨w.heap.size, 3, none⟩ = some (.slice A3 m c3) := (hb3.cell (p := ⟨w.heap.size, 3, none⟩) (by show w.heap.size < _; simp)).trans (by rw [World.cell?_alloc_new]; rfl); have sz_w3 : w.heap.size < w3.heap.size := Nat.lt_of_lt_of_le (by simp) hb3.size))
    all_goals (first | (go_ret; exact ⟨ret_bool (by (first | (simp_all [emT_t, emT_f, beq_0, statL]; done) | (simp_all [emT, beq_0, statL]; done) | (simp_all [emT_t, emT_f, beq_0, statL]; omega))), by first | exact HB7.out | exact HB6.out | exact HB5.out | exact HB4.out | exact HB3.out⟩))
set_option maxHeartbeats 1000000 in
theorem exS_16 (z1 : Int) (z2 : ByteArray) (z3 : List FNode) (hw : (FNode.mk 16 z1 z2 z3).wt ≤ 9000000000) (hn : fN 16 z1 = true) (ht : fT 16 z2 = true) (hA : EaS z3) (us : List Value) (w : World) (B : Nat) (hB0 : B ≤ w.heap.size) (hr : RdVs w B (FNode.mk 16 z1 z2 z3).c us) :
    Calls Try.prog 68 #[.agg us.toArray] w fun e w' => e = .returned (.bool (z3.length == 2 && (hdT z3 && z3.all exF))) ∧ Below w.heap.size w w' := by
  have FD := fd_spec _ hw
  rw [FNode.c_eq] at hr
  obtain ⟨us0, rfl, hr_0⟩ := hr.unv
  obtain ⟨us1, rfl, hr_1⟩ := hr_0.unv
  obtain ⟨us2, rfl, hr_2⟩ := hr_1.unv
  obtain ⟨A3, c3, us3, rfl, r3, hr_3⟩ := hr_2.uns
  obtain rfl := hr_3.un0
  rw [FNode.wt_eq] at hw
  have hz : z2.size ≤ 9223372036854775807 := by omega
  have hl : z3.length ≤ 9000000000 := by omega
  have HB0 : Below w.heap.size w (w.alloc (.cells #[.int .i64 16, .int .i64 z1, .string z2, .slice A3 z3.length c3] 29)) := (Below.refl _ w).alloc (Nat.le_refl _) _
  have FDC := Lib.hid (FD [.int .i64 16, .int .i64 z1, .string z2, .slice A3 z3.length c3] _ w.heap.size HB0.size (by rw [FNode.c_eq]; exact RdVs.cons (by unfold RdC; rfl) (RdVs.cons (by unfold RdC; rfl) (RdVs.cons (by unfold RdC; rfl) (RdVs.cons ((r3.up hB0).below HB0 (Nat.le_refl _)) (RdVs.nil _ _))))))
  simp only [FNode.kd, FNode.nu, FNode.tx] at FDC
  rw [hn, ht] at FDC
  clear FD HB0
  have hpos3 := r3
  obtain ⟨m, hm⟩ : ∃ m, z3.length = m := ⟨_, rfl⟩
  try rw [hm] at hl r3 FDC ⊢
  have HR := Lib.hid r3
  have HB := Lib.hid ((Below.refl _ w).alloc (Nat.le_refl _) (.cells #[.int .i64 16, .int .i64 z1, .string z2, .slice A3 m c3] 29))
  clear hr hr_0 hr_1 hr_2 hr_3 r3 hpos3
  unfold EaS at hA
  rw [hm] at hA
  have HA := Lib.hid hA
  clear hA
  by_cases e1 : m = 2
  · subst e1
    obtain ⟨⟨y0, y1, y2, y3⟩, yb, rfl⟩ := two_of hm
    have hy : (FNode.mk y0 y1 y2 y3).wt ≤ 9000000000 := by have := FNode.wts_at [FNode.mk y0 y1 y2 y3, yb] _ (List.mem_cons_self ..); omega
    obtain ⟨bcy, offcy, Ey, hblcy, hcc⟩ := RdC.at_ (l := [FNode.mk y0 y1 y2 y3, yb]) FNode.len HR.out (i := 0) (x := FNode.mk y0 y1 y2 y3) rfl
    rw [FNode.c_eq] at hcc
    obtain ⟨u0, e0, q0⟩ := hcc 0 _ rfl
    obtain rfl := q0.val
    have cy_0 : w.cell? ⟨bcy, offcy, none⟩ = some (.int .i64 y0) := ((Below.refl w.heap.size w).cell (p := ⟨bcy, _, none⟩) (by show bcy < w.heap.size; omega)).trans (by simpa using e0)
    obtain ⟨u1, e1, q1⟩ := hcc 1 _ rfl
    obtain rfl := q1.val
    have cy_1 : w.cell? ⟨bcy, offcy + 1, none⟩ = some (.int .i64 y1) := ((Below.refl w.heap.size w).cell (p := ⟨bcy, _, none⟩) (by show bcy < w.heap.size; omega)).trans (by simpa using e1)
    obtain ⟨u2, e2, q2⟩ := hcc 2 _ rfl
    obtain rfl := q2.val
    have cy_2 : w.cell? ⟨bcy, offcy + 2, none⟩ = some (.string y2) := ((Below.refl w.heap.size w).cell (p := ⟨bcy, _, none⟩) (by show bcy < w.heap.size; omega)).trans (by simpa using e2)
    obtain ⟨u3, e3, q3⟩ := hcc 3 _ rfl
    obtain ⟨Dy, dy, rfl⟩ := q3.form
    have cy_3 : w.cell? ⟨bcy, offcy + 3, none⟩ = some (.slice Dy y3.length dy) := ((Below.refl w.heap.size w).cell (p := ⟨bcy, _, none⟩) (by show bcy < w.heap.size; omega)).trans (by simpa using e3)
    have Qy := Lib.hid q3
    clear hcc e0 e1 e2 e3 q0 q1 q2 q3
    have hbl : bcy < w.heap.size := Nat.lt_of_lt_of_le hblcy hB0
    subst Ey
    clear hm hw
    rw [show hdT [FNode.mk y0 y1 y2 y3, yb] = tgN ⟨y0, y1, y2, y3⟩ from rfl]
    generalize [FNode.mk y0 y1 y2 y3, yb].all exF = ball at *
    cases hv : tgN ⟨y0, y1, y2, y3⟩ with
    | false =>
      have HT := Lib.hid hv
      go_enter Try.func68, Try.ntmps68
      go_wp2_with (first | (go_at_call 36; refine FDC.out.mono ?_; rintro e w3 ⟨rfl, hb3⟩; have HB3 := Lib.hid (HB.out.trans (hb3.mono HB.out.size)); have bx_w3_0 : w3.cell? ⟨w.heap.size, 0, none⟩ = some (.int .i64 16) := (hb3.cell (p := ⟨w.heap.size, 0, none⟩) (by show w.heap.size < _; simp)).trans (by rw [World.cell?_alloc_new]; rfl); have bx_w3_1 : w3.cell? ⟨w.heap.size, 1, none⟩ = some (.int .i64 z1) := (hb3.cell (p := ⟨w.heap.size, 1, none⟩) (by show w.heap.size < _; simp)).trans (by rw [World.cell?_alloc_new]; rfl); have bx_w3_2 : w3.cell? ⟨w.heap.size, 2, none⟩ = some (.string z2) := (hb3.cell (p := ⟨w.heap.size, 2, none⟩) (by show w.heap.size < _; simp)).trans (by rw [World.cell?_alloc_new]; rfl); have bx_w3_3 : w3.cell? ⟨w.heap.size, 3, none⟩ = some (.slice (some ⟨bcy, offcy, none⟩) 2 c3) := (hb3.cell (p := ⟨w.heap.size, 3, none⟩) (by show w.heap.size < _; simp)).trans (by rw [World.cell?_alloc_new]; rfl); have sz_w3 : w.heap.size < w3.heap.size := Nat.lt_of_lt_of_le (by simp) hb3.size; have k_w3_y0 := (HB3.out.cell (p := ⟨bcy, offcy, none⟩) hbl).trans cy_0; have k_w3_y1 := (HB3.out.cell (p := ⟨bcy, offcy + 1, none⟩) hbl).trans cy_1; have k_w3_y2 := (HB3.out.cell (p := ⟨bcy, offcy + 2, none⟩) hbl).trans cy_2; have k_w3_y3 := (HB3.out.cell (p := ⟨bcy, offcy + 3, none⟩) hbl).trans cy_3) | (go_at_call 70; refine (tg_spec ⟨y0, y1, y2, y3⟩ hy [.int .i64 y0, .int .i64 y1, .string y2, .slice Dy y3.length dy] _ w.heap.size HB3.out.size (by rw [FNode.c_eq]; exact RdVs.cons (by unfold RdC; rfl) (RdVs.cons (by unfold RdC; rfl) (RdVs.cons (by unfold RdC; rfl) (RdVs.cons ((Qy.out.up hB0).below HB3.out (Nat.le_refl _)) (RdVs.nil _ _)))))).mono ?_; rw [HT.out]; rintro e w4 ⟨rfl, hb4⟩; have HB4 := Lib.hid (HB3.out.trans (hb4.mono HB3.out.size)); have bx_w4_0 := (hb4.cell (p := ⟨w.heap.size, 0, none⟩) sz_w3).trans bx_w3_0; have bx_w4_1 := (hb4.cell (p := ⟨w.heap.size, 1, none⟩) sz_w3).trans bx_w3_1; have bx_w4_2 := (hb4.cell (p := ⟨w.heap.size, 2, none⟩) sz_w3).trans bx_w3_2; have bx_w4_3 := (hb4.cell (p := ⟨w.heap.size, 3, none⟩) sz_w3).trans bx_w3_3; have sz_w4 : w.heap.size < w4.heap.size := Nat.lt_of_lt_of_le sz_w3 hb4.size))
      all_goals (first | (go_ret; exact ⟨ret_bool (by (first | (simp_all [emT_t, emT_f, beq_0, statL]; done) | (simp_all [emT, beq_0, statL]; done) | (simp_all [emT_t, emT_f, beq_0, statL]; omega))), by first | exact HB7.out | exact HB6.out | exact HB5.out | exact HB4.out | exact HB3.out⟩))
    | true =>
      have HT := Lib.hid hv
      go_enter Try.func68, Try.ntmps68
      go_wp2_with (first | (go_at_call 36; refine FDC.out.mono ?_; rintro e w3 ⟨rfl, hb3⟩; have HB3 := Lib.hid (HB.out.trans (hb3.mono HB.out.size)); have bx_w3_0 : w3.cell? ⟨w.heap.size, 0, none⟩ = some (.int .i64 16) := (hb3.cell (p := ⟨w.heap.size, 0, none⟩) (by show w.heap.size < _; simp)).trans (by rw [World.cell?_alloc_new]; rfl); have bx_w3_1 : w3.cell? ⟨w.heap.size, 1, none⟩ = some (.int .i64 z1) := (hb3.cell (p := ⟨w.heap.size, 1, none⟩) (by show w.heap.size < _; simp)).trans (by rw [World.cell?_alloc_new]; rfl); have bx_w3_2 : w3.cell? ⟨w.heap.size, 2, none⟩ = some (.string z2) := (hb3.cell (p := ⟨w.heap.size, 2, none⟩) (by show w.heap.size < _; simp)).trans (by rw [World.cell?_alloc_new]; rfl); have bx_w3_3 : w3.cell? ⟨w.heap.size, 3, none⟩ = some (.slice (some ⟨bcy, offcy, none⟩) 2 c3) := (hb3.cell (p := ⟨w.heap.size, 3, none⟩) (by show w.heap.size < _; simp)).trans (by rw [World.cell?_alloc_new]; rfl); have sz_w3 : w.heap.size < w3.heap.size := Nat.lt_of_lt_of_le (by simp) hb3.size; have k_w3_y0 := (HB3.out.cell (p := ⟨bcy, offcy, none⟩) hbl).trans cy_0; have k_w3_y1 := (HB3.out.cell (p := ⟨bcy, offcy + 1, none⟩) hbl).trans cy_1; have k_w3_y2 := (HB3.out.cell (p := ⟨bcy, offcy + 2, none⟩) hbl).trans cy_2; have k_w3_y3 := (HB3.out.cell (p := ⟨bcy, offcy + 3, none⟩) hbl).trans cy_3) | (go_at_call 70; refine (tg_spec ⟨y0, y1, y2, y3⟩ hy [.int .i64 y0, .int .i64 y1, .string y2, .slice Dy y3.length dy] _ w.heap.size HB3.out.size (by rw [FNode.c_eq]; exact RdVs.cons (by unfold RdC; rfl) (RdVs.cons (by unfold RdC; rfl) (RdVs.cons (by unfold RdC; rfl) (RdVs.cons ((Qy.out.up hB0).below HB3.out (Nat.le_refl _)) (RdVs.nil _ _)))))).mono ?_; rw [HT.out]; rintro e w4 ⟨rfl, hb4⟩; have HB4 := Lib.hid (HB3.out.trans (hb4.mono HB3.out.size)); have bx_w4_0 := (hb4.cell (p := ⟨w.heap.size, 0, none⟩) sz_w3).trans bx_w3_0; have bx_w4_1 := (hb4.cell (p := ⟨w.heap.size, 1, none⟩) sz_w3).trans bx_w3_1; have bx_w4_2 := (hb4.cell (p := ⟨w.heap.size, 2, none⟩) sz_w3).trans bx_w3_2; have bx_w4_3 := (hb4.cell (p := ⟨w.heap.size, 3, none⟩) sz_w3).trans bx_w3_3; have sz_w4 : w.heap.size < w4.heap.size := Nat.lt_of_lt_of_le sz_w3 hb4.size) | (go_at_call 69; refine (HA.out _ _ w.heap.size HB4.out.size ((HR.out.up hB0).below HB4.out (Nat.le_refl _))).mono ?_; rintro e w5 ⟨rfl, hbe⟩; have HB5 := Lib.hid (HB4.out.trans (hbe.mono HB4.out.size))))
      all_goals (first | (go_ret; exact ⟨ret_bool (by (first | (simp_all [emT_t, emT_f, beq_0, statL]; done) | (simp_all [emT, beq_0, statL]; done) | (simp_all [emT_t, emT_f, beq_0, statL]; omega))), by first | exact HB7.out | exact HB6.out | exact HB5.out | exact HB4.out | exact HB3.out⟩))
  · clear hm hw
    go_enter Try.func68, Try.ntmps68
    go_wp2_with ((go_at_call 36; refine FDC.out.mono ?_; rintro e w3 ⟨rfl, hb3⟩; have HB3 := Lib.hid (HB.out.trans (hb3.mono HB.out.size)); have bx_w3_0 : w3.cell? ⟨w.heap.size, 0, none⟩ = some (.int .i64 16) := (hb3.cell (p := ⟨w.heap.size, 0, none⟩) (by show w.heap.size < _; simp)).trans (by rw [World.cell?_alloc_new]; rfl); have bx_w3_1 : w3.cell? ⟨w.heap.size, 1, none⟩ = some (.int .i64 z1) := (hb3.cell (p := ⟨w.heap.size, 1, none⟩) (by show w.heap.size < _; simp)).trans (by rw [World.cell?_alloc_new]; rfl); have bx_w3_2 : w3.cell? ⟨w.heap.size, 2, none⟩ = some (.string z2) := (hb3.cell (p := ⟨w.heap.size, 2, none⟩) (by show w.heap.size < _; simp)).trans (by rw [World.cell?_alloc_new]; rfl); have bx_w3_3 : w3.cell? ⟨w.heap.size, 3, none⟩ = some (.slice A3 m c3) := (hb3.cell (p := ⟨w.heap.size, 3, none⟩) (by show w.heap.size < _; simp)).trans (by rw [World.cell?_alloc_new]; rfl); have sz_w3 : w.heap.size < w3.heap.size := Nat.lt_of_lt_of_le (by simp) hb3.size))
    all_goals (first | (go_ret; exact ⟨ret_bool (by (first | (simp_all [emT_t, emT_f, beq_0, statL]; done) | (simp_all [emT, beq_0, statL]; done) | (simp_all [emT_t, emT_f, beq_0, statL]; omega))), by first | exact HB7.out | exact HB6.out | exact HB5.out | exact HB4.out | exact HB3.out⟩))
theorem exS_17 (z1 : Int) (z2 : ByteArray) (z3 : List FNode) (hw : (FNode.mk 17 z1 z2 z3).wt ≤ 9000000000) (hn : fN 17 z1 = true) (ht : fT 17 z2 = true) (hE : ∀ x, x ∈ z3 → ExS x) (us : List Value) (w : World) (B : Nat) (hB0 : B ≤ w.heap.size) (hr : RdVs w B (FNode.mk 17 z1 z2 z3).c us) :
    Calls Try.prog 68 #[.agg us.toArray] w fun e w' => e = .returned (.bool (z3.length == 1 && (hd4 z3 && z3.all exF))) ∧ Below w.heap.size w w' := by
  have FD := fd_spec _ hw
  rw [FNode.c_eq] at hr
  obtain ⟨us0, rfl, hr_0⟩ := hr.unv
  obtain ⟨us1, rfl, hr_1⟩ := hr_0.unv
  obtain ⟨us2, rfl, hr_2⟩ := hr_1.unv
  obtain ⟨A3, c3, us3, rfl, r3, hr_3⟩ := hr_2.uns
  obtain rfl := hr_3.un0
  rw [FNode.wt_eq] at hw
  have hz : z2.size ≤ 9223372036854775807 := by omega
  have hl : z3.length ≤ 9000000000 := by omega
  have HB0 : Below w.heap.size w (w.alloc (.cells #[.int .i64 17, .int .i64 z1, .string z2, .slice A3 z3.length c3] 29)) := (Below.refl _ w).alloc (Nat.le_refl _) _
  have FDC := Lib.hid (FD [.int .i64 17, .int .i64 z1, .string z2, .slice A3 z3.length c3] _ w.heap.size HB0.size (by rw [FNode.c_eq]; exact RdVs.cons (by unfold RdC; rfl) (RdVs.cons (by unfold RdC; rfl) (RdVs.cons (by unfold RdC; rfl) (RdVs.cons ((r3.up hB0).below HB0 (Nat.le_refl _)) (RdVs.nil _ _))))))
  simp only [FNode.kd, FNode.nu, FNode.tx] at FDC
  rw [hn, ht] at FDC
  clear FD HB0
  have hpos3 := r3
  obtain ⟨m, hm⟩ : ∃ m, z3.length = m := ⟨_, rfl⟩
  try rw [hm] at hl r3 FDC ⊢
  have HR := Lib.hid r3
  have HB := Lib.hid ((Below.refl _ w).alloc (Nat.le_refl _) (.cells #[.int .i64 17, .int .i64 z1, .string z2, .slice A3 m c3] 29))
  clear hr hr_0 hr_1 hr_2 hr_3 r3 hpos3
  by_cases e1 : m = 1
  · subst e1
    obtain ⟨⟨y0, y1, y2, y3⟩, rfl⟩ := List.length_eq_one_iff.mp hm
    have HV := Lib.hid (hE ⟨y0, y1, y2, y3⟩ (List.mem_singleton.mpr rfl))
    obtain ⟨bcy, offcy, Ey, hblcy, hcc⟩ := RdC.at_ (l := [FNode.mk y0 y1 y2 y3]) FNode.len HR.out (i := 0) (x := FNode.mk y0 y1 y2 y3) rfl
    rw [FNode.c_eq] at hcc
    obtain ⟨u0, e0, q0⟩ := hcc 0 _ rfl
    obtain rfl := q0.val
    have cy_0 : w.cell? ⟨bcy, offcy, none⟩ = some (.int .i64 y0) := ((Below.refl w.heap.size w).cell (p := ⟨bcy, _, none⟩) (by show bcy < w.heap.size; omega)).trans (by simpa using e0)
    obtain ⟨u1, e1, q1⟩ := hcc 1 _ rfl
    obtain rfl := q1.val
    have cy_1 : w.cell? ⟨bcy, offcy + 1, none⟩ = some (.int .i64 y1) := ((Below.refl w.heap.size w).cell (p := ⟨bcy, _, none⟩) (by show bcy < w.heap.size; omega)).trans (by simpa using e1)
    obtain ⟨u2, e2, q2⟩ := hcc 2 _ rfl
    obtain rfl := q2.val
    have cy_2 : w.cell? ⟨bcy, offcy + 2, none⟩ = some (.string y2) := ((Below.refl w.heap.size w).cell (p := ⟨bcy, _, none⟩) (by show bcy < w.heap.size; omega)).trans (by simpa using e2)
    obtain ⟨u3, e3, q3⟩ := hcc 3 _ rfl
    obtain ⟨Dy, dy, rfl⟩ := q3.form
    have cy_3 : w.cell? ⟨bcy, offcy + 3, none⟩ = some (.slice Dy y3.length dy) := ((Below.refl w.heap.size w).cell (p := ⟨bcy, _, none⟩) (by show bcy < w.heap.size; omega)).trans (by simpa using e3)
    have Qy := Lib.hid q3
    clear hcc e0 e1 e2 e3 q0 q1 q2 q3
    have hbl : bcy < w.heap.size := Nat.lt_of_lt_of_le hblcy hB0
    subst Ey
    clear hm hw hE
    rw [show (hd4 [FNode.mk y0 y1 y2 y3] && [FNode.mk y0 y1 y2 y3].all exF) = (y0 == 4 && exF ⟨y0, y1, y2, y3⟩) from by simp [hd4, FNode.kd]]
    unfold ExS at HV
    generalize exF ⟨y0, y1, y2, y3⟩ = b at *
    by_cases e4 : y0 = 4
    · subst e4
      go_enter Try.func68, Try.ntmps68
      go_wp2_with (first | (go_at_call 36; refine FDC.out.mono ?_; rintro e w3 ⟨rfl, hb3⟩; have HB3 := Lib.hid (HB.out.trans (hb3.mono HB.out.size)); have bx_w3_0 : w3.cell? ⟨w.heap.size, 0, none⟩ = some (.int .i64 17) := (hb3.cell (p := ⟨w.heap.size, 0, none⟩) (by show w.heap.size < _; simp)).trans (by rw [World.cell?_alloc_new]; rfl); have bx_w3_1 : w3.cell? ⟨w.heap.size, 1, none⟩ = some (.int .i64 z1) := (hb3.cell (p := ⟨w.heap.size, 1, none⟩) (by show w.heap.size < _; simp)).trans (by rw [World.cell?_alloc_new]; rfl); have bx_w3_2 : w3.cell? ⟨w.heap.size, 2, none⟩ = some (.string z2) := (hb3.cell (p := ⟨w.heap.size, 2, none⟩) (by show w.heap.size < _; simp)).trans (by rw [World.cell?_alloc_new]; rfl); have bx_w3_3 : w3.cell? ⟨w.heap.size, 3, none⟩ = some (.slice (some ⟨bcy, offcy, none⟩) 1 c3) := (hb3.cell (p := ⟨w.heap.size, 3, none⟩) (by show w.heap.size < _; simp)).trans (by rw [World.cell?_alloc_new]; rfl); have sz_w3 : w.heap.size < w3.heap.size := Nat.lt_of_lt_of_le (by simp) hb3.size; have k_w3_y0 := (HB3.out.cell (p := ⟨bcy, offcy, none⟩) hbl).trans cy_0; have k_w3_y1 := (HB3.out.cell (p := ⟨bcy, offcy + 1, none⟩) hbl).trans cy_1; have k_w3_y2 := (HB3.out.cell (p := ⟨bcy, offcy + 2, none⟩) hbl).trans cy_2; have k_w3_y3 := (HB3.out.cell (p := ⟨bcy, offcy + 3, none⟩) hbl).trans cy_3) | (go_at_call 68; refine (HV.out [.int .i64 4, .int .i64 y1, .string y2, .slice Dy y3.length dy] _ w.heap.size HB3.out.size (by rw [FNode.c_eq]; exact RdVs.cons (by unfold RdC; rfl) (RdVs.cons (by unfold RdC; rfl) (RdVs.cons (by unfold RdC; rfl) (RdVs.cons ((Qy.out.up hB0).below HB3.out (Nat.le_refl _)) (RdVs.nil _ _)))))).mono ?_; rintro e w4 ⟨rfl, hb_w4⟩; have HB4 := Lib.hid (HB3.out.trans (hb_w4.mono HB3.out.size))))
      all_goals (first | (go_ret; exact ⟨ret_bool (by (first | (simp_all [emT_t, emT_f, beq_0, statL]; done) | (simp_all [emT, beq_0, statL]; done) | (simp_all [emT_t, emT_f, beq_0, statL]; omega))), by first | exact HB7.out | exact HB6.out | exact HB5.out | exact HB4.out | exact HB3.out⟩))
    ·
      go_enter Try.func68, Try.ntmps68
      go_wp2_with (first | (go_at_call 36; refine FDC.out.mono ?_; rintro e w3 ⟨rfl, hb3⟩; have HB3 := Lib.hid (HB.out.trans (hb3.mono HB.out.size)); have bx_w3_0 : w3.cell? ⟨w.heap.size, 0, none⟩ = some (.int .i64 17) := (hb3.cell (p := ⟨w.heap.size, 0, none⟩) (by show w.heap.size < _; simp)).trans (by rw [World.cell?_alloc_new]; rfl); have bx_w3_1 : w3.cell? ⟨w.heap.size, 1, none⟩ = some (.int .i64 z1) := (hb3.cell (p := ⟨w.heap.size, 1, none⟩) (by show w.heap.size < _; simp)).trans (by rw [World.cell?_alloc_new]; rfl); have bx_w3_2 : w3.cell? ⟨w.heap.size, 2, none⟩ = some (.string z2) := (hb3.cell (p := ⟨w.heap.size, 2, none⟩) (by show w.heap.size < _; simp)).trans (by rw [World.cell?_alloc_new]; rfl); have bx_w3_3 : w3.cell? ⟨w.heap.size, 3, none⟩ = some (.slice (some ⟨bcy, offcy, none⟩) 1 c3) := (hb3.cell (p := ⟨w.heap.size, 3, none⟩) (by show w.heap.size < _; simp)).trans (by rw [World.cell?_alloc_new]; rfl); have sz_w3 : w.heap.size < w3.heap.size := Nat.lt_of_lt_of_le (by simp) hb3.size; have k_w3_y0 := (HB3.out.cell (p := ⟨bcy, offcy, none⟩) hbl).trans cy_0; have k_w3_y1 := (HB3.out.cell (p := ⟨bcy, offcy + 1, none⟩) hbl).trans cy_1; have k_w3_y2 := (HB3.out.cell (p := ⟨bcy, offcy + 2, none⟩) hbl).trans cy_2; have k_w3_y3 := (HB3.out.cell (p := ⟨bcy, offcy + 3, none⟩) hbl).trans cy_3))
      all_goals (first | (go_ret; exact ⟨ret_bool (by (first | (simp_all [emT_t, emT_f, beq_0, statL]; done) | (simp_all [emT, beq_0, statL]; done) | (simp_all [emT_t, emT_f, beq_0, statL]; omega))), by first | exact HB7.out | exact HB6.out | exact HB5.out | exact HB4.out | exact HB3.out⟩))
  · clear hm hw hE
    go_enter Try.func68, Try.ntmps68
    go_wp2_with ((go_at_call 36; refine FDC.out.mono ?_; rintro e w3 ⟨rfl, hb3⟩; have HB3 := Lib.hid (HB.out.trans (hb3.mono HB.out.size)); have bx_w3_0 : w3.cell? ⟨w.heap.size, 0, none⟩ = some (.int .i64 17) := (hb3.cell (p := ⟨w.heap.size, 0, none⟩) (by show w.heap.size < _; simp)).trans (by rw [World.cell?_alloc_new]; rfl); have bx_w3_1 : w3.cell? ⟨w.heap.size, 1, none⟩ = some (.int .i64 z1) := (hb3.cell (p := ⟨w.heap.size, 1, none⟩) (by show w.heap.size < _; simp)).trans (by rw [World.cell?_alloc_new]; rfl); have bx_w3_2 : w3.cell? ⟨w.heap.size, 2, none⟩ = some (.string z2) := (hb3.cell (p := ⟨w.heap.size, 2, none⟩) (by show w.heap.size < _; simp)).trans (by rw [World.cell?_alloc_new]; rfl); have bx_w3_3 : w3.cell? ⟨w.heap.size, 3, none⟩ = some (.slice A3 m c3) := (hb3.cell (p := ⟨w.heap.size, 3, none⟩) (by show w.heap.size < _; simp)).trans (by rw [World.cell?_alloc_new]; rfl); have sz_w3 : w.heap.size < w3.heap.size := Nat.lt_of_lt_of_le (by simp) hb3.size))
    all_goals (first | (go_ret; exact ⟨ret_bool (by (first | (simp_all [emT_t, emT_f, beq_0, statL]; done) | (simp_all [emT, beq_0, statL]; done) | (simp_all [emT_t, emT_f, beq_0, statL]; omega))), by first | exact HB7.out | exact HB6.out | exact HB5.out | exact HB4.out | exact HB3.out⟩))
theorem exS_23 (z1 : Int) (z2 : ByteArray) (z3 : List FNode) (hw : (FNode.mk 23 z1 z2 z3).wt ≤ 9000000000) (hn : fN 23 z1 = true) (ht : fT 23 z2 = true) (hU : UsS true z3) (us : List Value) (w : World) (B : Nat) (hB0 : B ≤ w.heap.size) (hr : RdVs w B (FNode.mk 23 z1 z2 z3).c us) :
    Calls Try.prog 68 #[.agg us.toArray] w fun e w' => e = .returned (.bool (usF true z3)) ∧ Below w.heap.size w w' := by
  have FD := fd_spec _ hw
  rw [FNode.c_eq] at hr
  obtain ⟨us0, rfl, hr_0⟩ := hr.unv
  obtain ⟨us1, rfl, hr_1⟩ := hr_0.unv
  obtain ⟨us2, rfl, hr_2⟩ := hr_1.unv
  obtain ⟨A3, c3, us3, rfl, r3, hr_3⟩ := hr_2.uns
  obtain rfl := hr_3.un0
  rw [FNode.wt_eq] at hw
  have hz : z2.size ≤ 9223372036854775807 := by omega
  have hl : z3.length ≤ 9000000000 := by omega
  have HB0 : Below w.heap.size w (w.alloc (.cells #[.int .i64 23, .int .i64 z1, .string z2, .slice A3 z3.length c3] 29)) := (Below.refl _ w).alloc (Nat.le_refl _) _
  have FDC := Lib.hid (FD [.int .i64 23, .int .i64 z1, .string z2, .slice A3 z3.length c3] _ w.heap.size HB0.size (by rw [FNode.c_eq]; exact RdVs.cons (by unfold RdC; rfl) (RdVs.cons (by unfold RdC; rfl) (RdVs.cons (by unfold RdC; rfl) (RdVs.cons ((r3.up hB0).below HB0 (Nat.le_refl _)) (RdVs.nil _ _))))))
  simp only [FNode.kd, FNode.nu, FNode.tx] at FDC
  rw [hn, ht] at FDC
  clear FD HB0
  have hpos3 := r3
  obtain ⟨m, hm⟩ : ∃ m, z3.length = m := ⟨_, rfl⟩
  try rw [hm] at hl r3 FDC ⊢
  have HR := Lib.hid r3
  have HB := Lib.hid ((Below.refl _ w).alloc (Nat.le_refl _) (.cells #[.int .i64 23, .int .i64 z1, .string z2, .slice A3 m c3] 29))
  clear hr hr_0 hr_1 hr_2 hr_3 r3 hpos3
  unfold UsS at hU
  rw [hm] at hU
  have HU := Lib.hid hU
  clear hm hw hU
  go_enter Try.func68, Try.ntmps68
  go_wp2_with (first | (go_at_call 36; refine FDC.out.mono ?_; rintro e w3 ⟨rfl, hb3⟩; have HB3 := Lib.hid (HB.out.trans (hb3.mono HB.out.size)); have bx_w3_0 : w3.cell? ⟨w.heap.size, 0, none⟩ = some (.int .i64 23) := (hb3.cell (p := ⟨w.heap.size, 0, none⟩) (by show w.heap.size < _; simp)).trans (by rw [World.cell?_alloc_new]; rfl); have bx_w3_1 : w3.cell? ⟨w.heap.size, 1, none⟩ = some (.int .i64 z1) := (hb3.cell (p := ⟨w.heap.size, 1, none⟩) (by show w.heap.size < _; simp)).trans (by rw [World.cell?_alloc_new]; rfl); have bx_w3_2 : w3.cell? ⟨w.heap.size, 2, none⟩ = some (.string z2) := (hb3.cell (p := ⟨w.heap.size, 2, none⟩) (by show w.heap.size < _; simp)).trans (by rw [World.cell?_alloc_new]; rfl); have bx_w3_3 : w3.cell? ⟨w.heap.size, 3, none⟩ = some (.slice A3 m c3) := (hb3.cell (p := ⟨w.heap.size, 3, none⟩) (by show w.heap.size < _; simp)).trans (by rw [World.cell?_alloc_new]; rfl); have sz_w3 : w.heap.size < w3.heap.size := Nat.lt_of_lt_of_le (by simp) hb3.size) | (go_at_call 38; refine (HU.out _ _ w.heap.size HB3.out.size ((HR.out.up hB0).below HB3.out (Nat.le_refl _))).mono ?_; rintro e w4 ⟨rfl, hb4⟩; have HB4 := Lib.hid (HB3.out.trans (hb4.mono HB3.out.size))))
  all_goals (first | (go_ret; exact ⟨ret_bool (by (first | (simp_all [emT_t, emT_f, beq_0, statL]; done) | (simp_all [emT, beq_0, statL]; done) | (simp_all [emT_t, emT_f, beq_0, statL]; omega))), by first | exact HB7.out | exact HB6.out | exact HB5.out | exact HB4.out | exact HB3.out⟩))
end Go.Proofs.Ytgejkfcemlkclaa
