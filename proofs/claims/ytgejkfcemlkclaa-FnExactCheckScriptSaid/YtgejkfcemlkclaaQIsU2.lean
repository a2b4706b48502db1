/-
  Parts of the proof: IsU2. Conditions: none.
-/
import Derived.Test.YtgejkfcemlkclaaQIsS4
import Derived.Test.YtgejkfcemlkclaaQIsK1
namespace Go.Proofs.Ytgejkfcemlkclaa
open Go.ChangeShapes Go.WideShapes Go.ChangeAt Go.RowKit Go.Deep Go.Joins
open Go.ChangeMaps (open_string shut_string)
set_option linter.unusedVariables false
set_option linter.unusedSimpArgs false
set_option maxRecDepth 100000
theorem cap_of {w : World} {B n c e k : Nat} {A : Option Addr} {xs : List Cel} (h : RdC w B (.s e k n xs) (.slice A n c)) : n ≤ c := by
  unfold RdC at h
  obtain ⟨A', c', hA, k1, k2, _, _⟩ := h
  simp only [Value.slice.injEq, true_and] at hA
  omega
theorem fe3s (a y d : FNode) : feK [a, y, d] = ([a, y].all exF && ((y.kd == 4) && blF d)) := by
  show (exF a && (exF y && (y.kd == 4 && blF d))) = ((exF a && (exF y && true)) && _)
  cases exF a <;> cases exF y <;> cases (y.kd == 4) <;> cases blF d <;> rfl
theorem fe4s (a y z d : FNode) : feK [a, y, z, d] = ([a, y, z].all exF && ((y.kd == 4) && ((z.kd == 4) && blF d))) := by
  show (exF a && (exF y && (exF z && (y.kd == 4 && (z.kd == 4 && blF d))))) = ((exF a && (exF y && (exF z && true))) && _)
  cases exF a <;> cases exF y <;> cases exF z <;> cases (y.kd == 4) <;> cases (z.kd == 4) <;> cases blF d <;> rfl
set_option maxHeartbeats 2000000 in
theorem stS_34 (z1 : Int) (z2 : ByteArray) (z3 : List FNode) (hw : (FNode.mk 34 z1 z2 z3).wt ≤ 9000000000) (hn : fN 34 z1 = true) (ht : fT 34 z2 = true) (hE : ∀ x, x ∈ z3 → ExS x) (hB : ∀ x, x ∈ z3 → BkS x) (us : List Value) (w : World) (B : Nat) (hB0 : B ≤ w.heap.size) (hr : RdVs w B (FNode.mk 34 z1 z2 z3).c us) :
    Calls Try.prog 37 #[.agg us.toArray] w fun e w' => e = .returned (.bool (ifK z3)) ∧ Below w.heap.size w w' := by
  have FD := fd_spec _ hw
  rw [FNode.c_eq] at hr
  obtain ⟨us0, rfl, hr_0⟩ := hr.unv
  obtain ⟨us1, rfl, hr_1⟩ := hr_0.unv
  obtain ⟨us2, rfl, hr_2⟩ := hr_1.unv
  obtain ⟨A3, c3, us3, rfl, r3, hr_3⟩ := hr_2.uns
  obtain rfl := hr_3.un0
  rw [FNode.wt_eq] at hw
  have hz : z2.size ≤ 9223372036854775807 := by omega
  have hl : z3.length ≤ 9000000000 := by omega
  have HB0 : Below w.heap.size w (w.alloc (.cells #[.int .i64 34, .int .i64 z1, .string z2, .slice A3 z3.length c3] 29)) := (Below.refl _ w).alloc (Nat.le_refl _) _
  have FDC := Lib.hid (FD [.int .i64 34, .int .i64 z1, .string z2, .slice A3 z3.length c3] _ w.heap.size HB0.size (by rw [FNode.c_eq]; exact RdVs.cons (by unfold RdC; rfl) (RdVs.cons (by unfold RdC; rfl) (RdVs.cons (by unfold RdC; rfl) (RdVs.cons ((r3.up hB0).below HB0 (Nat.le_refl _)) (RdVs.nil _ _))))))
  simp only [FNode.kd, FNode.nu, FNode.tx] at FDC
  rw [hn, ht] at FDC
  clear FD HB0
  have hpos3 := r3
  obtain ⟨m, hm⟩ : ∃ m, z3.length = m := ⟨_, rfl⟩
  try rw [hm] at hl r3 FDC ⊢
  have HR := Lib.hid r3
  have HB := Lib.hid ((Below.refl _ w).alloc (Nat.le_refl _) (.cells #[.int .i64 34, .int .i64 z1, .string z2, .slice A3 m c3] 29))
  clear hr hr_0 hr_1 hr_2 hr_3 r3 hpos3
  by_cases e2m : m = 2
  · subst e2m
    obtain ⟨⟨y0, y1, y2, y3⟩, ⟨t0, t1, t2, t3⟩, rfl⟩ := two_of hm
    have Cy := Lib.hid (hE _ (List.mem_cons_self ..))
    have Ct := Lib.hid (hB ⟨t0, t1, t2, t3⟩ (by simp))
    have Cu := Ct
    unfold ExS at Cy
    unfold BkS at Ct Cu
    obtain ⟨bcy, offcy, Ey, hblcy, hcc⟩ := RdC.at_ (l := [FNode.mk y0 y1 y2 y3, FNode.mk t0 t1 t2 t3]) FNode.len HR.out (i := 0) (x := FNode.mk y0 y1 y2 y3) rfl
    rw [FNode.c_eq] at hcc
    obtain ⟨u0, e0, q0⟩ := hcc 0 _ rfl
    obtain rfl := q0.val
    have cy_0 : w.cell? ⟨bcy, offcy, none⟩ = some (.int .i64 y0) := ((Below.refl w.heap.size w).cell (p := ⟨bcy, _, none⟩) (by show bcy < w.heap.size; omega)).trans (by simpa using e0)
    obtain ⟨u1, e1, q1⟩ := hcc 1 _ rfl
    obtain rfl := q1.val
    have cy_1 : w.cell? ⟨bcy, offcy + 1, none⟩ = some (.int .i64 y1) := ((Below.refl w.heap.size w).cell (p := ⟨bcy, _, none⟩) (by show bcy < w.heap.size; omega)).trans (by simpa using e1)
    obtain ⟨u2, e2, q2⟩ := hcc 2 _ rfl
    obtain rfl := q2.val
    have cy_2 : w.cell? ⟨bcy, offcy + 2, none⟩ = some (.string y2) := ((Below.refl w.heap.size w).cell (p := ⟨bcy, _, none⟩) (by show bcy < w.heap.size; omega)).trans (by simpa using e2)
    obtain ⟨u3, e3, q3⟩ := hcc 3 _ rfl
    obtain ⟨Dy, dy, rfl⟩ := q3.form
    have cy_3 : w.cell? ⟨bcy, offcy + 3, none⟩ = some (.slice Dy y3.length dy) := ((Below.refl w.heap.size w).cell (p := ⟨bcy, _, none⟩) (by show bcy < w.heap.size; omega)).trans (by simpa using e3)
    have Qy := Lib.hid q3
    clear hcc e0 e1 e2 e3 q0 q1 q2 q3
    obtain ⟨bct, offct, Et, hblct, hcc⟩ := RdC.at_ (l := [FNode.mk y0 y1 y2 y3, FNode.mk t0 t1 t2 t3]) FNode.len HR.out (i := 1) (x := FNode.mk t0 t1 t2 t3) rfl
    rw [FNode.c_eq] at hcc
    obtain ⟨u0, e0, q0⟩ := hcc 0 _ rfl
    obtain rfl := q0.val
    have ct_0 : w.cell? ⟨bct, offct + 4, none⟩ = some (.int .i64 t0) := ((Below.refl w.heap.size w).cell (p := ⟨bct, _, none⟩) (by show bct < w.heap.size; omega)).trans (by simpa using e0)
    obtain ⟨u1, e1, q1⟩ := hcc 1 _ rfl
    obtain rfl := q1.val
    have ct_1 : w.cell? ⟨bct, offct + 5, none⟩ = some (.int .i64 t1) := ((Below.refl w.heap.size w).cell (p := ⟨bct, _, none⟩) (by show bct < w.heap.size; omega)).trans (by simpa using e1)
    obtain ⟨u2, e2, q2⟩ := hcc 2 _ rfl
    obtain rfl := q2.val
    have ct_2 : w.cell? ⟨bct, offct + 6, none⟩ = some (.string t2) := ((Below.refl w.heap.size w).cell (p := ⟨bct, _, none⟩) (by show bct < w.heap.size; omega)).trans (by simpa using e2)
    obtain ⟨u3, e3, q3⟩ := hcc 3 _ rfl
    obtain ⟨Dt, dt, rfl⟩ := q3.form
    have ct_3 : w.cell? ⟨bct, offct + 7, none⟩ = some (.slice Dt t3.length dt) := ((Below.refl w.heap.size w).cell (p := ⟨bct, _, none⟩) (by show bct < w.heap.size; omega)).trans (by simpa using e3)
    have Qt := Lib.hid q3
    clear hcc e0 e1 e2 e3 q0 q1 q2 q3
    have hbl : bcy < w.heap.size := Nat.lt_of_lt_of_le hblcy hB0
    subst Ey
    obtain ⟨g1, g2⟩ : bcy = bct ∧ offcy = offct := by simpa using Et
    subst g1
    subst g2
    clear Et
    clear hm hw hE hB
    rw [show ifK [FNode.mk y0 y1 y2 y3, FNode.mk t0 t1 t2 t3] = (exF ⟨y0, y1, y2, y3⟩ && (blF ⟨t0, t1, t2, t3⟩ && blF ⟨t0, t1, t2, t3⟩)) from by simp [ifK]]
    cases hvCy : exF ⟨y0, y1, y2, y3⟩ with
    | false =>
      rw [hvCy] at Cy
      go_enter Try.func37, Try.ntmps37
      go_wp2_with (first | (go_at_call 36; refine FDC.out.mono ?_; rintro e w3 ⟨rfl, hb3⟩; have HB3 := Lib.hid (HB.out.trans (hb3.mono HB.out.size)); have bx_w3_0 : w3.cell? ⟨w.heap.size, 0, none⟩ = some (.int .i64 34) := (hb3.cell (p := ⟨w.heap.size, 0, none⟩) (by show w.heap.size < _; simp)).trans (by rw [World.cell?_alloc_new]; rfl); have bx_w3_1 : w3.cell? ⟨w.heap.size, 1, none⟩ = some (.int .i64 z1) := (hb3.cell (p := ⟨w.heap.size, 1, none⟩) (by show w.heap.size < _; simp)).trans (by rw [World.cell?_alloc_new]; rfl); have bx_w3_2 : w3.cell? ⟨w.heap.size, 2, none⟩ = some (.string z2) := (hb3.cell (p := ⟨w.heap.size, 2, none⟩) (by show w.heap.size < _; simp)).trans (by rw [World.cell?_alloc_new]; rfl); have bx_w3_3 : w3.cell? ⟨w.heap.size, 3, none⟩ = some (.slice (some ⟨bcy, offcy, none⟩) 2 c3) := (hb3.cell (p := ⟨w.heap.size, 3, none⟩) (by show w.heap.size < _; simp)).trans (by rw [World.cell?_alloc_new]; rfl); have sz_w3 : w.heap.size < w3.heap.size := Nat.lt_of_lt_of_le (by simp) hb3.size; have k_w3_y0 := (HB3.out.cell (p := ⟨bcy, offcy, none⟩) hbl).trans cy_0; have k_w3_y1 := (HB3.out.cell (p := ⟨bcy, offcy + 1, none⟩) hbl).trans cy_1; have k_w3_y2 := (HB3.out.cell (p := ⟨bcy, offcy + 2, none⟩) hbl).trans cy_2; have k_w3_y3 := (HB3.out.cell (p := ⟨bcy, offcy + 3, none⟩) hbl).trans cy_3; have k_w3_t0 := (HB3.out.cell (p := ⟨bcy, offcy + 4, none⟩) hbl).trans ct_0; have k_w3_t1 := (HB3.out.cell (p := ⟨bcy, offcy + 5, none⟩) hbl).trans ct_1; have k_w3_t2 := (HB3.out.cell (p := ⟨bcy, offcy + 6, none⟩) hbl).trans ct_2; have k_w3_t3 := (HB3.out.cell (p := ⟨bcy, offcy + 7, none⟩) hbl).trans ct_3) | (go_at_call 64; refine (l1In_any _ _ _ _).mono ?_; rintro e w' ⟨rfl, rfl⟩) | (go_at_call 68; refine (Cy.out [.int .i64 y0, .int .i64 y1, .string y2, .slice Dy y3.length dy] _ w.heap.size HB3.out.size (by rw [FNode.c_eq]; exact RdVs.cons (by unfold RdC; rfl) (RdVs.cons (by unfold RdC; rfl) (RdVs.cons (by unfold RdC; rfl) (RdVs.cons ((Qy.out.up hB0).below HB3.out (Nat.le_refl _)) (RdVs.nil _ _)))))).mono ?_; rintro e w4 ⟨rfl, hb_w4⟩; have HB4 := Lib.hid (HB3.out.trans (hb_w4.mono HB3.out.size)); have bx_w4_0 := (hb_w4.cell (p := ⟨w.heap.size, 0, none⟩) sz_w3).trans bx_w3_0; have bx_w4_1 := (hb_w4.cell (p := ⟨w.heap.size, 1, none⟩) sz_w3).trans bx_w3_1; have bx_w4_2 := (hb_w4.cell (p := ⟨w.heap.size, 2, none⟩) sz_w3).trans bx_w3_2; have bx_w4_3 := (hb_w4.cell (p := ⟨w.heap.size, 3, none⟩) sz_w3).trans bx_w3_3; have sz_w4 : w.heap.size < w4.heap.size := Nat.lt_of_lt_of_le sz_w3 hb_w4.size; have k_w4_y0 := (HB4.out.cell (p := ⟨bcy, offcy, none⟩) hbl).trans cy_0; have k_w4_y1 := (HB4.out.cell (p := ⟨bcy, offcy + 1, none⟩) hbl).trans cy_1; have k_w4_y2 := (HB4.out.cell (p := ⟨bcy, offcy + 2, none⟩) hbl).trans cy_2; have k_w4_y3 := (HB4.out.cell (p := ⟨bcy, offcy + 3, none⟩) hbl).trans cy_3; have k_w4_t0 := (HB4.out.cell (p := ⟨bcy, offcy + 4, none⟩) hbl).trans ct_0; have k_w4_t1 := (HB4.out.cell (p := ⟨bcy, offcy + 5, none⟩) hbl).trans ct_1; have k_w4_t2 := (HB4.out.cell (p := ⟨bcy, offcy + 6, none⟩) hbl).trans ct_2; have k_w4_t3 := (HB4.out.cell (p := ⟨bcy, offcy + 7, none⟩) hbl).trans ct_3))
      all_goals (first | (go_ret; exact ⟨ret_bool (by (first | (simp_all [emT_t, emT_f, beq_0, statL]; done) | (simp_all [emT, beq_0, statL]; done) | (simp_all [emT_t, emT_f, beq_0, statL]; omega))), by first | exact HB7.out | exact HB6.out | exact HB5.out | exact HB4.out | exact HB3.out⟩))
    | true =>
      rw [hvCy] at Cy
      cases hvCt : blF ⟨t0, t1, t2, t3⟩ with
      | false =>
        rw [hvCt] at Ct
        have tokCt : True := trivial
        go_enter Try.func37, Try.ntmps37
        go_wp2_with (first | (go_at_call 36; refine FDC.out.mono ?_; rintro e w3 ⟨rfl, hb3⟩; have HB3 := Lib.hid (HB.out.trans (hb3.mono HB.out.size)); have bx_w3_0 : w3.cell? ⟨w.heap.size, 0, none⟩ = some (.int .i64 34) := (hb3.cell (p := ⟨w.heap.size, 0, none⟩) (by show w.heap.size < _; simp)).trans (by rw [World.cell?_alloc_new]; rfl); have bx_w3_1 : w3.cell? ⟨w.heap.size, 1, none⟩ = some (.int .i64 z1) := (hb3.cell (p := ⟨w.heap.size, 1, none⟩) (by show w.heap.size < _; simp)).trans (by rw [World.cell?_alloc_new]; rfl); have bx_w3_2 : w3.cell? ⟨w.heap.size, 2, none⟩ = some (.string z2) := (hb3.cell (p := ⟨w.heap.size, 2, none⟩) (by show w.heap.size < _; simp)).trans (by rw [World.cell?_alloc_new]; rfl); have bx_w3_3 : w3.cell? ⟨w.heap.size, 3, none⟩ = some (.slice (some ⟨bcy, offcy, none⟩) 2 c3) := (hb3.cell (p := ⟨w.heap.size, 3, none⟩) (by show w.heap.size < _; simp)).trans (by rw [World.cell?_alloc_new]; rfl); have sz_w3 : w.heap.size < w3.heap.size := Nat.lt_of_lt_of_le (by simp) hb3.size; have k_w3_y0 := (HB3.out.cell (p := ⟨bcy, offcy, none⟩) hbl).trans cy_0; have k_w3_y1 := (HB3.out.cell (p := ⟨bcy, offcy + 1, none⟩) hbl).trans cy_1; have k_w3_y2 := (HB3.out.cell (p := ⟨bcy, offcy + 2, none⟩) hbl).trans cy_2; have k_w3_y3 := (HB3.out.cell (p := ⟨bcy, offcy + 3, none⟩) hbl).trans cy_3; have k_w3_t0 := (HB3.out.cell (p := ⟨bcy, offcy + 4, none⟩) hbl).trans ct_0; have k_w3_t1 := (HB3.out.cell (p := ⟨bcy, offcy + 5, none⟩) hbl).trans ct_1; have k_w3_t2 := (HB3.out.cell (p := ⟨bcy, offcy + 6, none⟩) hbl).trans ct_2; have k_w3_t3 := (HB3.out.cell (p := ⟨bcy, offcy + 7, none⟩) hbl).trans ct_3) | (go_at_call 64; refine (l1In_any _ _ _ _).mono ?_; rintro e w' ⟨rfl, rfl⟩) | (go_at_call 68; refine (Cy.out [.int .i64 y0, .int .i64 y1, .string y2, .slice Dy y3.length dy] _ w.heap.size HB3.out.size (by rw [FNode.c_eq]; exact RdVs.cons (by unfold RdC; rfl) (RdVs.cons (by unfold RdC; rfl) (RdVs.cons (by unfold RdC; rfl) (RdVs.cons ((Qy.out.up hB0).below HB3.out (Nat.le_refl _)) (RdVs.nil _ _)))))).mono ?_; rintro e w4 ⟨rfl, hb_w4⟩; have HB4 := Lib.hid (HB3.out.trans (hb_w4.mono HB3.out.size)); have bx_w4_0 := (hb_w4.cell (p := ⟨w.heap.size, 0, none⟩) sz_w3).trans bx_w3_0; have bx_w4_1 := (hb_w4.cell (p := ⟨w.heap.size, 1, none⟩) sz_w3).trans bx_w3_1; have bx_w4_2 := (hb_w4.cell (p := ⟨w.heap.size, 2, none⟩) sz_w3).trans bx_w3_2; have bx_w4_3 := (hb_w4.cell (p := ⟨w.heap.size, 3, none⟩) sz_w3).trans bx_w3_3; have sz_w4 : w.heap.size < w4.heap.size := Nat.lt_of_lt_of_le sz_w3 hb_w4.size; have k_w4_y0 := (HB4.out.cell (p := ⟨bcy, offcy, none⟩) hbl).trans cy_0; have k_w4_y1 := (HB4.out.cell (p := ⟨bcy, offcy + 1, none⟩) hbl).trans cy_1; have k_w4_y2 := (HB4.out.cell (p := ⟨bcy, offcy + 2, none⟩) hbl).trans cy_2; have k_w4_y3 := (HB4.out.cell (p := ⟨bcy, offcy + 3, none⟩) hbl).trans cy_3; have k_w4_t0 := (HB4.out.cell (p := ⟨bcy, offcy + 4, none⟩) hbl).trans ct_0; have k_w4_t1 := (HB4.out.cell (p := ⟨bcy, offcy + 5, none⟩) hbl).trans ct_1; have k_w4_t2 := (HB4.out.cell (p := ⟨bcy, offcy + 6, none⟩) hbl).trans ct_2; have k_w4_t3 := (HB4.out.cell (p := ⟨bcy, offcy + 7, none⟩) hbl).trans ct_3) | (go_at_call 71; clear tokCt; refine (Ct.out [.int .i64 t0, .int .i64 t1, .string t2, .slice Dt t3.length dt] _ w.heap.size HB4.out.size (by rw [FNode.c_eq]; exact RdVs.cons (by unfold RdC; rfl) (RdVs.cons (by unfold RdC; rfl) (RdVs.cons (by unfold RdC; rfl) (RdVs.cons ((Qt.out.up hB0).below HB4.out (Nat.le_refl _)) (RdVs.nil _ _)))))).mono ?_; rintro e w5 ⟨rfl, hb_w5⟩; have HB5 := Lib.hid (HB4.out.trans (hb_w5.mono HB4.out.size)); have bx_w5_0 := (hb_w5.cell (p := ⟨w.heap.size, 0, none⟩) sz_w4).trans bx_w4_0; have bx_w5_1 := (hb_w5.cell (p := ⟨w.heap.size, 1, none⟩) sz_w4).trans bx_w4_1; have bx_w5_2 := (hb_w5.cell (p := ⟨w.heap.size, 2, none⟩) sz_w4).trans bx_w4_2; have bx_w5_3 := (hb_w5.cell (p := ⟨w.heap.size, 3, none⟩) sz_w4).trans bx_w4_3; have sz_w5 : w.heap.size < w5.heap.size := Nat.lt_of_lt_of_le sz_w4 hb_w5.size; have k_w5_y0 := (HB5.out.cell (p := ⟨bcy, offcy, none⟩) hbl).trans cy_0; have k_w5_y1 := (HB5.out.cell (p := ⟨bcy, offcy + 1, none⟩) hbl).trans cy_1; have k_w5_y2 := (HB5.out.cell (p := ⟨bcy, offcy + 2, none⟩) hbl).trans cy_2; have k_w5_y3 := (HB5.out.cell (p := ⟨bcy, offcy + 3, none⟩) hbl).trans cy_3; have k_w5_t0 := (HB5.out.cell (p := ⟨bcy, offcy + 4, none⟩) hbl).trans ct_0; have k_w5_t1 := (HB5.out.cell (p := ⟨bcy, offcy + 5, none⟩) hbl).trans ct_1; have k_w5_t2 := (HB5.out.cell (p := ⟨bcy, offcy + 6, none⟩) hbl).trans ct_2; have k_w5_t3 := (HB5.out.cell (p := ⟨bcy, offcy + 7, none⟩) hbl).trans ct_3))
        all_goals (first | (go_ret; exact ⟨ret_bool (by (first | (simp_all [emT_t, emT_f, beq_0, statL]; done) | (simp_all [emT, beq_0, statL]; done) | (simp_all [emT_t, emT_f, beq_0, statL]; omega))), by first | exact HB7.out | exact HB6.out | exact HB5.out | exact HB4.out | exact HB3.out⟩))
      | true =>
        rw [hvCt] at Ct
        have tokCt : True := trivial
        have tokCu : True := trivial
        go_enter Try.func37, Try.ntmps37
        go_wp2_with (first | (go_at_call 36; refine FDC.out.mono ?_; rintro e w3 ⟨rfl, hb3⟩; have HB3 := Lib.hid (HB.out.trans (hb3.mono HB.out.size)); have bx_w3_0 : w3.cell? ⟨w.heap.size, 0, none⟩ = some (.int .i64 34) := (hb3.cell (p := ⟨w.heap.size, 0, none⟩) (by show w.heap.size < _; simp)).trans (by rw [World.cell?_alloc_new]; rfl); have bx_w3_1 : w3.cell? ⟨w.heap.size, 1, none⟩ = some (.int .i64 z1) := (hb3.cell (p := ⟨w.heap.size, 1, none⟩) (by show w.heap.size < _; simp)).trans (by rw [World.cell?_alloc_new]; rfl); have bx_w3_2 : w3.cell? ⟨w.heap.size, 2, none⟩ = some (.string z2) := (hb3.cell (p := ⟨w.heap.size, 2, none⟩) (by show w.heap.size < _; simp)).trans (by rw [World.cell?_alloc_new]; rfl); have bx_w3_3 : w3.cell? ⟨w.heap.size, 3, none⟩ = some (.slice (some ⟨bcy, offcy, none⟩) 2 c3) := (hb3.cell (p := ⟨w.heap.size, 3, none⟩) (by show w.heap.size < _; simp)).trans (by rw [World.cell?_alloc_new]; rfl); have sz_w3 : w.heap.size < w3.heap.size := Nat.lt_of_lt_of_le (by simp) hb3.size; have k_w3_y0 := (HB3.out.cell (p := ⟨bcy, offcy, none⟩) hbl).trans cy_0; have k_w3_y1 := (HB3.out.cell (p := ⟨bcy, offcy + 1, none⟩) hbl).trans cy_1; have k_w3_y2 := (HB3.out.cell (p := ⟨bcy, offcy + 2, none⟩) hbl).trans cy_2; have k_w3_y3 := (HB3.out.cell (p := ⟨bcy, offcy + 3, none⟩) hbl).trans cy_3; have k_w3_t0 := (HB3.out.cell (p := ⟨bcy, offcy + 4, none⟩) hbl).trans ct_0; have k_w3_t1 := (HB3.out.cell (p := ⟨bcy, offcy + 5, none⟩) hbl).trans ct_1; have k_w3_t2 := (HB3.out.cell (p := ⟨bcy, offcy + 6, none⟩) hbl).trans ct_2; have k_w3_t3 := (HB3.out.cell (p := ⟨bcy, offcy + 7, none⟩) hbl).trans ct_3) | (go_at_call 64; refine (l1In_any _ _ _ _).mono ?_; rintro e w' ⟨rfl, rfl⟩) | (go_at_call 68; refine (Cy.out [.int .i64 y0, .int .i64 y1, .string y2, .slice Dy y3.length dy] _ w.heap.size HB3.out.size (by rw [FNode.c_eq]; exact RdVs.cons (by unfold RdC; rfl) (RdVs.cons (by unfold RdC; rfl) (RdVs.cons (by unfold RdC; rfl) (RdVs.cons ((Qy.out.up hB0).below HB3.out (Nat.le_refl _)) (RdVs.nil _ _)))))).mono ?_; rintro e w4 ⟨rfl, hb_w4⟩; have HB4 := Lib.hid (HB3.out.trans (hb_w4.mono HB3.out.size)); have bx_w4_0 := (hb_w4.cell (p := ⟨w.heap.size, 0, none⟩) sz_w3).trans bx_w3_0; have bx_w4_1 := (hb_w4.cell (p := ⟨w.heap.size, 1, none⟩) sz_w3).trans bx_w3_1; have bx_w4_2 := (hb_w4.cell (p := ⟨w.heap.size, 2, none⟩) sz_w3).trans bx_w3_2; have bx_w4_3 := (hb_w4.cell (p := ⟨w.heap.size, 3, none⟩) sz_w3).trans bx_w3_3; have sz_w4 : w.heap.size < w4.heap.size := Nat.lt_of_lt_of_le sz_w3 hb_w4.size; have k_w4_y0 := (HB4.out.cell (p := ⟨bcy, offcy, none⟩) hbl).trans cy_0; have k_w4_y1 := (HB4.out.cell (p := ⟨bcy, offcy + 1, none⟩) hbl).trans cy_1; have k_w4_y2 := (HB4.out.cell (p := ⟨bcy, offcy + 2, none⟩) hbl).trans cy_2; have k_w4_y3 := (HB4.out.cell (p := ⟨bcy, offcy + 3, none⟩) hbl).trans cy_3; have k_w4_t0 := (HB4.out.cell (p := ⟨bcy, offcy + 4, none⟩) hbl).trans ct_0; have k_w4_t1 := (HB4.out.cell (p := ⟨bcy, offcy + 5, none⟩) hbl).trans ct_1; have k_w4_t2 := (HB4.out.cell (p := ⟨bcy, offcy + 6, none⟩) hbl).trans ct_2; have k_w4_t3 := (HB4.out.cell (p := ⟨bcy, offcy + 7, none⟩) hbl).trans ct_3) | (go_at_call 71; clear tokCt; refine (Ct.out [.int .i64 t0, .int .i64 t1, .string t2, .slice Dt t3.length dt] _ w.heap.size HB4.out.size (by rw [FNode.c_eq]; exact RdVs.cons (by unfold RdC; rfl) (RdVs.cons (by unfold RdC; rfl) (RdVs.cons (by unfold RdC; rfl) (RdVs.cons ((Qt.out.up hB0).below HB4.out (Nat.le_refl _)) (RdVs.nil _ _)))))).mono ?_; rintro e w5 ⟨rfl, hb_w5⟩; have HB5 := Lib.hid (HB4.out.trans (hb_w5.mono HB4.out.size)); have bx_w5_0 := (hb_w5.cell (p := ⟨w.heap.size, 0, none⟩) sz_w4).trans bx_w4_0; have bx_w5_1 := (hb_w5.cell (p := ⟨w.heap.size, 1, none⟩) sz_w4).trans bx_w4_1; have bx_w5_2 := (hb_w5.cell (p := ⟨w.heap.size, 2, none⟩) sz_w4).trans bx_w4_2; have bx_w5_3 := (hb_w5.cell (p := ⟨w.heap.size, 3, none⟩) sz_w4).trans bx_w4_3; have sz_w5 : w.heap.size < w5.heap.size := Nat.lt_of_lt_of_le sz_w4 hb_w5.size; have k_w5_y0 := (HB5.out.cell (p := ⟨bcy, offcy, none⟩) hbl).trans cy_0; have k_w5_y1 := (HB5.out.cell (p := ⟨bcy, offcy + 1, none⟩) hbl).trans cy_1; have k_w5_y2 := (HB5.out.cell (p := ⟨bcy, offcy + 2, none⟩) hbl).trans cy_2; have k_w5_y3 := (HB5.out.cell (p := ⟨bcy, offcy + 3, none⟩) hbl).trans cy_3; have k_w5_t0 := (HB5.out.cell (p := ⟨bcy, offcy + 4, none⟩) hbl).trans ct_0; have k_w5_t1 := (HB5.out.cell (p := ⟨bcy, offcy + 5, none⟩) hbl).trans ct_1; have k_w5_t2 := (HB5.out.cell (p := ⟨bcy, offcy + 6, none⟩) hbl).trans ct_2; have k_w5_t3 := (HB5.out.cell (p := ⟨bcy, offcy + 7, none⟩) hbl).trans ct_3) | (go_at_call 71; clear tokCu; refine (Cu.out [.int .i64 t0, .int .i64 t1, .string t2, .slice Dt t3.length dt] _ w.heap.size HB5.out.size (by rw [FNode.c_eq]; exact RdVs.cons (by unfold RdC; rfl) (RdVs.cons (by unfold RdC; rfl) (RdVs.cons (by unfold RdC; rfl) (RdVs.cons ((Qt.out.up hB0).below HB5.out (Nat.le_refl _)) (RdVs.nil _ _)))))).mono ?_; rintro e w6 ⟨rfl, hb_w6⟩; have HB6 := Lib.hid (HB5.out.trans (hb_w6.mono HB5.out.size)); have bx_w6_0 := (hb_w6.cell (p := ⟨w.heap.size, 0, none⟩) sz_w5).trans bx_w5_0; have bx_w6_1 := (hb_w6.cell (p := ⟨w.heap.size, 1, none⟩) sz_w5).trans bx_w5_1; have bx_w6_2 := (hb_w6.cell (p := ⟨w.heap.size, 2, none⟩) sz_w5).trans bx_w5_2; have bx_w6_3 := (hb_w6.cell (p := ⟨w.heap.size, 3, none⟩) sz_w5).trans bx_w5_3; have sz_w6 : w.heap.size < w6.heap.size := Nat.lt_of_lt_of_le sz_w5 hb_w6.size; have k_w6_y0 := (HB6.out.cell (p := ⟨bcy, offcy, none⟩) hbl).trans cy_0; have k_w6_y1 := (HB6.out.cell (p := ⟨bcy, offcy + 1, none⟩) hbl).trans cy_1; have k_w6_y2 := (HB6.out.cell (p := ⟨bcy, offcy + 2, none⟩) hbl).trans cy_2; have k_w6_y3 := (HB6.out.cell (p := ⟨bcy, offcy + 3, none⟩) hbl).trans cy_3; have k_w6_t0 := (HB6.out.cell (p := ⟨bcy, offcy + 4, none⟩) hbl).trans ct_0; have k_w6_t1 := (HB6.out.cell (p := ⟨bcy, offcy + 5, none⟩) hbl).trans ct_1; have k_w6_t2 := (HB6.out.cell (p := ⟨bcy, offcy + 6, none⟩) hbl).trans ct_2; have k_w6_t3 := (HB6.out.cell (p := ⟨bcy, offcy + 7, none⟩) hbl).trans ct_3))
        all_goals (first | (go_ret; exact ⟨ret_bool (by (first | (simp_all [emT_t, emT_f, beq_0, statL]; done) | (simp_all [emT, beq_0, statL]; done) | (simp_all [emT_t, emT_f, beq_0, statL]; omega))), by first | exact HB7.out | exact HB6.out | exact HB5.out | exact HB4.out | exact HB3.out⟩))
  · skip
    by_cases e3m : m = 3
    · subst e3m
      obtain ⟨⟨y0, y1, y2, y3⟩, ⟨t0, t1, t2, t3⟩, ⟨u0, u1, u2, u3⟩, rfl⟩ := three_of hm
      have Cy := Lib.hid (hE _ (List.mem_cons_self ..))
      have Ct := Lib.hid (hB ⟨t0, t1, t2, t3⟩ (by simp))
      have Cu := Lib.hid (hB ⟨u0, u1, u2, u3⟩ (by simp))
      unfold ExS at Cy
      unfold BkS at Ct Cu
      obtain ⟨bcy, offcy, Ey, hblcy, hcc⟩ := RdC.at_ (l := [FNode.mk y0 y1 y2 y3, FNode.mk t0 t1 t2 t3, FNode.mk u0 u1 u2 u3]) FNode.len HR.out (i := 0) (x := FNode.mk y0 y1 y2 y3) rfl
      rw [FNode.c_eq] at hcc
      obtain ⟨u0, e0, q0⟩ := hcc 0 _ rfl
      obtain rfl := q0.val
      have cy_0 : w.cell? ⟨bcy, offcy, none⟩ = some (.int .i64 y0) := ((Below.refl w.heap.size w).cell (p := ⟨bcy, _, none⟩) (by show bcy < w.heap.size; omega)).trans (by simpa using e0)
      obtain ⟨u1, e1, q1⟩ := hcc 1 _ rfl
      obtain rfl := q1.val
      have cy_1 : w.cell? ⟨bcy, offcy + 1, none⟩ = some (.int .i64 y1) := ((Below.refl w.heap.size w).cell (p := ⟨bcy, _, none⟩) (by show bcy < w.heap.size; omega)).trans (by simpa using e1)
      obtain ⟨u2, e2, q2⟩ := hcc 2 _ rfl
      obtain rfl := q2.val
      have cy_2 : w.cell? ⟨bcy, offcy + 2, none⟩ = some (.string y2) := ((Below.refl w.heap.size w).cell (p := ⟨bcy, _, none⟩) (by show bcy < w.heap.size; omega)).trans (by simpa using e2)
      obtain ⟨u3, e3, q3⟩ := hcc 3 _ rfl
      obtain ⟨Dy, dy, rfl⟩ := q3.form
      have cy_3 : w.cell? ⟨bcy, offcy + 3, none⟩ = some (.slice Dy y3.length dy) := ((Below.refl w.heap.size w).cell (p := ⟨bcy, _, none⟩) (by show bcy < w.heap.size; omega)).trans (by simpa using e3)
      have Qy := Lib.hid q3
      clear hcc e0 e1 e2 e3 q0 q1 q2 q3
      obtain ⟨bct, offct, Et, hblct, hcc⟩ := RdC.at_ (l := [FNode.mk y0 y1 y2 y3, FNode.mk t0 t1 t2 t3, FNode.mk u0 u1 u2 u3]) FNode.len HR.out (i := 1) (x := FNode.mk t0 t1 t2 t3) rfl
      rw [FNode.c_eq] at hcc
      obtain ⟨u0, e0, q0⟩ := hcc 0 _ rfl
      obtain rfl := q0.val
      have ct_0 : w.cell? ⟨bct, offct + 4, none⟩ = some (.int .i64 t0) := ((Below.refl w.heap.size w).cell (p := ⟨bct, _, none⟩) (by show bct < w.heap.size; omega)).trans (by simpa using e0)
      obtain ⟨u1, e1, q1⟩ := hcc 1 _ rfl
      obtain rfl := q1.val
      have ct_1 : w.cell? ⟨bct, offct + 5, none⟩ = some (.int .i64 t1) := ((Below.refl w.heap.size w).cell (p := ⟨bct, _, none⟩) (by show bct < w.heap.size; omega)).trans (by simpa using e1)
      obtain ⟨u2, e2, q2⟩ := hcc 2 _ rfl
      obtain rfl := q2.val
      have ct_2 : w.cell? ⟨bct, offct + 6, none⟩ = some (.string t2) := ((Below.refl w.heap.size w).cell (p := ⟨bct, _, none⟩) (by show bct < w.heap.size; omega)).trans (by simpa using e2)
      obtain ⟨u3, e3, q3⟩ := hcc 3 _ rfl
      obtain ⟨Dt, dt, rfl⟩ := q3.form
      have ct_3 : w.cell? ⟨bct, offct + 7, none⟩ = some (.slice Dt t3.length dt) := ((Below.refl w.heap.size w).cell (p := ⟨bct, _, none⟩) (by show bct < w.heap.size; omega)).trans (by simpa using e3)
      have Qt := Lib.hid q3
      clear hcc e0 e1 e2 e3 q0 q1 q2 q3
      obtain ⟨bcu, offcu, Eu, hblcu, hcc⟩ := RdC.at_ (l := [FNode.mk y0 y1 y2 y3, FNode.mk t0 t1 t2 t3, FNode.mk u0 u1 u2 u3]) FNode.len HR.out (i := 2) (x := FNode.mk u0 u1 u2 u3) rfl
      rw [FNode.c_eq] at hcc
      obtain ⟨u0, e0, q0⟩ := hcc 0 _ rfl
      obtain rfl := q0.val
      have cu_0 : w.cell? ⟨bcu, offcu + 8, none⟩ = some (.int .i64 u0) := ((Below.refl w.heap.size w).cell (p := ⟨bcu, _, none⟩) (by show bcu < w.heap.size; omega)).trans (by simpa using e0)
      obtain ⟨u1, e1, q1⟩ := hcc 1 _ rfl
      obtain rfl := q1.val
      have cu_1 : w.cell? ⟨bcu, offcu + 9, none⟩ = some (.int .i64 u1) := ((Below.refl w.heap.size w).cell (p := ⟨bcu, _, none⟩) (by show bcu < w.heap.size; omega)).trans (by simpa using e1)
      obtain ⟨u2, e2, q2⟩ := hcc 2 _ rfl
      obtain rfl := q2.val
      have cu_2 : w.cell? ⟨bcu, offcu + 10, none⟩ = some (.string u2) := ((Below.refl w.heap.size w).cell (p := ⟨bcu, _, none⟩) (by show bcu < w.heap.size; omega)).trans (by simpa using e2)
      obtain ⟨u3, e3, q3⟩ := hcc 3 _ rfl
      obtain ⟨Du, du, rfl⟩ := q3.form
      have cu_3 : w.cell? ⟨bcu, offcu + 11, none⟩ = some (.slice Du u3.length du) := ((Below.refl w.heap.size w).cell (p := ⟨bcu, _, none⟩) (by show bcu < w.heap.size; omega)).trans (by simpa using e3)
      have Qu := Lib.hid q3
      clear hcc e0 e1 e2 e3 q0 q1 q2 q3
      have hbl : bcy < w.heap.size := Nat.lt_of_lt_of_le hblcy hB0
      subst Ey
      obtain ⟨g1, g2⟩ : bcy = bct ∧ offcy = offct := by simpa using Et
      subst g1
      subst g2
      clear Et
      obtain ⟨g1, g2⟩ : bcy = bcu ∧ offcy = offcu := by simpa using Eu
      subst g1
      subst g2
      clear Eu
      clear hm hw hE hB
      rw [show ifK [FNode.mk y0 y1 y2 y3, FNode.mk t0 t1 t2 t3, FNode.mk u0 u1 u2 u3] = (exF ⟨y0, y1, y2, y3⟩ && (blF ⟨t0, t1, t2, t3⟩ && blF ⟨u0, u1, u2, u3⟩)) from rfl]
      cases hvCy : exF ⟨y0, y1, y2, y3⟩ with
      | false =>
        rw [hvCy] at Cy
        go_enter Try.func37, Try.ntmps37
        go_wp2_with (first | (go_at_call 36; refine FDC.out.mono ?_; rintro e w3 ⟨rfl, hb3⟩; have HB3 := Lib.hid (HB.out.trans (hb3.mono HB.out.size)); have bx_w3_0 : w3.cell? ⟨w.heap.size, 0, none⟩ = some (.int .i64 34) := (hb3.cell (p := ⟨w.heap.size, 0, none⟩) (by show w.heap.size < _; simp)).trans (by rw [World.cell?_alloc_new]; rfl); have bx_w3_1 : w3.cell? ⟨w.heap.size, 1, none⟩ = some (.int .i64 z1) := (hb3.cell (p := ⟨w.heap.size, 1, none⟩) (by show w.heap.size < _; simp)).trans (by rw [World.cell?_alloc_new]; rfl); have bx_w3_2 : w3.cell? ⟨w.heap.size, 2, none⟩ = some (.string z2) := (hb3.cell (p := ⟨w.heap.size, 2, none⟩) (by show w.heap.size < _; simp)).trans (by rw [World.cell?_alloc_new]; rfl); have bx_w3_3 : w3.cell? ⟨w.heap.size, 3, none⟩ = some (.slice (some ⟨bcy, offcy, none⟩) 3 c3) := (hb3.cell (p := ⟨w.heap.size, 3, none⟩) (by show w.heap.size < _; simp)).trans (by rw [World.cell?_alloc_new]; rfl); have sz_w3 : w.heap.size < w3.heap.size := Nat.lt_of_lt_of_le (by simp) hb3.size; have k_w3_y0 := (HB3.out.cell (p := ⟨bcy, offcy, none⟩) hbl).trans cy_0; have k_w3_y1 := (HB3.out.cell (p := ⟨bcy, offcy + 1, none⟩) hbl).trans cy_1; have k_w3_y2 := (HB3.out.cell (p := ⟨bcy, offcy + 2, none⟩) hbl).trans cy_2; have k_w3_y3 := (HB3.out.cell (p := ⟨bcy, offcy + 3, none⟩) hbl).trans cy_3; have k_w3_t0 := (HB3.out.cell (p := ⟨bcy, offcy + 4, none⟩) hbl).trans ct_0; have k_w3_t1 := (HB3.out.cell (p := ⟨bcy, offcy + 5, none⟩) hbl).trans ct_1; have k_w3_t2 := (HB3.out.cell (p := ⟨bcy, offcy + 6, none⟩) hbl).trans ct_2; have k_w3_t3 := (HB3.out.cell (p := ⟨bcy, offcy + 7, none⟩) hbl).trans ct_3; have k_w3_u0 := (HB3.out.cell (p := ⟨bcy, offcy + 8, none⟩) hbl).trans cu_0; have k_w3_u1 := (HB3.out.cell (p := ⟨bcy, offcy + 9, none⟩) hbl).trans cu_1; have k_w3_u2 := (HB3.out.cell (p := ⟨bcy, offcy + 10, none⟩) hbl).trans cu_2; have k_w3_u3 := (HB3.out.cell (p := ⟨bcy, offcy + 11, none⟩) hbl).trans cu_3) | (go_at_call 64; refine (l1In_any _ _ _ _).mono ?_; rintro e w' ⟨rfl, rfl⟩) | (go_at_call 68; refine (Cy.out [.int .i64 y0, .int .i64 y1, .string y2, .slice Dy y3.length dy] _ w.heap.size HB3.out.size (by rw [FNode.c_eq]; exact RdVs.cons (by unfold RdC; rfl) (RdVs.cons (by unfold RdC; rfl) (RdVs.cons (by unfold RdC; rfl) (RdVs.cons ((Qy.out.up hB0).below HB3.out (Nat.le_refl _)) (RdVs.nil _ _)))))).mono ?_; rintro e w4 ⟨rfl, hb_w4⟩; have HB4 := Lib.hid (HB3.out.trans (hb_w4.mono HB3.out.size)); have bx_w4_0 := (hb_w4.cell (p := ⟨w.heap.size, 0, none⟩) sz_w3).trans bx_w3_0; have bx_w4_1 := (hb_w4.cell (p := ⟨w.heap.size, 1, none⟩) sz_w3).trans bx_w3_1; have bx_w4_2 := (hb_w4.cell (p := ⟨w.heap.size, 2, none⟩) sz_w3).trans bx_w3_2; have bx_w4_3 := (hb_w4.cell (p := ⟨w.heap.size, 3, none⟩) sz_w3).trans bx_w3_3; have sz_w4 : w.heap.size < w4.heap.size := Nat.lt_of_lt_of_le sz_w3 hb_w4.size; have k_w4_y0 := (HB4.out.cell (p := ⟨bcy, offcy, none⟩) hbl).trans cy_0; have k_w4_y1 := (HB4.out.cell (p := ⟨bcy, offcy + 1, none⟩) hbl).trans cy_1; have k_w4_y2 := (HB4.out.cell (p := ⟨bcy, offcy + 2, none⟩) hbl).trans cy_2; have k_w4_y3 := (HB4.out.cell (p := ⟨bcy, offcy + 3, none⟩) hbl).trans cy_3; have k_w4_t0 := (HB4.out.cell (p := ⟨bcy, offcy + 4, none⟩) hbl).trans ct_0; have k_w4_t1 := (HB4.out.cell (p := ⟨bcy, offcy + 5, none⟩) hbl).trans ct_1; have k_w4_t2 := (HB4.out.cell (p := ⟨bcy, offcy + 6, none⟩) hbl).trans ct_2; have k_w4_t3 := (HB4.out.cell (p := ⟨bcy, offcy + 7, none⟩) hbl).trans ct_3; have k_w4_u0 := (HB4.out.cell (p := ⟨bcy, offcy + 8, none⟩) hbl).trans cu_0; have k_w4_u1 := (HB4.out.cell (p := ⟨bcy, offcy + 9, none⟩) hbl).trans cu_1; have k_w4_u2 := (HB4.out.cell (p := ⟨bcy, offcy + 10, none⟩) hbl).trans cu_2; have k_w4_u3 := (HB4.out.cell (p := ⟨bcy, offcy + 11, none⟩) hbl).trans cu_3))
        all_goals (first | (go_ret; exact ⟨ret_bool (by (first | (simp_all [emT_t, emT_f, beq_0, statL]; done) | (simp_all [emT, beq_0, statL]; done) | (simp_all [emT_t, emT_f, beq_0, statL]; omega))), by first | exact HB7.out | exact HB6.out | exact HB5.out | exact HB4.out | exact HB3.out⟩))
      | true =>
        rw [hvCy] at Cy
        cases hvCt : blF ⟨t0, t1, t2, t3⟩ with
        | false =>
          rw [hvCt] at Ct
          have tokCt : True := trivial
          go_enter Try.func37, Try.ntmps37
          go_wp2_with (first | (go_at_call 36; refine FDC.out.mono ?_; rintro e w3 ⟨rfl, hb3⟩; have HB3 := Lib.hid (HB.out.trans (hb3.mono HB.out.size)); have bx_w3_0 : w3.cell? ⟨w.heap.size, 0, none⟩ = some (.int .i64 34) := (hb3.cell (p := ⟨w.heap.size, 0, none⟩) (by show w.heap.size < _; simp)).trans (by rw [World.cell?_alloc_new]; rfl); have bx_w3_1 : w3.cell? ⟨w.heap.size, 1, none⟩ = some (.int .i64 z1) := (hb3.cell (p := ⟨w.heap.size, 1, none⟩) (by show w.heap.size < _; simp)).trans (by rw [World.cell?_alloc_new]; rfl); have bx_w3_2 : w3.cell? ⟨w.heap.size, 2, none⟩ = some (.string z2) := (hb3.cell (p := ⟨w.heap.size, 2, none⟩) (by show w.heap.size < _; simp)).trans (by rw [World.cell?_alloc_new]; rfl); have bx_w3_3 : w3.cell? ⟨w.heap.size, 3, none⟩ = some (.slice (some ⟨bcy, offcy, none⟩) 3 c3) := (hb3.cell (p := ⟨w.heap.size, 3, none⟩) (by show w.heap.size < _; simp)).trans (by rw [World.cell?_alloc_new]; rfl); have sz_w3 : w.heap.size < w3.heap.size := Nat.lt_of_lt_of_le (by simp) hb3.size; have k_w3_y0 := (HB3.out.cell (p := ⟨bcy, offcy, none⟩) hbl).trans cy_0; have k_w3_y1 := (HB3.out.cell (p := ⟨bcy, offcy + 1, none⟩) hbl).trans cy_1; have k_w3_y2 := (HB3.out.cell (p := ⟨bcy, offcy + 2, none⟩) hbl).trans cy_2; have k_w3_y3 := (HB3.out.cell (p := ⟨bcy, offcy + 3, none⟩) hbl).trans cy_3; have k_w3_t0 := (HB3.out.cell (p := ⟨bcy, offcy + 4, none⟩) hbl).trans ct_0; have k_w3_t1 := (HB3.out.cell (p := ⟨bcy, offcy + 5, none⟩) hbl).trans ct_1; have k_w3_t2 := (HB3.out.cell (p := ⟨bcy, offcy + 6, none⟩) hbl).trans ct_2; have k_w3_t3 := (HB3.out.cell (p := ⟨bcy, offcy + 7, none⟩) hbl).trans ct_3; have k_w3_u0 := (HB3.out.cell (p := ⟨bcy, offcy + 8, none⟩) hbl).trans cu_0; have k_w3_u1 := (HB3.out.cell (p := ⟨bcy, offcy + 9, none⟩) hbl).trans cu_1; have k_w3_u2 := (HB3.out.cell (p := ⟨bcy, offcy + 10, none⟩) hbl).trans cu_2; have k_w3_u3 := (HB3.out.cell (p := ⟨bcy, offcy + 11, none⟩) hbl).trans cu_3) | (go_at_call 64; refine (l1In_any _ _ _ _).mono ?_; rintro e w' ⟨rfl, rfl⟩) | (go_at_call 68; refine (Cy.out [.int .i64 y0, .int .i64 y1, .string y2, .slice Dy y3.length dy] _ w.heap.size HB3.out.size (by rw [FNode.c_eq]; exact RdVs.cons (by unfold RdC; rfl) (RdVs.cons (by unfold RdC; rfl) (RdVs.cons (by unfold RdC; rfl) (RdVs.cons ((Qy.out.up hB0).below HB3.out (Nat.le_refl _)) (RdVs.nil _ _)))))).mono ?_; rintro e w4 ⟨rfl, hb_w4⟩; have HB4 := Lib.hid (HB3.out.trans (hb_w4.mono HB3.out.size)); have bx_w4_0 := (hb_w4.cell (p := ⟨w.heap.size, 0, none⟩) sz_w3).trans bx_w3_0; have bx_w4_1 := (hb_w4.cell (p := ⟨w.heap.size, 1, none⟩) sz_w3).trans bx_w3_1; have bx_w4_2 := (hb_w4.cell (p := ⟨w.heap.size, 2, none⟩) sz_w3).trans bx_w3_2; have bx_w4_3 := (hb_w4.cell (p := ⟨w.heap.size, 3, none⟩) sz_w3).trans bx_w3_3; have sz_w4 : w.heap.size < w4.heap.size := Nat.lt_of_lt_of_le sz_w3 hb_w4.size; have k_w4_y0 := (HB4.out.cell (p := ⟨bcy, offcy, none⟩) hbl).trans cy_0; have k_w4_y1 := (HB4.out.cell (p := ⟨bcy, offcy + 1, none⟩) hbl).trans cy_1; have k_w4_y2 := (HB4.out.cell (p := ⟨bcy, offcy + 2, none⟩) hbl).trans cy_2; have k_w4_y3 := (HB4.out.cell (p := ⟨bcy, offcy + 3, none⟩) hbl).trans cy_3; have k_w4_t0 := (HB4.out.cell (p := ⟨bcy, offcy + 4, none⟩) hbl).trans ct_0; have k_w4_t1 := (HB4.out.cell (p := ⟨bcy, offcy + 5, none⟩) hbl).trans ct_1; have k_w4_t2 := (HB4.out.cell (p := ⟨bcy, offcy + 6, none⟩) hbl).trans ct_2; have k_w4_t3 := (HB4.out.cell (p := ⟨bcy, offcy + 7, none⟩) hbl).trans ct_3; have k_w4_u0 := (HB4.out.cell (p := ⟨bcy, offcy + 8, none⟩) hbl).trans cu_0; have k_w4_u1 := (HB4.out.cell (p := ⟨bcy, offcy + 9, none⟩) hbl).trans cu_1; have k_w4_u2 := (HB4.out.cell (p := ⟨bcy, offcy + 10, none⟩) hbl).trans cu_2; have k_w4_u3 := (HB4.out.cell (p := ⟨bcy, offcy + 11, none⟩) hbl).trans cu_3) | (go_at_call 71; clear tokCt; refine (Ct.out [.int .i64 t0, .int .i64 t1, .string t2, .slice Dt t3.length dt] _ w.heap.size HB4.out.size (by rw [FNode.c_eq]; exact RdVs.cons (by unfold RdC; rfl) (RdVs.cons (by unfold RdC; rfl) (RdVs.cons (by unfold RdC; rfl) (RdVs.cons ((Qt.out.up hB0).below HB4.out (Nat.le_refl _)) (RdVs.nil _ _)))))).mono ?_; rintro e w5 ⟨rfl, hb_w5⟩; have HB5 := Lib.hid (HB4.out.trans (hb_w5.mono HB4.out.size)); have bx_w5_0 := (hb_w5.cell (p := ⟨w.heap.size, 0, none⟩) sz_w4).trans bx_w4_0; have bx_w5_1 := (hb_w5.cell (p := ⟨w.heap.size, 1, none⟩) sz_w4).trans bx_w4_1; have bx_w5_2 := (hb_w5.cell (p := ⟨w.heap.size, 2, none⟩) sz_w4).trans bx_w4_2; have bx_w5_3 := (hb_w5.cell (p := ⟨w.heap.size, 3, none⟩) sz_w4).trans bx_w4_3; have sz_w5 : w.heap.size < w5.heap.size := Nat.lt_of_lt_of_le sz_w4 hb_w5.size; have k_w5_y0 := (HB5.out.cell (p := ⟨bcy, offcy, none⟩) hbl).trans cy_0; have k_w5_y1 := (HB5.out.cell (p := ⟨bcy, offcy + 1, none⟩) hbl).trans cy_1; have k_w5_y2 := (HB5.out.cell (p := ⟨bcy, offcy + 2, none⟩) hbl).trans cy_2; have k_w5_y3 := (HB5.out.cell (p := ⟨bcy, offcy + 3, none⟩) hbl).trans cy_3; have k_w5_t0 := (HB5.out.cell (p := ⟨bcy, offcy + 4, none⟩) hbl).trans ct_0; have k_w5_t1 := (HB5.out.cell (p := ⟨bcy, offcy + 5, none⟩) hbl).trans ct_1; have k_w5_t2 := (HB5.out.cell (p := ⟨bcy, offcy + 6, none⟩) hbl).trans ct_2; have k_w5_t3 := (HB5.out.cell (p := ⟨bcy, offcy + 7, none⟩) hbl).trans ct_3; have k_w5_u0 := (HB5.out.cell (p := ⟨bcy, offcy + 8, none⟩) hbl).trans cu_0; have k_w5_u1 := (HB5.out.cell (p := ⟨bcy, offcy + 9, none⟩) hbl).trans cu_1; have k_w5_u2 := (HB5.out.cell (p := ⟨bcy, offcy + 10, none⟩) hbl).trans cu_2; have k_w5_u3 := (HB5.out.cell (p := ⟨bcy, offcy + 11, none⟩) hbl).trans cu_3))
          all_goals (first | (go_ret; exact ⟨ret_bool (by (first | (simp_all [emT_t, emT_f, beq_0, statL]; done) | (simp_all [emT, beq_0, statL]; done) | (simp_all [emT_t, emT_f, beq_0, statL]; omega))), by first | exact HB7.out | exact HB6.out | exact HB5.out | exact HB4.out | exact HB3.out⟩))
        | true =>
          rw [hvCt] at Ct
          have tokCt : True := trivial
          have tokCu : True := trivial
          go_enter Try.func37, Try.ntmps37
          go_wp2_with (first | (go_at_call 36; refine FDC.out.mono ?_; rintro e w3 ⟨rfl, hb3⟩; have HB3 := Lib.hid (HB.out.trans (hb3.mono HB.out.size)); have bx_w3_0 : w3.cell? ⟨w.heap.size, 0, none⟩ = some (.int .i64 34) := (hb3.cell (p := ⟨w.heap.size, 0, none⟩) (by show w.heap.size < _; simp)).trans (by rw [World.cell?_alloc_new]; rfl); have bx_w3_1 : w3.cell? ⟨w.heap.size, 1, none⟩ = some (.int .i64 z1) := (hb3.cell (p := ⟨w.heap.size, 1, none⟩) (by show w.heap.size < _; simp)).trans (by rw [World.cell?_alloc_new]; rfl); have bx_w3_2 : w3.cell? ⟨w.heap.size, 2, none⟩ = some (.string z2) := (hb3.cell (p := ⟨w.heap.size, 2, none⟩) (by show w.heap.size < _; simp)).trans (by rw [World.cell?_alloc_new]; rfl); have bx_w3_3 : w3.cell? ⟨w.heap.size, 3, none⟩ = some (.slice (some ⟨bcy, offcy, none⟩) 3 c3) := (hb3.cell (p := ⟨w.heap.size, 3, none⟩) (by show w.heap.size < _; simp)).trans (by rw [World.cell?_alloc_new]; rfl); have sz_w3 : w.heap.size < w3.heap.size := Nat.lt_of_lt_of_le (by simp) hb3.size; have k_w3_y0 := (HB3.out.cell (p := ⟨bcy, offcy, none⟩) hbl).trans cy_0; have k_w3_y1 := (HB3.out.cell (p := ⟨bcy, offcy + 1, none⟩) hbl).trans cy_1; have k_w3_y2 := (HB3.out.cell (p := ⟨bcy, offcy + 2, none⟩) hbl).trans cy_2; have k_w3_y3 := (HB3.out.cell (p := ⟨bcy, offcy + 3, none⟩) hbl).trans cy_3; have k_w3_t0 := (HB3.out.cell (p := ⟨bcy, offcy + 4, none⟩) hbl).trans ct_0; have k_w3_t1 := (HB3.out.cell (p := ⟨bcy, offcy + 5, none⟩) hbl).trans ct_1; have k_w3_t2 := (HB3.out.cell (p := ⟨bcy, offcy + 6, none⟩) hbl).trans ct_2; have k_w3_t3 := (HB3.out.cell (p := ⟨bcy, offcy + 7, none⟩) hbl).trans ct_3; have k_w3_u0 := (HB3.out.cell (p := ⟨bcy, offcy + 8, none⟩) hbl).trans cu_0; have k_w3_u1 := (HB3.out.cell (p := ⟨bcy, offcy + 9, none⟩) hbl).trans cu_1; have k_w3_u2 := (HB3.out.cell (p := ⟨bcy, offcy + 10, none⟩) hbl).trans cu_2; have k_w3_u3 := (HB3.out.cell (p := ⟨bcy, offcy + 11, none⟩) hbl).trans cu_3) | (go_at_call 64; refine (l1In_any _ _ _ _).mono ?_; rintro e w' ⟨rfl, rfl⟩) | (go_at_call 68; refine (Cy.out [.int .i64 y0, .int .i64 y1, .string y2, .slice Dy y3.length dy] _ w.heap.size HB3.out.size (by rw [FNode.c_eq]; exact RdVs.cons (by unfold RdC; rfl) (RdVs.cons (by unfold RdC; rfl) (RdVs.cons (by unfold RdC; rfl) (RdVs.cons ((Qy.out.up hB0).below HB3.out (Nat.le_refl _)) (RdVs.nil _ _)))))).mono ?_; rintro e w4 ⟨rfl, hb_w4⟩; have HB4 := Lib.hid (HB3.out.trans (hb_w4.mono HB3.out.size)); have bx_w4_0 := (hb_w4.cell (p := ⟨w.heap.size, 0, none⟩) sz_w3).trans bx_w3_0; have bx_w4_1 := (hb_w4.cell (p := ⟨w.heap.size, 1, none⟩) sz_w3).trans bx_w3_1; have bx_w4_2 := (hb_w4.cell (p := ⟨w.heap.size, 2, none⟩) sz_w3).trans bx_w3_2; have bx_w4_3 := (hb_w4.cell (p := ⟨w.heap.size, 3, none⟩) sz_w3).trans bx_w3_3; have sz_w4 : w.heap.size < w4.heap.size := Nat.lt_of_lt_of_le sz_w3 hb_w4.size; have k_w4_y0 := (HB4.out.cell (p := ⟨bcy, offcy, none⟩) hbl).trans cy_0; have k_w4_y1 := (HB4.out.cell (p := ⟨bcy, offcy + 1, none⟩) hbl).trans cy_1; have k_w4_y2 := (HB4.out.cell (p := ⟨bcy, offcy + 2, none⟩) hbl).trans cy_2; have k_w4_y3 := (HB4.out.cell (p := ⟨bcy, offcy + 3, none⟩) hbl).trans cy_3; have k_w4_t0 := (HB4.out.cell (p := ⟨bcy, offcy + 4, none⟩) hbl).trans ct_0; have k_w4_t1 := (HB4.out.cell (p := ⟨bcy, offcy + 5, none⟩) hbl).trans ct_1; have k_w4_t2 := (HB4.out.cell (p := ⟨bcy, offcy + 6, none⟩) hbl).trans ct_2; have k_w4_t3 := (HB4.out.cell (p := ⟨bcy, offcy + 7, none⟩) hbl).trans ct_3; have k_w4_u0 := (HB4.out.cell (p := ⟨bcy, offcy + 8, none⟩) hbl).trans cu_0; have k_w4_u1 := (HB4.out.cell (p := ⟨bcy, offcy + 9, none⟩) hbl).trans cu_1; have k_w4_u2 := (HB4.out.cell (p := ⟨bcy, offcy + 10, none⟩) hbl).trans cu_2; have k_w4_u3 := (HB4.out.cell (p := ⟨bcy, offcy + 11, none⟩) hbl).trans cu_3) | (go_at_call 71; clear tokCt; refine (Ct.out [.int .i64 t0, .int .i64 t1, .string t2, .slice Dt t3.length dt] _ w.heap.size HB4.out.size (by rw [FNode.c_eq]; exact RdVs.cons (by unfold RdC; rfl) (RdVs.cons (by unfold RdC; rfl) (RdVs.cons (by unfold RdC; rfl) (RdVs.cons ((Qt.out.up hB0).below HB4.out (Nat.le_refl _)) (RdVs.nil _ _)))))).mono ?_; rintro e w5 ⟨rfl, hb_w5⟩; have HB5 := Lib.hid (HB4.out.trans (hb_w5.mono HB4.out.size)); have bx_w5_0 := (hb_w5.cell (p := ⟨w.heap.size, 0, none⟩) sz_w4).trans bx_w4_0; have bx_w5_1 := (hb_w5.cell (p := ⟨w.heap.size, 1, none⟩) sz_w4).trans bx_w4_1; have bx_w5_2 := (hb_w5.cell (p := ⟨w.heap.size, 2, none⟩) sz_w4).trans bx_w4_2; have bx_w5_3 := (hb_w5.cell (p := ⟨w.heap.size, 3, none⟩) sz_w4).trans bx_w4_3; have sz_w5 : w.heap.size < w5.heap.size := Nat.lt_of_lt_of_le sz_w4 hb_w5.size; have k_w5_y0 := (HB5.out.cell (p := ⟨bcy, offcy, none⟩) hbl).trans cy_0; have k_w5_y1 := (HB5.out.cell (p := ⟨bcy, offcy + 1, none⟩) hbl).trans cy_1; have k_w5_y2 := (HB5.out.cell (p := ⟨bcy, offcy + 2, none⟩) hbl).trans cy_2; have k_w5_y3 := (HB5.out.cell (p := ⟨bcy, offcy + 3, none⟩) hbl).trans cy_3; have k_w5_t0 := (HB5.out.cell (p := ⟨bcy, offcy + 4, none⟩) hbl).trans ct_0; have k_w5_t1 := (HB5.out.cell (p := ⟨bcy, offcy + 5, none⟩) hbl).trans ct_1; have k_w5_t2 := (HB5.out.cell (p := ⟨bcy, offcy + 6, none⟩) hbl).trans ct_2; have k_w5_t3 := (HB5.out.cell (p := ⟨bcy, offcy + 7, none⟩) hbl).trans ct_3; have k_w5_u0 := (HB5.out.cell (p := ⟨bcy, offcy + 8, none⟩) hbl).trans cu_0; have k_w5_u1 := (HB5.out.cell (p := ⟨bcy, offcy + 9, none⟩) hbl).trans cu_1; have k_w5_u2 := (HB5.out.cell (p := ⟨bcy, offcy + 10, none⟩) hbl).trans cu_2; have k_w5_u3 := (HB5.out.cell (p := ⟨bcy, offcy + 11, none⟩) hbl).trans cu_3) | (go_at_call 71; clear tokCu; refine (Cu.out [.int .i64 u0, .int .i64 u1, .string u2, .slice Du u3.length du] _ w.heap.size HB5.out.size (by rw [FNode.c_eq]; exact RdVs.cons (by unfold RdC; rfl) (RdVs.cons (by unfold RdC; rfl) (RdVs.cons (by unfold RdC; rfl) (RdVs.cons ((Qu.out.up hB0).below HB5.out (Nat.le_refl _)) (RdVs.nil _ _)))))).mono ?_; rintro e w6 ⟨rfl, hb_w6⟩; have HB6 := Lib.hid (HB5.out.trans (hb_w6.mono HB5.out.size)); have bx_w6_0 := (hb_w6.cell (p := ⟨w.heap.size, 0, none⟩) sz_w5).trans bx_w5_0; have bx_w6_1 := (hb_w6.cell (p := ⟨w.heap.size, 1, none⟩) sz_w5).trans bx_w5_1; have bx_w6_2 := (hb_w6.cell (p := ⟨w.heap.size, 2, none⟩) sz_w5).trans bx_w5_2; have bx_w6_3 := (hb_w6.cell (p := ⟨w.heap.size, 3, none⟩) sz_w5).trans bx_w5_3; have sz_w6 : w.heap.size < w6.heap.size := Nat.lt_of_lt_of_le sz_w5 hb_w6.size; have k_w6_y0 := (HB6.out.cell (p := ⟨bcy, offcy, none⟩) hbl).trans cy_0; have k_w6_y1 := (HB6.out.cell (p := ⟨bcy, offcy + 1, none⟩) hbl).trans cy_1; have k_w6_y2 := (HB6.out.cell (p := ⟨bcy, offcy + 2, none⟩) hbl).trans cy_2; have k_w6_y3 := (HB6.out.cell (p := ⟨bcy, offcy + 3, none⟩) hbl).trans cy_3; have k_w6_t0 := (HB6.out.cell (p := ⟨bcy, offcy + 4, none⟩) hbl).trans ct_0; have k_w6_t1 := (HB6.out.cell (p := ⟨bcy, offcy + 5, none⟩) hbl).trans ct_1; have k_w6_t2 := (HB6.out.cell (p := ⟨bcy, offcy + 6, none⟩) hbl).trans ct_2; have k_w6_t3 := (HB6.out.cell (p := ⟨bcy, offcy + 7, none⟩) hbl).trans ct_3; have k_w6_u0 := (HB6.out.cell (p := ⟨bcy, offcy + 8, none⟩) hbl).trans cu_0; have k_w6_u1 := (HB6.out.cell (p := ⟨bcy, offcy + 9, none⟩) hbl).trans cu_1; have k_w6_u2 := (HB6.out.cell (p := ⟨bcy, offcy + 10, none⟩) hbl).trans cu_2; have k_w6_u3 := (HB6.out.cell (p := ⟨bcy, offcy + 11, none⟩) hbl).trans cu_3))
          all_goals (first | (go_ret; exact ⟨ret_bool (by (first | (simp_all [emT_t, emT_f, beq_0, statL]; done) | (simp_all [emT, beq_0, statL]; done) | (simp_all [emT_t, emT_f, beq_0, statL]; omega))), by first | exact HB7.out | exact HB6.out | exact HB5.out | exact HB4.out | exact HB3.out⟩))
    · skip
      rw [ifK_no z3 (by omega)]
      have HIN := Lib.hid (show inB (m : Int) 2 3 = false from inB_f (by omega))
      clear hm hw hE hB
      go_enter Try.func37, Try.ntmps37
      go_wp2_with (first | (go_at_call 36; refine FDC.out.mono ?_; rintro e w3 ⟨rfl, hb3⟩; have HB3 := Lib.hid (HB.out.trans (hb3.mono HB.out.size)); have bx_w3_0 : w3.cell? ⟨w.heap.size, 0, none⟩ = some (.int .i64 34) := (hb3.cell (p := ⟨w.heap.size, 0, none⟩) (by show w.heap.size < _; simp)).trans (by rw [World.cell?_alloc_new]; rfl); have bx_w3_1 : w3.cell? ⟨w.heap.size, 1, none⟩ = some (.int .i64 z1) := (hb3.cell (p := ⟨w.heap.size, 1, none⟩) (by show w.heap.size < _; simp)).trans (by rw [World.cell?_alloc_new]; rfl); have bx_w3_2 : w3.cell? ⟨w.heap.size, 2, none⟩ = some (.string z2) := (hb3.cell (p := ⟨w.heap.size, 2, none⟩) (by show w.heap.size < _; simp)).trans (by rw [World.cell?_alloc_new]; rfl); have bx_w3_3 : w3.cell? ⟨w.heap.size, 3, none⟩ = some (.slice A3 m c3) := (hb3.cell (p := ⟨w.heap.size, 3, none⟩) (by show w.heap.size < _; simp)).trans (by rw [World.cell?_alloc_new]; rfl); have sz_w3 : w.heap.size < w3.heap.size := Nat.lt_of_lt_of_le (by simp) hb3.size) | (go_at_call 64; refine (l1In_any _ _ _ _).mono ?_; rw [HIN.out]; rintro e w' ⟨rfl, rfl⟩))
      all_goals (first | (go_ret; exact ⟨ret_bool (by (first | (simp_all [emT_t, emT_f, beq_0, statL]; done) | (simp_all [emT, beq_0, statL]; done) | (simp_all [emT_t, emT_f, beq_0, statL]; omega))), by first | exact HB7.out | exact HB6.out | exact HB5.out | exact HB4.out | exact HB3.out⟩))
set_option maxHeartbeats 2000000 in
theorem stS_35 (z1 : Int) (z2 : ByteArray) (z3 : List FNode) (hw : (FNode.mk 35 z1 z2 z3).wt ≤ 9000000000) (hn : fN 35 z1 = true) (ht : fT 35 z2 = true) (hE : ∀ x, x ∈ z3 → ExS x) (hB : ∀ x, x ∈ z3 → BkS x) (us : List Value) (w : World) (B : Nat) (hB0 : B ≤ w.heap.size) (hr : RdVs w B (FNode.mk 35 z1 z2 z3).c us) :
    Calls Try.prog 37 #[.agg us.toArray] w fun e w' => e = .returned (.bool (whK z3)) ∧ Below w.heap.size w w' := by
  have FD := fd_spec _ hw
  rw [FNode.c_eq] at hr
  obtain ⟨us0, rfl, hr_0⟩ := hr.unv
  obtain ⟨us1, rfl, hr_1⟩ := hr_0.unv
  obtain ⟨us2, rfl, hr_2⟩ := hr_1.unv
  obtain ⟨A3, c3, us3, rfl, r3, hr_3⟩ := hr_2.uns
  obtain rfl := hr_3.un0
  rw [FNode.wt_eq] at hw
  have hz : z2.size ≤ 9223372036854775807 := by omega
  have hl : z3.length ≤ 9000000000 := by omega
  have HB0 : Below w.heap.size w (w.alloc (.cells #[.int .i64 35, .int .i64 z1, .string z2, .slice A3 z3.length c3] 29)) := (Below.refl _ w).alloc (Nat.le_refl _) _
  have FDC := Lib.hid (FD [.int .i64 35, .int .i64 z1, .string z2, .slice A3 z3.length c3] _ w.heap.size HB0.size (by rw [FNode.c_eq]; exact RdVs.cons (by unfold RdC; rfl) (RdVs.cons (by unfold RdC; rfl) (RdVs.cons (by unfold RdC; rfl) (RdVs.cons ((r3.up hB0).below HB0 (Nat.le_refl _)) (RdVs.nil _ _))))))
  simp only [FNode.kd, FNode.nu, FNode.tx] at FDC
  rw [hn, ht] at FDC
  clear FD HB0
  have hpos3 := r3
  obtain ⟨m, hm⟩ : ∃ m, z3.length = m := ⟨_, rfl⟩
  try rw [hm] at hl r3 FDC ⊢
  have HR := Lib.hid r3
  have HB := Lib.hid ((Below.refl _ w).alloc (Nat.le_refl _) (.cells #[.int .i64 35, .int .i64 z1, .string z2, .slice A3 m c3] 29))
  clear hr hr_0 hr_1 hr_2 hr_3 r3 hpos3
  by_cases e2m : m = 2
  · subst e2m
    obtain ⟨⟨y0, y1, y2, y3⟩, ⟨t0, t1, t2, t3⟩, rfl⟩ := two_of hm
    have Cy := Lib.hid (hE _ (List.mem_cons_self ..))
    have Ct := Lib.hid (hB ⟨t0, t1, t2, t3⟩ (by simp))
    unfold ExS at Cy
    unfold BkS at Ct
    obtain ⟨bcy, offcy, Ey, hblcy, hcc⟩ := RdC.at_ (l := [FNode.mk y0 y1 y2 y3, FNode.mk t0 t1 t2 t3]) FNode.len HR.out (i := 0) (x := FNode.mk y0 y1 y2 y3) rfl
    rw [FNode.c_eq] at hcc
    obtain ⟨u0, e0, q0⟩ := hcc 0 _ rfl
    obtain rfl := q0.val
    have cy_0 : w.cell? ⟨bcy, offcy, none⟩ = some (.int .i64 y0) := ((Below.refl w.heap.size w).cell (p := ⟨bcy, _, none⟩) (by show bcy < w.heap.size; omega)).trans (by simpa using e0)
    obtain ⟨u1, e1, q1⟩ := hcc 1 _ rfl
    obtain rfl := q1.val
    have cy_1 : w.cell? ⟨bcy, offcy + 1, none⟩ = some (.int .i64 y1) := ((Below.refl w.heap.size w).cell (p := ⟨bcy, _, none⟩) (by show bcy < w.heap.size; omega)).trans (by simpa using e1)
    obtain ⟨u2, e2, q2⟩ := hcc 2 _ rfl
    obtain rfl := q2.val
    have cy_2 : w.cell? ⟨bcy, offcy + 2, none⟩ = some (.string y2) := ((Below.refl w.heap.size w).cell (p := ⟨bcy, _, none⟩) (by show bcy < w.heap.size; omega)).trans (by simpa using e2)
    obtain ⟨u3, e3, q3⟩ := hcc 3 _ rfl
    obtain ⟨Dy, dy, rfl⟩ := q3.form
    have cy_3 : w.cell? ⟨bcy, offcy + 3, none⟩ = some (.slice Dy y3.length dy) := ((Below.refl w.heap.size w).cell (p := ⟨bcy, _, none⟩) (by show bcy < w.heap.size; omega)).trans (by simpa using e3)
    have Qy := Lib.hid q3
    clear hcc e0 e1 e2 e3 q0 q1 q2 q3
    obtain ⟨bct, offct, Et, hblct, hcc⟩ := RdC.at_ (l := [FNode.mk y0 y1 y2 y3, FNode.mk t0 t1 t2 t3]) FNode.len HR.out (i := 1) (x := FNode.mk t0 t1 t2 t3) rfl
    rw [FNode.c_eq] at hcc
    obtain ⟨u0, e0, q0⟩ := hcc 0 _ rfl
    obtain rfl := q0.val
    have ct_0 : w.cell? ⟨bct, offct + 4, none⟩ = some (.int .i64 t0) := ((Below.refl w.heap.size w).cell (p := ⟨bct, _, none⟩) (by show bct < w.heap.size; omega)).trans (by simpa using e0)
    obtain ⟨u1, e1, q1⟩ := hcc 1 _ rfl
    obtain rfl := q1.val
    have ct_1 : w.cell? ⟨bct, offct + 5, none⟩ = some (.int .i64 t1) := ((Below.refl w.heap.size w).cell (p := ⟨bct, _, none⟩) (by show bct < w.heap.size; omega)).trans (by simpa using e1)
    obtain ⟨u2, e2, q2⟩ := hcc 2 _ rfl
    obtain rfl := q2.val
    have ct_2 : w.cell? ⟨bct, offct + 6, none⟩ = some (.string t2) := ((Below.refl w.heap.size w).cell (p := ⟨bct, _, none⟩) (by show bct < w.heap.size; omega)).trans (by simpa using e2)
    obtain ⟨u3, e3, q3⟩ := hcc 3 _ rfl
    obtain ⟨Dt, dt, rfl⟩ := q3.form
    have ct_3 : w.cell? ⟨bct, offct + 7, none⟩ = some (.slice Dt t3.length dt) := ((Below.refl w.heap.size w).cell (p := ⟨bct, _, none⟩) (by show bct < w.heap.size; omega)).trans (by simpa using e3)
    have Qt := Lib.hid q3
    clear hcc e0 e1 e2 e3 q0 q1 q2 q3
    have hbl : bcy < w.heap.size := Nat.lt_of_lt_of_le hblcy hB0
    subst Ey
    obtain ⟨g1, g2⟩ : bcy = bct ∧ offcy = offct := by simpa using Et
    subst g1
    subst g2
    clear Et
    clear hm hw hE hB
    rw [show whK [FNode.mk y0 y1 y2 y3, FNode.mk t0 t1 t2 t3] = (exF ⟨y0, y1, y2, y3⟩ && blF ⟨t0, t1, t2, t3⟩) from rfl]
    cases hvCy : exF ⟨y0, y1, y2, y3⟩ with
    | false =>
      rw [hvCy] at Cy
      go_enter Try.func37, Try.ntmps37
      go_wp2_with (first | (go_at_call 36; refine FDC.out.mono ?_; rintro e w3 ⟨rfl, hb3⟩; have HB3 := Lib.hid (HB.out.trans (hb3.mono HB.out.size)); have bx_w3_0 : w3.cell? ⟨w.heap.size, 0, none⟩ = some (.int .i64 35) := (hb3.cell (p := ⟨w.heap.size, 0, none⟩) (by show w.heap.size < _; simp)).trans (by rw [World.cell?_alloc_new]; rfl); have bx_w3_1 : w3.cell? ⟨w.heap.size, 1, none⟩ = some (.int .i64 z1) := (hb3.cell (p := ⟨w.heap.size, 1, none⟩) (by show w.heap.size < _; simp)).trans (by rw [World.cell?_alloc_new]; rfl); have bx_w3_2 : w3.cell? ⟨w.heap.size, 2, none⟩ = some (.string z2) := (hb3.cell (p := ⟨w.heap.size, 2, none⟩) (by show w.heap.size < _; simp)).trans (by rw [World.cell?_alloc_new]; rfl); have bx_w3_3 : w3.cell? ⟨w.heap.size, 3, none⟩ = some (.slice (some ⟨bcy, offcy, none⟩) 2 c3) := (hb3.cell (p := ⟨w.heap.size, 3, none⟩) (by show w.heap.size < _; simp)).trans (by rw [World.cell?_alloc_new]; rfl); have sz_w3 : w.heap.size < w3.heap.size := Nat.lt_of_lt_of_le (by simp) hb3.size; have k_w3_y0 := (HB3.out.cell (p := ⟨bcy, offcy, none⟩) hbl).trans cy_0; have k_w3_y1 := (HB3.out.cell (p := ⟨bcy, offcy + 1, none⟩) hbl).trans cy_1; have k_w3_y2 := (HB3.out.cell (p := ⟨bcy, offcy + 2, none⟩) hbl).trans cy_2; have k_w3_y3 := (HB3.out.cell (p := ⟨bcy, offcy + 3, none⟩) hbl).trans cy_3; have k_w3_t0 := (HB3.out.cell (p := ⟨bcy, offcy + 4, none⟩) hbl).trans ct_0; have k_w3_t1 := (HB3.out.cell (p := ⟨bcy, offcy + 5, none⟩) hbl).trans ct_1; have k_w3_t2 := (HB3.out.cell (p := ⟨bcy, offcy + 6, none⟩) hbl).trans ct_2; have k_w3_t3 := (HB3.out.cell (p := ⟨bcy, offcy + 7, none⟩) hbl).trans ct_3) | (go_at_call 68; refine (Cy.out [.int .i64 y0, .int .i64 y1, .string y2, .slice Dy y3.length dy] _ w.heap.size HB3.out.size (by rw [FNode.c_eq]; exact RdVs.cons (by unfold RdC; rfl) (RdVs.cons (by unfold RdC; rfl) (RdVs.cons (by unfold RdC; rfl) (RdVs.cons ((Qy.out.up hB0).below HB3.out (Nat.le_refl _)) (RdVs.nil _ _)))))).mono ?_; rintro e w4 ⟨rfl, hb_w4⟩; have HB4 := Lib.hid (HB3.out.trans (hb_w4.mono HB3.out.size)); have bx_w4_0 := (hb_w4.cell (p := ⟨w.heap.size, 0, none⟩) sz_w3).trans bx_w3_0; have bx_w4_1 := (hb_w4.cell (p := ⟨w.heap.size, 1, none⟩) sz_w3).trans bx_w3_1; have bx_w4_2 := (hb_w4.cell (p := ⟨w.heap.size, 2, none⟩) sz_w3).trans bx_w3_2; have bx_w4_3 := (hb_w4.cell (p := ⟨w.heap.size, 3, none⟩) sz_w3).trans bx_w3_3; have sz_w4 : w.heap.size < w4.heap.size := Nat.lt_of_lt_of_le sz_w3 hb_w4.size; have k_w4_y0 := (HB4.out.cell (p := ⟨bcy, offcy, none⟩) hbl).trans cy_0; have k_w4_y1 := (HB4.out.cell (p := ⟨bcy, offcy + 1, none⟩) hbl).trans cy_1; have k_w4_y2 := (HB4.out.cell (p := ⟨bcy, offcy + 2, none⟩) hbl).trans cy_2; have k_w4_y3 := (HB4.out.cell (p := ⟨bcy, offcy + 3, none⟩) hbl).trans cy_3; have k_w4_t0 := (HB4.out.cell (p := ⟨bcy, offcy + 4, none⟩) hbl).trans ct_0; have k_w4_t1 := (HB4.out.cell (p := ⟨bcy, offcy + 5, none⟩) hbl).trans ct_1; have k_w4_t2 := (HB4.out.cell (p := ⟨bcy, offcy + 6, none⟩) hbl).trans ct_2; have k_w4_t3 := (HB4.out.cell (p := ⟨bcy, offcy + 7, none⟩) hbl).trans ct_3))
      all_goals (first | (go_ret; exact ⟨ret_bool (by (first | (simp_all [emT_t, emT_f, beq_0, statL]; done) | (simp_all [emT, beq_0, statL]; done) | (simp_all [emT_t, emT_f, beq_0, statL]; omega))), by first | exact HB7.out | exact HB6.out | exact HB5.out | exact HB4.out | exact HB3.out⟩))
    | true =>
      rw [hvCy] at Cy
      have tokCt : True := trivial
      go_enter Try.func37, Try.ntmps37
      go_wp2_with (first | (go_at_call 36; refine FDC.out.mono ?_; rintro e w3 ⟨rfl, hb3⟩; have HB3 := Lib.hid (HB.out.trans (hb3.mono HB.out.size)); have bx_w3_0 : w3.cell? ⟨w.heap.size, 0, none⟩ = some (.int .i64 35) := (hb3.cell (p := ⟨w.heap.size, 0, none⟩) (by show w.heap.size < _; simp)).trans (by rw [World.cell?_alloc_new]; rfl); have bx_w3_1 : w3.cell? ⟨w.heap.size, 1, none⟩ = some (.int .i64 z1) := (hb3.cell (p := ⟨w.heap.size, 1, none⟩) (by show w.heap.size < _; simp)).trans (by rw [World.cell?_alloc_new]; rfl); have bx_w3_2 : w3.cell? ⟨w.heap.size, 2, none⟩ = some (.string z2) := (hb3.cell (p := ⟨w.heap.size, 2, none⟩) (by show w.heap.size < _; simp)).trans (by rw [World.cell?_alloc_new]; rfl); have bx_w3_3 : w3.cell? ⟨w.heap.size, 3, none⟩ = some (.slice (some ⟨bcy, offcy, none⟩) 2 c3) := (hb3.cell (p := ⟨w.heap.size, 3, none⟩) (by show w.heap.size < _; simp)).trans (by rw [World.cell?_alloc_new]; rfl); have sz_w3 : w.heap.size < w3.heap.size := Nat.lt_of_lt_of_le (by simp) hb3.size; have k_w3_y0 := (HB3.out.cell (p := ⟨bcy, offcy, none⟩) hbl).trans cy_0; have k_w3_y1 := (HB3.out.cell (p := ⟨bcy, offcy + 1, none⟩) hbl).trans cy_1; have k_w3_y2 := (HB3.out.cell (p := ⟨bcy, offcy + 2, none⟩) hbl).trans cy_2; have k_w3_y3 := (HB3.out.cell (p := ⟨bcy, offcy + 3, none⟩) hbl).trans cy_3; have k_w3_t0 := (HB3.out.cell (p := ⟨bcy, offcy + 4, none⟩) hbl).trans ct_0; have k_w3_t1 := (HB3.out.cell (p := ⟨bcy, offcy + 5, none⟩) hbl).trans ct_1; have k_w3_t2 := (HB3.out.cell (p := ⟨bcy, offcy + 6, none⟩) hbl).trans ct_2; have k_w3_t3 := (HB3.out.cell (p := ⟨bcy, offcy + 7, none⟩) hbl).trans ct_3) | (go_at_call 68; refine (Cy.out [.int .i64 y0, .int .i64 y1, .string y2, .slice Dy y3.length dy] _ w.heap.size HB3.out.size (by rw [FNode.c_eq]; exact RdVs.cons (by unfold RdC; rfl) (RdVs.cons (by unfold RdC; rfl) (RdVs.cons (by unfold RdC; rfl) (RdVs.cons ((Qy.out.up hB0).below HB3.out (Nat.le_refl _)) (RdVs.nil _ _)))))).mono ?_; rintro e w4 ⟨rfl, hb_w4⟩; have HB4 := Lib.hid (HB3.out.trans (hb_w4.mono HB3.out.size)); have bx_w4_0 := (hb_w4.cell (p := ⟨w.heap.size, 0, none⟩) sz_w3).trans bx_w3_0; have bx_w4_1 := (hb_w4.cell (p := ⟨w.heap.size, 1, none⟩) sz_w3).trans bx_w3_1; have bx_w4_2 := (hb_w4.cell (p := ⟨w.heap.size, 2, none⟩) sz_w3).trans bx_w3_2; have bx_w4_3 := (hb_w4.cell (p := ⟨w.heap.size, 3, none⟩) sz_w3).trans bx_w3_3; have sz_w4 : w.heap.size < w4.heap.size := Nat.lt_of_lt_of_le sz_w3 hb_w4.size; have k_w4_y0 := (HB4.out.cell (p := ⟨bcy, offcy, none⟩) hbl).trans cy_0; have k_w4_y1 := (HB4.out.cell (p := ⟨bcy, offcy + 1, none⟩) hbl).trans cy_1; have k_w4_y2 := (HB4.out.cell (p := ⟨bcy, offcy + 2, none⟩) hbl).trans cy_2; have k_w4_y3 := (HB4.out.cell (p := ⟨bcy, offcy + 3, none⟩) hbl).trans cy_3; have k_w4_t0 := (HB4.out.cell (p := ⟨bcy, offcy + 4, none⟩) hbl).trans ct_0; have k_w4_t1 := (HB4.out.cell (p := ⟨bcy, offcy + 5, none⟩) hbl).trans ct_1; have k_w4_t2 := (HB4.out.cell (p := ⟨bcy, offcy + 6, none⟩) hbl).trans ct_2; have k_w4_t3 := (HB4.out.cell (p := ⟨bcy, offcy + 7, none⟩) hbl).trans ct_3) | (go_at_call 71; clear tokCt; refine (Ct.out [.int .i64 t0, .int .i64 t1, .string t2, .slice Dt t3.length dt] _ w.heap.size HB4.out.size (by rw [FNode.c_eq]; exact RdVs.cons (by unfold RdC; rfl) (RdVs.cons (by unfold RdC; rfl) (RdVs.cons (by unfold RdC; rfl) (RdVs.cons ((Qt.out.up hB0).below HB4.out (Nat.le_refl _)) (RdVs.nil _ _)))))).mono ?_; rintro e w5 ⟨rfl, hb_w5⟩; have HB5 := Lib.hid (HB4.out.trans (hb_w5.mono HB4.out.size)); have bx_w5_0 := (hb_w5.cell (p := ⟨w.heap.size, 0, none⟩) sz_w4).trans bx_w4_0; have bx_w5_1 := (hb_w5.cell (p := ⟨w.heap.size, 1, none⟩) sz_w4).trans bx_w4_1; have bx_w5_2 := (hb_w5.cell (p := ⟨w.heap.size, 2, none⟩) sz_w4).trans bx_w4_2; have bx_w5_3 := (hb_w5.cell (p := ⟨w.heap.size, 3, none⟩) sz_w4).trans bx_w4_3; have sz_w5 : w.heap.size < w5.heap.size := Nat.lt_of_lt_of_le sz_w4 hb_w5.size; have k_w5_y0 := (HB5.out.cell (p := ⟨bcy, offcy, none⟩) hbl).trans cy_0; have k_w5_y1 := (HB5.out.cell (p := ⟨bcy, offcy + 1, none⟩) hbl).trans cy_1; have k_w5_y2 := (HB5.out.cell (p := ⟨bcy, offcy + 2, none⟩) hbl).trans cy_2; have k_w5_y3 := (HB5.out.cell (p := ⟨bcy, offcy + 3, none⟩) hbl).trans cy_3; have k_w5_t0 := (HB5.out.cell (p := ⟨bcy, offcy + 4, none⟩) hbl).trans ct_0; have k_w5_t1 := (HB5.out.cell (p := ⟨bcy, offcy + 5, none⟩) hbl).trans ct_1; have k_w5_t2 := (HB5.out.cell (p := ⟨bcy, offcy + 6, none⟩) hbl).trans ct_2; have k_w5_t3 := (HB5.out.cell (p := ⟨bcy, offcy + 7, none⟩) hbl).trans ct_3))
      all_goals (first | (go_ret; exact ⟨ret_bool (by (first | (simp_all [emT_t, emT_f, beq_0, statL]; done) | (simp_all [emT, beq_0, statL]; done) | (simp_all [emT_t, emT_f, beq_0, statL]; omega))), by first | exact HB7.out | exact HB6.out | exact HB5.out | exact HB4.out | exact HB3.out⟩))
  · skip
    rw [whK_no z3 (by omega)]
    clear hm hw hE hB
    go_enter Try.func37, Try.ntmps37
    go_wp2_with (first | (go_at_call 36; refine FDC.out.mono ?_; rintro e w3 ⟨rfl, hb3⟩; have HB3 := Lib.hid (HB.out.trans (hb3.mono HB.out.size)); have bx_w3_0 : w3.cell? ⟨w.heap.size, 0, none⟩ = some (.int .i64 35) := (hb3.cell (p := ⟨w.heap.size, 0, none⟩) (by show w.heap.size < _; simp)).trans (by rw [World.cell?_alloc_new]; rfl); have bx_w3_1 : w3.cell? ⟨w.heap.size, 1, none⟩ = some (.int .i64 z1) := (hb3.cell (p := ⟨w.heap.size, 1, none⟩) (by show w.heap.size < _; simp)).trans (by rw [World.cell?_alloc_new]; rfl); have bx_w3_2 : w3.cell? ⟨w.heap.size, 2, none⟩ = some (.string z2) := (hb3.cell (p := ⟨w.heap.size, 2, none⟩) (by show w.heap.size < _; simp)).trans (by rw [World.cell?_alloc_new]; rfl); have bx_w3_3 : w3.cell? ⟨w.heap.size, 3, none⟩ = some (.slice A3 m c3) := (hb3.cell (p := ⟨w.heap.size, 3, none⟩) (by show w.heap.size < _; simp)).trans (by rw [World.cell?_alloc_new]; rfl); have sz_w3 : w.heap.size < w3.heap.size := Nat.lt_of_lt_of_le (by simp) hb3.size))
    all_goals (first | (go_ret; exact ⟨ret_bool (by (first | (simp_all [emT_t, emT_f, beq_0, statL]; done) | (simp_all [emT, beq_0, statL]; done) | (simp_all [emT_t, emT_f, beq_0, statL]; omega))), by first | exact HB7.out | exact HB6.out | exact HB5.out | exact HB4.out | exact HB3.out⟩))
end Go.Proofs.Ytgejkfcemlkclaa
