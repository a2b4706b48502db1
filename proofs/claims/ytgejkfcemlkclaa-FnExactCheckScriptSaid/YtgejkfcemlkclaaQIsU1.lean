/-
  Parts of the proof: IsU1. Conditions: none.
-/
import Derived.Test.YtgejkfcemlkclaaQIsS4
import Derived.Test.YtgejkfcemlkclaaQIsI5
namespace Go.Proofs.Ytgejkfcemlkclaa
open Go.ChangeShapes Go.WideShapes Go.ChangeAt Go.RowKit Go.Deep Go.Joins
open Go.ChangeMaps (open_string shut_string)
set_option linter.unusedVariables false
set_option linter.unusedSimpArgs false
set_option maxRecDepth 100000
theorem stS_31 (z1 : Int) (z2 : ByteArray) (z3 : List FNode) (hw : (FNode.mk 31 z1 z2 z3).wt ≤ 9000000000) (hn : fN 31 z1 = true) (ht : fT 31 z2 = true)  (us : List Value) (w : World) (B : Nat) (hB0 : B ≤ w.heap.size) (hr : RdVs w B (FNode.mk 31 z1 z2 z3).c us) :
    Calls Try.prog 37 #[.agg us.toArray] w fun e w' => e = .returned (.bool (z3.length == 0)) ∧ Below w.heap.size w w' := by
  have FD := fd_spec _ hw
  rw [FNode.c_eq] at hr
  obtain ⟨us0, rfl, hr_0⟩ := hr.unv
  obtain ⟨us1, rfl, hr_1⟩ := hr_0.unv
  obtain ⟨us2, rfl, hr_2⟩ := hr_1.unv
  obtain ⟨A3, c3, us3, rfl, r3, hr_3⟩ := hr_2.uns
  obtain rfl := hr_3.un0
  rw [FNode.wt_eq] at hw
  have hz : z2.size ≤ 9223372036854775807 := by omega
  have hl : z3.length ≤ 9000000000 := by omega
  have HB0 : Below w.heap.size w (w.alloc (.cells #[.int .i64 31, .int .i64 z1, .string z2, .slice A3 z3.length c3] 29)) := (Below.refl _ w).alloc (Nat.le_refl _) _
  have FDC := Lib.hid (FD [.int .i64 31, .int .i64 z1, .string z2, .slice A3 z3.length c3] _ w.heap.size HB0.size (by rw [FNode.c_eq]; exact RdVs.cons (by unfold RdC; rfl) (RdVs.cons (by unfold RdC; rfl) (RdVs.cons (by unfold RdC; rfl) (RdVs.cons ((r3.up hB0).below HB0 (Nat.le_refl _)) (RdVs.nil _ _))))))
  simp only [FNode.kd, FNode.nu, FNode.tx] at FDC
  rw [hn, ht] at FDC
  clear FD HB0
  have hpos3 := r3
  obtain ⟨m, hm⟩ : ∃ m, z3.length = m := ⟨_, rfl⟩
  try rw [hm] at hl r3 FDC ⊢
  have HR := Lib.hid r3
  have HB := Lib.hid ((Below.refl _ w).alloc (Nat.le_refl _) (.cells #[.int .i64 31, .int .i64 z1, .string z2, .slice A3 m c3] 29))
  clear hr hr_0 hr_1 hr_2 hr_3 r3 hpos3
  clear hm hw 
  by_cases e1 : m = 0
  · subst e1
    go_enter Try.func37, Try.ntmps37
    go_wp2_with ((go_at_call 36; refine FDC.out.mono ?_; rintro e w3 ⟨rfl, hb3⟩; have HB3 := Lib.hid (HB.out.trans (hb3.mono HB.out.size)); have bx_w3_0 : w3.cell? ⟨w.heap.size, 0, none⟩ = some (.int .i64 31) := (hb3.cell (p := ⟨w.heap.size, 0, none⟩) (by show w.heap.size < _; simp)).trans (by rw [World.cell?_alloc_new]; rfl); have bx_w3_1 : w3.cell? ⟨w.heap.size, 1, none⟩ = some (.int .i64 z1) := (hb3.cell (p := ⟨w.heap.size, 1, none⟩) (by show w.heap.size < _; simp)).trans (by rw [World.cell?_alloc_new]; rfl); have bx_w3_2 : w3.cell? ⟨w.heap.size, 2, none⟩ = some (.string z2) := (hb3.cell (p := ⟨w.heap.size, 2, none⟩) (by show w.heap.size < _; simp)).trans (by rw [World.cell?_alloc_new]; rfl); have bx_w3_3 : w3.cell? ⟨w.heap.size, 3, none⟩ = some (.slice A3 0 c3) := (hb3.cell (p := ⟨w.heap.size, 3, none⟩) (by show w.heap.size < _; simp)).trans (by rw [World.cell?_alloc_new]; rfl); have sz_w3 : w.heap.size < w3.heap.size := Nat.lt_of_lt_of_le (by simp) hb3.size))
    all_goals (first | (go_ret; exact ⟨ret_bool (by (first | (simp_all [emT_t, emT_f, beq_0, statL]; done) | (simp_all [emT, beq_0, statL]; done) | (simp_all [emT_t, emT_f, beq_0, statL]; omega))), by first | exact HB7.out | exact HB6.out | exact HB5.out | exact HB4.out | exact HB3.out⟩))
  ·
    go_enter Try.func37, Try.ntmps37
    go_wp2_with ((go_at_call 36; refine FDC.out.mono ?_; rintro e w3 ⟨rfl, hb3⟩; have HB3 := Lib.hid (HB.out.trans (hb3.mono HB.out.size)); have bx_w3_0 : w3.cell? ⟨w.heap.size, 0, none⟩ = some (.int .i64 31) := (hb3.cell (p := ⟨w.heap.size, 0, none⟩) (by show w.heap.size < _; simp)).trans (by rw [World.cell?_alloc_new]; rfl); have bx_w3_1 : w3.cell? ⟨w.heap.size, 1, none⟩ = some (.int .i64 z1) := (hb3.cell (p := ⟨w.heap.size, 1, none⟩) (by show w.heap.size < _; simp)).trans (by rw [World.cell?_alloc_new]; rfl); have bx_w3_2 : w3.cell? ⟨w.heap.size, 2, none⟩ = some (.string z2) := (hb3.cell (p := ⟨w.heap.size, 2, none⟩) (by show w.heap.size < _; simp)).trans (by rw [World.cell?_alloc_new]; rfl); have bx_w3_3 : w3.cell? ⟨w.heap.size, 3, none⟩ = some (.slice A3 m c3) := (hb3.cell (p := ⟨w.heap.size, 3, none⟩) (by show w.heap.size < _; simp)).trans (by rw [World.cell?_alloc_new]; rfl); have sz_w3 : w.heap.size < w3.heap.size := Nat.lt_of_lt_of_le (by simp) hb3.size))
    all_goals (first | (go_ret; exact ⟨ret_bool (by (first | (simp_all [emT_t, emT_f, beq_0, statL]; done) | (simp_all [emT, beq_0, statL]; done) | (simp_all [emT_t, emT_f, beq_0, statL]; omega))), by first | exact HB7.out | exact HB6.out | exact HB5.out | exact HB4.out | exact HB3.out⟩))
theorem stS_37 (z1 : Int) (z2 : ByteArray) (z3 : List FNode) (hw : (FNode.mk 37 z1 z2 z3).wt ≤ 9000000000) (hn : fN 37 z1 = true) (ht : fT 37 z2 = true)  (us : List Value) (w : World) (B : Nat) (hB0 : B ≤ w.heap.size) (hr : RdVs w B (FNode.mk 37 z1 z2 z3).c us) :
    Calls Try.prog 37 #[.agg us.toArray] w fun e w' => e = .returned (.bool (z3.length == 0)) ∧ Below w.heap.size w w' := by
  have FD := fd_spec _ hw
  rw [FNode.c_eq] at hr
  obtain ⟨us0, rfl, hr_0⟩ := hr.unv
  obtain ⟨us1, rfl, hr_1⟩ := hr_0.unv
  obtain ⟨us2, rfl, hr_2⟩ := hr_1.unv
  obtain ⟨A3, c3, us3, rfl, r3, hr_3⟩ := hr_2.uns
  obtain rfl := hr_3.un0
  rw [FNode.wt_eq] at hw
  have hz : z2.size ≤ 9223372036854775807 := by omega
  have hl : z3.length ≤ 9000000000 := by omega
  have HB0 : Below w.heap.size w (w.alloc (.cells #[.int .i64 37, .int .i64 z1, .string z2, .slice A3 z3.length c3] 29)) := (Below.refl _ w).alloc (Nat.le_refl _) _
  have FDC := Lib.hid (FD [.int .i64 37, .int .i64 z1, .string z2, .slice A3 z3.length c3] _ w.heap.size HB0.size (by rw [FNode.c_eq]; exact RdVs.cons (by unfold RdC; rfl) (RdVs.cons (by unfold RdC; rfl) (RdVs.cons (by unfold RdC; rfl) (RdVs.cons ((r3.up hB0).below HB0 (Nat.le_refl _)) (RdVs.nil _ _))))))
  simp only [FNode.kd, FNode.nu, FNode.tx] at FDC
  rw [hn, ht] at FDC
  clear FD HB0
  have hpos3 := r3
  obtain ⟨m, hm⟩ : ∃ m, z3.length = m := ⟨_, rfl⟩
  try rw [hm] at hl r3 FDC ⊢
  have HR := Lib.hid r3
  have HB := Lib.hid ((Below.refl _ w).alloc (Nat.le_refl _) (.cells #[.int .i64 37, .int .i64 z1, .string z2, .slice A3 m c3] 29))
  clear hr hr_0 hr_1 hr_2 hr_3 r3 hpos3
  clear hm hw 
  by_cases e1 : m = 0
  · subst e1
    go_enter Try.func37, Try.ntmps37
    go_wp2_with ((go_at_call 36; refine FDC.out.mono ?_; rintro e w3 ⟨rfl, hb3⟩; have HB3 := Lib.hid (HB.out.trans (hb3.mono HB.out.size)); have bx_w3_0 : w3.cell? ⟨w.heap.size, 0, none⟩ = some (.int .i64 37) := (hb3.cell (p := ⟨w.heap.size, 0, none⟩) (by show w.heap.size < _; simp)).trans (by rw [World.cell?_alloc_new]; rfl); have bx_w3_1 : w3.cell? ⟨w.heap.size, 1, none⟩ = some (.int .i64 z1) := (hb3.cell (p := ⟨w.heap.size, 1, none⟩) (by show w.heap.size < _; simp)).trans (by rw [World.cell?_alloc_new]; rfl); have bx_w3_2 : w3.cell? ⟨w.heap.size, 2, none⟩ = some (.string z2) := (hb3.cell (p := ⟨w.heap.size, 2, none⟩) (by show w.heap.size < _; simp)).trans (by rw [World.cell?_alloc_new]; rfl); have bx_w3_3 : w3.cell? ⟨w.heap.size, 3, none⟩ = some (.slice A3 0 c3) := (hb3.cell (p := ⟨w.heap.size, 3, none⟩) (by show w.heap.size < _; simp)).trans (by rw [World.cell?_alloc_new]; rfl); have sz_w3 : w.heap.size < w3.heap.size := Nat.lt_of_lt_of_le (by simp) hb3.size))
    all_goals (first | (go_ret; exact ⟨ret_bool (by (first | (simp_all [emT_t, emT_f, beq_0, statL]; done) | (simp_all [emT, beq_0, statL]; done) | (simp_all [emT_t, emT_f, beq_0, statL]; omega))), by first | exact HB7.out | exact HB6.out | exact HB5.out | exact HB4.out | exact HB3.out⟩))
  ·
    go_enter Try.func37, Try.ntmps37
    go_wp2_with ((go_at_call 36; refine FDC.out.mono ?_; rintro e w3 ⟨rfl, hb3⟩; have HB3 := Lib.hid (HB.out.trans (hb3.mono HB.out.size)); have bx_w3_0 : w3.cell? ⟨w.heap.size, 0, none⟩ = some (.int .i64 37) := (hb3.cell (p := ⟨w.heap.size, 0, none⟩) (by show w.heap.size < _; simp)).trans (by rw [World.cell?_alloc_new]; rfl); have bx_w3_1 : w3.cell? ⟨w.heap.size, 1, none⟩ = some (.int .i64 z1) := (hb3.cell (p := ⟨w.heap.size, 1, none⟩) (by show w.heap.size < _; simp)).trans (by rw [World.cell?_alloc_new]; rfl); have bx_w3_2 : w3.cell? ⟨w.heap.size, 2, none⟩ = some (.string z2) := (hb3.cell (p := ⟨w.heap.size, 2, none⟩) (by show w.heap.size < _; simp)).trans (by rw [World.cell?_alloc_new]; rfl); have bx_w3_3 : w3.cell? ⟨w.heap.size, 3, none⟩ = some (.slice A3 m c3) := (hb3.cell (p := ⟨w.heap.size, 3, none⟩) (by show w.heap.size < _; simp)).trans (by rw [World.cell?_alloc_new]; rfl); have sz_w3 : w.heap.size < w3.heap.size := Nat.lt_of_lt_of_le (by simp) hb3.size))
    all_goals (first | (go_ret; exact ⟨ret_bool (by (first | (simp_all [emT_t, emT_f, beq_0, statL]; done) | (simp_all [emT, beq_0, statL]; done) | (simp_all [emT_t, emT_f, beq_0, statL]; omega))), by first | exact HB7.out | exact HB6.out | exact HB5.out | exact HB4.out | exact HB3.out⟩))
theorem stS_38 (z1 : Int) (z2 : ByteArray) (z3 : List FNode) (hw : (FNode.mk 38 z1 z2 z3).wt ≤ 9000000000) (hn : fN 38 z1 = true) (ht : fT 38 z2 = true)  (us : List Value) (w : World) (B : Nat) (hB0 : B ≤ w.heap.size) (hr : RdVs w B (FNode.mk 38 z1 z2 z3).c us) :
    Calls Try.prog 37 #[.agg us.toArray] w fun e w' => e = .returned (.bool (z3.length == 0)) ∧ Below w.heap.size w w' := by
  have FD := fd_spec _ hw
  rw [FNode.c_eq] at hr
  obtain ⟨us0, rfl, hr_0⟩ := hr.unv
  obtain ⟨us1, rfl, hr_1⟩ := hr_0.unv
  obtain ⟨us2, rfl, hr_2⟩ := hr_1.unv
  obtain ⟨A3, c3, us3, rfl, r3, hr_3⟩ := hr_2.uns
  obtain rfl := hr_3.un0
  rw [FNode.wt_eq] at hw
  have hz : z2.size ≤ 9223372036854775807 := by omega
  have hl : z3.length ≤ 9000000000 := by omega
  have HB0 : Below w.heap.size w (w.alloc (.cells #[.int .i64 38, .int .i64 z1, .string z2, .slice A3 z3.length c3] 29)) := (Below.refl _ w).alloc (Nat.le_refl _) _
  have FDC := Lib.hid (FD [.int .i64 38, .int .i64 z1, .string z2, .slice A3 z3.length c3] _ w.heap.size HB0.size (by rw [FNode.c_eq]; exact RdVs.cons (by unfold RdC; rfl) (RdVs.cons (by unfold RdC; rfl) (RdVs.cons (by unfold RdC; rfl) (RdVs.cons ((r3.up hB0).below HB0 (Nat.le_refl _)) (RdVs.nil _ _))))))
  simp only [FNode.kd, FNode.nu, FNode.tx] at FDC
  rw [hn, ht] at FDC
  clear FD HB0
  have hpos3 := r3
  obtain ⟨m, hm⟩ : ∃ m, z3.length = m := ⟨_, rfl⟩
  try rw [hm] at hl r3 FDC ⊢
  have HR := Lib.hid r3
  have HB := Lib.hid ((Below.refl _ w).alloc (Nat.le_refl _) (.cells #[.int .i64 38, .int .i64 z1, .string z2, .slice A3 m c3] 29))
  clear hr hr_0 hr_1 hr_2 hr_3 r3 hpos3
  clear hm hw 
  by_cases e1 : m = 0
  · subst e1
    go_enter Try.func37, Try.ntmps37
    go_wp2_with ((go_at_call 36; refine FDC.out.mono ?_; rintro e w3 ⟨rfl, hb3⟩; have HB3 := Lib.hid (HB.out.trans (hb3.mono HB.out.size)); have bx_w3_0 : w3.cell? ⟨w.heap.size, 0, none⟩ = some (.int .i64 38) := (hb3.cell (p := ⟨w.heap.size, 0, none⟩) (by show w.heap.size < _; simp)).trans (by rw [World.cell?_alloc_new]; rfl); have bx_w3_1 : w3.cell? ⟨w.heap.size, 1, none⟩ = some (.int .i64 z1) := (hb3.cell (p := ⟨w.heap.size, 1, none⟩) (by show w.heap.size < _; simp)).trans (by rw [World.cell?_alloc_new]; rfl); have bx_w3_2 : w3.cell? ⟨w.heap.size, 2, none⟩ = some (.string z2) := (hb3.cell (p := ⟨w.heap.size, 2, none⟩) (by show w.heap.size < _; simp)).trans (by rw [World.cell?_alloc_new]; rfl); have bx_w3_3 : w3.cell? ⟨w.heap.size, 3, none⟩ = some (.slice A3 0 c3) := (hb3.cell (p := ⟨w.heap.size, 3, none⟩) (by show w.heap.size < _; simp)).trans (by rw [World.cell?_alloc_new]; rfl); have sz_w3 : w.heap.size < w3.heap.size := Nat.lt_of_lt_of_le (by simp) hb3.size))
    all_goals (first | (go_ret; exact ⟨ret_bool (by (first | (simp_all [emT_t, emT_f, beq_0, statL]; done) | (simp_all [emT, beq_0, statL]; done) | (simp_all [emT_t, emT_f, beq_0, statL]; omega))), by first | exact HB7.out | exact HB6.out | exact HB5.out | exact HB4.out | exact HB3.out⟩))
  ·
    go_enter Try.func37, Try.ntmps37
    go_wp2_with ((go_at_call 36; refine FDC.out.mono ?_; rintro e w3 ⟨rfl, hb3⟩; have HB3 := Lib.hid (HB.out.trans (hb3.mono HB.out.size)); have bx_w3_0 : w3.cell? ⟨w.heap.size, 0, none⟩ = some (.int .i64 38) := (hb3.cell (p := ⟨w.heap.size, 0, none⟩) (by show w.heap.size < _; simp)).trans (by rw [World.cell?_alloc_new]; rfl); have bx_w3_1 : w3.cell? ⟨w.heap.size, 1, none⟩ = some (.int .i64 z1) := (hb3.cell (p := ⟨w.heap.size, 1, none⟩) (by show w.heap.size < _; simp)).trans (by rw [World.cell?_alloc_new]; rfl); have bx_w3_2 : w3.cell? ⟨w.heap.size, 2, none⟩ = some (.string z2) := (hb3.cell (p := ⟨w.heap.size, 2, none⟩) (by show w.heap.size < _; simp)).trans (by rw [World.cell?_alloc_new]; rfl); have bx_w3_3 : w3.cell? ⟨w.heap.size, 3, none⟩ = some (.slice A3 m c3) := (hb3.cell (p := ⟨w.heap.size, 3, none⟩) (by show w.heap.size < _; simp)).trans (by rw [World.cell?_alloc_new]; rfl); have sz_w3 : w.heap.size < w3.heap.size := Nat.lt_of_lt_of_le (by simp) hb3.size))
    all_goals (first | (go_ret; exact ⟨ret_bool (by (first | (simp_all [emT_t, emT_f, beq_0, statL]; done) | (simp_all [emT, beq_0, statL]; done) | (simp_all [emT_t, emT_f, beq_0, statL]; omega))), by first | exact HB7.out | exact HB6.out | exact HB5.out | exact HB4.out | exact HB3.out⟩))
theorem stS_40 (z1 : Int) (z2 : ByteArray) (z3 : List FNode) (hw : (FNode.mk 40 z1 z2 z3).wt ≤ 9000000000) (hn : fN 40 z1 = true) (ht : fT 40 z2 = true)  (us : List Value) (w : World) (B : Nat) (hB0 : B ≤ w.heap.size) (hr : RdVs w B (FNode.mk 40 z1 z2 z3).c us) :
    Calls Try.prog 37 #[.agg us.toArray] w fun e w' => e = .returned (.bool (z3.length == 0)) ∧ Below w.heap.size w w' := by
  have FD := fd_spec _ hw
  rw [FNode.c_eq] at hr
  obtain ⟨us0, rfl, hr_0⟩ := hr.unv
  obtain ⟨us1, rfl, hr_1⟩ := hr_0.unv
  obtain ⟨us2, rfl, hr_2⟩ := hr_1.unv
  obtain ⟨A3, c3, us3, rfl, r3, hr_3⟩ := hr_2.uns
  obtain rfl := hr_3.un0
  rw [FNode.wt_eq] at hw
  have hz : z2.size ≤ 9223372036854775807 := by omega
  have hl : z3.length ≤ 9000000000 := by omega
  have HB0 : Below w.heap.size w (w.alloc (.cells #[.int .i64 40, .int .i64 z1, .string z2, .slice A3 z3.length c3] 29)) := (Below.refl _ w).alloc (Nat.le_refl _) _
  have FDC := Lib.hid (FD [.int .i64 40, .int .i64 z1, .string z2, .slice A3 z3.length c3] _ w.heap.size HB0.size (by rw [FNode.c_eq]; exact RdVs.cons (by unfold RdC; rfl) (RdVs.cons (by unfold RdC; rfl) (RdVs.cons (by unfold RdC; rfl) (RdVs.cons ((r3.up hB0).below HB0 (Nat.le_refl _)) (RdVs.nil _ _))))))
  simp only [FNode.kd, FNode.nu, FNode.tx] at FDC
  rw [hn, ht] at FDC
  clear FD HB0
  have hpos3 := r3
  obtain ⟨m, hm⟩ : ∃ m, z3.length = m := ⟨_, rfl⟩
  try rw [hm] at hl r3 FDC ⊢
  have HR := Lib.hid r3
  have HB := Lib.hid ((Below.refl _ w).alloc (Nat.le_refl _) (.cells #[.int .i64 40, .int .i64 z1, .string z2, .slice A3 m c3] 29))
  clear hr hr_0 hr_1 hr_2 hr_3 r3 hpos3
  clear hm hw 
  by_cases e1 : m = 0
  · subst e1
    go_enter Try.func37, Try.ntmps37
    go_wp2_with ((go_at_call 36; refine FDC.out.mono ?_; rintro e w3 ⟨rfl, hb3⟩; have HB3 := Lib.hid (HB.out.trans (hb3.mono HB.out.size)); have bx_w3_0 : w3.cell? ⟨w.heap.size, 0, none⟩ = some (.int .i64 40) := (hb3.cell (p := ⟨w.heap.size, 0, none⟩) (by show w.heap.size < _; simp)).trans (by rw [World.cell?_alloc_new]; rfl); have bx_w3_1 : w3.cell? ⟨w.heap.size, 1, none⟩ = some (.int .i64 z1) := (hb3.cell (p := ⟨w.heap.size, 1, none⟩) (by show w.heap.size < _; simp)).trans (by rw [World.cell?_alloc_new]; rfl); have bx_w3_2 : w3.cell? ⟨w.heap.size, 2, none⟩ = some (.string z2) := (hb3.cell (p := ⟨w.heap.size, 2, none⟩) (by show w.heap.size < _; simp)).trans (by rw [World.cell?_alloc_new]; rfl); have bx_w3_3 : w3.cell? ⟨w.heap.size, 3, none⟩ = some (.slice A3 0 c3) := (hb3.cell (p := ⟨w.heap.size, 3, none⟩) (by show w.heap.size < _; simp)).trans (by rw [World.cell?_alloc_new]; rfl); have sz_w3 : w.heap.size < w3.heap.size := Nat.lt_of_lt_of_le (by simp) hb3.size))
    all_goals (first | (go_ret; exact ⟨ret_bool (by (first | (simp_all [emT_t, emT_f, beq_0, statL]; done) | (simp_all [emT, beq_0, statL]; done) | (simp_all [emT_t, emT_f, beq_0, statL]; omega))), by first | exact HB7.out | exact HB6.out | exact HB5.out | exact HB4.out | exact HB3.out⟩))
  ·
    go_enter Try.func37, Try.ntmps37
    go_wp2_with ((go_at_call 36; refine FDC.out.mono ?_; rintro e w3 ⟨rfl, hb3⟩; have HB3 := Lib.hid (HB.out.trans (hb3.mono HB.out.size)); have bx_w3_0 : w3.cell? ⟨w.heap.size, 0, none⟩ = some (.int .i64 40) := (hb3.cell (p := ⟨w.heap.size, 0, none⟩) (by show w.heap.size < _; simp)).trans (by rw [World.cell?_alloc_new]; rfl); have bx_w3_1 : w3.cell? ⟨w.heap.size, 1, none⟩ = some (.int .i64 z1) := (hb3.cell (p := ⟨w.heap.size, 1, none⟩) (by show w.heap.size < _; simp)).trans (by rw [World.cell?_alloc_new]; rfl); have bx_w3_2 : w3.cell? ⟨w.heap.size, 2, none⟩ = some (.string z2) := (hb3.cell (p := ⟨w.heap.size, 2, none⟩) (by show w.heap.size < _; simp)).trans (by rw [World.cell?_alloc_new]; rfl); have bx_w3_3 : w3.cell? ⟨w.heap.size, 3, none⟩ = some (.slice A3 m c3) := (hb3.cell (p := ⟨w.heap.size, 3, none⟩) (by show w.heap.size < _; simp)).trans (by rw [World.cell?_alloc_new]; rfl); have sz_w3 : w.heap.size < w3.heap.size := Nat.lt_of_lt_of_le (by simp) hb3.size))
    all_goals (first | (go_ret; exact ⟨ret_bool (by (first | (simp_all [emT_t, emT_f, beq_0, statL]; done) | (simp_all [emT, beq_0, statL]; done) | (simp_all [emT_t, emT_f, beq_0, statL]; omega))), by first | exact HB7.out | exact HB6.out | exact HB5.out | exact HB4.out | exact HB3.out⟩))
theorem stS_47 (z1 : Int) (z2 : ByteArray) (z3 : List FNode) (hw : (FNode.mk 47 z1 z2 z3).wt ≤ 9000000000) (hn : fN 47 z1 = true) (ht : fT 47 z2 = true)  (us : List Value) (w : World) (B : Nat) (hB0 : B ≤ w.heap.size) (hr : RdVs w B (FNode.mk 47 z1 z2 z3).c us) :
    Calls Try.prog 37 #[.agg us.toArray] w fun e w' => e = .returned (.bool (z3.length == 0)) ∧ Below w.heap.size w w' := by
  have FD := fd_spec _ hw
  rw [FNode.c_eq] at hr
  obtain ⟨us0, rfl, hr_0⟩ := hr.unv
  obtain ⟨us1, rfl, hr_1⟩ := hr_0.unv
  obtain ⟨us2, rfl, hr_2⟩ := hr_1.unv
  obtain ⟨A3, c3, us3, rfl, r3, hr_3⟩ := hr_2.uns
  obtain rfl := hr_3.un0
  rw [FNode.wt_eq] at hw
  have hz : z2.size ≤ 9223372036854775807 := by omega
  have hl : z3.length ≤ 9000000000 := by omega
  have HB0 : Below w.heap.size w (w.alloc (.cells #[.int .i64 47, .int .i64 z1, .string z2, .slice A3 z3.length c3] 29)) := (Below.refl _ w).alloc (Nat.le_refl _) _
  have FDC := Lib.hid (FD [.int .i64 47, .int .i64 z1, .string z2, .slice A3 z3.length c3] _ w.heap.size HB0.size (by rw [FNode.c_eq]; exact RdVs.cons (by unfold RdC; rfl) (RdVs.cons (by unfold RdC; rfl) (RdVs.cons (by unfold RdC; rfl) (RdVs.cons ((r3.up hB0).below HB0 (Nat.le_refl _)) (RdVs.nil _ _))))))
  simp only [FNode.kd, FNode.nu, FNode.tx] at FDC
  rw [hn, ht] at FDC
  clear FD HB0
  have hpos3 := r3
  obtain ⟨m, hm⟩ : ∃ m, z3.length = m := ⟨_, rfl⟩
  try rw [hm] at hl r3 FDC ⊢
  have HR := Lib.hid r3
  have HB := Lib.hid ((Below.refl _ w).alloc (Nat.le_refl _) (.cells #[.int .i64 47, .int .i64 z1, .string z2, .slice A3 m c3] 29))
  clear hr hr_0 hr_1 hr_2 hr_3 r3 hpos3
  clear hm hw 
  by_cases e1 : m = 0
  · subst e1
    go_enter Try.func37, Try.ntmps37
    go_wp2_with ((go_at_call 36; refine FDC.out.mono ?_; rintro e w3 ⟨rfl, hb3⟩; have HB3 := Lib.hid (HB.out.trans (hb3.mono HB.out.size)); have bx_w3_0 : w3.cell? ⟨w.heap.size, 0, none⟩ = some (.int .i64 47) := (hb3.cell (p := ⟨w.heap.size, 0, none⟩) (by show w.heap.size < _; simp)).trans (by rw [World.cell?_alloc_new]; rfl); have bx_w3_1 : w3.cell? ⟨w.heap.size, 1, none⟩ = some (.int .i64 z1) := (hb3.cell (p := ⟨w.heap.size, 1, none⟩) (by show w.heap.size < _; simp)).trans (by rw [World.cell?_alloc_new]; rfl); have bx_w3_2 : w3.cell? ⟨w.heap.size, 2, none⟩ = some (.string z2) := (hb3.cell (p := ⟨w.heap.size, 2, none⟩) (by show w.heap.size < _; simp)).trans (by rw [World.cell?_alloc_new]; rfl); have bx_w3_3 : w3.cell? ⟨w.heap.size, 3, none⟩ = some (.slice A3 0 c3) := (hb3.cell (p := ⟨w.heap.size, 3, none⟩) (by show w.heap.size < _; simp)).trans (by rw [World.cell?_alloc_new]; rfl); have sz_w3 : w.heap.size < w3.heap.size := Nat.lt_of_lt_of_le (by simp) hb3.size))
    all_goals (first | (go_ret; exact ⟨ret_bool (by (first | (simp_all [emT_t, emT_f, beq_0, statL]; done) | (simp_all [emT, beq_0, statL]; done) | (simp_all [emT_t, emT_f, beq_0, statL]; omega))), by first | exact HB7.out | exact HB6.out | exact HB5.out | exact HB4.out | exact HB3.out⟩))
  ·
    go_enter Try.func37, Try.ntmps37
    go_wp2_with ((go_at_call 36; refine FDC.out.mono ?_; rintro e w3 ⟨rfl, hb3⟩; have HB3 := Lib.hid (HB.out.trans (hb3.mono HB.out.size)); have bx_w3_0 : w3.cell? ⟨w.heap.size, 0, none⟩ = some (.int .i64 47) := (hb3.cell (p := ⟨w.heap.size, 0, none⟩) (by show w.heap.size < _; simp)).trans (by rw [World.cell?_alloc_new]; rfl); have bx_w3_1 : w3.cell? ⟨w.heap.size, 1, none⟩ = some (.int .i64 z1) := (hb3.cell (p := ⟨w.heap.size, 1, none⟩) (by show w.heap.size < _; simp)).trans (by rw [World.cell?_alloc_new]; rfl); have bx_w3_2 : w3.cell? ⟨w.heap.size, 2, none⟩ = some (.string z2) := (hb3.cell (p := ⟨w.heap.size, 2, none⟩) (by show w.heap.size < _; simp)).trans (by rw [World.cell?_alloc_new]; rfl); have bx_w3_3 : w3.cell? ⟨w.heap.size, 3, none⟩ = some (.slice A3 m c3) := (hb3.cell (p := ⟨w.heap.size, 3, none⟩) (by show w.heap.size < _; simp)).trans (by rw [World.cell?_alloc_new]; rfl); have sz_w3 : w.heap.size < w3.heap.size := Nat.lt_of_lt_of_le (by simp) hb3.size))
    all_goals (first | (go_ret; exact ⟨ret_bool (by (first | (simp_all [emT_t, emT_f, beq_0, statL]; done) | (simp_all [emT, beq_0, statL]; done) | (simp_all [emT_t, emT_f, beq_0, statL]; omega))), by first | exact HB7.out | exact HB6.out | exact HB5.out | exact HB4.out | exact HB3.out⟩))
theorem stS_32 (z1 : Int) (z2 : ByteArray) (z3 : List FNode) (hw : (FNode.mk 32 z1 z2 z3).wt ≤ 9000000000) (hn : fN 32 z1 = true) (ht : fT 32 z2 = true) (hE : ∀ x, x ∈ z3 → ExS x) (us : List Value) (w : World) (B : Nat) (hB0 : B ≤ w.heap.size) (hr : RdVs w B (FNode.mk 32 z1 z2 z3).c us) :
    Calls Try.prog 37 #[.agg us.toArray] w fun e w' => e = .returned (.bool (z3.length == 1 && z3.all exF)) ∧ Below w.heap.size w w' := by
  have FD := fd_spec _ hw
  rw [FNode.c_eq] at hr
  obtain ⟨us0, rfl, hr_0⟩ := hr.unv
  obtain ⟨us1, rfl, hr_1⟩ := hr_0.unv
  obtain ⟨us2, rfl, hr_2⟩ := hr_1.unv
  obtain ⟨A3, c3, us3, rfl, r3, hr_3⟩ := hr_2.uns
  obtain rfl := hr_3.un0
  rw [FNode.wt_eq] at hw
  have hz : z2.size ≤ 9223372036854775807 := by omega
  have hl : z3.length ≤ 9000000000 := by omega
  have HB0 : Below w.heap.size w (w.alloc (.cells #[.int .i64 32, .int .i64 z1, .string z2, .slice A3 z3.length c3] 29)) := (Below.refl _ w).alloc (Nat.le_refl _) _
  have FDC := Lib.hid (FD [.int .i64 32, .int .i64 z1, .string z2, .slice A3 z3.length c3] _ w.heap.size HB0.size (by rw [FNode.c_eq]; exact RdVs.cons (by unfold RdC; rfl) (RdVs.cons (by unfold RdC; rfl) (RdVs.cons (by unfold RdC; rfl) (RdVs.cons ((r3.up hB0).below HB0 (Nat.le_refl _)) (RdVs.nil _ _))))))
  simp only [FNode.kd, FNode.nu, FNode.tx] at FDC
  rw [hn, ht] at FDC
  clear FD HB0
  have hpos3 := r3
  obtain ⟨m, hm⟩ : ∃ m, z3.length = m := ⟨_, rfl⟩
  try rw [hm] at hl r3 FDC ⊢
  have HR := Lib.hid r3
  have HB := Lib.hid ((Below.refl _ w).alloc (Nat.le_refl _) (.cells #[.int .i64 32, .int .i64 z1, .string z2, .slice A3 m c3] 29))
  clear hr hr_0 hr_1 hr_2 hr_3 r3 hpos3
  by_cases e1 : m = 1
  · subst e1
    obtain ⟨⟨y0, y1, y2, y3⟩, rfl⟩ := List.length_eq_one_iff.mp hm
    have HV := Lib.hid (hE ⟨y0, y1, y2, y3⟩ (List.mem_singleton.mpr rfl))
    obtain ⟨bcy, offcy, Ey, hblcy, hcc⟩ := RdC.at_ (l := [FNode.mk y0 y1 y2 y3]) FNode.len HR.out (i := 0) (x := FNode.mk y0 y1 y2 y3) rfl
    rw [FNode.c_eq] at hcc
    obtain ⟨u0, e0, q0⟩ := hcc 0 _ rfl
    obtain rfl := q0.val
    have cy_0 : w.cell? ⟨bcy, offcy, none⟩ = some (.int .i64 y0) := ((Below.refl w.heap.size w).cell (p := ⟨bcy, _, none⟩) (by show bcy < w.heap.size; omega)).trans (by simpa using e0)
    obtain ⟨u1, e1, q1⟩ := hcc 1 _ rfl
    obtain rfl := q1.val
    have cy_1 : w.cell? ⟨bcy, offcy + 1, none⟩ = some (.int .i64 y1) := ((Below.refl w.heap.size w).cell (p := ⟨bcy, _, none⟩) (by show bcy < w.heap.size; omega)).trans (by simpa using e1)
    obtain ⟨u2, e2, q2⟩ := hcc 2 _ rfl
    obtain rfl := q2.val
    have cy_2 : w.cell? ⟨bcy, offcy + 2, none⟩ = some (.string y2) := ((Below.refl w.heap.size w).cell (p := ⟨bcy, _, none⟩) (by show bcy < w.heap.size; omega)).trans (by simpa using e2)
    obtain ⟨u3, e3, q3⟩ := hcc 3 _ rfl
    obtain ⟨Dy, dy, rfl⟩ := q3.form
    have cy_3 : w.cell? ⟨bcy, offcy + 3, none⟩ = some (.slice Dy y3.length dy) := ((Below.refl w.heap.size w).cell (p := ⟨bcy, _, none⟩) (by show bcy < w.heap.size; omega)).trans (by simpa using e3)
    have Qy := Lib.hid q3
    clear hcc e0 e1 e2 e3 q0 q1 q2 q3
    have hbl : bcy < w.heap.size := Nat.lt_of_lt_of_le hblcy hB0
    subst Ey
    clear hm hw hE
    rw [show [FNode.mk y0 y1 y2 y3].all exF = exF ⟨y0, y1, y2, y3⟩ from by simp]
    unfold ExS at HV
    generalize exF ⟨y0, y1, y2, y3⟩ = b at *
    go_enter Try.func37, Try.ntmps37
    go_wp2_with (first | (go_at_call 36; refine FDC.out.mono ?_; rintro e w3 ⟨rfl, hb3⟩; have HB3 := Lib.hid (HB.out.trans (hb3.mono HB.out.size)); have bx_w3_0 : w3.cell? ⟨w.heap.size, 0, none⟩ = some (.int .i64 32) := (hb3.cell (p := ⟨w.heap.size, 0, none⟩) (by show w.heap.size < _; simp)).trans (by rw [World.cell?_alloc_new]; rfl); have bx_w3_1 : w3.cell? ⟨w.heap.size, 1, none⟩ = some (.int .i64 z1) := (hb3.cell (p := ⟨w.heap.size, 1, none⟩) (by show w.heap.size < _; simp)).trans (by rw [World.cell?_alloc_new]; rfl); have bx_w3_2 : w3.cell? ⟨w.heap.size, 2, none⟩ = some (.string z2) := (hb3.cell (p := ⟨w.heap.size, 2, none⟩) (by show w.heap.size < _; simp)).trans (by rw [World.cell?_alloc_new]; rfl); have bx_w3_3 : w3.cell? ⟨w.heap.size, 3, none⟩ = some (.slice (some ⟨bcy, offcy, none⟩) 1 c3) := (hb3.cell (p := ⟨w.heap.size, 3, none⟩) (by show w.heap.size < _; simp)).trans (by rw [World.cell?_alloc_new]; rfl); have sz_w3 : w.heap.size < w3.heap.size := Nat.lt_of_lt_of_le (by simp) hb3.size; have k_w3_y0 := (HB3.out.cell (p := ⟨bcy, offcy, none⟩) hbl).trans cy_0; have k_w3_y1 := (HB3.out.cell (p := ⟨bcy, offcy + 1, none⟩) hbl).trans cy_1; have k_w3_y2 := (HB3.out.cell (p := ⟨bcy, offcy + 2, none⟩) hbl).trans cy_2; have k_w3_y3 := (HB3.out.cell (p := ⟨bcy, offcy + 3, none⟩) hbl).trans cy_3) | (go_at_call 68; refine (HV.out [.int .i64 y0, .int .i64 y1, .string y2, .slice Dy y3.length dy] _ w.heap.size HB3.out.size (by rw [FNode.c_eq]; exact RdVs.cons (by unfold RdC; rfl) (RdVs.cons (by unfold RdC; rfl) (RdVs.cons (by unfold RdC; rfl) (RdVs.cons ((Qy.out.up hB0).below HB3.out (Nat.le_refl _)) (RdVs.nil _ _)))))).mono ?_; rintro e w4 ⟨rfl, hb_w4⟩; have HB4 := Lib.hid (HB3.out.trans (hb_w4.mono HB3.out.size))))
    all_goals (first | (go_ret; exact ⟨ret_bool (by (first | (simp_all [emT_t, emT_f, beq_0, statL]; done) | (simp_all [emT, beq_0, statL]; done) | (simp_all [emT_t, emT_f, beq_0, statL]; omega))), by first | exact HB7.out | exact HB6.out | exact HB5.out | exact HB4.out | exact HB3.out⟩))
  · clear hm hw hE
    go_enter Try.func37, Try.ntmps37
    go_wp2_with ((go_at_call 36; refine FDC.out.mono ?_; rintro e w3 ⟨rfl, hb3⟩; have HB3 := Lib.hid (HB.out.trans (hb3.mono HB.out.size)); have bx_w3_0 : w3.cell? ⟨w.heap.size, 0, none⟩ = some (.int .i64 32) := (hb3.cell (p := ⟨w.heap.size, 0, none⟩) (by show w.heap.size < _; simp)).trans (by rw [World.cell?_alloc_new]; rfl); have bx_w3_1 : w3.cell? ⟨w.heap.size, 1, none⟩ = some (.int .i64 z1) := (hb3.cell (p := ⟨w.heap.size, 1, none⟩) (by show w.heap.size < _; simp)).trans (by rw [World.cell?_alloc_new]; rfl); have bx_w3_2 : w3.cell? ⟨w.heap.size, 2, none⟩ = some (.string z2) := (hb3.cell (p := ⟨w.heap.size, 2, none⟩) (by show w.heap.size < _; simp)).trans (by rw [World.cell?_alloc_new]; rfl); have bx_w3_3 : w3.cell? ⟨w.heap.size, 3, none⟩ = some (.slice A3 m c3) := (hb3.cell (p := ⟨w.heap.size, 3, none⟩) (by show w.heap.size < _; simp)).trans (by rw [World.cell?_alloc_new]; rfl); have sz_w3 : w.heap.size < w3.heap.size := Nat.lt_of_lt_of_le (by simp) hb3.size))
    all_goals (first | (go_ret; exact ⟨ret_bool (by (first | (simp_all [emT_t, emT_f, beq_0, statL]; done) | (simp_all [emT, beq_0, statL]; done) | (simp_all [emT_t, emT_f, beq_0, statL]; omega))), by first | exact HB7.out | exact HB6.out | exact HB5.out | exact HB4.out | exact HB3.out⟩))
theorem stS_33 (z1 : Int) (z2 : ByteArray) (z3 : List FNode) (hw : (FNode.mk 33 z1 z2 z3).wt ≤ 9000000000) (hn : fN 33 z1 = true) (ht : fT 33 z2 = true) (hE : ∀ x, x ∈ z3 → ExS x) (us : List Value) (w : World) (B : Nat) (hB0 : B ≤ w.heap.size) (hr : RdVs w B (FNode.mk 33 z1 z2 z3).c us) :
    Calls Try.prog 37 #[.agg us.toArray] w fun e w' => e = .returned (.bool (z3.length == 1 && z3.all exF)) ∧ Below w.heap.size w w' := by
  have FD := fd_spec _ hw
  rw [FNode.c_eq] at hr
  obtain ⟨us0, rfl, hr_0⟩ := hr.unv
  obtain ⟨us1, rfl, hr_1⟩ := hr_0.unv
  obtain ⟨us2, rfl, hr_2⟩ := hr_1.unv
  obtain ⟨A3, c3, us3, rfl, r3, hr_3⟩ := hr_2.uns
  obtain rfl := hr_3.un0
  rw [FNode.wt_eq] at hw
  have hz : z2.size ≤ 9223372036854775807 := by omega
  have hl : z3.length ≤ 9000000000 := by omega
  have HB0 : Below w.heap.size w (w.alloc (.cells #[.int .i64 33, .int .i64 z1, .string z2, .slice A3 z3.length c3] 29)) := (Below.refl _ w).alloc (Nat.le_refl _) _
  have FDC := Lib.hid (FD [.int .i64 33, .int .i64 z1, .string z2, .slice A3 z3.length c3] _ w.heap.size HB0.size (by rw [FNode.c_eq]; exact RdVs.cons (by unfold RdC; rfl) (RdVs.cons (by unfold RdC; rfl) (RdVs.cons (by unfold RdC; rfl) (RdVs.cons ((r3.up hB0).below HB0 (Nat.le_refl _)) (RdVs.nil _ _))))))
  simp only [FNode.kd, FNode.nu, FNode.tx] at FDC
  rw [hn, ht] at FDC
  clear FD HB0
  have hpos3 := r3
  obtain ⟨m, hm⟩ : ∃ m, z3.length = m := ⟨_, rfl⟩
  try rw [hm] at hl r3 FDC ⊢
  have HR := Lib.hid r3
  have HB := Lib.hid ((Below.refl _ w).alloc (Nat.le_refl _) (.cells #[.int .i64 33, .int .i64 z1, .string z2, .slice A3 m c3] 29))
  clear hr hr_0 hr_1 hr_2 hr_3 r3 hpos3
  by_cases e1 : m = 1
  · subst e1
    obtain ⟨⟨y0, y1, y2, y3⟩, rfl⟩ := List.length_eq_one_iff.mp hm
    have HV := Lib.hid (hE ⟨y0, y1, y2, y3⟩ (List.mem_singleton.mpr rfl))
    obtain ⟨bcy, offcy, Ey, hblcy, hcc⟩ := RdC.at_ (l := [FNode.mk y0 y1 y2 y3]) FNode.len HR.out (i := 0) (x := FNode.mk y0 y1 y2 y3) rfl
    rw [FNode.c_eq] at hcc
    obtain ⟨u0, e0, q0⟩ := hcc 0 _ rfl
    obtain rfl := q0.val
    have cy_0 : w.cell? ⟨bcy, offcy, none⟩ = some (.int .i64 y0) := ((Below.refl w.heap.size w).cell (p := ⟨bcy, _, none⟩) (by show bcy < w.heap.size; omega)).trans (by simpa using e0)
    obtain ⟨u1, e1, q1⟩ := hcc 1 _ rfl
    obtain rfl := q1.val
    have cy_1 : w.cell? ⟨bcy, offcy + 1, none⟩ = some (.int .i64 y1) := ((Below.refl w.heap.size w).cell (p := ⟨bcy, _, none⟩) (by show bcy < w.heap.size; omega)).trans (by simpa using e1)
    obtain ⟨u2, e2, q2⟩ := hcc 2 _ rfl
    obtain rfl := q2.val
    have cy_2 : w.cell? ⟨bcy, offcy + 2, none⟩ = some (.string y2) := ((Below.refl w.heap.size w).cell (p := ⟨bcy, _, none⟩) (by show bcy < w.heap.size; omega)).trans (by simpa using e2)
    obtain ⟨u3, e3, q3⟩ := hcc 3 _ rfl
    obtain ⟨Dy, dy, rfl⟩ := q3.form
    have cy_3 : w.cell? ⟨bcy, offcy + 3, none⟩ = some (.slice Dy y3.length dy) := ((Below.refl w.heap.size w).cell (p := ⟨bcy, _, none⟩) (by show bcy < w.heap.size; omega)).trans (by simpa using e3)
    have Qy := Lib.hid q3
    clear hcc e0 e1 e2 e3 q0 q1 q2 q3
    have hbl : bcy < w.heap.size := Nat.lt_of_lt_of_le hblcy hB0
    subst Ey
    clear hm hw hE
    rw [show [FNode.mk y0 y1 y2 y3].all exF = exF ⟨y0, y1, y2, y3⟩ from by simp]
    unfold ExS at HV
    generalize exF ⟨y0, y1, y2, y3⟩ = b at *
    go_enter Try.func37, Try.ntmps37
    go_wp2_with (first | (go_at_call 36; refine FDC.out.mono ?_; rintro e w3 ⟨rfl, hb3⟩; have HB3 := Lib.hid (HB.out.trans (hb3.mono HB.out.size)); have bx_w3_0 : w3.cell? ⟨w.heap.size, 0, none⟩ = some (.int .i64 33) := (hb3.cell (p := ⟨w.heap.size, 0, none⟩) (by show w.heap.size < _; simp)).trans (by rw [World.cell?_alloc_new]; rfl); have bx_w3_1 : w3.cell? ⟨w.heap.size, 1, none⟩ = some (.int .i64 z1) := (hb3.cell (p := ⟨w.heap.size, 1, none⟩) (by show w.heap.size < _; simp)).trans (by rw [World.cell?_alloc_new]; rfl); have bx_w3_2 : w3.cell? ⟨w.heap.size, 2, none⟩ = some (.string z2) := (hb3.cell (p := ⟨w.heap.size, 2, none⟩) (by show w.heap.size < _; simp)).trans (by rw [World.cell?_alloc_new]; rfl); have bx_w3_3 : w3.cell? ⟨w.heap.size, 3, none⟩ = some (.slice (some ⟨bcy, offcy, none⟩) 1 c3) := (hb3.cell (p := ⟨w.heap.size, 3, none⟩) (by show w.heap.size < _; simp)).trans (by rw [World.cell?_alloc_new]; rfl); have sz_w3 : w.heap.size < w3.heap.size := Nat.lt_of_lt_of_le (by simp) hb3.size; have k_w3_y0 := (HB3.out.cell (p := ⟨bcy, offcy, none⟩) hbl).trans cy_0; have k_w3_y1 := (HB3.out.cell (p := ⟨bcy, offcy + 1, none⟩) hbl).trans cy_1; have k_w3_y2 := (HB3.out.cell (p := ⟨bcy, offcy + 2, none⟩) hbl).trans cy_2; have k_w3_y3 := (HB3.out.cell (p := ⟨bcy, offcy + 3, none⟩) hbl).trans cy_3) | (go_at_call 68; refine (HV.out [.int .i64 y0, .int .i64 y1, .string y2, .slice Dy y3.length dy] _ w.heap.size HB3.out.size (by rw [FNode.c_eq]; exact RdVs.cons (by unfold RdC; rfl) (RdVs.cons (by unfold RdC; rfl) (RdVs.cons (by unfold RdC; rfl) (RdVs.cons ((Qy.out.up hB0).below HB3.out (Nat.le_refl _)) (RdVs.nil _ _)))))).mono ?_; rintro e w4 ⟨rfl, hb_w4⟩; have HB4 := Lib.hid (HB3.out.trans (hb_w4.mono HB3.out.size))))
    all_goals (first | (go_ret; exact ⟨ret_bool (by (first | (simp_all [emT_t, emT_f, beq_0, statL]; done) | (simp_all [emT, beq_0, statL]; done) | (simp_all [emT_t, emT_f, beq_0, statL]; omega))), by first | exact HB7.out | exact HB6.out | exact HB5.out | exact HB4.out | exact HB3.out⟩))
  · clear hm hw hE
    go_enter Try.func37, Try.ntmps37
    go_wp2_with ((go_at_call 36; refine FDC.out.mono ?_; rintro e w3 ⟨rfl, hb3⟩; have HB3 := Lib.hid (HB.out.trans (hb3.mono HB.out.size)); have bx_w3_0 : w3.cell? ⟨w.heap.size, 0, none⟩ = some (.int .i64 33) := (hb3.cell (p := ⟨w.heap.size, 0, none⟩) (by show w.heap.size < _; simp)).trans (by rw [World.cell?_alloc_new]; rfl); have bx_w3_1 : w3.cell? ⟨w.heap.size, 1, none⟩ = some (.int .i64 z1) := (hb3.cell (p := ⟨w.heap.size, 1, none⟩) (by show w.heap.size < _; simp)).trans (by rw [World.cell?_alloc_new]; rfl); have bx_w3_2 : w3.cell? ⟨w.heap.size, 2, none⟩ = some (.string z2) := (hb3.cell (p := ⟨w.heap.size, 2, none⟩) (by show w.heap.size < _; simp)).trans (by rw [World.cell?_alloc_new]; rfl); have bx_w3_3 : w3.cell? ⟨w.heap.size, 3, none⟩ = some (.slice A3 m c3) := (hb3.cell (p := ⟨w.heap.size, 3, none⟩) (by show w.heap.size < _; simp)).trans (by rw [World.cell?_alloc_new]; rfl); have sz_w3 : w.heap.size < w3.heap.size := Nat.lt_of_lt_of_le (by simp) hb3.size))
    all_goals (first | (go_ret; exact ⟨ret_bool (by (first | (simp_all [emT_t, emT_f, beq_0, statL]; done) | (simp_all [emT, beq_0, statL]; done) | (simp_all [emT_t, emT_f, beq_0, statL]; omega))), by first | exact HB7.out | exact HB6.out | exact HB5.out | exact HB4.out | exact HB3.out⟩))
theorem stS_42 (z1 : Int) (z2 : ByteArray) (z3 : List FNode) (hw : (FNode.mk 42 z1 z2 z3).wt ≤ 9000000000) (hn : fN 42 z1 = true) (ht : fT 42 z2 = true) (hE : ∀ x, x ∈ z3 → ExS x) (us : List Value) (w : World) (B : Nat) (hB0 : B ≤ w.heap.size) (hr : RdVs w B (FNode.mk 42 z1 z2 z3).c us) :
    Calls Try.prog 37 #[.agg us.toArray] w fun e w' => e = .returned (.bool (z3.length == 1 && z3.all exF)) ∧ Below w.heap.size w w' := by
  have FD := fd_spec _ hw
  rw [FNode.c_eq] at hr
  obtain ⟨us0, rfl, hr_0⟩ := hr.unv
  obtain ⟨us1, rfl, hr_1⟩ := hr_0.unv
  obtain ⟨us2, rfl, hr_2⟩ := hr_1.unv
  obtain ⟨A3, c3, us3, rfl, r3, hr_3⟩ := hr_2.uns
  obtain rfl := hr_3.un0
  rw [FNode.wt_eq] at hw
  have hz : z2.size ≤ 9223372036854775807 := by omega
  have hl : z3.length ≤ 9000000000 := by omega
  have HB0 : Below w.heap.size w (w.alloc (.cells #[.int .i64 42, .int .i64 z1, .string z2, .slice A3 z3.length c3] 29)) := (Below.refl _ w).alloc (Nat.le_refl _) _
  have FDC := Lib.hid (FD [.int .i64 42, .int .i64 z1, .string z2, .slice A3 z3.length c3] _ w.heap.size HB0.size (by rw [FNode.c_eq]; exact RdVs.cons (by unfold RdC; rfl) (RdVs.cons (by unfold RdC; rfl) (RdVs.cons (by unfold RdC; rfl) (RdVs.cons ((r3.up hB0).below HB0 (Nat.le_refl _)) (RdVs.nil _ _))))))
  simp only [FNode.kd, FNode.nu, FNode.tx] at FDC
  rw [hn, ht] at FDC
  clear FD HB0
  have hpos3 := r3
  obtain ⟨m, hm⟩ : ∃ m, z3.length = m := ⟨_, rfl⟩
  try rw [hm] at hl r3 FDC ⊢
  have HR := Lib.hid r3
  have HB := Lib.hid ((Below.refl _ w).alloc (Nat.le_refl _) (.cells #[.int .i64 42, .int .i64 z1, .string z2, .slice A3 m c3] 29))
  clear hr hr_0 hr_1 hr_2 hr_3 r3 hpos3
  by_cases e1 : m = 1
  · subst e1
    obtain ⟨⟨y0, y1, y2, y3⟩, rfl⟩ := List.length_eq_one_iff.mp hm
    have HV := Lib.hid (hE ⟨y0, y1, y2, y3⟩ (List.mem_singleton.mpr rfl))
    obtain ⟨bcy, offcy, Ey, hblcy, hcc⟩ := RdC.at_ (l := [FNode.mk y0 y1 y2 y3]) FNode.len HR.out (i := 0) (x := FNode.mk y0 y1 y2 y3) rfl
    rw [FNode.c_eq] at hcc
    obtain ⟨u0, e0, q0⟩ := hcc 0 _ rfl
    obtain rfl := q0.val
    have cy_0 : w.cell? ⟨bcy, offcy, none⟩ = some (.int .i64 y0) := ((Below.refl w.heap.size w).cell (p := ⟨bcy, _, none⟩) (by show bcy < w.heap.size; omega)).trans (by simpa using e0)
    obtain ⟨u1, e1, q1⟩ := hcc 1 _ rfl
    obtain rfl := q1.val
    have cy_1 : w.cell? ⟨bcy, offcy + 1, none⟩ = some (.int .i64 y1) := ((Below.refl w.heap.size w).cell (p := ⟨bcy, _, none⟩) (by show bcy < w.heap.size; omega)).trans (by simpa using e1)
    obtain ⟨u2, e2, q2⟩ := hcc 2 _ rfl
    obtain rfl := q2.val
    have cy_2 : w.cell? ⟨bcy, offcy + 2, none⟩ = some (.string y2) := ((Below.refl w.heap.size w).cell (p := ⟨bcy, _, none⟩) (by show bcy < w.heap.size; omega)).trans (by simpa using e2)
    obtain ⟨u3, e3, q3⟩ := hcc 3 _ rfl
    obtain ⟨Dy, dy, rfl⟩ := q3.form
    have cy_3 : w.cell? ⟨bcy, offcy + 3, none⟩ = some (.slice Dy y3.length dy) := ((Below.refl w.heap.size w).cell (p := ⟨bcy, _, none⟩) (by show bcy < w.heap.size; omega)).trans (by simpa using e3)
    have Qy := Lib.hid q3
    clear hcc e0 e1 e2 e3 q0 q1 q2 q3
    have hbl : bcy < w.heap.size := Nat.lt_of_lt_of_le hblcy hB0
    subst Ey
    clear hm hw hE
    rw [show [FNode.mk y0 y1 y2 y3].all exF = exF ⟨y0, y1, y2, y3⟩ from by simp]
    unfold ExS at HV
    generalize exF ⟨y0, y1, y2, y3⟩ = b at *
    go_enter Try.func37, Try.ntmps37
    go_wp2_with (first | (go_at_call 36; refine FDC.out.mono ?_; rintro e w3 ⟨rfl, hb3⟩; have HB3 := Lib.hid (HB.out.trans (hb3.mono HB.out.size)); have bx_w3_0 : w3.cell? ⟨w.heap.size, 0, none⟩ = some (.int .i64 42) := (hb3.cell (p := ⟨w.heap.size, 0, none⟩) (by show w.heap.size < _; simp)).trans (by rw [World.cell?_alloc_new]; rfl); have bx_w3_1 : w3.cell? ⟨w.heap.size, 1, none⟩ = some (.int .i64 z1) := (hb3.cell (p := ⟨w.heap.size, 1, none⟩) (by show w.heap.size < _; simp)).trans (by rw [World.cell?_alloc_new]; rfl); have bx_w3_2 : w3.cell? ⟨w.heap.size, 2, none⟩ = some (.string z2) := (hb3.cell (p := ⟨w.heap.size, 2, none⟩) (by show w.heap.size < _; simp)).trans (by rw [World.cell?_alloc_new]; rfl); have bx_w3_3 : w3.cell? ⟨w.heap.size, 3, none⟩ = some (.slice (some ⟨bcy, offcy, none⟩) 1 c3) := (hb3.cell (p := ⟨w.heap.size, 3, none⟩) (by show w.heap.size < _; simp)).trans (by rw [World.cell?_alloc_new]; rfl); have sz_w3 : w.heap.size < w3.heap.size := Nat.lt_of_lt_of_le (by simp) hb3.size; have k_w3_y0 := (HB3.out.cell (p := ⟨bcy, offcy, none⟩) hbl).trans cy_0; have k_w3_y1 := (HB3.out.cell (p := ⟨bcy, offcy + 1, none⟩) hbl).trans cy_1; have k_w3_y2 := (HB3.out.cell (p := ⟨bcy, offcy + 2, none⟩) hbl).trans cy_2; have k_w3_y3 := (HB3.out.cell (p := ⟨bcy, offcy + 3, none⟩) hbl).trans cy_3) | (go_at_call 68; refine (HV.out [.int .i64 y0, .int .i64 y1, .string y2, .slice Dy y3.length dy] _ w.heap.size HB3.out.size (by rw [FNode.c_eq]; exact RdVs.cons (by unfold RdC; rfl) (RdVs.cons (by unfold RdC; rfl) (RdVs.cons (by unfold RdC; rfl) (RdVs.cons ((Qy.out.up hB0).below HB3.out (Nat.le_refl _)) (RdVs.nil _ _)))))).mono ?_; rintro e w4 ⟨rfl, hb_w4⟩; have HB4 := Lib.hid (HB3.out.trans (hb_w4.mono HB3.out.size))))
    all_goals (first | (go_ret; exact ⟨ret_bool (by (first | (simp_all [emT_t, emT_f, beq_0, statL]; done) | (simp_all [emT, beq_0, statL]; done) | (simp_all [emT_t, emT_f, beq_0, statL]; omega))), by first | exact HB7.out | exact HB6.out | exact HB5.out | exact HB4.out | exact HB3.out⟩))
  · clear hm hw hE
    go_enter Try.func37, Try.ntmps37
    go_wp2_with ((go_at_call 36; refine FDC.out.mono ?_; rintro e w3 ⟨rfl, hb3⟩; have HB3 := Lib.hid (HB.out.trans (hb3.mono HB.out.size)); have bx_w3_0 : w3.cell? ⟨w.heap.size, 0, none⟩ = some (.int .i64 42) := (hb3.cell (p := ⟨w.heap.size, 0, none⟩) (by show w.heap.size < _; simp)).trans (by rw [World.cell?_alloc_new]; rfl); have bx_w3_1 : w3.cell? ⟨w.heap.size, 1, none⟩ = some (.int .i64 z1) := (hb3.cell (p := ⟨w.heap.size, 1, none⟩) (by show w.heap.size < _; simp)).trans (by rw [World.cell?_alloc_new]; rfl); have bx_w3_2 : w3.cell? ⟨w.heap.size, 2, none⟩ = some (.string z2) := (hb3.cell (p := ⟨w.heap.size, 2, none⟩) (by show w.heap.size < _; simp)).trans (by rw [World.cell?_alloc_new]; rfl); have bx_w3_3 : w3.cell? ⟨w.heap.size, 3, none⟩ = some (.slice A3 m c3) := (hb3.cell (p := ⟨w.heap.size, 3, none⟩) (by show w.heap.size < _; simp)).trans (by rw [World.cell?_alloc_new]; rfl); have sz_w3 : w.heap.size < w3.heap.size := Nat.lt_of_lt_of_le (by simp) hb3.size))
    all_goals (first | (go_ret; exact ⟨ret_bool (by (first | (simp_all [emT_t, emT_f, beq_0, statL]; done) | (simp_all [emT, beq_0, statL]; done) | (simp_all [emT_t, emT_f, beq_0, statL]; omega))), by first | exact HB7.out | exact HB6.out | exact HB5.out | exact HB4.out | exact HB3.out⟩))
theorem stS_39 (z1 : Int) (z2 : ByteArray) (z3 : List FNode) (hw : (FNode.mk 39 z1 z2 z3).wt ≤ 9000000000) (hn : fN 39 z1 = true) (ht : fT 39 z2 = true) (hA : EaS z3) (us : List Value) (w : World) (B : Nat) (hB0 : B ≤ w.heap.size) (hr : RdVs w B (FNode.mk 39 z1 z2 z3).c us) :
    Calls Try.prog 37 #[.agg us.toArray] w fun e w' => e = .returned (.bool (decide (z3.length ≤ 1) && z3.all exF)) ∧ Below w.heap.size w w' := by
  have FD := fd_spec _ hw
  rw [FNode.c_eq] at hr
  obtain ⟨us0, rfl, hr_0⟩ := hr.unv
  obtain ⟨us1, rfl, hr_1⟩ := hr_0.unv
  obtain ⟨us2, rfl, hr_2⟩ := hr_1.unv
  obtain ⟨A3, c3, us3, rfl, r3, hr_3⟩ := hr_2.uns
  obtain rfl := hr_3.un0
  rw [FNode.wt_eq] at hw
  have hz : z2.size ≤ 9223372036854775807 := by omega
  have hl : z3.length ≤ 9000000000 := by omega
  have HB0 : Below w.heap.size w (w.alloc (.cells #[.int .i64 39, .int .i64 z1, .string z2, .slice A3 z3.length c3] 29)) := (Below.refl _ w).alloc (Nat.le_refl _) _
  have FDC := Lib.hid (FD [.int .i64 39, .int .i64 z1, .string z2, .slice A3 z3.length c3] _ w.heap.size HB0.size (by rw [FNode.c_eq]; exact RdVs.cons (by unfold RdC; rfl) (RdVs.cons (by unfold RdC; rfl) (RdVs.cons (by unfold RdC; rfl) (RdVs.cons ((r3.up hB0).below HB0 (Nat.le_refl _)) (RdVs.nil _ _))))))
  simp only [FNode.kd, FNode.nu, FNode.tx] at FDC
  rw [hn, ht] at FDC
  clear FD HB0
  have hpos3 := r3
  obtain ⟨m, hm⟩ : ∃ m, z3.length = m := ⟨_, rfl⟩
  try rw [hm] at hl r3 FDC ⊢
  have HR := Lib.hid r3
  have HB := Lib.hid ((Below.refl _ w).alloc (Nat.le_refl _) (.cells #[.int .i64 39, .int .i64 z1, .string z2, .slice A3 m c3] 29))
  clear hr hr_0 hr_1 hr_2 hr_3 r3 hpos3
  unfold EaS at hA
  rw [hm] at hA
  have HA := Lib.hid hA
  clear hA
  clear hm hw 
  by_cases e1 : m ≤ 1
  · rw [show decide (m ≤ 1) = true from decide_eq_true e1]
    go_enter Try.func37, Try.ntmps37
    go_wp2_with (first | (go_at_call 36; refine FDC.out.mono ?_; rintro e w3 ⟨rfl, hb3⟩; have HB3 := Lib.hid (HB.out.trans (hb3.mono HB.out.size)); have bx_w3_0 : w3.cell? ⟨w.heap.size, 0, none⟩ = some (.int .i64 39) := (hb3.cell (p := ⟨w.heap.size, 0, none⟩) (by show w.heap.size < _; simp)).trans (by rw [World.cell?_alloc_new]; rfl); have bx_w3_1 : w3.cell? ⟨w.heap.size, 1, none⟩ = some (.int .i64 z1) := (hb3.cell (p := ⟨w.heap.size, 1, none⟩) (by show w.heap.size < _; simp)).trans (by rw [World.cell?_alloc_new]; rfl); have bx_w3_2 : w3.cell? ⟨w.heap.size, 2, none⟩ = some (.string z2) := (hb3.cell (p := ⟨w.heap.size, 2, none⟩) (by show w.heap.size < _; simp)).trans (by rw [World.cell?_alloc_new]; rfl); have bx_w3_3 : w3.cell? ⟨w.heap.size, 3, none⟩ = some (.slice A3 m c3) := (hb3.cell (p := ⟨w.heap.size, 3, none⟩) (by show w.heap.size < _; simp)).trans (by rw [World.cell?_alloc_new]; rfl); have sz_w3 : w.heap.size < w3.heap.size := Nat.lt_of_lt_of_le (by simp) hb3.size) | (go_at_call 69; refine (HA.out _ _ w.heap.size HB3.out.size ((HR.out.up hB0).below HB3.out (Nat.le_refl _))).mono ?_; rintro e w4 ⟨rfl, hbe⟩; have HB4 := Lib.hid (HB3.out.trans (hbe.mono HB3.out.size))))
    all_goals (first | (go_ret; exact ⟨ret_bool (by (first | (simp_all [emT_t, emT_f, beq_0, statL]; done) | (simp_all [emT, beq_0, statL]; done) | (simp_all [emT_t, emT_f, beq_0, statL]; omega))), by first | exact HB7.out | exact HB6.out | exact HB5.out | exact HB4.out | exact HB3.out⟩))
  · rw [show decide (m ≤ 1) = false from decide_eq_false e1]
    go_enter Try.func37, Try.ntmps37
    go_wp2_with ((go_at_call 36; refine FDC.out.mono ?_; rintro e w3 ⟨rfl, hb3⟩; have HB3 := Lib.hid (HB.out.trans (hb3.mono HB.out.size)); have bx_w3_0 : w3.cell? ⟨w.heap.size, 0, none⟩ = some (.int .i64 39) := (hb3.cell (p := ⟨w.heap.size, 0, none⟩) (by show w.heap.size < _; simp)).trans (by rw [World.cell?_alloc_new]; rfl); have bx_w3_1 : w3.cell? ⟨w.heap.size, 1, none⟩ = some (.int .i64 z1) := (hb3.cell (p := ⟨w.heap.size, 1, none⟩) (by show w.heap.size < _; simp)).trans (by rw [World.cell?_alloc_new]; rfl); have bx_w3_2 : w3.cell? ⟨w.heap.size, 2, none⟩ = some (.string z2) := (hb3.cell (p := ⟨w.heap.size, 2, none⟩) (by show w.heap.size < _; simp)).trans (by rw [World.cell?_alloc_new]; rfl); have bx_w3_3 : w3.cell? ⟨w.heap.size, 3, none⟩ = some (.slice A3 m c3) := (hb3.cell (p := ⟨w.heap.size, 3, none⟩) (by show w.heap.size < _; simp)).trans (by rw [World.cell?_alloc_new]; rfl); have sz_w3 : w.heap.size < w3.heap.size := Nat.lt_of_lt_of_le (by simp) hb3.size))
    all_goals (first | (go_ret; exact ⟨ret_bool (by (first | (simp_all [emT_t, emT_f, beq_0, statL]; done) | (simp_all [emT, beq_0, statL]; done) | (simp_all [emT_t, emT_f, beq_0, statL]; omega))), by first | exact HB7.out | exact HB6.out | exact HB5.out | exact HB4.out | exact HB3.out⟩))
theorem stS_o (z0 z1 : Int) (z2 : ByteArray) (z3 : List FNode) (hw : (FNode.mk z0 z1 z2 z3).wt ≤ 9000000000) (hn : fN z0 z1 = true) (ht : fT z0 z2 = true) (n31 : ¬ z0 = 31) (n32 : ¬ z0 = 32) (n33 : ¬ z0 = 33) (n34 : ¬ z0 = 34) (n35 : ¬ z0 = 35) (n36 : ¬ z0 = 36) (n37 : ¬ z0 = 37) (n38 : ¬ z0 = 38) (n39 : ¬ z0 = 39) (n40 : ¬ z0 = 40) (n41 : ¬ z0 = 41) (n42 : ¬ z0 = 42) (n43 : ¬ z0 = 43) (n46 : ¬ z0 = 46) (n47 : ¬ z0 = 47) (n48 : ¬ z0 = 48) (us : List Value) (w : World) (B : Nat) (hB0 : B ≤ w.heap.size) (hr : RdVs w B (FNode.mk z0 z1 z2 z3).c us) :
    Calls Try.prog 37 #[.agg us.toArray] w fun e w' => e = .returned (.bool (false)) ∧ Below w.heap.size w w' := by
  have FD := fd_spec _ hw
  rw [FNode.c_eq] at hr
  obtain ⟨us0, rfl, hr_0⟩ := hr.unv
  obtain ⟨us1, rfl, hr_1⟩ := hr_0.unv
  obtain ⟨us2, rfl, hr_2⟩ := hr_1.unv
  obtain ⟨A3, c3, us3, rfl, r3, hr_3⟩ := hr_2.uns
  obtain rfl := hr_3.un0
  rw [FNode.wt_eq] at hw
  have hz : z2.size ≤ 9223372036854775807 := by omega
  have hl : z3.length ≤ 9000000000 := by omega
  have HB0 : Below w.heap.size w (w.alloc (.cells #[.int .i64 z0, .int .i64 z1, .string z2, .slice A3 z3.length c3] 29)) := (Below.refl _ w).alloc (Nat.le_refl _) _
  have FDC := Lib.hid (FD [.int .i64 z0, .int .i64 z1, .string z2, .slice A3 z3.length c3] _ w.heap.size HB0.size (by rw [FNode.c_eq]; exact RdVs.cons (by unfold RdC; rfl) (RdVs.cons (by unfold RdC; rfl) (RdVs.cons (by unfold RdC; rfl) (RdVs.cons ((r3.up hB0).below HB0 (Nat.le_refl _)) (RdVs.nil _ _))))))
  simp only [FNode.kd, FNode.nu, FNode.tx] at FDC
  rw [hn, ht] at FDC
  clear FD HB0
  have hpos3 := r3
  obtain ⟨m, hm⟩ : ∃ m, z3.length = m := ⟨_, rfl⟩
  try rw [hm] at hl r3 FDC ⊢
  have HR := Lib.hid r3
  have HB := Lib.hid ((Below.refl _ w).alloc (Nat.le_refl _) (.cells #[.int .i64 z0, .int .i64 z1, .string z2, .slice A3 m c3] 29))
  clear hr hr_0 hr_1 hr_2 hr_3 r3 hpos3
  clear hm hw 
  go_enter Try.func37, Try.ntmps37
  go_wp2_with ((go_at_call 36; refine FDC.out.mono ?_; rintro e w3 ⟨rfl, hb3⟩; have HB3 := Lib.hid (HB.out.trans (hb3.mono HB.out.size)); have bx_w3_0 : w3.cell? ⟨w.heap.size, 0, none⟩ = some (.int .i64 z0) := (hb3.cell (p := ⟨w.heap.size, 0, none⟩) (by show w.heap.size < _; simp)).trans (by rw [World.cell?_alloc_new]; rfl); have bx_w3_1 : w3.cell? ⟨w.heap.size, 1, none⟩ = some (.int .i64 z1) := (hb3.cell (p := ⟨w.heap.size, 1, none⟩) (by show w.heap.size < _; simp)).trans (by rw [World.cell?_alloc_new]; rfl); have bx_w3_2 : w3.cell? ⟨w.heap.size, 2, none⟩ = some (.string z2) := (hb3.cell (p := ⟨w.heap.size, 2, none⟩) (by show w.heap.size < _; simp)).trans (by rw [World.cell?_alloc_new]; rfl); have bx_w3_3 : w3.cell? ⟨w.heap.size, 3, none⟩ = some (.slice A3 m c3) := (hb3.cell (p := ⟨w.heap.size, 3, none⟩) (by show w.heap.size < _; simp)).trans (by rw [World.cell?_alloc_new]; rfl); have sz_w3 : w.heap.size < w3.heap.size := Nat.lt_of_lt_of_le (by simp) hb3.size))
  all_goals (first | (go_ret; exact ⟨ret_bool (by (first | (simp_all [emT_t, emT_f, beq_0, statL]; done) | (simp_all [emT, beq_0, statL]; done) | (simp_all [emT_t, emT_f, beq_0, statL]; omega))), by first | exact HB7.out | exact HB6.out | exact HB5.out | exact HB4.out | exact HB3.out⟩))
theorem stS_badf_o (z0 z1 : Int) (z2 : ByteArray) (z3 : List FNode) (hw : (FNode.mk z0 z1 z2 z3).wt ≤ 9000000000) (fb : Bool) (hn : fN z0 z1 = false) (ht : fT z0 z2 = fb)  (us : List Value) (w : World) (B : Nat) (hB0 : B ≤ w.heap.size) (hr : RdVs w B (FNode.mk z0 z1 z2 z3).c us) :
    Calls Try.prog 37 #[.agg us.toArray] w fun e w' => e = .returned (.bool (false)) ∧ Below w.heap.size w w' := by
  have FD := fd_spec _ hw
  rw [FNode.c_eq] at hr
  obtain ⟨us0, rfl, hr_0⟩ := hr.unv
  obtain ⟨us1, rfl, hr_1⟩ := hr_0.unv
  obtain ⟨us2, rfl, hr_2⟩ := hr_1.unv
  obtain ⟨A3, c3, us3, rfl, r3, hr_3⟩ := hr_2.uns
  obtain rfl := hr_3.un0
  rw [FNode.wt_eq] at hw
  have hz : z2.size ≤ 9223372036854775807 := by omega
  have hl : z3.length ≤ 9000000000 := by omega
  have HB0 : Below w.heap.size w (w.alloc (.cells #[.int .i64 z0, .int .i64 z1, .string z2, .slice A3 z3.length c3] 29)) := (Below.refl _ w).alloc (Nat.le_refl _) _
  have FDC := Lib.hid (FD [.int .i64 z0, .int .i64 z1, .string z2, .slice A3 z3.length c3] _ w.heap.size HB0.size (by rw [FNode.c_eq]; exact RdVs.cons (by unfold RdC; rfl) (RdVs.cons (by unfold RdC; rfl) (RdVs.cons (by unfold RdC; rfl) (RdVs.cons ((r3.up hB0).below HB0 (Nat.le_refl _)) (RdVs.nil _ _))))))
  simp only [FNode.kd, FNode.nu, FNode.tx] at FDC
  rw [hn, ht] at FDC
  clear FD HB0
  have hpos3 := r3
  obtain ⟨m, hm⟩ : ∃ m, z3.length = m := ⟨_, rfl⟩
  try rw [hm] at hl r3 FDC ⊢
  have HR := Lib.hid r3
  have HB := Lib.hid ((Below.refl _ w).alloc (Nat.le_refl _) (.cells #[.int .i64 z0, .int .i64 z1, .string z2, .slice A3 m c3] 29))
  clear hr hr_0 hr_1 hr_2 hr_3 r3 hpos3
  clear hm hw 
  go_enter Try.func37, Try.ntmps37
  go_wp2_with ((go_at_call 36; refine FDC.out.mono ?_; rintro e w3 ⟨rfl, hb3⟩; have HB3 := Lib.hid (HB.out.trans (hb3.mono HB.out.size)); have bx_w3_0 : w3.cell? ⟨w.heap.size, 0, none⟩ = some (.int .i64 z0) := (hb3.cell (p := ⟨w.heap.size, 0, none⟩) (by show w.heap.size < _; simp)).trans (by rw [World.cell?_alloc_new]; rfl); have bx_w3_1 : w3.cell? ⟨w.heap.size, 1, none⟩ = some (.int .i64 z1) := (hb3.cell (p := ⟨w.heap.size, 1, none⟩) (by show w.heap.size < _; simp)).trans (by rw [World.cell?_alloc_new]; rfl); have bx_w3_2 : w3.cell? ⟨w.heap.size, 2, none⟩ = some (.string z2) := (hb3.cell (p := ⟨w.heap.size, 2, none⟩) (by show w.heap.size < _; simp)).trans (by rw [World.cell?_alloc_new]; rfl); have bx_w3_3 : w3.cell? ⟨w.heap.size, 3, none⟩ = some (.slice A3 m c3) := (hb3.cell (p := ⟨w.heap.size, 3, none⟩) (by show w.heap.size < _; simp)).trans (by rw [World.cell?_alloc_new]; rfl); have sz_w3 : w.heap.size < w3.heap.size := Nat.lt_of_lt_of_le (by simp) hb3.size))
  all_goals (first | (go_ret; exact ⟨ret_bool (by (first | (simp_all [emT_t, emT_f, beq_0, statL]; done) | (simp_all [emT, beq_0, statL]; done) | (simp_all [emT_t, emT_f, beq_0, statL]; omega))), by first | exact HB7.out | exact HB6.out | exact HB5.out | exact HB4.out | exact HB3.out⟩))
theorem stS_badt_o (z0 z1 : Int) (z2 : ByteArray) (z3 : List FNode) (hw : (FNode.mk z0 z1 z2 z3).wt ≤ 9000000000) (fb : Bool) (hn : fN z0 z1 = true) (ht : fT z0 z2 = false)  (us : List Value) (w : World) (B : Nat) (hB0 : B ≤ w.heap.size) (hr : RdVs w B (FNode.mk z0 z1 z2 z3).c us) :
    Calls Try.prog 37 #[.agg us.toArray] w fun e w' => e = .returned (.bool (false)) ∧ Below w.heap.size w w' := by
  have FD := fd_spec _ hw
  rw [FNode.c_eq] at hr
  obtain ⟨us0, rfl, hr_0⟩ := hr.unv
  obtain ⟨us1, rfl, hr_1⟩ := hr_0.unv
  obtain ⟨us2, rfl, hr_2⟩ := hr_1.unv
  obtain ⟨A3, c3, us3, rfl, r3, hr_3⟩ := hr_2.uns
  obtain rfl := hr_3.un0
  rw [FNode.wt_eq] at hw
  have hz : z2.size ≤ 9223372036854775807 := by omega
  have hl : z3.length ≤ 9000000000 := by omega
  have HB0 : Below w.heap.size w (w.alloc (.cells #[.int .i64 z0, .int .i64 z1, .string z2, .slice A3 z3.length c3] 29)) := (Below.refl _ w).alloc (Nat.le_refl _) _
  have FDC := Lib.hid (FD [.int .i64 z0, .int .i64 z1, .string z2, .slice A3 z3.length c3] _ w.heap.size HB0.size (by rw [FNode.c_eq]; exact RdVs.cons (by unfold RdC; rfl) (RdVs.cons (by unfold RdC; rfl) (RdVs.cons (by unfold RdC; rfl) (RdVs.cons ((r3.up hB0).below HB0 (Nat.le_refl _)) (RdVs.nil _ _))))))
  simp only [FNode.kd, FNode.nu, FNode.tx] at FDC
  rw [hn, ht] at FDC
  clear FD HB0
  have hpos3 := r3
  obtain ⟨m, hm⟩ : ∃ m, z3.length = m := ⟨_, rfl⟩
  try rw [hm] at hl r3 FDC ⊢
  have HR := Lib.hid r3
  have HB := Lib.hid ((Below.refl _ w).alloc (Nat.le_refl _) (.cells #[.int .i64 z0, .int .i64 z1, .string z2, .slice A3 m c3] 29))
  clear hr hr_0 hr_1 hr_2 hr_3 r3 hpos3
  clear hm hw 
  go_enter Try.func37, Try.ntmps37
  go_wp2_with ((go_at_call 36; refine FDC.out.mono ?_; rintro e w3 ⟨rfl, hb3⟩; have HB3 := Lib.hid (HB.out.trans (hb3.mono HB.out.size)); have bx_w3_0 : w3.cell? ⟨w.heap.size, 0, none⟩ = some (.int .i64 z0) := (hb3.cell (p := ⟨w.heap.size, 0, none⟩) (by show w.heap.size < _; simp)).trans (by rw [World.cell?_alloc_new]; rfl); have bx_w3_1 : w3.cell? ⟨w.heap.size, 1, none⟩ = some (.int .i64 z1) := (hb3.cell (p := ⟨w.heap.size, 1, none⟩) (by show w.heap.size < _; simp)).trans (by rw [World.cell?_alloc_new]; rfl); have bx_w3_2 : w3.cell? ⟨w.heap.size, 2, none⟩ = some (.string z2) := (hb3.cell (p := ⟨w.heap.size, 2, none⟩) (by show w.heap.size < _; simp)).trans (by rw [World.cell?_alloc_new]; rfl); have bx_w3_3 : w3.cell? ⟨w.heap.size, 3, none⟩ = some (.slice A3 m c3) := (hb3.cell (p := ⟨w.heap.size, 3, none⟩) (by show w.heap.size < _; simp)).trans (by rw [World.cell?_alloc_new]; rfl); have sz_w3 : w.heap.size < w3.heap.size := Nat.lt_of_lt_of_le (by simp) hb3.size))
  all_goals (first | (go_ret; exact ⟨ret_bool (by (first | (simp_all [emT_t, emT_f, beq_0, statL]; done) | (simp_all [emT, beq_0, statL]; done) | (simp_all [emT_t, emT_f, beq_0, statL]; omega))), by first | exact HB7.out | exact HB6.out | exact HB5.out | exact HB4.out | exact HB3.out⟩))
end Go.Proofs.Ytgejkfcemlkclaa
