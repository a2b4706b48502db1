/-
  Parts of the proof: IsJ5, IsJ6. Conditions: none.
-/
import Derived.Test.YtgejkfcemlkclaaQGIsTScQ
namespace Go.Proofs.Ytgejkfcemlkclaa
open Go.ChangeShapes Go.WideShapes Go.ChangeAt Go.RowKit Go.Deep Go.Joins
open Go.ChangeMaps (open_string shut_string)
set_option linter.unusedVariables false
set_option linter.unusedSimpArgs false
set_option maxRecDepth 100000
def TgI (x : FNode) : Prop := ∀ (us : List Value) (w : World) (B : Nat), MaxAt w → B ≤ w.heap.size → RdVs w B x.c us → Calls Try.prog 60 #[.agg us.toArray] w fun e w' => e = .returned (.bool (tgN x && exF x)) ∧ Below w.heap.size w w'
theorem tg_and (x : FNode) : (tgW x && exF x) = (tgN x && exF x) := by
  cases h : exF x with
  | false => rw [Bool.and_false, Bool.and_false]
  | true => rw [tg_eq x h]
set_option maxHeartbeats 1000000 in
theorem tgI_of (x : FNode) (hw : x.wt ≤ 9000000000) (hE : ExI x) : TgI x := by
  intro us w B hmx hB0 hr
  have HQ := Lib.hid (tg_and x)
  have HV := Lib.hid hE
  have HT := Lib.hid (isT_impl x hw)
  obtain ⟨z0, z1, z2, z3⟩ := x
  rw [FNode.c_eq] at hr
  obtain ⟨us0, rfl, hr_0⟩ := hr.unv
  obtain ⟨us1, rfl, hr_1⟩ := hr_0.unv
  obtain ⟨us2, rfl, hr_2⟩ := hr_1.unv
  obtain ⟨A3, c3, us3, rfl, r3, hr_3⟩ := hr_2.uns
  obtain rfl := hr_3.un0
  rw [FNode.wt_eq] at hw
  have hl : z3.length ≤ 9223372036854775807 := by omega
  have HR := Lib.hid r3
  have HB := Lib.hid ((Below.refl _ w).alloc (Nat.le_refl _) (.cells #[.int .i64 z0, .int .i64 z1, .string z2, .slice A3 z3.length c3] 29))
  clear hr r3 hr_0 hr_1 hr_2 hr_3 hw hE
  have CALL := Lib.hid (HT.out [.int .i64 z0, .int .i64 z1, .string z2, .slice A3 z3.length c3] _ w.heap.size HB.out.size (by rw [FNode.c_eq]; exact RdVs.cons (by unfold RdC; rfl) (RdVs.cons (by unfold RdC; rfl) (RdVs.cons (by unfold RdC; rfl) (RdVs.cons ((HR.out.up hB0).below HB.out (Nat.le_refl _)) (RdVs.nil _ _))))))
  cases ht : tgW ⟨z0, z1, z2, z3⟩ with
  | false =>
    rw [ht] at CALL HQ
    go_enter Try.func60, Try.ntmps60
    go_wp2_with (go_at_call 81; refine CALL.out.mono ?_; rintro e w3 ⟨rfl, hb3⟩)
    go_ret
    exact ⟨ret_bool HQ.out, HB.out.trans (hb3.mono HB.out.size)⟩
  | true =>
    rw [ht] at CALL HQ
    go_enter Try.func60, Try.ntmps60
    go_wp2_with (first | (go_at_call 81; refine CALL.out.mono ?_; rintro e w3 ⟨rfl, hb3⟩; have HB3 := Lib.hid (HB.out.trans (hb3.mono HB.out.size)); have bx_0 : w3.cell? ⟨w.heap.size, 0, none⟩ = some (.int .i64 z0) := (hb3.cell (p := ⟨w.heap.size, 0, none⟩) (by show w.heap.size < _; simp)).trans (by rw [World.cell?_alloc_new]; rfl); have bx_1 : w3.cell? ⟨w.heap.size, 1, none⟩ = some (.int .i64 z1) := (hb3.cell (p := ⟨w.heap.size, 1, none⟩) (by show w.heap.size < _; simp)).trans (by rw [World.cell?_alloc_new]; rfl); have bx_2 : w3.cell? ⟨w.heap.size, 2, none⟩ = some (.string z2) := (hb3.cell (p := ⟨w.heap.size, 2, none⟩) (by show w.heap.size < _; simp)).trans (by rw [World.cell?_alloc_new]; rfl); have bx_3 : w3.cell? ⟨w.heap.size, 3, none⟩ = some (.slice A3 z3.length c3) := (hb3.cell (p := ⟨w.heap.size, 3, none⟩) (by show w.heap.size < _; simp)).trans (by rw [World.cell?_alloc_new]; rfl)) | (go_at_call 55; refine (HV.out [.int .i64 z0, .int .i64 z1, .string z2, .slice A3 z3.length c3] _ w.heap.size (hmx.below HB3.out) HB3.out.size (by rw [FNode.c_eq]; exact RdVs.cons (by unfold RdC; rfl) (RdVs.cons (by unfold RdC; rfl) (RdVs.cons (by unfold RdC; rfl) (RdVs.cons ((HR.out.up hB0).below HB3.out (Nat.le_refl _)) (RdVs.nil _ _)))))).mono ?_; rintro e w4 ⟨rfl, hb4⟩))
    all_goals (go_ret; exact ⟨ret_bool (by rw [← HQ.out]; simp), HB3.out.trans (hb4.mono HB3.out.size)⟩)
end Go.Proofs.Ytgejkfcemlkclaa
namespace Go.Proofs.Ytgejkfcemlkclaa
open Go.ChangeShapes Go.WideShapes Go.ChangeAt Go.RowKit Go.Deep Go.Joins
open Go.ChangeMaps (open_string shut_string)
set_option linter.unusedVariables false
set_option linter.unusedSimpArgs false
set_option maxRecDepth 100000
set_option maxHeartbeats 1000000 in
theorem stI_41 (z1 : Int) (z2 : ByteArray) (z3 : List FNode) (hw : (FNode.mk 41 z1 z2 z3).wt ≤ 9000000000) (hE : ∀ x, x ∈ z3 → TgI x) : StI (.mk 41 z1 z2 z3) := by
  intro us w B hmx hB0 hr
  rw [FNode.c_eq] at hr
  obtain ⟨us0, rfl, hr_0⟩ := hr.unv
  obtain ⟨us1, rfl, hr_1⟩ := hr_0.unv
  obtain ⟨us2, rfl, hr_2⟩ := hr_1.unv
  obtain ⟨A3, c3, us3, rfl, r3, hr_3⟩ := hr_2.uns
  obtain rfl := hr_3.un0
  rw [FNode.wt_eq] at hw
  have hz : z2.size ≤ 9223372036854775807 := by omega
  have hl : z3.length ≤ 9223372036854775807 := by omega
  have EX := Lib.hid (show stF ⟨41, z1, z2, z3⟩ = (((z1 == 0) && emT z2) && (z3.length == 1 && (hdT z3 && z3.all exF))) from by rw [stF_mk]; rfl)

  obtain ⟨m, hm⟩ : ∃ m, z3.length = m := ⟨_, rfl⟩
  try rw [hm] at EX
  rw [hm] at hl r3  ⊢
  have HB := Lib.hid ((Below.refl _ w).alloc (Nat.le_refl _) (.cells #[.int .i64 41, .int .i64 z1, .string z2, .slice A3 m c3] 29))

  clear hr hr_0 hr_1 hr_2 hr_3
  have HR := Lib.hid r3
  clear r3
  by_cases e2 : z1 = 0
  · subst e2
    by_cases e1 : m = 1
    · subst e1
      obtain ⟨⟨y0, y1, y2, y3⟩, rfl⟩ := List.length_eq_one_iff.mp hm
      have HV := Lib.hid (hE ⟨y0, y1, y2, y3⟩ (List.mem_singleton.mpr rfl))
      obtain ⟨bcy, offcy, Ey, hblcy, hcc⟩ := RdC.at_ (l := [FNode.mk y0 y1 y2 y3]) FNode.len HR.out (i := 0) (x := FNode.mk y0 y1 y2 y3) rfl
      rw [FNode.c_eq] at hcc
      obtain ⟨u0, e0, q0⟩ := hcc 0 _ rfl
      obtain rfl := q0.val
      have cy_0 : (w.alloc (.cells #[.int .i64 41, .int .i64 0, .string z2, .slice A3 1 c3] 29)).cell? ⟨bcy, offcy, none⟩ = some (.int .i64 y0) := (HB.out.cell (p := ⟨bcy, _, none⟩) (by show bcy < w.heap.size; omega)).trans (by simpa using e0)
      obtain ⟨u1, e1, q1⟩ := hcc 1 _ rfl
      obtain rfl := q1.val
      have cy_1 : (w.alloc (.cells #[.int .i64 41, .int .i64 0, .string z2, .slice A3 1 c3] 29)).cell? ⟨bcy, offcy + 1, none⟩ = some (.int .i64 y1) := (HB.out.cell (p := ⟨bcy, _, none⟩) (by show bcy < w.heap.size; omega)).trans (by simpa using e1)
      obtain ⟨u2, e2, q2⟩ := hcc 2 _ rfl
      obtain rfl := q2.val
      have cy_2 : (w.alloc (.cells #[.int .i64 41, .int .i64 0, .string z2, .slice A3 1 c3] 29)).cell? ⟨bcy, offcy + 2, none⟩ = some (.string y2) := (HB.out.cell (p := ⟨bcy, _, none⟩) (by show bcy < w.heap.size; omega)).trans (by simpa using e2)
      obtain ⟨u3, e3, q3⟩ := hcc 3 _ rfl
      obtain ⟨Dy, dy, rfl⟩ := q3.form
      have cy_3 : (w.alloc (.cells #[.int .i64 41, .int .i64 0, .string z2, .slice A3 1 c3] 29)).cell? ⟨bcy, offcy + 3, none⟩ = some (.slice Dy y3.length dy) := (HB.out.cell (p := ⟨bcy, _, none⟩) (by show bcy < w.heap.size; omega)).trans (by simpa using e3)
      have Qy := Lib.hid q3
      clear hcc e0 e1 e2 e3 q0 q1 q2 q3
      subst Ey
      have CALL := Lib.hid (HV.out [.int .i64 y0, .int .i64 y1, .string y2, .slice Dy y3.length dy] _ w.heap.size (hmx.below HB.out) HB.out.size (by rw [FNode.c_eq]; exact RdVs.cons (by unfold RdC; rfl) (RdVs.cons (by unfold RdC; rfl) (RdVs.cons (by unfold RdC; rfl) (RdVs.cons ((Qy.out.up hB0).below HB.out (Nat.le_refl _)) (RdVs.nil _ _))))))
      clear hm hw hE
      rw [show (hdT [FNode.mk y0 y1 y2 y3] && [FNode.mk y0 y1 y2 y3].all exF) = (tgN ⟨y0, y1, y2, y3⟩ && exF ⟨y0, y1, y2, y3⟩) from by simp [hdT]] at EX
      go_enter Try.func34, Try.ntmps34
      go_wp2_with (first | (go_at_call 60; refine CALL.out.mono ?_; rintro e w' ⟨rfl, hb3⟩))
      all_goals (first | (go_ret; exact ⟨ret_bool (by rw [EX.out]; (first | (simp_all [emT_t, emT_f, beq_0, statL]; done) | (simp_all [emT, beq_0, statL]; done) | (simp_all [emT_t, emT_f, beq_0, statL]; omega))), HB.out⟩) | (go_ret; exact ⟨ret_bool (by rw [EX.out]; (first | (simp_all [emT_t, emT_f, beq_0, statL]; done) | (simp_all [emT, beq_0, statL]; done) | (simp_all [emT_t, emT_f, beq_0, statL]; omega))), HB.out.trans (Below.mono (by assumption) HB.out.size)⟩))
    · clear hm hw hE
      go_enter Try.func34, Try.ntmps34
      go_wp2_with (fail)
      all_goals (first | (go_ret; exact ⟨ret_bool (by rw [EX.out]; (first | (simp_all [emT_t, emT_f, beq_0, statL]; done) | (simp_all [emT, beq_0, statL]; done) | (simp_all [emT_t, emT_f, beq_0, statL]; omega))), HB.out⟩) | (go_ret; exact ⟨ret_bool (by rw [EX.out]; (first | (simp_all [emT_t, emT_f, beq_0, statL]; done) | (simp_all [emT, beq_0, statL]; done) | (simp_all [emT_t, emT_f, beq_0, statL]; omega))), HB.out.trans (Below.mono (by assumption) HB.out.size)⟩))
  · clear hm hw hE
    go_enter Try.func34, Try.ntmps34
    go_wp2_with (fail)
    all_goals (first | (go_ret; exact ⟨ret_bool (by rw [EX.out]; (first | (simp_all [emT_t, emT_f, beq_0, statL]; done) | (simp_all [emT, beq_0, statL]; done) | (simp_all [emT_t, emT_f, beq_0, statL]; omega))), HB.out⟩) | (go_ret; exact ⟨ret_bool (by rw [EX.out]; (first | (simp_all [emT_t, emT_f, beq_0, statL]; done) | (simp_all [emT, beq_0, statL]; done) | (simp_all [emT_t, emT_f, beq_0, statL]; omega))), HB.out.trans (Below.mono (by assumption) HB.out.size)⟩))
end Go.Proofs.Ytgejkfcemlkclaa
