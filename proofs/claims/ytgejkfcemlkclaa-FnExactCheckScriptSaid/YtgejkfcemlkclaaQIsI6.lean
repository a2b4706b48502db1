/-
  Parts of the proof: IsI6. Conditions: none.
-/
import Derived.Test.YtgejkfcemlkclaaQGIsCIsI0
namespace Go.Proofs.Ytgejkfcemlkclaa
open Go.ChangeShapes Go.WideShapes Go.ChangeAt Go.RowKit Go.Deep Go.Joins
open Go.ChangeMaps (open_string shut_string)
set_option linter.unusedVariables false
set_option linter.unusedSimpArgs false
set_option maxRecDepth 100000
theorem inB_nat (m : Nat) : inB (m : Int) 1 2 = decide (1 ≤ m ∧ m ≤ 2) := by
  unfold inB
  rw [decide_eq_decide]
  omega
set_option maxHeartbeats 1000000 in
theorem exI_5 (z1 : Int) (z2 : ByteArray) (z3 : List FNode) (hw : (FNode.mk 5 z1 z2 z3).wt ≤ 9000000000) (hI : ∀ x, x ∈ z3 → AlI x.kids) : ExI (.mk 5 z1 z2 z3) := by
  intro us w B hmx hB0 hr
  rw [FNode.c_eq] at hr
  obtain ⟨us0, rfl, hr_0⟩ := hr.unv
  obtain ⟨us1, rfl, hr_1⟩ := hr_0.unv
  obtain ⟨us2, rfl, hr_2⟩ := hr_1.unv
  obtain ⟨A3, c3, us3, rfl, r3, hr_3⟩ := hr_2.uns
  obtain rfl := hr_3.un0
  rw [FNode.wt_eq] at hw
  have hz : z2.size ≤ 9223372036854775807 := by omega
  have hl : z3.length ≤ 9223372036854775807 := by omega
  have EX := Lib.hid (show exF ⟨5, z1, z2, z3⟩ = (((z1 == 0) && emT z2) && z3.all itF) from by rw [exF_mk]; rfl)
  have HC := Lib.hid r3
  have HI := Lib.hid hI
  have HZ := Lib.hid (show ∀ x, x ∈ z3 → x.kids.length ≤ 9000000000 from fun x hx => by
    have h1 := FNode.wts_at z3 x hx
    obtain ⟨y0, y1, y2, y3⟩ := x
    rw [FNode.wt_eq] at h1
    show y3.length ≤ _
    omega)
  clear hr r3 hr_0 hr_1 hr_2 hr_3 hw hI
  go_enter Try.func55, Try.ntmps55
  go_wp2_with fail
  go_loopw [65] (fun i wr => ∃ k : Nat, k ≤ z3.length ∧ i = .int .i64 k ∧ Hid ((z3.take k).all itF = true) ∧ Below w.heap.size w wr) (fun i _ => z3.length - (intOf i).toNat)
  case atStart => exact ⟨0, Nat.zero_le _, rfl, Lib.hid rfl, (Below.refl _ _).alloc (Nat.le_refl _) _⟩
  case round =>
    obtain ⟨k, hk, rfl, HA, hb⟩ := hrel
    have hbs := hb.size
    by_cases hlt : k < z3.length
    · skip
      obtain ⟨x, hx⟩ : ∃ x, z3[k]? = some x := ⟨_, List.getElem?_eq_getElem hlt⟩
      obtain ⟨bc, offc, rfl, hblc, hcc⟩ := RdC.at_ FNode.len HC.out hx
      have HX := Lib.hid hx
      have HM := Lib.hid (List.mem_of_getElem? hx)
      clear hx
      obtain ⟨y0, y1, y2, y3⟩ := x
      rw [FNode.c_eq] at hcc
      obtain ⟨u0, e0, q0⟩ := hcc 0 _ rfl
      obtain rfl := q0.val
      have c_0 : wr.cell? ⟨bc, offc + k * 4, none⟩ = some (.int .i64 y0) := (hb.cell (p := ⟨bc, _, none⟩) (by show bc < w.heap.size; omega)).trans (by simpa using e0)
      obtain ⟨u1, e1, q1⟩ := hcc 1 _ rfl
      obtain rfl := q1.val
      have c_1 : wr.cell? ⟨bc, offc + k * 4 + 1, none⟩ = some (.int .i64 y1) := (hb.cell (p := ⟨bc, _, none⟩) (by show bc < w.heap.size; omega)).trans (by simpa using e1)
      obtain ⟨u2, e2, q2⟩ := hcc 2 _ rfl
      obtain rfl := q2.val
      have c_2 : wr.cell? ⟨bc, offc + k * 4 + 2, none⟩ = some (.string y2) := (hb.cell (p := ⟨bc, _, none⟩) (by show bc < w.heap.size; omega)).trans (by simpa using e2)
      obtain ⟨u3, e3, q3⟩ := hcc 3 _ rfl
      obtain ⟨D, d, rfl⟩ := q3.form
      have c_3 : wr.cell? ⟨bc, offc + k * 4 + 3, none⟩ = some (.slice D y3.length d) := (hb.cell (p := ⟨bc, _, none⟩) (by show bc < w.heap.size; omega)).trans (by simpa using e3)
      have Q3 := Lib.hid q3
      clear hcc e0 e1 e2 e3 q0 q1 q2 q3
      have HV : Hid (AlI y3) := Lib.hid (HI.out _ HM.out)
      have hyl : y3.length ≤ 9000000000 := HZ.out _ HM.out
      have IT := Lib.hid (itF_mk y0 y1 y2 y3)
      by_cases e6 : y0 = 6
      · subst e6
        by_cases e0 : y1 = 0
        · subst e0
          have hb2 := Lib.hid (hb.alloc hbs (.cells #[.int .i64 6, .int .i64 0, .string y2, .slice D y3.length d] 29))
          have HV' := HV.out
          unfold AlI at HV'
          have CALL := Lib.hid (HV' (.slice D y3.length d) _ w.heap.size (hmx.below hb2.out) hb2.out.size ((Q3.out.up hB0).below hb2.out (Nat.le_refl _)))
          have HIN := Lib.hid (inB_nat y3.length)
          rw [← HIN.out] at IT
          clear HV'
          cases hv : y3.all exF with
          | true =>
            rw [hv] at CALL
            go_wp2_with (first | (go_at_call 54; refine (inRange_any _ _ _ _).mono ?_; rintro e w' ⟨rfl, rfl⟩) | (go_at_call 59; refine CALL.out.mono ?_; rintro e w' ⟨rfl, hb3⟩))
            all_goals first
              | (go_ret; exact ⟨ret_bool (by rw [EX.out, all_f HX.out (by rw [IT.out]; (first | (simp_all [emT_t, emT_f, beq_0, statL]; done) | (simp_all [emT, beq_0, statL]; done) | (simp_all [emT_t, emT_f, beq_0, statL]; omega))), Bool.and_false]), hb2.out⟩)
              | (go_ret; exact ⟨ret_bool (by rw [EX.out, all_f HX.out (by rw [IT.out]; (first | (simp_all [emT_t, emT_f, beq_0, statL]; done) | (simp_all [emT, beq_0, statL]; done) | (simp_all [emT_t, emT_f, beq_0, statL]; omega))), Bool.and_false]), hb2.out.trans (Below.mono (by assumption) hb2.out.size)⟩)
              | (go_roundw
                 case rel => exact ⟨k + 1, by omega, by go_num, Lib.hid (all_on HX.out HA.out (by rw [IT.out]; (first | (simp_all [emT_t, emT_f, beq_0, statL]; done) | (simp_all [emT, beq_0, statL]; done) | (simp_all [emT_t, emT_f, beq_0, statL]; omega)))), hb2.out.trans (Below.mono (by assumption) hb2.out.size)⟩
                 case measure => simp [intOf]; omega)
          | false =>
            rw [hv] at CALL
            go_wp2_with (first | (go_at_call 54; refine (inRange_any _ _ _ _).mono ?_; rintro e w' ⟨rfl, rfl⟩) | (go_at_call 59; refine CALL.out.mono ?_; rintro e w' ⟨rfl, hb3⟩))
            all_goals first
              | (go_ret; exact ⟨ret_bool (by rw [EX.out, all_f HX.out (by rw [IT.out]; (first | (simp_all [emT_t, emT_f, beq_0, statL]; done) | (simp_all [emT, beq_0, statL]; done) | (simp_all [emT_t, emT_f, beq_0, statL]; omega))), Bool.and_false]), hb2.out⟩)
              | (go_ret; exact ⟨ret_bool (by rw [EX.out, all_f HX.out (by rw [IT.out]; (first | (simp_all [emT_t, emT_f, beq_0, statL]; done) | (simp_all [emT, beq_0, statL]; done) | (simp_all [emT_t, emT_f, beq_0, statL]; omega))), Bool.and_false]), hb2.out.trans (Below.mono (by assumption) hb2.out.size)⟩)
              | (go_roundw
                 case rel => exact ⟨k + 1, by omega, by go_num, Lib.hid (all_on HX.out HA.out (by rw [IT.out]; (first | (simp_all [emT_t, emT_f, beq_0, statL]; done) | (simp_all [emT, beq_0, statL]; done) | (simp_all [emT_t, emT_f, beq_0, statL]; omega)))), hb2.out.trans (Below.mono (by assumption) hb2.out.size)⟩
                 case measure => simp [intOf]; omega)
        · have hb2 := Lib.hid (hb.alloc hbs (.cells #[.int .i64 6, .int .i64 y1, .string y2, .slice D y3.length d] 29))
          go_wp2_with fail
          go_ret
          exact ⟨ret_bool (by rw [EX.out, all_f HX.out (by rw [IT.out]; (first | (simp_all [emT_t, emT_f, beq_0, statL]; done) | (simp_all [emT, beq_0, statL]; done) | (simp_all [emT_t, emT_f, beq_0, statL]; omega))), Bool.and_false]), hb2.out⟩
      · have hb2 := Lib.hid (hb.alloc hbs (.cells #[.int .i64 y0, .int .i64 y1, .string y2, .slice D y3.length d] 29))
        go_wp2_with fail
        go_ret
        exact ⟨ret_bool (by rw [EX.out, all_f HX.out (by rw [IT.out]; (first | (simp_all [emT_t, emT_f, beq_0, statL]; done) | (simp_all [emT, beq_0, statL]; done) | (simp_all [emT_t, emT_f, beq_0, statL]; omega))), Bool.and_false]), hb2.out⟩
    · obtain rfl : k = z3.length := by omega
      clear hlt
      have h := HA.out
      rw [List.take_length] at h
      rw [h] at EX
      go_wp2_with fail
      all_goals (go_ret; exact ⟨ret_bool (by rw [EX.out]; (first | (simp_all [emT_t, emT_f, beq_0, statL]; done) | (simp_all [emT, beq_0, statL]; done) | (simp_all [emT_t, emT_f, beq_0, statL]; omega))), hb⟩)
set_option maxHeartbeats 1000000 in
theorem exI_21 (z1 : Int) (z2 : ByteArray) (z3 : List FNode) (hw : (FNode.mk 21 z1 z2 z3).wt ≤ 9000000000) (hA : AlI z3) (hz4 : z2.size ≤ 4000000000) : ExI (.mk 21 z1 z2 z3) := by
  intro us w B hmx hB0 hr
  rw [FNode.c_eq] at hr
  obtain ⟨us0, rfl, hr_0⟩ := hr.unv
  obtain ⟨us1, rfl, hr_1⟩ := hr_0.unv
  obtain ⟨us2, rfl, hr_2⟩ := hr_1.unv
  obtain ⟨A3, c3, us3, rfl, r3, hr_3⟩ := hr_2.uns
  obtain rfl := hr_3.un0
  rw [FNode.wt_eq] at hw
  have hz : z2.size ≤ 9223372036854775807 := by omega
  have hl : z3.length ≤ 9223372036854775807 := by omega
  have EX := Lib.hid (show exF ⟨21, z1, z2, z3⟩ = (((z1 == 0) && stcF z2) && z3.all exF) from by rw [exF_mk]; rfl)
  unfold AlI at hA
  obtain ⟨m, hm⟩ : ∃ m, z3.length = m := ⟨_, rfl⟩
  try rw [hm] at EX
  rw [hm] at hl r3 hA ⊢
  have HB := Lib.hid ((Below.refl _ w).alloc (Nat.le_refl _) (.cells #[.int .i64 21, .int .i64 z1, .string z2, .slice A3 m c3] 29))
  have CALL := Lib.hid (hA _ _ w.heap.size (hmx.below HB.out) HB.out.size ((r3.up hB0).below HB.out (Nat.le_refl _)))
  clear hm hr hr_0 hr_1 hr_2 hr_3 hw
  have HR := Lib.hid r3
  have HA := Lib.hid hA
  clear r3 hA CALL
  by_cases e2 : z1 = 0
  · subst e2
    go_enter Try.func55, Try.ntmps55
    go_wp2_with (first | (go_at_call 82; refine (static_impl z2 _ hz4 (hmx.below HB.out)).mono ?_; rintro e w3 ⟨rfl, hb3⟩; have HB3 := Lib.hid (HB.out.trans (hb3.mono HB.out.size)); have bx : w3.cell? ⟨w.heap.size, 3, none⟩ = some (.slice A3 m c3) := (hb3.cell (p := ⟨w.heap.size, 3, none⟩) (by show w.heap.size < _; simp)).trans (by rw [World.cell?_alloc_new]; rfl)) | (go_at_call 59; refine (HA.out _ _ w.heap.size (hmx.below HB3.out) HB3.out.size ((HR.out.up hB0).below HB3.out (Nat.le_refl _))).mono ?_; rintro e w4 ⟨rfl, hb4⟩))
    all_goals (first | (go_ret; exact ⟨ret_bool (by rw [EX.out]; (first | (simp_all [emT_t, emT_f, beq_0, statL]; done) | (simp_all [emT, beq_0, statL]; done) | (simp_all [emT_t, emT_f, beq_0, statL]; omega))), HB3.out⟩) | (go_ret; exact ⟨ret_bool (by rw [EX.out]; (first | (simp_all [emT_t, emT_f, beq_0, statL]; done) | (simp_all [emT, beq_0, statL]; done) | (simp_all [emT_t, emT_f, beq_0, statL]; omega))), HB3.out.trans (Below.mono (by assumption) HB3.out.size)⟩))
  ·
    go_enter Try.func55, Try.ntmps55
    go_wp2_with (fail)
    all_goals (first | (go_ret; exact ⟨ret_bool (by rw [EX.out]; (first | (simp_all [emT_t, emT_f, beq_0, statL]; done) | (simp_all [emT, beq_0, statL]; done) | (simp_all [emT_t, emT_f, beq_0, statL]; omega))), HB.out⟩) | (go_ret; exact ⟨ret_bool (by rw [EX.out]; (first | (simp_all [emT_t, emT_f, beq_0, statL]; done) | (simp_all [emT, beq_0, statL]; done) | (simp_all [emT_t, emT_f, beq_0, statL]; omega))), HB.out.trans (Below.mono (by assumption) HB.out.size)⟩))
end Go.Proofs.Ytgejkfcemlkclaa
