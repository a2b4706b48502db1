/-
  Parts of the proof: IsS8. Conditions: none.
-/
import Derived.Test.YtgejkfcemlkclaaQIsS4
import Derived.Test.YtgejkfcemlkclaaQIsI6
namespace Go.Proofs.Ytgejkfcemlkclaa
open Go.ChangeShapes Go.WideShapes Go.ChangeAt Go.RowKit Go.Deep Go.Joins
open Go.ChangeMaps (open_string shut_string)
set_option linter.unusedVariables false
set_option linter.unusedSimpArgs false
set_option maxRecDepth 100000
set_option maxHeartbeats 1000000 in
theorem exS_5 (z1 : Int) (z2 : ByteArray) (z3 : List FNode) (hw : (FNode.mk 5 z1 z2 z3).wt ≤ 9000000000) (hn : fN 5 z1 = true) (ht : fT 5 z2 = true) (hI : ∀ x, x ∈ z3 → EaS x.kids) (us : List Value) (w : World) (B : Nat) (hB0 : B ≤ w.heap.size) (hr : RdVs w B (FNode.mk 5 z1 z2 z3).c us) :
    Calls Try.prog 68 #[.agg us.toArray] w fun e w' => e = .returned (.bool (z3.all itF)) ∧ Below w.heap.size w w' := by
  have FD := fd_spec _ hw
  rw [FNode.c_eq] at hr
  obtain ⟨us0, rfl, hr_0⟩ := hr.unv
  obtain ⟨us1, rfl, hr_1⟩ := hr_0.unv
  obtain ⟨us2, rfl, hr_2⟩ := hr_1.unv
  obtain ⟨A3, c3, us3, rfl, r3, hr_3⟩ := hr_2.uns
  obtain rfl := hr_3.un0
  rw [FNode.wt_eq] at hw
  have hz : z2.size ≤ 9223372036854775807 := by omega
  have hl : z3.length ≤ 9000000000 := by omega
  have HB0 : Below w.heap.size w (w.alloc (.cells #[.int .i64 5, .int .i64 z1, .string z2, .slice A3 z3.length c3] 29)) := (Below.refl _ w).alloc (Nat.le_refl _) _
  have FDC := Lib.hid (FD [.int .i64 5, .int .i64 z1, .string z2, .slice A3 z3.length c3] _ w.heap.size HB0.size (by rw [FNode.c_eq]; exact RdVs.cons (by unfold RdC; rfl) (RdVs.cons (by unfold RdC; rfl) (RdVs.cons (by unfold RdC; rfl) (RdVs.cons ((r3.up hB0).below HB0 (Nat.le_refl _)) (RdVs.nil _ _))))))
  simp only [FNode.kd, FNode.nu, FNode.tx] at FDC
  rw [hn, ht] at FDC
  clear FD HB0
  have hpos3 := r3
  obtain ⟨m, hm⟩ : ∃ m, z3.length = m := ⟨_, rfl⟩
  try rw [hm] at hl r3 FDC ⊢
  have HR := Lib.hid r3
  have HB := Lib.hid ((Below.refl _ w).alloc (Nat.le_refl _) (.cells #[.int .i64 5, .int .i64 z1, .string z2, .slice A3 m c3] 29))
  clear hr hr_0 hr_1 hr_2 hr_3 r3 hpos3
  have HI := Lib.hid hI
  have HC : Hid (RdC w B (.s 29 4 z3.length (FNode.flat z3)) (.slice A3 z3.length c3)) := Lib.hid (by rw [hm]; exact HR.out)
  have HM0 := Lib.hid hm
  have HZ := Lib.hid (show ∀ x, x ∈ z3 → x.kids.length ≤ 9000000000 from fun x hx => by
    have h1 := FNode.wts_at z3 x hx
    obtain ⟨y0, y1, y2, y3⟩ := x
    rw [FNode.wt_eq] at h1
    show y3.length ≤ _
    omega)
  clear hm hw hI
  go_enter Try.func68, Try.ntmps68
  go_wp2_with ((go_at_call 36; refine FDC.out.mono ?_; rintro e w3 ⟨rfl, hb3⟩; have HB3 := Lib.hid (HB.out.trans (hb3.mono HB.out.size)); have bx_w3_0 : w3.cell? ⟨w.heap.size, 0, none⟩ = some (.int .i64 5) := (hb3.cell (p := ⟨w.heap.size, 0, none⟩) (by show w.heap.size < _; simp)).trans (by rw [World.cell?_alloc_new]; rfl); have bx_w3_1 : w3.cell? ⟨w.heap.size, 1, none⟩ = some (.int .i64 z1) := (hb3.cell (p := ⟨w.heap.size, 1, none⟩) (by show w.heap.size < _; simp)).trans (by rw [World.cell?_alloc_new]; rfl); have bx_w3_2 : w3.cell? ⟨w.heap.size, 2, none⟩ = some (.string z2) := (hb3.cell (p := ⟨w.heap.size, 2, none⟩) (by show w.heap.size < _; simp)).trans (by rw [World.cell?_alloc_new]; rfl); have bx_w3_3 : w3.cell? ⟨w.heap.size, 3, none⟩ = some (.slice A3 m c3) := (hb3.cell (p := ⟨w.heap.size, 3, none⟩) (by show w.heap.size < _; simp)).trans (by rw [World.cell?_alloc_new]; rfl); have sz_w3 : w.heap.size < w3.heap.size := Nat.lt_of_lt_of_le (by simp) hb3.size))
  go_loopw [6] (fun i wr => ∃ k : Nat, k ≤ m ∧ i = .int .i64 k ∧ Hid ((z3.take k).all itF = true) ∧ Below w.heap.size w wr ∧ wr.cell? ⟨w.heap.size, 3, none⟩ = some (.slice A3 m c3) ∧ w.heap.size < wr.heap.size) (fun i _ => m - (intOf i).toNat)
  case atStart => exact ⟨0, Nat.zero_le _, rfl, Lib.hid rfl, HB3.out, bx_w3_3, sz_w3⟩
  case round =>
    obtain ⟨k, hk, rfl, HA, hb, hbox, hlt0⟩ := hrel
    have hbs := hb.size
    by_cases hlt1 : k < m
    · have hlt : k < z3.length := by have := HM0.out; omega
      obtain ⟨x, hx⟩ : ∃ x, z3[k]? = some x := ⟨_, List.getElem?_eq_getElem hlt⟩
      obtain ⟨bc, offc, rfl, hblc, hcc⟩ := RdC.at_ FNode.len HC.out hx
      have HX := Lib.hid hx
      have HM := Lib.hid (List.mem_of_getElem? hx)
      clear hx
      obtain ⟨y0, y1, y2, y3⟩ := x
      rw [FNode.c_eq] at hcc
      obtain ⟨u0, e0, q0⟩ := hcc 0 _ rfl
      obtain rfl := q0.val
      have c_0 : wr.cell? ⟨bc, offc + k * 4, none⟩ = some (.int .i64 y0) := (hb.cell (p := ⟨bc, _, none⟩) (by show bc < w.heap.size; omega)).trans (by simpa using e0)
      obtain ⟨u1, e1, q1⟩ := hcc 1 _ rfl
      obtain rfl := q1.val
      have c_1 : wr.cell? ⟨bc, offc + k * 4 + 1, none⟩ = some (.int .i64 y1) := (hb.cell (p := ⟨bc, _, none⟩) (by show bc < w.heap.size; omega)).trans (by simpa using e1)
      obtain ⟨u2, e2, q2⟩ := hcc 2 _ rfl
      obtain rfl := q2.val
      have c_2 : wr.cell? ⟨bc, offc + k * 4 + 2, none⟩ = some (.string y2) := (hb.cell (p := ⟨bc, _, none⟩) (by show bc < w.heap.size; omega)).trans (by simpa using e2)
      obtain ⟨u3, e3, q3⟩ := hcc 3 _ rfl
      obtain ⟨D, d, rfl⟩ := q3.form
      have c_3 : wr.cell? ⟨bc, offc + k * 4 + 3, none⟩ = some (.slice D y3.length d) := (hb.cell (p := ⟨bc, _, none⟩) (by show bc < w.heap.size; omega)).trans (by simpa using e3)
      have Q3 := Lib.hid q3
      clear hcc e0 e1 e2 e3 q0 q1 q2 q3
      have HV : Hid (EaS y3) := Lib.hid (HI.out _ HM.out)
      have hyl : y3.length ≤ 9000000000 := HZ.out _ HM.out
      have IT := Lib.hid (itF_mk y0 y1 y2 y3)
      obtain ⟨q, hq⟩ : ∃ q, y3.length = q := ⟨_, rfl⟩
      have Q3' := Q3.out
      have HV' := HV.out
      unfold EaS at HV'
      rw [hq] at c_3 hyl IT Q3' HV'
      have Q4 := Lib.hid Q3'
      have HIN := Lib.hid (inB_nat q)
      clear hq Q3 Q3' HV
      by_cases e6 : y0 = 6
      · subst e6
        by_cases e0 : y1 = 0
        · subst e0
          by_cases et : y2.toList = []
          · have IT2 := Lib.hid (show itF ⟨6, 0, y2, y3⟩ = (decide (1 ≤ q ∧ q ≤ 2) && y3.all exF) from by rw [IT.out, emT_t et]; rfl)
            clear IT
            have hb2 := Lib.hid (hb.alloc hbs (.cells #[.int .i64 6, .int .i64 0, .string y2, .slice D q d] 29))
            have kb2 := (Below.refl wr.heap.size wr).alloc (Nat.le_refl _) (.cells #[.int .i64 6, .int .i64 0, .string y2, .slice D q d] 29)
            have CALL := Lib.hid (HV' (.slice D q d) _ w.heap.size hb2.out.size ((Q4.out.up hB0).below hb2.out (Nat.le_refl _)))
            clear HV'
            by_cases hq2 : 1 ≤ q ∧ q ≤ 2
            · rw [decide_eq_true hq2] at HIN IT2
              cases hv : y3.all exF with
              | true =>
                rw [hv] at CALL IT2
                go_wp2_with (first | (go_at_call 64; refine (l1In_any _ _ _ _).mono ?_; rw [HIN.out]; rintro e w' ⟨rfl, rfl⟩) | (go_at_call 69; refine CALL.out.mono ?_; rintro e w5 ⟨rfl, hb5⟩; have HB5 := Lib.hid (hb2.out.trans (hb5.mono hb2.out.size)); have KB5 := kb2.trans (hb5.mono kb2.size)))
                go_roundw
                case rel => exact ⟨k + 1, by omega, by go_num, Lib.hid (all_on HX.out HA.out IT2.out), HB5.out, boxk KB5 hlt0 hbox⟩
                case measure => simp [intOf]; omega
              | false =>
                rw [hv] at CALL IT2
                have HF := Lib.hid (all_f HX.out (IT2.out.trans (Bool.and_false _)))
                go_wp2_with (first | (go_at_call 64; refine (l1In_any _ _ _ _).mono ?_; rw [HIN.out]; rintro e w' ⟨rfl, rfl⟩) | (go_at_call 69; refine CALL.out.mono ?_; rintro e w5 ⟨rfl, hb5⟩; have HB5 := Lib.hid (hb2.out.trans (hb5.mono hb2.out.size)); have KB5 := kb2.trans (hb5.mono kb2.size)))
                go_ret
                exact ⟨ret_bool HF.out.symm, HB5.out⟩
            · rw [decide_eq_false hq2] at HIN IT2
              have HF := Lib.hid (all_f HX.out IT2.out)
              go_wp2_with (first | (go_at_call 64; refine (l1In_any _ _ _ _).mono ?_; rw [HIN.out]; rintro e w' ⟨rfl, rfl⟩))
              go_ret
              exact ⟨ret_bool HF.out.symm, hb2.out⟩
          · rw [emT_f et, Bool.false_and, Bool.and_false, Bool.and_false] at IT
            have HF := Lib.hid (all_f HX.out IT.out)
            have hb2 := Lib.hid (hb.alloc hbs (.cells #[.int .i64 6, .int .i64 0, .string y2, .slice D q d] 29))
            clear HV'
            go_wp2_with fail
            all_goals first
              | (go_ret; exact ⟨ret_bool HF.out.symm, hb2.out⟩)
              | contradiction
        · rw [beq_false_of_ne e0, Bool.false_and, Bool.and_false] at IT
          have HF := Lib.hid (all_f HX.out IT.out)
          have hb2 := Lib.hid (hb.alloc hbs (.cells #[.int .i64 6, .int .i64 y1, .string y2, .slice D q d] 29))
          clear HV'
          go_wp2_with fail
          go_ret
          exact ⟨ret_bool HF.out.symm, hb2.out⟩
      · rw [beq_false_of_ne e6, Bool.false_and] at IT
        have HF := Lib.hid (all_f HX.out IT.out)
        have hb2 := Lib.hid (hb.alloc hbs (.cells #[.int .i64 y0, .int .i64 y1, .string y2, .slice D q d] 29))
        clear HV'
        go_wp2_with fail
        go_ret
        exact ⟨ret_bool HF.out.symm, hb2.out⟩
    · obtain rfl : k = m := by omega
      clear hlt1
      have h := HA.out
      rw [List.take_of_length_le (by rw [HM0.out]; exact Nat.le_refl _)] at h
      go_wp2_with fail
      all_goals (go_ret; exact ⟨ret_bool h.symm, hb⟩)
set_option maxHeartbeats 1000000 in
theorem exS_o (z0 z1 : Int) (z2 : ByteArray) (z3 : List FNode) (hw : (FNode.mk z0 z1 z2 z3).wt ≤ 9000000000) (hn : fN z0 z1 = true) (ht : fT z0 z2 = true) (n1 : ¬ z0 = 1) (n2 : ¬ z0 = 2) (n3 : ¬ z0 = 3) (n4 : ¬ z0 = 4) (n5 : ¬ z0 = 5) (n7 : ¬ z0 = 7) (n8 : ¬ z0 = 8) (n9 : ¬ z0 = 9) (n10 : ¬ z0 = 10) (n11 : ¬ z0 = 11) (n12 : ¬ z0 = 12) (n13 : ¬ z0 = 13) (n14 : ¬ z0 = 14) (n15 : ¬ z0 = 15) (n16 : ¬ z0 = 16) (n17 : ¬ z0 = 17) (n18 : ¬ z0 = 18) (n19 : ¬ z0 = 19) (n20 : ¬ z0 = 20) (n21 : ¬ z0 = 21) (n22 : ¬ z0 = 22) (n23 : ¬ z0 = 23) (us : List Value) (w : World) (B : Nat) (hB0 : B ≤ w.heap.size) (hr : RdVs w B (FNode.mk z0 z1 z2 z3).c us) :
    Calls Try.prog 68 #[.agg us.toArray] w fun e w' => e = .returned (.bool (false)) ∧ Below w.heap.size w w' := by
  have FD := fd_spec _ hw
  rw [FNode.c_eq] at hr
  obtain ⟨us0, rfl, hr_0⟩ := hr.unv
  obtain ⟨us1, rfl, hr_1⟩ := hr_0.unv
  obtain ⟨us2, rfl, hr_2⟩ := hr_1.unv
  obtain ⟨A3, c3, us3, rfl, r3, hr_3⟩ := hr_2.uns
  obtain rfl := hr_3.un0
  rw [FNode.wt_eq] at hw
  have hz : z2.size ≤ 9223372036854775807 := by omega
  have hl : z3.length ≤ 9000000000 := by omega
  have HB0 : Below w.heap.size w (w.alloc (.cells #[.int .i64 z0, .int .i64 z1, .string z2, .slice A3 z3.length c3] 29)) := (Below.refl _ w).alloc (Nat.le_refl _) _
  have FDC := Lib.hid (FD [.int .i64 z0, .int .i64 z1, .string z2, .slice A3 z3.length c3] _ w.heap.size HB0.size (by rw [FNode.c_eq]; exact RdVs.cons (by unfold RdC; rfl) (RdVs.cons (by unfold RdC; rfl) (RdVs.cons (by unfold RdC; rfl) (RdVs.cons ((r3.up hB0).below HB0 (Nat.le_refl _)) (RdVs.nil _ _))))))
  simp only [FNode.kd, FNode.nu, FNode.tx] at FDC
  rw [hn, ht] at FDC
  clear FD HB0
  have hpos3 := r3
  obtain ⟨m, hm⟩ : ∃ m, z3.length = m := ⟨_, rfl⟩
  try rw [hm] at hl r3 FDC ⊢
  have HR := Lib.hid r3
  have HB := Lib.hid ((Below.refl _ w).alloc (Nat.le_refl _) (.cells #[.int .i64 z0, .int .i64 z1, .string z2, .slice A3 m c3] 29))
  clear hr hr_0 hr_1 hr_2 hr_3 r3 hpos3
  clear hm hw 
  go_enter Try.func68, Try.ntmps68
  go_wp2_with ((go_at_call 36; refine FDC.out.mono ?_; rintro e w3 ⟨rfl, hb3⟩; have HB3 := Lib.hid (HB.out.trans (hb3.mono HB.out.size)); have bx_w3_0 : w3.cell? ⟨w.heap.size, 0, none⟩ = some (.int .i64 z0) := (hb3.cell (p := ⟨w.heap.size, 0, none⟩) (by show w.heap.size < _; simp)).trans (by rw [World.cell?_alloc_new]; rfl); have bx_w3_1 : w3.cell? ⟨w.heap.size, 1, none⟩ = some (.int .i64 z1) := (hb3.cell (p := ⟨w.heap.size, 1, none⟩) (by show w.heap.size < _; simp)).trans (by rw [World.cell?_alloc_new]; rfl); have bx_w3_2 : w3.cell? ⟨w.heap.size, 2, none⟩ = some (.string z2) := (hb3.cell (p := ⟨w.heap.size, 2, none⟩) (by show w.heap.size < _; simp)).trans (by rw [World.cell?_alloc_new]; rfl); have bx_w3_3 : w3.cell? ⟨w.heap.size, 3, none⟩ = some (.slice A3 m c3) := (hb3.cell (p := ⟨w.heap.size, 3, none⟩) (by show w.heap.size < _; simp)).trans (by rw [World.cell?_alloc_new]; rfl); have sz_w3 : w.heap.size < w3.heap.size := Nat.lt_of_lt_of_le (by simp) hb3.size))
  all_goals (first | (go_ret; exact ⟨ret_bool (by (first | (simp_all [emT_t, emT_f, beq_0, statL]; done) | (simp_all [emT, beq_0, statL]; done) | (simp_all [emT_t, emT_f, beq_0, statL]; omega))), by first | exact HB7.out | exact HB6.out | exact HB5.out | exact HB4.out | exact HB3.out⟩))
theorem exS_badf_o (z0 z1 : Int) (z2 : ByteArray) (z3 : List FNode) (hw : (FNode.mk z0 z1 z2 z3).wt ≤ 9000000000) (fb : Bool) (hn : fN z0 z1 = false) (ht : fT z0 z2 = fb)  (us : List Value) (w : World) (B : Nat) (hB0 : B ≤ w.heap.size) (hr : RdVs w B (FNode.mk z0 z1 z2 z3).c us) :
    Calls Try.prog 68 #[.agg us.toArray] w fun e w' => e = .returned (.bool (false)) ∧ Below w.heap.size w w' := by
  have FD := fd_spec _ hw
  rw [FNode.c_eq] at hr
  obtain ⟨us0, rfl, hr_0⟩ := hr.unv
  obtain ⟨us1, rfl, hr_1⟩ := hr_0.unv
  obtain ⟨us2, rfl, hr_2⟩ := hr_1.unv
  obtain ⟨A3, c3, us3, rfl, r3, hr_3⟩ := hr_2.uns
  obtain rfl := hr_3.un0
  rw [FNode.wt_eq] at hw
  have hz : z2.size ≤ 9223372036854775807 := by omega
  have hl : z3.length ≤ 9000000000 := by omega
  have HB0 : Below w.heap.size w (w.alloc (.cells #[.int .i64 z0, .int .i64 z1, .string z2, .slice A3 z3.length c3] 29)) := (Below.refl _ w).alloc (Nat.le_refl _) _
  have FDC := Lib.hid (FD [.int .i64 z0, .int .i64 z1, .string z2, .slice A3 z3.length c3] _ w.heap.size HB0.size (by rw [FNode.c_eq]; exact RdVs.cons (by unfold RdC; rfl) (RdVs.cons (by unfold RdC; rfl) (RdVs.cons (by unfold RdC; rfl) (RdVs.cons ((r3.up hB0).below HB0 (Nat.le_refl _)) (RdVs.nil _ _))))))
  simp only [FNode.kd, FNode.nu, FNode.tx] at FDC
  rw [hn, ht] at FDC
  clear FD HB0
  have hpos3 := r3
  obtain ⟨m, hm⟩ : ∃ m, z3.length = m := ⟨_, rfl⟩
  try rw [hm] at hl r3 FDC ⊢
  have HR := Lib.hid r3
  have HB := Lib.hid ((Below.refl _ w).alloc (Nat.le_refl _) (.cells #[.int .i64 z0, .int .i64 z1, .string z2, .slice A3 m c3] 29))
  clear hr hr_0 hr_1 hr_2 hr_3 r3 hpos3
  clear hm hw 
  go_enter Try.func68, Try.ntmps68
  go_wp2_with ((go_at_call 36; refine FDC.out.mono ?_; rintro e w3 ⟨rfl, hb3⟩; have HB3 := Lib.hid (HB.out.trans (hb3.mono HB.out.size)); have bx_w3_0 : w3.cell? ⟨w.heap.size, 0, none⟩ = some (.int .i64 z0) := (hb3.cell (p := ⟨w.heap.size, 0, none⟩) (by show w.heap.size < _; simp)).trans (by rw [World.cell?_alloc_new]; rfl); have bx_w3_1 : w3.cell? ⟨w.heap.size, 1, none⟩ = some (.int .i64 z1) := (hb3.cell (p := ⟨w.heap.size, 1, none⟩) (by show w.heap.size < _; simp)).trans (by rw [World.cell?_alloc_new]; rfl); have bx_w3_2 : w3.cell? ⟨w.heap.size, 2, none⟩ = some (.string z2) := (hb3.cell (p := ⟨w.heap.size, 2, none⟩) (by show w.heap.size < _; simp)).trans (by rw [World.cell?_alloc_new]; rfl); have bx_w3_3 : w3.cell? ⟨w.heap.size, 3, none⟩ = some (.slice A3 m c3) := (hb3.cell (p := ⟨w.heap.size, 3, none⟩) (by show w.heap.size < _; simp)).trans (by rw [World.cell?_alloc_new]; rfl); have sz_w3 : w.heap.size < w3.heap.size := Nat.lt_of_lt_of_le (by simp) hb3.size))
  all_goals (first | (go_ret; exact ⟨ret_bool (by (first | (simp_all [emT_t, emT_f, beq_0, statL]; done) | (simp_all [emT, beq_0, statL]; done) | (simp_all [emT_t, emT_f, beq_0, statL]; omega))), by first | exact HB7.out | exact HB6.out | exact HB5.out | exact HB4.out | exact HB3.out⟩))
theorem exS_badt_o (z0 z1 : Int) (z2 : ByteArray) (z3 : List FNode) (hw : (FNode.mk z0 z1 z2 z3).wt ≤ 9000000000) (fb : Bool) (hn : fN z0 z1 = true) (ht : fT z0 z2 = false)  (us : List Value) (w : World) (B : Nat) (hB0 : B ≤ w.heap.size) (hr : RdVs w B (FNode.mk z0 z1 z2 z3).c us) :
    Calls Try.prog 68 #[.agg us.toArray] w fun e w' => e = .returned (.bool (false)) ∧ Below w.heap.size w w' := by
  have FD := fd_spec _ hw
  rw [FNode.c_eq] at hr
  obtain ⟨us0, rfl, hr_0⟩ := hr.unv
  obtain ⟨us1, rfl, hr_1⟩ := hr_0.unv
  obtain ⟨us2, rfl, hr_2⟩ := hr_1.unv
  obtain ⟨A3, c3, us3, rfl, r3, hr_3⟩ := hr_2.uns
  obtain rfl := hr_3.un0
  rw [FNode.wt_eq] at hw
  have hz : z2.size ≤ 9223372036854775807 := by omega
  have hl : z3.length ≤ 9000000000 := by omega
  have HB0 : Below w.heap.size w (w.alloc (.cells #[.int .i64 z0, .int .i64 z1, .string z2, .slice A3 z3.length c3] 29)) := (Below.refl _ w).alloc (Nat.le_refl _) _
  have FDC := Lib.hid (FD [.int .i64 z0, .int .i64 z1, .string z2, .slice A3 z3.length c3] _ w.heap.size HB0.size (by rw [FNode.c_eq]; exact RdVs.cons (by unfold RdC; rfl) (RdVs.cons (by unfold RdC; rfl) (RdVs.cons (by unfold RdC; rfl) (RdVs.cons ((r3.up hB0).below HB0 (Nat.le_refl _)) (RdVs.nil _ _))))))
  simp only [FNode.kd, FNode.nu, FNode.tx] at FDC
  rw [hn, ht] at FDC
  clear FD HB0
  have hpos3 := r3
  obtain ⟨m, hm⟩ : ∃ m, z3.length = m := ⟨_, rfl⟩
  try rw [hm] at hl r3 FDC ⊢
  have HR := Lib.hid r3
  have HB := Lib.hid ((Below.refl _ w).alloc (Nat.le_refl _) (.cells #[.int .i64 z0, .int .i64 z1, .string z2, .slice A3 m c3] 29))
  clear hr hr_0 hr_1 hr_2 hr_3 r3 hpos3
  clear hm hw 
  go_enter Try.func68, Try.ntmps68
  go_wp2_with ((go_at_call 36; refine FDC.out.mono ?_; rintro e w3 ⟨rfl, hb3⟩; have HB3 := Lib.hid (HB.out.trans (hb3.mono HB.out.size)); have bx_w3_0 : w3.cell? ⟨w.heap.size, 0, none⟩ = some (.int .i64 z0) := (hb3.cell (p := ⟨w.heap.size, 0, none⟩) (by show w.heap.size < _; simp)).trans (by rw [World.cell?_alloc_new]; rfl); have bx_w3_1 : w3.cell? ⟨w.heap.size, 1, none⟩ = some (.int .i64 z1) := (hb3.cell (p := ⟨w.heap.size, 1, none⟩) (by show w.heap.size < _; simp)).trans (by rw [World.cell?_alloc_new]; rfl); have bx_w3_2 : w3.cell? ⟨w.heap.size, 2, none⟩ = some (.string z2) := (hb3.cell (p := ⟨w.heap.size, 2, none⟩) (by show w.heap.size < _; simp)).trans (by rw [World.cell?_alloc_new]; rfl); have bx_w3_3 : w3.cell? ⟨w.heap.size, 3, none⟩ = some (.slice A3 m c3) := (hb3.cell (p := ⟨w.heap.size, 3, none⟩) (by show w.heap.size < _; simp)).trans (by rw [World.cell?_alloc_new]; rfl); have sz_w3 : w.heap.size < w3.heap.size := Nat.lt_of_lt_of_le (by simp) hb3.size))
  all_goals (first | (go_ret; exact ⟨ret_bool (by (first | (simp_all [emT_t, emT_f, beq_0, statL]; done) | (simp_all [emT, beq_0, statL]; done) | (simp_all [emT_t, emT_f, beq_0, statL]; omega))), by first | exact HB7.out | exact HB6.out | exact HB5.out | exact HB4.out | exact HB3.out⟩))
end Go.Proofs.Ytgejkfcemlkclaa
