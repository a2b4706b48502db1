/-
  Parts of the proof: IsK5. Conditions: none.
-/
import Derived.Test.YtgejkfcemlkclaaQGIsK2IsK4
namespace Go.Proofs.Ytgejkfcemlkclaa
open Go.ChangeShapes Go.WideShapes Go.ChangeAt Go.RowKit Go.Deep Go.Joins
open Go.ChangeMaps (open_string shut_string)
set_option linter.unusedVariables false
set_option linter.unusedSimpArgs false
set_option maxRecDepth 100000
set_option maxHeartbeats 2000000 in
theorem top_51 (z2 : ByteArray) (z3 : List FNode) (hw : (FNode.mk 51 0 z2 z3).wt ≤ 1000000000) (hgo : goodF z2 = true) (us : List Value) (w : World) (B : Nat) (hmx : MaxAt w) (hB0 : B ≤ w.heap.size) (hr : RdVs w B (FNode.mk 51 0 z2 z3).c us) :
    Calls Try.prog 33 #[.agg us.toArray] w fun e w' => e = .returned (.bool (clsP false 0 z3)) ∧ Below w.heap.size w w' := by
  rw [FNode.c_eq] at hr
  obtain ⟨us0, rfl, hr_0⟩ := hr.unv
  obtain ⟨us1, rfl, hr_1⟩ := hr_0.unv
  obtain ⟨us2, rfl, hr_2⟩ := hr_1.unv
  obtain ⟨A3, c3, us3, rfl, r3, hr_3⟩ := hr_2.uns
  obtain rfl := hr_3.un0
  have hww := hw
  rw [FNode.wt_eq] at hw
  have hz : z2.size ≤ 9223372036854775807 := by omega
  have hl : z3.length ≤ 9223372036854775807 := by omega
  have HB := Lib.hid ((Below.refl _ w).alloc (Nat.le_refl _) (.cells #[.int .i64 51, .int .i64 0, .string z2, .slice A3 z3.length c3] 29))
  have HC := Lib.hid r3
  have HW : Hid (∀ x, x ∈ z3 → x.wt ≤ 1000000000) := Lib.hid fun x hx => by have := (kid_wt (x := ⟨51, 0, z2, z3⟩) (y := x) hx).1; omega
  clear hr r3 hr_0 hr_1 hr_2 hr_3 hw hww
  go_enter Try.func33, Try.ntmps33
  go_wp2_with ((go_at_call 52; refine (GoV _ _ hz hgo _).mono ?_; rintro e w' ⟨rfl, rfl⟩))
  go_loopw [28, 3] (fun i pp wr => ∃ (k : Nat) (p : Int), k ≤ z3.length ∧ i = .int .i64 k ∧ pp = .int .i64 p ∧ (p = 0 ∨ p = 1 ∨ p = 2) ∧ Hid (clsP false p (z3.drop k) = clsP false 0 z3) ∧ Below w.heap.size w wr ∧ wr.cell? ⟨w.heap.size, 0, none⟩ = some (.int .i64 51) ∧ w.heap.size < wr.heap.size) (fun i _ _ => z3.length - (intOf i).toNat)
  case atStart => exact ⟨0, 0, Nat.zero_le _, rfl, rfl, Or.inl rfl, Lib.hid rfl, HB.out, by rw [World.cell?_alloc_new]; rfl, by simp⟩
  case round =>
    obtain ⟨k, p, hk, rfl, rfl, hp3, HP0, hb, hbox, hlt0⟩ := hrel
    have hbs := hb.size
    by_cases hlt : k < z3.length
    · skip
      obtain ⟨x, hx⟩ : ∃ x, z3[k]? = some x := ⟨_, List.getElem?_eq_getElem hlt⟩
      obtain ⟨bc, offc, rfl, hblc, hcc⟩ := RdC.at_ FNode.len HC.out hx
      have HX := Lib.hid hx
      have HM := Lib.hid (List.mem_of_getElem? hx)
      clear hx
      obtain ⟨y0, y1, y2, y3⟩ := x
      rw [FNode.c_eq] at hcc
      obtain ⟨u0, e0, q0⟩ := hcc 0 _ rfl
      obtain rfl := q0.val
      have c_0 : wr.cell? ⟨bc, offc + k * 4, none⟩ = some (.int .i64 y0) := (hb.cell (p := ⟨bc, _, none⟩) (by show bc < w.heap.size; omega)).trans (by simpa using e0)
      obtain ⟨u1, e1, q1⟩ := hcc 1 _ rfl
      obtain rfl := q1.val
      have c_1 : wr.cell? ⟨bc, offc + k * 4 + 1, none⟩ = some (.int .i64 y1) := (hb.cell (p := ⟨bc, _, none⟩) (by show bc < w.heap.size; omega)).trans (by simpa using e1)
      obtain ⟨u2, e2, q2⟩ := hcc 2 _ rfl
      obtain rfl := q2.val
      have c_2 : wr.cell? ⟨bc, offc + k * 4 + 2, none⟩ = some (.string y2) := (hb.cell (p := ⟨bc, _, none⟩) (by show bc < w.heap.size; omega)).trans (by simpa using e2)
      obtain ⟨u3, e3, q3⟩ := hcc 3 _ rfl
      obtain ⟨D, d, rfl⟩ := q3.form
      have c_3 : wr.cell? ⟨bc, offc + k * 4 + 3, none⟩ = some (.slice D y3.length d) := (hb.cell (p := ⟨bc, _, none⟩) (by show bc < w.heap.size; omega)).trans (by simpa using e3)
      have Q3 := Lib.hid q3
      clear hcc e0 e1 e2 e3 q0 q1 q2 q3
      have HA := Lib.hid (clsP_at false p z3 k y0 y1 y2 y3 HX.out)
      have hyw := HW.out _ HM.out
      have hzy : y2.size ≤ 9223372036854775807 := by have := (len_wt ⟨y0, y1, y2, y3⟩).2; simp only [FNode.tx] at this; omega
      have hly : y3.length ≤ 1000000000 := by have := (len_wt ⟨y0, y1, y2, y3⟩).1; simp only [FNode.kids] at this; omega
      cases hgy : goodF y2 with
      | false =>
        have HP := Lib.hid (show clsP false p (z3.drop k) = false from by rw [HA.out, hgy]; rfl)
        have hb2 := hb.alloc hbs (.cells #[.int .i64 y0, .int .i64 y1, .string y2, .slice D y3.length d] 29)
        go_wp2_with ((go_at_call 52; refine (GoV _ _ hzy hgy _).mono ?_; rintro e w' ⟨rfl, rfl⟩))
        go_ret; exact ⟨ret_bool (by rw [← HP0.out, HP.out]), hb2⟩
      | true =>
        rw [hgy] at HA
        by_cases e52 : y0 = 52
        · subst e52
          have HP := Lib.hid (show clsP false p (z3.drop k) = false from by rw [HA.out]; simp)
          have hb2 := hb.alloc hbs (.cells #[.int .i64 52, .int .i64 y1, .string y2, .slice D y3.length d] 29)
          go_wp2_with ((go_at_call 52; refine (GoV _ _ hzy hgy _).mono ?_; rintro e w' ⟨rfl, rfl⟩))
          go_ret; exact ⟨ret_bool (by rw [← HP0.out, HP.out]), hb2⟩
        · by_cases e53 : y0 = 53
          · subst e53
            obtain ⟨m, hm⟩ : ∃ m, y3.length = m := ⟨_, rfl⟩
            rw [hm] at c_3 hly HA
            clear Q3 hm hyw
            rcases hp3 with rfl | rfl | rfl
            · by_cases e1 : y1 = 0
              · subst e1
                by_cases e2 : m = 0
                · subst e2
                  have HP := Lib.hid (show clsP false 0 (z3.drop k) = clsP false 1 (z3.drop (k + 1)) from by rw [HA.out]; simp)
                  have hb2 := hb.alloc hbs (.cells #[.int .i64 53, .int .i64 0, .string y2, .slice D 0 d] 29)
                  have kb2 := (Below.refl wr.heap.size wr).alloc (Nat.le_refl _) (.cells #[.int .i64 53, .int .i64 0, .string y2, .slice D 0 d] 29)
                  go_wp2_with ((go_at_call 52; refine (GoV _ _ hzy hgy _).mono ?_; rintro e w' ⟨rfl, rfl⟩))
                  go_roundw
                  case rel => exact ⟨k + 1, 1, by omega, by go_num, rfl, by simp, Lib.hid (by rw [← HP0.out, HP.out]), hb2, box_keep kb2 hlt0 hbox⟩
                  case measure => simp [intOf]; omega
                · have HP := Lib.hid (show clsP false 0 (z3.drop k) = false from by rw [HA.out]; simp [e2])
                  have hb2 := hb.alloc hbs (.cells #[.int .i64 53, .int .i64 0, .string y2, .slice D m d] 29)
                  go_wp2_with ((go_at_call 52; refine (GoV _ _ hzy hgy _).mono ?_; rintro e w' ⟨rfl, rfl⟩))
                  go_ret; exact ⟨ret_bool (by rw [← HP0.out, HP.out]), hb2⟩
              · have HP := Lib.hid (show clsP false 0 (z3.drop k) = false from by rw [HA.out]; simp [e1])
                have hb2 := hb.alloc hbs (.cells #[.int .i64 53, .int .i64 y1, .string y2, .slice D m d] 29)
                go_wp2_with ((go_at_call 52; refine (GoV _ _ hzy hgy _).mono ?_; rintro e w' ⟨rfl, rfl⟩))
                go_ret; exact ⟨ret_bool (by rw [← HP0.out, HP.out]), hb2⟩
            · by_cases e1 : y1 = 0
              · subst e1
                by_cases e2 : m = 0
                · subst e2
                  have HP := Lib.hid (show clsP false 1 (z3.drop k) = clsP false 1 (z3.drop (k + 1)) from by rw [HA.out]; simp)
                  have hb2 := hb.alloc hbs (.cells #[.int .i64 53, .int .i64 0, .string y2, .slice D 0 d] 29)
                  have kb2 := (Below.refl wr.heap.size wr).alloc (Nat.le_refl _) (.cells #[.int .i64 53, .int .i64 0, .string y2, .slice D 0 d] 29)
                  go_wp2_with ((go_at_call 52; refine (GoV _ _ hzy hgy _).mono ?_; rintro e w' ⟨rfl, rfl⟩))
                  go_roundw
                  case rel => exact ⟨k + 1, 1, by omega, by go_num, rfl, by simp, Lib.hid (by rw [← HP0.out, HP.out]), hb2, box_keep kb2 hlt0 hbox⟩
                  case measure => simp [intOf]; omega
                · have HP := Lib.hid (show clsP false 1 (z3.drop k) = false from by rw [HA.out]; simp [e2])
                  have hb2 := hb.alloc hbs (.cells #[.int .i64 53, .int .i64 0, .string y2, .slice D m d] 29)
                  go_wp2_with ((go_at_call 52; refine (GoV _ _ hzy hgy _).mono ?_; rintro e w' ⟨rfl, rfl⟩))
                  go_ret; exact ⟨ret_bool (by rw [← HP0.out, HP.out]), hb2⟩
              · have HP := Lib.hid (show clsP false 1 (z3.drop k) = false from by rw [HA.out]; simp [e1])
                have hb2 := hb.alloc hbs (.cells #[.int .i64 53, .int .i64 y1, .string y2, .slice D m d] 29)
                go_wp2_with ((go_at_call 52; refine (GoV _ _ hzy hgy _).mono ?_; rintro e w' ⟨rfl, rfl⟩))
                go_ret; exact ⟨ret_bool (by rw [← HP0.out, HP.out]), hb2⟩
            · have HP := Lib.hid (show clsP false 2 (z3.drop k) = false from by rw [HA.out]; simp)
              have hb2 := hb.alloc hbs (.cells #[.int .i64 53, .int .i64 y1, .string y2, .slice D m d] 29)
              go_wp2_with ((go_at_call 52; refine (GoV _ _ hzy hgy _).mono ?_; rintro e w' ⟨rfl, rfl⟩))
              go_ret; exact ⟨ret_bool (by rw [← HP0.out, HP.out]), hb2⟩
          · by_cases e54 : y0 = 54
            · subst e54
              obtain ⟨m, hm⟩ : ∃ m, y3.length = m := ⟨_, rfl⟩
              have Q3' := Q3.out
              rw [hm] at c_3 hly Q3'
              clear Q3
              by_cases e0 : y1 = 0
              · subst e0
                by_cases e2 : m = 1
                · subst e2
                  obtain ⟨⟨g0, g1, g2, g3⟩, rfl⟩ := one_of hm
                  have QH := Lib.hid Q3'
                  obtain ⟨bcg, offcg, Eg, hblcg, hcc⟩ := nd_at rfl (l := [FNode.mk g0 g1 g2 g3]) QH.out (i := 0) (x := FNode.mk g0 g1 g2 g3) rfl
                  rw [FNode.c_eq] at hcc
                  obtain ⟨u0, e0, q0⟩ := hcc 0 _ rfl
                  obtain rfl := q0.val
                  have cg_0 : w.cell? ⟨bcg, offcg, none⟩ = some (.int .i64 g0) := ((Below.refl w.heap.size w).cell (p := ⟨bcg, _, none⟩) (by show bcg < w.heap.size; omega)).trans (by simpa using e0)
                  obtain ⟨u1, e1, q1⟩ := hcc 1 _ rfl
                  obtain rfl := q1.val
                  have cg_1 : w.cell? ⟨bcg, offcg + 1, none⟩ = some (.int .i64 g1) := ((Below.refl w.heap.size w).cell (p := ⟨bcg, _, none⟩) (by show bcg < w.heap.size; omega)).trans (by simpa using e1)
                  obtain ⟨u2, e2, q2⟩ := hcc 2 _ rfl
                  obtain rfl := q2.val
                  have cg_2 : w.cell? ⟨bcg, offcg + 2, none⟩ = some (.string g2) := ((Below.refl w.heap.size w).cell (p := ⟨bcg, _, none⟩) (by show bcg < w.heap.size; omega)).trans (by simpa using e2)
                  obtain ⟨u3, e3, q3⟩ := hcc 3 _ rfl
                  obtain ⟨Dg, dg, rfl⟩ := q3.form
                  have cg_3 : w.cell? ⟨bcg, offcg + 3, none⟩ = some (.slice Dg g3.length dg) := ((Below.refl w.heap.size w).cell (p := ⟨bcg, _, none⟩) (by show bcg < w.heap.size; omega)).trans (by simpa using e3)
                  have Qg := Lib.hid q3
                  clear hcc e0 e1 e2 e3 q0 q1 q2 q3
                  have hblg : bcg < w.heap.size := Nat.lt_of_lt_of_le hblcg hB0
                  subst Eg
                  have hb2 := Lib.hid (hb.alloc hbs (.cells #[.int .i64 54, .int .i64 0, .string y2, .slice (some ⟨bcg, offcg, none⟩) 1 d] 29))
                  have kb2 := (Below.refl wr.heap.size wr).alloc (Nat.le_refl _) (.cells #[.int .i64 54, .int .i64 0, .string y2, .slice (some ⟨bcg, offcg, none⟩) 1 d] 29)
                  have h_g0 := (hb2.out.cell (p := ⟨bcg, offcg, none⟩) hblg).trans cg_0
                  have h_g1 := (hb2.out.cell (p := ⟨bcg, offcg + 1, none⟩) hblg).trans cg_1
                  have h_g2 := (hb2.out.cell (p := ⟨bcg, offcg + 2, none⟩) hblg).trans cg_2
                  have h_g3 := (hb2.out.cell (p := ⟨bcg, offcg + 3, none⟩) hblg).trans cg_3
                  have hgw : (FNode.mk g0 g1 g2 g3).wt ≤ 1000000000 := by have := (kid_wt (x := ⟨54, 0, y2, [⟨g0, g1, g2, g3⟩]⟩) (y := ⟨g0, g1, g2, g3⟩) (by simp [FNode.kids])).1; omega
                  have HA2 := Lib.hid (show clsP false p (z3.drop k) = ((inB g0 1 3 && exF ⟨g0, g1, g2, g3⟩) && clsP false 2 (z3.drop (k + 1))) from by rw [HA.out]; simp [oneF, FNode.kd, show inB 0 0 1 = true from by decide])
                  have CALL := Lib.hid (ex_impl _ hgw [.int .i64 g0, .int .i64 g1, .string g2, .slice Dg g3.length dg] _ w.heap.size (hmx.below hb2.out) hb2.out.size (by rw [FNode.c_eq]; exact RdVs.cons (by unfold RdC; rfl) (RdVs.cons (by unfold RdC; rfl) (RdVs.cons (by unfold RdC; rfl) (RdVs.cons ((Qg.out.up hB0).below hb2.out (Nat.le_refl _)) (RdVs.nil _ _))))))
                  clear Q3' HA hyw hgw
                  cases hin : inB g0 1 3 with
                  | false =>
                    have HP := Lib.hid (show clsP false p (z3.drop k) = false from by rw [HA2.out, hin]; rfl)
                    have HIN := Lib.hid hin
                    go_wp2_with (first | (go_at_call 52; refine (GoV _ _ hzy hgy _).mono ?_; rintro e w' ⟨rfl, rfl⟩) | (go_at_call 54; refine (inRange_any _ _ _ _).mono ?_; rw [HIN.out]; rintro e w' ⟨rfl, rfl⟩))
                    go_ret; exact ⟨ret_bool (by rw [← HP0.out, HP.out]), hb2.out⟩
                  | true =>
                    have HIN := Lib.hid hin
                    cases hv : exF ⟨g0, g1, g2, g3⟩ with
                    | false =>
                      have HP := Lib.hid (show clsP false p (z3.drop k) = false from by rw [HA2.out, hv, Bool.and_false]; rfl)
                      rw [hv] at CALL
                      go_wp2_with (first | (go_at_call 52; refine (GoV _ _ hzy hgy _).mono ?_; rintro e w' ⟨rfl, rfl⟩) | (go_at_call 54; refine (inRange_any _ _ _ _).mono ?_; rw [HIN.out]; rintro e w' ⟨rfl, rfl⟩) | (go_at_call 55; refine CALL.out.mono ?_; rintro e w2 ⟨rfl, hb3⟩))
                      go_ret; exact ⟨ret_bool (by rw [← HP0.out, HP.out]), (hb2.out.trans (hb3.mono hb2.out.size))⟩
                    | true =>
                      have HP := Lib.hid (show clsP false p (z3.drop k) = clsP false 2 (z3.drop (k + 1)) from by rw [HA2.out, hv, hin]; rfl)
                      rw [hv] at CALL
                      go_wp2_with (first | (go_at_call 52; refine (GoV _ _ hzy hgy _).mono ?_; rintro e w' ⟨rfl, rfl⟩) | (go_at_call 54; refine (inRange_any _ _ _ _).mono ?_; rw [HIN.out]; rintro e w' ⟨rfl, rfl⟩) | (go_at_call 55; refine CALL.out.mono ?_; rintro e w2 ⟨rfl, hb3⟩))
                      go_roundw
                      case rel => exact ⟨k + 1, 2, by omega, by go_num, rfl, by simp, Lib.hid (by rw [← HP0.out, HP.out]), (hb2.out.trans (hb3.mono hb2.out.size)), box_keep (kb2.trans (hb3.mono kb2.size)) hlt0 hbox⟩
                      case measure => simp [intOf]; omega
                · have HP := Lib.hid (show clsP false p (z3.drop k) = false from by rw [HA.out, show oneF y3 = false from one_no y3 (by omega)]; simp)
                  have hb2 := hb.alloc hbs (.cells #[.int .i64 54, .int .i64 0, .string y2, .slice D m d] 29)
                  clear hm Q3' HA
                  go_wp2_with ((go_at_call 52; refine (GoV _ _ hzy hgy _).mono ?_; rintro e w' ⟨rfl, rfl⟩))
                  go_ret; exact ⟨ret_bool (by rw [← HP0.out, HP.out]), hb2⟩
              · by_cases e1 : y1 = 1
                · subst e1
                  by_cases e2 : m = 1
                  · subst e2
                    obtain ⟨⟨g0, g1, g2, g3⟩, rfl⟩ := one_of hm
                    have QH := Lib.hid Q3'
                    obtain ⟨bcg, offcg, Eg, hblcg, hcc⟩ := nd_at rfl (l := [FNode.mk g0 g1 g2 g3]) QH.out (i := 0) (x := FNode.mk g0 g1 g2 g3) rfl
                    rw [FNode.c_eq] at hcc
                    obtain ⟨u0, e0, q0⟩ := hcc 0 _ rfl
                    obtain rfl := q0.val
                    have cg_0 : w.cell? ⟨bcg, offcg, none⟩ = some (.int .i64 g0) := ((Below.refl w.heap.size w).cell (p := ⟨bcg, _, none⟩) (by show bcg < w.heap.size; omega)).trans (by simpa using e0)
                    obtain ⟨u1, e1, q1⟩ := hcc 1 _ rfl
                    obtain rfl := q1.val
                    have cg_1 : w.cell? ⟨bcg, offcg + 1, none⟩ = some (.int .i64 g1) := ((Below.refl w.heap.size w).cell (p := ⟨bcg, _, none⟩) (by show bcg < w.heap.size; omega)).trans (by simpa using e1)
                    obtain ⟨u2, e2, q2⟩ := hcc 2 _ rfl
                    obtain rfl := q2.val
                    have cg_2 : w.cell? ⟨bcg, offcg + 2, none⟩ = some (.string g2) := ((Below.refl w.heap.size w).cell (p := ⟨bcg, _, none⟩) (by show bcg < w.heap.size; omega)).trans (by simpa using e2)
                    obtain ⟨u3, e3, q3⟩ := hcc 3 _ rfl
                    obtain ⟨Dg, dg, rfl⟩ := q3.form
                    have cg_3 : w.cell? ⟨bcg, offcg + 3, none⟩ = some (.slice Dg g3.length dg) := ((Below.refl w.heap.size w).cell (p := ⟨bcg, _, none⟩) (by show bcg < w.heap.size; omega)).trans (by simpa using e3)
                    have Qg := Lib.hid q3
                    clear hcc e0 e1 e2 e3 q0 q1 q2 q3
                    have hblg : bcg < w.heap.size := Nat.lt_of_lt_of_le hblcg hB0
                    subst Eg
                    have hb2 := Lib.hid (hb.alloc hbs (.cells #[.int .i64 54, .int .i64 1, .string y2, .slice (some ⟨bcg, offcg, none⟩) 1 d] 29))
                    have kb2 := (Below.refl wr.heap.size wr).alloc (Nat.le_refl _) (.cells #[.int .i64 54, .int .i64 1, .string y2, .slice (some ⟨bcg, offcg, none⟩) 1 d] 29)
                    have h_g0 := (hb2.out.cell (p := ⟨bcg, offcg, none⟩) hblg).trans cg_0
                    have h_g1 := (hb2.out.cell (p := ⟨bcg, offcg + 1, none⟩) hblg).trans cg_1
                    have h_g2 := (hb2.out.cell (p := ⟨bcg, offcg + 2, none⟩) hblg).trans cg_2
                    have h_g3 := (hb2.out.cell (p := ⟨bcg, offcg + 3, none⟩) hblg).trans cg_3
                    have hgw : (FNode.mk g0 g1 g2 g3).wt ≤ 1000000000 := by have := (kid_wt (x := ⟨54, 1, y2, [⟨g0, g1, g2, g3⟩]⟩) (y := ⟨g0, g1, g2, g3⟩) (by simp [FNode.kids])).1; omega
                    have HA2 := Lib.hid (show clsP false p (z3.drop k) = ((inB g0 1 3 && exF ⟨g0, g1, g2, g3⟩) && clsP false 2 (z3.drop (k + 1))) from by rw [HA.out]; simp [oneF, FNode.kd, show inB 1 0 1 = true from by decide])
                    have CALL := Lib.hid (ex_impl _ hgw [.int .i64 g0, .int .i64 g1, .string g2, .slice Dg g3.length dg] _ w.heap.size (hmx.below hb2.out) hb2.out.size (by rw [FNode.c_eq]; exact RdVs.cons (by unfold RdC; rfl) (RdVs.cons (by unfold RdC; rfl) (RdVs.cons (by unfold RdC; rfl) (RdVs.cons ((Qg.out.up hB0).below hb2.out (Nat.le_refl _)) (RdVs.nil _ _))))))
                    clear Q3' HA hyw hgw
                    cases hin : inB g0 1 3 with
                    | false =>
                      have HP := Lib.hid (show clsP false p (z3.drop k) = false from by rw [HA2.out, hin]; rfl)
                      have HIN := Lib.hid hin
                      go_wp2_with (first | (go_at_call 52; refine (GoV _ _ hzy hgy _).mono ?_; rintro e w' ⟨rfl, rfl⟩) | (go_at_call 54; refine (inRange_any _ _ _ _).mono ?_; rw [HIN.out]; rintro e w' ⟨rfl, rfl⟩))
                      go_ret; exact ⟨ret_bool (by rw [← HP0.out, HP.out]), hb2.out⟩
                    | true =>
                      have HIN := Lib.hid hin
                      cases hv : exF ⟨g0, g1, g2, g3⟩ with
                      | false =>
                        have HP := Lib.hid (show clsP false p (z3.drop k) = false from by rw [HA2.out, hv, Bool.and_false]; rfl)
                        rw [hv] at CALL
                        go_wp2_with (first | (go_at_call 52; refine (GoV _ _ hzy hgy _).mono ?_; rintro e w' ⟨rfl, rfl⟩) | (go_at_call 54; refine (inRange_any _ _ _ _).mono ?_; rw [HIN.out]; rintro e w' ⟨rfl, rfl⟩) | (go_at_call 55; refine CALL.out.mono ?_; rintro e w2 ⟨rfl, hb3⟩))
                        go_ret; exact ⟨ret_bool (by rw [← HP0.out, HP.out]), (hb2.out.trans (hb3.mono hb2.out.size))⟩
                      | true =>
                        have HP := Lib.hid (show clsP false p (z3.drop k) = clsP false 2 (z3.drop (k + 1)) from by rw [HA2.out, hv, hin]; rfl)
                        rw [hv] at CALL
                        go_wp2_with (first | (go_at_call 52; refine (GoV _ _ hzy hgy _).mono ?_; rintro e w' ⟨rfl, rfl⟩) | (go_at_call 54; refine (inRange_any _ _ _ _).mono ?_; rw [HIN.out]; rintro e w' ⟨rfl, rfl⟩) | (go_at_call 55; refine CALL.out.mono ?_; rintro e w2 ⟨rfl, hb3⟩))
                        go_roundw
                        case rel => exact ⟨k + 1, 2, by omega, by go_num, rfl, by simp, Lib.hid (by rw [← HP0.out, HP.out]), (hb2.out.trans (hb3.mono hb2.out.size)), box_keep (kb2.trans (hb3.mono kb2.size)) hlt0 hbox⟩
                        case measure => simp [intOf]; omega
                  · have HP := Lib.hid (show clsP false p (z3.drop k) = false from by rw [HA.out, show oneF y3 = false from one_no y3 (by omega)]; simp)
                    have hb2 := hb.alloc hbs (.cells #[.int .i64 54, .int .i64 1, .string y2, .slice D m d] 29)
                    clear hm Q3' HA
                    go_wp2_with ((go_at_call 52; refine (GoV _ _ hzy hgy _).mono ?_; rintro e w' ⟨rfl, rfl⟩))
                    go_ret; exact ⟨ret_bool (by rw [← HP0.out, HP.out]), hb2⟩
                · have HP := Lib.hid (show clsP false p (z3.drop k) = false from by rw [HA.out, show inB y1 0 1 = false from inB_f (by omega)]; simp)
                  have hb2 := hb.alloc hbs (.cells #[.int .i64 54, .int .i64 y1, .string y2, .slice D m d] 29)
                  clear hm Q3' HA
                  go_wp2_with ((go_at_call 52; refine (GoV _ _ hzy hgy _).mono ?_; rintro e w' ⟨rfl, rfl⟩))
                  go_ret; exact ⟨ret_bool (by rw [← HP0.out, HP.out]), hb2⟩
            · by_cases e55 : y0 = 55
              · subst e55
                have hb2 := Lib.hid (hb.alloc hbs (.cells #[.int .i64 55, .int .i64 y1, .string y2, .slice D y3.length d] 29))
                have kb2 := (Below.refl wr.heap.size wr).alloc (Nat.le_refl _) (.cells #[.int .i64 55, .int .i64 y1, .string y2, .slice D y3.length d] 29)
                have CALL := Lib.hid (fu_impl false ⟨55, y1, y2, y3⟩ hyw (.slice D y3.length d) _ w.heap.size (hmx.below hb2.out) hb2.out.size ((Q3.out.up hB0).below hb2.out (Nat.le_refl _)))
                have HA2 := Lib.hid (show clsP false p (z3.drop k) = (inB y1 0 3 && (usF false y3 && clsP false 2 (z3.drop (k + 1)))) from by rw [HA.out]; simp)
                simp only [FNode.kids] at CALL
                clear HA hyw
                cases hin : inB y1 0 3 with
                | false =>
                  have HP := Lib.hid (show clsP false p (z3.drop k) = false from by rw [HA2.out, hin]; rfl)
                  have HIN := Lib.hid hin
                  go_wp2_with (first | (go_at_call 52; refine (GoV _ _ hzy hgy _).mono ?_; rintro e w' ⟨rfl, rfl⟩) | (go_at_call 54; refine (inRange_any _ _ _ _).mono ?_; rw [HIN.out]; rintro e w' ⟨rfl, rfl⟩))
                  go_ret; exact ⟨ret_bool (by rw [← HP0.out, HP.out]), hb2.out⟩
                | true =>
                  have HIN := Lib.hid hin
                  cases hv : usF false y3 with
                  | false =>
                    have HP := Lib.hid (show clsP false p (z3.drop k) = false from by rw [HA2.out, hv, Bool.false_and, Bool.and_false])
                    rw [hv] at CALL
                    go_wp2_with (first | (go_at_call 52; refine (GoV _ _ hzy hgy _).mono ?_; rintro e w' ⟨rfl, rfl⟩) | (go_at_call 54; refine (inRange_any _ _ _ _).mono ?_; rw [HIN.out]; rintro e w' ⟨rfl, rfl⟩) | (go_at_call 53; refine CALL.out.mono ?_; rintro e w2 ⟨rfl, hb3⟩))
                    go_ret; exact ⟨ret_bool (by rw [← HP0.out, HP.out]), (hb2.out.trans (hb3.mono hb2.out.size))⟩
                  | true =>
                    have HP := Lib.hid (show clsP false p (z3.drop k) = clsP false 2 (z3.drop (k + 1)) from by rw [HA2.out, hv, hin]; rfl)
                    rw [hv] at CALL
                    go_wp2_with (first | (go_at_call 52; refine (GoV _ _ hzy hgy _).mono ?_; rintro e w' ⟨rfl, rfl⟩) | (go_at_call 54; refine (inRange_any _ _ _ _).mono ?_; rw [HIN.out]; rintro e w' ⟨rfl, rfl⟩) | (go_at_call 53; refine CALL.out.mono ?_; rintro e w2 ⟨rfl, hb3⟩))
                    go_roundw
                    case rel => exact ⟨k + 1, 2, by omega, by go_num, rfl, by simp, Lib.hid (by rw [← HP0.out, HP.out]), (hb2.out.trans (hb3.mono hb2.out.size)), box_keep (kb2.trans (hb3.mono kb2.size)) hlt0 hbox⟩
                    case measure => simp [intOf]; omega
              · have HP := Lib.hid (show clsP false p (z3.drop k) = false from by rw [HA.out, if_neg e52, if_neg e53, if_neg e54, if_neg e55]; rfl)
                have hb2 := hb.alloc hbs (.cells #[.int .i64 y0, .int .i64 y1, .string y2, .slice D y3.length d] 29)
                clear HA
                go_wp2_with ((go_at_call 52; refine (GoV _ _ hzy hgy _).mono ?_; rintro e w' ⟨rfl, rfl⟩))
                go_ret; exact ⟨ret_bool (by rw [← HP0.out, HP.out]), hb2⟩
    · obtain rfl : k = z3.length := by omega
      clear hlt
      have h := HP0.out
      rw [List.drop_length] at h
      go_wp2_with fail
      go_ret
      exact ⟨ret_bool (by rw [← h]; rfl), hb⟩
end Go.Proofs.Ytgejkfcemlkclaa
