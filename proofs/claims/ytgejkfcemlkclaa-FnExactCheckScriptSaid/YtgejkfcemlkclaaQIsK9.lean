/-
  Parts of the proof: IsK9. Conditions: none.
-/
import Derived.Test.YtgejkfcemlkclaaQIsK8
namespace Go.Proofs.Ytgejkfcemlkclaa
open Go.ChangeShapes Go.WideShapes Go.ChangeAt Go.RowKit Go.Deep Go.Joins
open Go.ChangeMaps (open_string shut_string)
set_option linter.unusedVariables false
set_option linter.unusedSimpArgs false
set_option maxRecDepth 100000
theorem small_impl (x : FNode) (hw : x.wt ≤ 1000000000) (us : List Value) (w : World) (B : Nat) (hB0 : B ≤ w.heap.size) (hr : RdVs w B x.c us) :
    Calls Try.prog 32 #[.agg us.toArray] w fun e w' => e = .returned (.bool (smF x)) ∧ Below w.heap.size w w' := by
  have HS := Lib.hid (szI _ x (Nat.le_refl _) hw)
  have HD := Lib.hid (dpI _ x (Nat.le_refl _) hw)
  have EX := Lib.hid (show smF x = (decide (szN x ≤ 600) && decide (dpN x ≤ 30)) from rfl)
  obtain ⟨N, hN⟩ : ∃ N, szN x = N := ⟨_, rfl⟩
  obtain ⟨P, hP⟩ : ∃ P, dpN x = P := ⟨_, rfl⟩
  rw [hN, hP] at EX
  obtain ⟨z0, z1, z2, z3⟩ := x
  rw [FNode.c_eq] at hr
  obtain ⟨us0, rfl, hr_0⟩ := hr.unv
  obtain ⟨us1, rfl, hr_1⟩ := hr_0.unv
  obtain ⟨us2, rfl, hr_2⟩ := hr_1.unv
  obtain ⟨A3, c3, us3, rfl, r3, hr_3⟩ := hr_2.uns
  obtain rfl := hr_3.un0
  rw [FNode.wt_eq] at hw
  have hz : z2.size ≤ 9223372036854775807 := by omega
  have hl : z3.length ≤ 9223372036854775807 := by omega
  have HR := Lib.hid r3
  have HB := Lib.hid ((Below.refl _ w).alloc (Nat.le_refl _) (.cells #[.int .i64 z0, .int .i64 z1, .string z2, .slice A3 z3.length c3] 29))
  have CALL := Lib.hid (HS.out [.int .i64 z0, .int .i64 z1, .string z2, .slice A3 z3.length c3] _ w.heap.size HB.out.size (by rw [FNode.c_eq]; exact RdVs.cons (by unfold RdC; rfl) (RdVs.cons (by unfold RdC; rfl) (RdVs.cons (by unfold RdC; rfl) (RdVs.cons ((HR.out.up hB0).below HB.out (Nat.le_refl _)) (RdVs.nil _ _))))))
  rw [hN] at CALL
  unfold DpI at HD
  rw [hP] at HD
  clear hr r3 hr_0 hr_1 hr_2 hr_3 hw hN hP HS
  have EX2 := Lib.hid (show (decide (N ≤ 600) && decide (P ≤ 30)) = smF ⟨z0, z1, z2, z3⟩ from EX.out.symm)
  clear EX
  by_cases hN6 : N ≤ 600
  · have hN7 : (N : Int) ≤ 600 := by omega
    rw [decide_eq_true hN6, Bool.true_and] at EX2
    by_cases hP3 : P ≤ 30
    · have hP4 : decide ((P : Int) ≤ 30) = true := by simp; omega
      rw [decide_eq_true hP3] at EX2
      go_enter Try.func32, Try.ntmps32
      go_wp2_with (first | (go_at_call 50; refine CALL.out.mono ?_; rintro e w3 ⟨rfl, hb3⟩; have HB3 := Lib.hid (HB.out.trans (hb3.mono HB.out.size)); have bx_0 : w3.cell? ⟨w.heap.size, 0, none⟩ = some (.int .i64 z0) := (hb3.cell (p := ⟨w.heap.size, 0, none⟩) (by show w.heap.size < _; simp)).trans (by rw [World.cell?_alloc_new]; rfl); have bx_1 : w3.cell? ⟨w.heap.size, 1, none⟩ = some (.int .i64 z1) := (hb3.cell (p := ⟨w.heap.size, 1, none⟩) (by show w.heap.size < _; simp)).trans (by rw [World.cell?_alloc_new]; rfl); have bx_2 : w3.cell? ⟨w.heap.size, 2, none⟩ = some (.string z2) := (hb3.cell (p := ⟨w.heap.size, 2, none⟩) (by show w.heap.size < _; simp)).trans (by rw [World.cell?_alloc_new]; rfl); have bx_3 : w3.cell? ⟨w.heap.size, 3, none⟩ = some (.slice A3 z3.length c3) := (hb3.cell (p := ⟨w.heap.size, 3, none⟩) (by show w.heap.size < _; simp)).trans (by rw [World.cell?_alloc_new]; rfl)) | (go_at_call 51; refine (HD.out [.int .i64 z0, .int .i64 z1, .string z2, .slice A3 z3.length c3] _ w.heap.size HB3.out.size (by rw [FNode.c_eq]; exact RdVs.cons (by unfold RdC; rfl) (RdVs.cons (by unfold RdC; rfl) (RdVs.cons (by unfold RdC; rfl) (RdVs.cons ((HR.out.up hB0).below HB3.out (Nat.le_refl _)) (RdVs.nil _ _)))))).mono ?_; rintro e w4 ⟨rfl, hb4⟩))
      all_goals (go_ret; exact ⟨ret_bool (by first | exact EX2.out | (rw [← EX2.out]; simp; omega)), HB3.out.trans (hb4.mono HB3.out.size)⟩)
    · have hP4 : decide ((P : Int) ≤ 30) = false := by simp; omega
      rw [decide_eq_false hP3] at EX2
      go_enter Try.func32, Try.ntmps32
      go_wp2_with (first | (go_at_call 50; refine CALL.out.mono ?_; rintro e w3 ⟨rfl, hb3⟩; have HB3 := Lib.hid (HB.out.trans (hb3.mono HB.out.size)); have bx_0 : w3.cell? ⟨w.heap.size, 0, none⟩ = some (.int .i64 z0) := (hb3.cell (p := ⟨w.heap.size, 0, none⟩) (by show w.heap.size < _; simp)).trans (by rw [World.cell?_alloc_new]; rfl); have bx_1 : w3.cell? ⟨w.heap.size, 1, none⟩ = some (.int .i64 z1) := (hb3.cell (p := ⟨w.heap.size, 1, none⟩) (by show w.heap.size < _; simp)).trans (by rw [World.cell?_alloc_new]; rfl); have bx_2 : w3.cell? ⟨w.heap.size, 2, none⟩ = some (.string z2) := (hb3.cell (p := ⟨w.heap.size, 2, none⟩) (by show w.heap.size < _; simp)).trans (by rw [World.cell?_alloc_new]; rfl); have bx_3 : w3.cell? ⟨w.heap.size, 3, none⟩ = some (.slice A3 z3.length c3) := (hb3.cell (p := ⟨w.heap.size, 3, none⟩) (by show w.heap.size < _; simp)).trans (by rw [World.cell?_alloc_new]; rfl)) | (go_at_call 51; refine (HD.out [.int .i64 z0, .int .i64 z1, .string z2, .slice A3 z3.length c3] _ w.heap.size HB3.out.size (by rw [FNode.c_eq]; exact RdVs.cons (by unfold RdC; rfl) (RdVs.cons (by unfold RdC; rfl) (RdVs.cons (by unfold RdC; rfl) (RdVs.cons ((HR.out.up hB0).below HB3.out (Nat.le_refl _)) (RdVs.nil _ _)))))).mono ?_; rintro e w4 ⟨rfl, hb4⟩))
      all_goals (go_ret; exact ⟨ret_bool (by first | exact EX2.out | (rw [← EX2.out]; simp; omega)), HB3.out.trans (hb4.mono HB3.out.size)⟩)
  · have hN7 : ¬ (N : Int) ≤ 600 := by omega
    rw [decide_eq_false hN6, Bool.false_and] at EX2
    go_enter Try.func32, Try.ntmps32
    go_wp2_with (first | (go_at_call 50; refine CALL.out.mono ?_; rintro e w3 ⟨rfl, hb3⟩; have HB3 := Lib.hid (HB.out.trans (hb3.mono HB.out.size)); have bx_0 : w3.cell? ⟨w.heap.size, 0, none⟩ = some (.int .i64 z0) := (hb3.cell (p := ⟨w.heap.size, 0, none⟩) (by show w.heap.size < _; simp)).trans (by rw [World.cell?_alloc_new]; rfl); have bx_1 : w3.cell? ⟨w.heap.size, 1, none⟩ = some (.int .i64 z1) := (hb3.cell (p := ⟨w.heap.size, 1, none⟩) (by show w.heap.size < _; simp)).trans (by rw [World.cell?_alloc_new]; rfl); have bx_2 : w3.cell? ⟨w.heap.size, 2, none⟩ = some (.string z2) := (hb3.cell (p := ⟨w.heap.size, 2, none⟩) (by show w.heap.size < _; simp)).trans (by rw [World.cell?_alloc_new]; rfl); have bx_3 : w3.cell? ⟨w.heap.size, 3, none⟩ = some (.slice A3 z3.length c3) := (hb3.cell (p := ⟨w.heap.size, 3, none⟩) (by show w.heap.size < _; simp)).trans (by rw [World.cell?_alloc_new]; rfl)) | (go_at_call 51; refine (HD.out [.int .i64 z0, .int .i64 z1, .string z2, .slice A3 z3.length c3] _ w.heap.size HB3.out.size (by rw [FNode.c_eq]; exact RdVs.cons (by unfold RdC; rfl) (RdVs.cons (by unfold RdC; rfl) (RdVs.cons (by unfold RdC; rfl) (RdVs.cons ((HR.out.up hB0).below HB3.out (Nat.le_refl _)) (RdVs.nil _ _)))))).mono ?_; rintro e w4 ⟨rfl, hb4⟩))
    all_goals (go_ret; exact ⟨ret_bool EX2.out, HB3.out⟩)
theorem topF_eq (x : FNode) : topF x = (tpF x || stF x) := by
  obtain ⟨k, n, t, ks⟩ := x
  unfold topF tpF
  show (if k = 49 then _ else if k = 50 ∨ k = 51 then _ else _) = _
  simp only [FNode.kd, FNode.nu, FNode.tx, FNode.kids]
  by_cases h49 : k = 49
  · subst h49
    rw [stF_mk, show stK 49 ks = false from rfl]
    simp (decide := true) only [↓reduceIte, Bool.and_false, Bool.or_false]
    rfl
  by_cases h50 : k = 50
  · subst h50
    rw [stF_mk, show stK 50 ks = false from rfl, clsP_eq _ ks 0 true 0 (fun _ => ⟨rfl, rfl⟩) (by decide) (by decide) (Or.inl rfl)]
    simp (decide := true) only [↓reduceIte, Bool.and_false, Bool.or_false]
    rfl
  by_cases h51 : k = 51
  · subst h51
    rw [stF_mk, show stK 51 ks = false from rfl, clsP_eq _ ks 0 true 0 (fun _ => ⟨rfl, rfl⟩) (by decide) (by decide) (Or.inl rfl)]
    simp (decide := true) only [↓reduceIte, Bool.and_false, Bool.or_false]
    rfl
  simp only [h49, h50, h51, ↓reduceIte, Bool.and_false, Bool.false_or, or_self]
def pre4 (z0 z1 : Int) (z2 : ByteArray) : Bool := z0 == 56 && (z1 == 0 && emT z2)
set_option maxHeartbeats 2000000 in
theorem script_impl (x : FNode) (hw : x.wt ≤ 1000000000) (us : List Value) (w : World) (B : Nat) (hmx : MaxAt w) (hB0 : B ≤ w.heap.size) (hr : RdVs w B x.c us) :
    Calls Try.prog 17 #[.agg us.toArray] w fun e w' => e = .returned (.bool (scF x)) ∧ Below w.heap.size w w' := by
  have HSM := Lib.hid (small_impl x hw)
  obtain ⟨z0, z1, z2, z3⟩ := x
  have EX := Lib.hid (show scF ⟨z0, z1, z2, z3⟩ = (smF ⟨z0, z1, z2, z3⟩ && (z0 == 56 && (z1 == 0 && (emT z2 && z3.all topF)))) from rfl)
  have HW : Hid (∀ x, x ∈ z3 → x.wt ≤ 1000000000) := Lib.hid fun x hx => by have := (kid_wt (x := ⟨z0, z1, z2, z3⟩) (y := x) hx).1; omega
  rw [FNode.c_eq] at hr
  obtain ⟨us0, rfl, hr_0⟩ := hr.unv
  obtain ⟨us1, rfl, hr_1⟩ := hr_0.unv
  obtain ⟨us2, rfl, hr_2⟩ := hr_1.unv
  obtain ⟨A3, c3, us3, rfl, r3, hr_3⟩ := hr_2.uns
  obtain rfl := hr_3.un0
  rw [FNode.wt_eq] at hw
  have hz : z2.size ≤ 9223372036854775807 := by omega
  have hl : z3.length ≤ 9223372036854775807 := by omega
  have HR := Lib.hid r3
  have HB := Lib.hid ((Below.refl _ w).alloc (Nat.le_refl _) (.cells #[.int .i64 z0, .int .i64 z1, .string z2, .slice A3 z3.length c3] 29))
  have CALL := Lib.hid (HSM.out [.int .i64 z0, .int .i64 z1, .string z2, .slice A3 z3.length c3] _ w.heap.size HB.out.size (by rw [FNode.c_eq]; exact RdVs.cons (by unfold RdC; rfl) (RdVs.cons (by unfold RdC; rfl) (RdVs.cons (by unfold RdC; rfl) (RdVs.cons ((HR.out.up hB0).below HB.out (Nat.le_refl _)) (RdVs.nil _ _))))))
  have HC := Lib.hid r3
  clear hr r3 hr_0 hr_1 hr_2 hr_3 hw HSM
  by_cases h56 : z0 = 56
  · by_cases h0 : z1 = 0
    · by_cases ht : z2.toList = []
      · cases hs : smF ⟨z0, z1, z2, z3⟩ with
        | false =>
          rw [hs] at CALL EX
          subst h56
          subst h0
          go_enter Try.func17, Try.ntmps17
          go_wp2_with ((go_at_call 32; refine CALL.out.mono ?_; rintro e w3 ⟨rfl, hb3⟩; have HB3 := Lib.hid (HB.out.trans (hb3.mono HB.out.size)); have bx_0 : w3.cell? ⟨w.heap.size, 0, none⟩ = some (.int .i64 56) := (hb3.cell (p := ⟨w.heap.size, 0, none⟩) (by show w.heap.size < _; simp)).trans (by rw [World.cell?_alloc_new]; rfl); have bx_1 : w3.cell? ⟨w.heap.size, 1, none⟩ = some (.int .i64 0) := (hb3.cell (p := ⟨w.heap.size, 1, none⟩) (by show w.heap.size < _; simp)).trans (by rw [World.cell?_alloc_new]; rfl); have bx_2 : w3.cell? ⟨w.heap.size, 2, none⟩ = some (.string z2) := (hb3.cell (p := ⟨w.heap.size, 2, none⟩) (by show w.heap.size < _; simp)).trans (by rw [World.cell?_alloc_new]; rfl); have bx_3 : w3.cell? ⟨w.heap.size, 3, none⟩ = some (.slice A3 z3.length c3) := (hb3.cell (p := ⟨w.heap.size, 3, none⟩) (by show w.heap.size < _; simp)).trans (by rw [World.cell?_alloc_new]; rfl)))
          all_goals (go_ret; exact ⟨ret_bool (by rw [EX.out]; rfl), HB3.out⟩)
        | true =>
          rw [hs] at CALL EX
          subst h56
          subst h0
          have EX2 := Lib.hid (show scF ⟨56, 0, z2, z3⟩ = z3.all topF from by rw [EX.out, emT_t ht]; rfl)
          clear EX
          go_enter Try.func17, Try.ntmps17
          go_wp2_with ((go_at_call 32; refine CALL.out.mono ?_; rintro e w3 ⟨rfl, hb3⟩; have HB3 := Lib.hid (HB.out.trans (hb3.mono HB.out.size)); have bx_0 : w3.cell? ⟨w.heap.size, 0, none⟩ = some (.int .i64 56) := (hb3.cell (p := ⟨w.heap.size, 0, none⟩) (by show w.heap.size < _; simp)).trans (by rw [World.cell?_alloc_new]; rfl); have bx_1 : w3.cell? ⟨w.heap.size, 1, none⟩ = some (.int .i64 0) := (hb3.cell (p := ⟨w.heap.size, 1, none⟩) (by show w.heap.size < _; simp)).trans (by rw [World.cell?_alloc_new]; rfl); have bx_2 : w3.cell? ⟨w.heap.size, 2, none⟩ = some (.string z2) := (hb3.cell (p := ⟨w.heap.size, 2, none⟩) (by show w.heap.size < _; simp)).trans (by rw [World.cell?_alloc_new]; rfl); have bx_3 : w3.cell? ⟨w.heap.size, 3, none⟩ = some (.slice A3 z3.length c3) := (hb3.cell (p := ⟨w.heap.size, 3, none⟩) (by show w.heap.size < _; simp)).trans (by rw [World.cell?_alloc_new]; rfl)))
          go_loopw [26] (fun i wr => ∃ k : Nat, k ≤ z3.length ∧ i = .int .i64 k ∧ Hid ((z3.take k).all topF = true) ∧ Below w.heap.size w wr) (fun i _ => z3.length - (intOf i).toNat)
          case atStart => exact ⟨0, Nat.zero_le _, rfl, Lib.hid rfl, HB3.out⟩
          case round =>
            obtain ⟨k, hk, rfl, HA, hb⟩ := hrel
            have hbs := hb.size
            by_cases hlt : k < z3.length
            · skip
              obtain ⟨x, hx⟩ : ∃ x, z3[k]? = some x := ⟨_, List.getElem?_eq_getElem hlt⟩
              obtain ⟨bc, offc, rfl, hblc, hcc⟩ := RdC.at_ FNode.len HC.out hx
              have HX := Lib.hid hx
              have HM := Lib.hid (List.mem_of_getElem? hx)
              clear hx
              obtain ⟨y0, y1, y2, y3⟩ := x
              rw [FNode.c_eq] at hcc
              obtain ⟨u0, e0, q0⟩ := hcc 0 _ rfl
              obtain rfl := q0.val
              have c_0 : wr.cell? ⟨bc, offc + k * 4, none⟩ = some (.int .i64 y0) := (hb.cell (p := ⟨bc, _, none⟩) (by show bc < w.heap.size; omega)).trans (by simpa using e0)
              obtain ⟨u1, e1, q1⟩ := hcc 1 _ rfl
              obtain rfl := q1.val
              have c_1 : wr.cell? ⟨bc, offc + k * 4 + 1, none⟩ = some (.int .i64 y1) := (hb.cell (p := ⟨bc, _, none⟩) (by show bc < w.heap.size; omega)).trans (by simpa using e1)
              obtain ⟨u2, e2, q2⟩ := hcc 2 _ rfl
              obtain rfl := q2.val
              have c_2 : wr.cell? ⟨bc, offc + k * 4 + 2, none⟩ = some (.string y2) := (hb.cell (p := ⟨bc, _, none⟩) (by show bc < w.heap.size; omega)).trans (by simpa using e2)
              obtain ⟨u3, e3, q3⟩ := hcc 3 _ rfl
              obtain ⟨D, d, rfl⟩ := q3.form
              have c_3 : wr.cell? ⟨bc, offc + k * 4 + 3, none⟩ = some (.slice D y3.length d) := (hb.cell (p := ⟨bc, _, none⟩) (by show bc < w.heap.size; omega)).trans (by simpa using e3)
              have Q3 := Lib.hid q3
              clear hcc e0 e1 e2 e3 q0 q1 q2 q3
              have hyw := HW.out _ HM.out
              have HST := Lib.hid (st_impl ⟨y0, y1, y2, y3⟩ hyw)
              have hb2 := Lib.hid (hb.alloc hbs (.cells #[.int .i64 y0, .int .i64 y1, .string y2, .slice D y3.length d] 29))
              have CALLT := Lib.hid (top_impl ⟨y0, y1, y2, y3⟩ hyw [.int .i64 y0, .int .i64 y1, .string y2, .slice D y3.length d] _ w.heap.size (hmx.below hb2.out) hb2.out.size (by rw [FNode.c_eq]; exact RdVs.cons (by unfold RdC; rfl) (RdVs.cons (by unfold RdC; rfl) (RdVs.cons (by unfold RdC; rfl) (RdVs.cons ((Q3.out.up hB0).below hb2.out (Nat.le_refl _)) (RdVs.nil _ _))))))
              have HTE := Lib.hid (topF_eq ⟨y0, y1, y2, y3⟩)
              clear hyw
              cases htp : tpF ⟨y0, y1, y2, y3⟩ with
              | true =>
                rw [htp] at CALLT HTE
                go_wp2_with ((go_at_call 33; refine CALLT.out.mono ?_; rintro e w5 ⟨rfl, hb5⟩; have HB5 := Lib.hid (hb2.out.trans (hb5.mono hb2.out.size)); have by_0 : w5.cell? ⟨wr.heap.size, 0, none⟩ = some (.int .i64 y0) := (hb5.cell (p := ⟨wr.heap.size, 0, none⟩) (by show wr.heap.size < _; simp)).trans (by rw [World.cell?_alloc_new]; rfl); have by_1 : w5.cell? ⟨wr.heap.size, 1, none⟩ = some (.int .i64 y1) := (hb5.cell (p := ⟨wr.heap.size, 1, none⟩) (by show wr.heap.size < _; simp)).trans (by rw [World.cell?_alloc_new]; rfl); have by_2 : w5.cell? ⟨wr.heap.size, 2, none⟩ = some (.string y2) := (hb5.cell (p := ⟨wr.heap.size, 2, none⟩) (by show wr.heap.size < _; simp)).trans (by rw [World.cell?_alloc_new]; rfl); have by_3 : w5.cell? ⟨wr.heap.size, 3, none⟩ = some (.slice D y3.length d) := (hb5.cell (p := ⟨wr.heap.size, 3, none⟩) (by show wr.heap.size < _; simp)).trans (by rw [World.cell?_alloc_new]; rfl)))
                go_roundw
                case rel => exact ⟨k + 1, by omega, by go_num, Lib.hid (all_on HX.out HA.out HTE.out), HB5.out⟩
                case measure => simp [intOf]; omega
              | false =>
                rw [htp] at CALLT HTE
                unfold StI at HST
                cases hst : stF ⟨y0, y1, y2, y3⟩ with
                | true =>
                  rw [hst] at HST HTE
                  go_wp2_with (first | (go_at_call 33; refine CALLT.out.mono ?_; rintro e w5 ⟨rfl, hb5⟩; have HB5 := Lib.hid (hb2.out.trans (hb5.mono hb2.out.size)); have by_0 : w5.cell? ⟨wr.heap.size, 0, none⟩ = some (.int .i64 y0) := (hb5.cell (p := ⟨wr.heap.size, 0, none⟩) (by show wr.heap.size < _; simp)).trans (by rw [World.cell?_alloc_new]; rfl); have by_1 : w5.cell? ⟨wr.heap.size, 1, none⟩ = some (.int .i64 y1) := (hb5.cell (p := ⟨wr.heap.size, 1, none⟩) (by show wr.heap.size < _; simp)).trans (by rw [World.cell?_alloc_new]; rfl); have by_2 : w5.cell? ⟨wr.heap.size, 2, none⟩ = some (.string y2) := (hb5.cell (p := ⟨wr.heap.size, 2, none⟩) (by show wr.heap.size < _; simp)).trans (by rw [World.cell?_alloc_new]; rfl); have by_3 : w5.cell? ⟨wr.heap.size, 3, none⟩ = some (.slice D y3.length d) := (hb5.cell (p := ⟨wr.heap.size, 3, none⟩) (by show wr.heap.size < _; simp)).trans (by rw [World.cell?_alloc_new]; rfl)) | (go_at_call 34; refine (HST.out [.int .i64 y0, .int .i64 y1, .string y2, .slice D y3.length d] _ w.heap.size (hmx.below HB5.out) HB5.out.size (by rw [FNode.c_eq]; exact RdVs.cons (by unfold RdC; rfl) (RdVs.cons (by unfold RdC; rfl) (RdVs.cons (by unfold RdC; rfl) (RdVs.cons ((Q3.out.up hB0).below HB5.out (Nat.le_refl _)) (RdVs.nil _ _)))))).mono ?_; rintro e w6 ⟨rfl, hb6⟩))
                  go_roundw
                  case rel => exact ⟨k + 1, by omega, by go_num, Lib.hid (all_on HX.out HA.out HTE.out), HB5.out.trans (hb6.mono HB5.out.size)⟩
                  case measure => simp [intOf]; omega
                | false =>
                  rw [hst] at HST HTE
                  go_wp2_with (first | (go_at_call 33; refine CALLT.out.mono ?_; rintro e w5 ⟨rfl, hb5⟩; have HB5 := Lib.hid (hb2.out.trans (hb5.mono hb2.out.size)); have by_0 : w5.cell? ⟨wr.heap.size, 0, none⟩ = some (.int .i64 y0) := (hb5.cell (p := ⟨wr.heap.size, 0, none⟩) (by show wr.heap.size < _; simp)).trans (by rw [World.cell?_alloc_new]; rfl); have by_1 : w5.cell? ⟨wr.heap.size, 1, none⟩ = some (.int .i64 y1) := (hb5.cell (p := ⟨wr.heap.size, 1, none⟩) (by show wr.heap.size < _; simp)).trans (by rw [World.cell?_alloc_new]; rfl); have by_2 : w5.cell? ⟨wr.heap.size, 2, none⟩ = some (.string y2) := (hb5.cell (p := ⟨wr.heap.size, 2, none⟩) (by show wr.heap.size < _; simp)).trans (by rw [World.cell?_alloc_new]; rfl); have by_3 : w5.cell? ⟨wr.heap.size, 3, none⟩ = some (.slice D y3.length d) := (hb5.cell (p := ⟨wr.heap.size, 3, none⟩) (by show wr.heap.size < _; simp)).trans (by rw [World.cell?_alloc_new]; rfl)) | (go_at_call 34; refine (HST.out [.int .i64 y0, .int .i64 y1, .string y2, .slice D y3.length d] _ w.heap.size (hmx.below HB5.out) HB5.out.size (by rw [FNode.c_eq]; exact RdVs.cons (by unfold RdC; rfl) (RdVs.cons (by unfold RdC; rfl) (RdVs.cons (by unfold RdC; rfl) (RdVs.cons ((Q3.out.up hB0).below HB5.out (Nat.le_refl _)) (RdVs.nil _ _)))))).mono ?_; rintro e w6 ⟨rfl, hb6⟩))
                  go_ret
                  exact ⟨ret_bool (by rw [EX2.out, all_f HX.out HTE.out]), HB5.out.trans (hb6.mono HB5.out.size)⟩
            · obtain rfl : k = z3.length := by omega
              clear hlt
              have h := HA.out
              rw [List.take_length] at h
              rw [h] at EX2
              go_wp2_with fail
              go_ret
              exact ⟨ret_bool EX2.out.symm, hb⟩
      · rw [emT_f ht, Bool.false_and, Bool.and_false, Bool.and_false, Bool.and_false] at EX
        clear CALL
        subst h56
        subst h0
        go_enter Try.func17, Try.ntmps17
        go_wp2_with fail
        all_goals (go_ret; exact ⟨ret_bool EX.out.symm, HB.out⟩)
    · rw [beq_false_of_ne h0, Bool.false_and, Bool.and_false, Bool.and_false] at EX
      clear CALL
      subst h56
      go_enter Try.func17, Try.ntmps17
      go_wp2_with fail
      all_goals (go_ret; exact ⟨ret_bool EX.out.symm, HB.out⟩)
  · rw [beq_false_of_ne h56, Bool.false_and, Bool.and_false] at EX
    clear CALL
    go_enter Try.func17, Try.ntmps17
    go_wp2_with fail
    all_goals (go_ret; exact ⟨ret_bool EX.out.symm, HB.out⟩)
end Go.Proofs.Ytgejkfcemlkclaa
