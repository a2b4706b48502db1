/-
  Parts of the proof: IsK8, IsK9. Conditions: none.
-/
import Derived.Test.YtimiieckkdogeaaGreatQIsK5
import Derived.Test.YtimiieckkdogeaaGreatQIsK7
import Derived.Test.YtimiieckkdogeaaGreatQGBaseNd
set_option linter.unusedVariables false
set_option linter.unusedSimpArgs false
namespace Go.Proofs.YtimiieckkdogeaaGreat
open Go.ChangeShapes Go.WideShapes Go.ChangeAt Go.RowKit Go.Deep Go.Joins
open Go.ChangeMaps (open_string shut_string)
set_option maxRecDepth 100000
theorem top_impl (x : FNode) (hw : x.wt ≤ 1000000000) (us : List Value) (w : World) (B : Nat) (hmx : MaxAt w) (hB0 : B ≤ w.heap.size) (hr : RdVs w B x.c us) :
    Calls Tryz.prog 53 #[.agg us.toArray] w fun e w' => e = .returned (.bool (tpF x)) ∧ Below w.heap.size w w' := by
  obtain ⟨z0, z1, z2, z3⟩ := x
  unfold tpF
  simp only [FNode.kd, FNode.nu, FNode.tx, FNode.kids]
  by_cases h1 : z1 = 0
  · subst h1
    cases hgo : goodF z2 with
    | false => exact top_g z0 z2 z3 hw hgo us w B hmx hB0 hr
    | true =>
      by_cases n49 : z0 = 49
      · subst n49
        exact top_49 z2 z3 hw hgo us w B hmx hB0 hr
      by_cases n50 : z0 = 50
      · subst n50
        exact top_50 z2 z3 hw hgo us w B hmx hB0 hr
      by_cases n51 : z0 = 51
      · subst n51
        exact top_51 z2 z3 hw hgo us w B hmx hB0 hr
      simp only [n49, n50, n51, ↓reduceIte]
      exact top_o z0 z2 z3 hw hgo n49 n50 n51 us w B hmx hB0 hr
  · rw [beq_false_of_ne h1]
    exact top_n z0 z1 z2 z3 hw h1 us w B hmx hB0 hr
end Go.Proofs.YtimiieckkdogeaaGreat
namespace Go.Proofs.YtimiieckkdogeaaGreat
set_option maxHeartbeats 40000000
open Lib (hid)
open Go.ChangeShapes Go.WideShapes Go.ChangeAt Go.RowKit Go.Deep Go.Joins
open Go.ChangeMaps (open_string shut_string)
set_option maxRecDepth 100000
theorem small_impl (x : FNode) (hw : x.wt ≤ 1000000000) : SaB 52 x (smF x) := by
  intro us w B hB0 hr
  have HS := hid (szI _ x (Nat.le_refl _) hw)
  have HD := hid (dpI _ x (Nat.le_refl _) hw)
  have EX := hid (show smF x = (decide (szN x ≤ 600) && decide (dpN x ≤ 30)) from rfl)
  obtain ⟨N, hN⟩ : ∃ N, szN x = N := ⟨_, rfl⟩
  obtain ⟨P, hP⟩ : ∃ P, dpN x = P := ⟨_, rfl⟩
  rw [hN, hP] at EX
  obtain ⟨z0, z1, z2, z3⟩ := x
  obtain ⟨A3, c3, rfl, r3⟩ := hr.node
  rw [FNode.wt_eq] at hw
  have hz : z2.size ≤ 9223372036854775807 := by omega
  have hl : z3.length ≤ 9223372036854775807 := by omega
  have HR := hid r3
  have HB := hbA w z0 z1 z2 (.slice A3 z3.length c3)
  have CALL := hid (HS.out [.int .i64 z0, .int .i64 z1, .string z2, .slice A3 z3.length c3] _ w.heap.size HB.out.size (ndV ((HR.out.up hB0).below HB.out (Nat.le_refl _))))
  rw [hN] at CALL
  unfold DpI at HD
  rw [hP] at HD
  clear hr r3 hw hN hP HS
  have EX2 := hid (show (decide (N ≤ 600) && decide (P ≤ 30)) = smF ⟨z0, z1, z2, z3⟩ from EX.out.symm)
  clear EX
  by_cases hN6 : N ≤ 600
  · have hN7 : (N : Int) ≤ 600 := by omega
    rw [decide_eq_true hN6, Bool.true_and] at EX2
    by_cases hP3 : P ≤ 30
    · have hP4 : decide ((P : Int) ≤ 30) = true := by simp; omega
      rw [decide_eq_true hP3] at EX2
      go_enter Tryz.func52, Tryz.ntmps52
      go_wp2_with (first | (go_at_call 83; refine CALL.out.mono ?_; rintro e w3 ⟨rfl, hb3⟩; have HB3 := hid (HB.out.trans (hb3.mono HB.out.size)); have ⟨bx_0, bx_1, bx_2, bx_3⟩ := box4 hb3) | (go_at_call 84; refine (HD.out [.int .i64 z0, .int .i64 z1, .string z2, .slice A3 z3.length c3] _ w.heap.size HB3.out.size (ndV ((HR.out.up hB0).below HB3.out (Nat.le_refl _)))).mono ?_; rintro e w4 ⟨rfl, hb4⟩))
      all_goals (go_ret; exact ⟨ret_bool (by first | exact EX2.out | (rw [← EX2.out]; simp; omega)), HB3.out.trans (hb4.mono HB3.out.size)⟩)
    · have hP4 : decide ((P : Int) ≤ 30) = false := by simp; omega
      rw [decide_eq_false hP3] at EX2
      go_enter Tryz.func52, Tryz.ntmps52
      go_wp2_with (first | (go_at_call 83; refine CALL.out.mono ?_; rintro e w3 ⟨rfl, hb3⟩; have HB3 := hid (HB.out.trans (hb3.mono HB.out.size)); have ⟨bx_0, bx_1, bx_2, bx_3⟩ := box4 hb3) | (go_at_call 84; refine (HD.out [.int .i64 z0, .int .i64 z1, .string z2, .slice A3 z3.length c3] _ w.heap.size HB3.out.size (ndV ((HR.out.up hB0).below HB3.out (Nat.le_refl _)))).mono ?_; rintro e w4 ⟨rfl, hb4⟩))
      all_goals (go_ret; exact ⟨ret_bool (by first | exact EX2.out | (rw [← EX2.out]; simp; omega)), HB3.out.trans (hb4.mono HB3.out.size)⟩)
  · have hN7 : ¬ (N : Int) ≤ 600 := by omega
    rw [decide_eq_false hN6, Bool.false_and] at EX2
    go_enter Tryz.func52, Tryz.ntmps52
    go_wp2_with (first | (go_at_call 83; refine CALL.out.mono ?_; rintro e w3 ⟨rfl, hb3⟩; have HB3 := hid (HB.out.trans (hb3.mono HB.out.size)); have ⟨bx_0, bx_1, bx_2, bx_3⟩ := box4 hb3) | (go_at_call 84; refine (HD.out [.int .i64 z0, .int .i64 z1, .string z2, .slice A3 z3.length c3] _ w.heap.size HB3.out.size (ndV ((HR.out.up hB0).below HB3.out (Nat.le_refl _)))).mono ?_; rintro e w4 ⟨rfl, hb4⟩))
    all_goals (go_ret; exact ⟨ret_bool EX2.out, HB3.out⟩)
theorem topF_eq (x : FNode) : topF x = (tpF x || stF x) := by
  obtain ⟨k, n, t, ks⟩ := x
  unfold topF tpF
  show (if k = 49 then _ else if k = 50 ∨ k = 51 then _ else _) = _
  simp only [FNode.kd, FNode.nu, FNode.tx, FNode.kids]
  by_cases h49 : k = 49
  · subst h49
    rw [stF_mk, show stK 49 ks = false from rfl]
    simp (decide := true) only [↓reduceIte, Bool.and_false, Bool.or_false]
    rfl
  by_cases h50 : k = 50
  · subst h50
    rw [stF_mk, show stK 50 ks = false from rfl, clsP_eq _ ks 0 true 0 (fun _ => ⟨rfl, rfl⟩) (by decide) (by decide) (Or.inl rfl)]
    simp (decide := true) only [↓reduceIte, Bool.and_false, Bool.or_false]
    rfl
  by_cases h51 : k = 51
  · subst h51
    rw [stF_mk, show stK 51 ks = false from rfl, clsP_eq _ ks 0 true 0 (fun _ => ⟨rfl, rfl⟩) (by decide) (by decide) (Or.inl rfl)]
    simp (decide := true) only [↓reduceIte, Bool.and_false, Bool.or_false]
    rfl
  simp only [h49, h50, h51, ↓reduceIte, Bool.and_false, Bool.false_or, or_self]
theorem script_impl (x : FNode) (hw : x.wt ≤ 1000000000) (us : List Value) (w : World) (B : Nat) (hmx : MaxAt w) (hB0 : B ≤ w.heap.size) (hr : RdVs w B x.c us) :
    Calls Tryz.prog 28 #[.agg us.toArray] w fun e w' => e = .returned (.bool (scF x)) ∧ Below w.heap.size w w' := by
  have HSM := hid (small_impl x hw)
  obtain ⟨z0, z1, z2, z3⟩ := x
  have EX := hid (show scF ⟨z0, z1, z2, z3⟩ = (smF ⟨z0, z1, z2, z3⟩ && (z0 == 56 && (z1 == 0 && (emT z2 && z3.all topF)))) from rfl)
  have HW : Hid (∀ x, x ∈ z3 → x.wt ≤ 1000000000) := hid fun x hx => by have := (kid_wt (x := ⟨z0, z1, z2, z3⟩) (y := x) hx).1; omega
  obtain ⟨A3, c3, rfl, r3⟩ := hr.node
  rw [FNode.wt_eq] at hw
  have hz : z2.size ≤ 9223372036854775807 := by omega
  have hl : z3.length ≤ 9223372036854775807 := by omega
  have HR := hid r3
  have HB := hbA w z0 z1 z2 (.slice A3 z3.length c3)
  have CALL := hid (HSM.out [.int .i64 z0, .int .i64 z1, .string z2, .slice A3 z3.length c3] _ w.heap.size HB.out.size (ndV ((HR.out.up hB0).below HB.out (Nat.le_refl _))))
  have HC := hid r3
  clear hr r3 hw HSM
  by_cases h56 : z0 = 56
  · by_cases h0 : z1 = 0
    · by_cases ht : z2.toList = []
      · cases hs : smF ⟨z0, z1, z2, z3⟩ with
        | false =>
          rw [hs] at CALL EX
          subst h56
          subst h0
          go_enter Tryz.func28, Tryz.ntmps28
          go_wp2_with ((go_at_call 52; refine CALL.out.mono ?_; rintro e w3 ⟨rfl, hb3⟩; have HB3 := hid (HB.out.trans (hb3.mono HB.out.size)); have ⟨bx_0, bx_1, bx_2, bx_3⟩ := box4 hb3))
          all_goals (go_ret; exact ⟨ret_bool (by rw [EX.out]; rfl), HB3.out⟩)
        | true =>
          rw [hs] at CALL EX
          subst h56
          subst h0
          have EX2 := hid (show scF ⟨56, 0, z2, z3⟩ = z3.all topF from by rw [EX.out, emT_t ht]; rfl)
          clear EX
          go_enter Tryz.func28, Tryz.ntmps28
          go_wp2_with ((go_at_call 52; refine CALL.out.mono ?_; rintro e w3 ⟨rfl, hb3⟩; have HB3 := hid (HB.out.trans (hb3.mono HB.out.size)); have ⟨bx_0, bx_1, bx_2, bx_3⟩ := box4 hb3))
          go_loopw [26] (fun i wr => ∃ k : Nat, k ≤ z3.length ∧ i = .int .i64 k ∧ Hid ((z3.take k).all topF = true) ∧ Below w.heap.size w wr) (fun i _ => z3.length - (intOf i).toNat)
          case atStart => exact ⟨0, Nat.zero_le _, rfl, hid rfl, HB3.out⟩
          case round =>
            obtain ⟨k, hk, rfl, HA, hb⟩ := hrel
            have hbs := hb.size
            by_cases hlt : k < z3.length
            · skip
              obtain ⟨x, hx⟩ : ∃ x, z3[k]? = some x := ⟨_, List.getElem?_eq_getElem hlt⟩
              obtain ⟨bc, offc, rfl, hblc, hcc⟩ := RdC.at_ FNode.len HC.out hx
              have HX := hid hx
              have HM := hid (List.mem_of_getElem? hx)
              clear hx
              obtain ⟨y0, y1, y2, y3⟩ := x
              obtain ⟨D, d, c_0, c_1, c_2, c_3, q3⟩ := opN hb (by omega) hcc (offc + k * 4) (offc + k * 4 + 1) (offc + k * 4 + 2) (offc + k * 4 + 3) (by omega)
              have Q3 := hid q3
              clear hcc q3
              have hyw := HW.out _ HM.out
              have HST := hid (st_impl ⟨y0, y1, y2, y3⟩ hyw)
              have hb2 := hid (hb.alloc hbs (.cells #[.int .i64 y0, .int .i64 y1, .string y2, .slice D y3.length d] 61))
              have CALLT := hid (top_impl ⟨y0, y1, y2, y3⟩ hyw [.int .i64 y0, .int .i64 y1, .string y2, .slice D y3.length d] _ w.heap.size (hmx.below hb2.out) hb2.out.size (ndV ((Q3.out.up hB0).below hb2.out (Nat.le_refl _))))
              have HTE := hid (topF_eq ⟨y0, y1, y2, y3⟩)
              clear hyw
              cases htp : tpF ⟨y0, y1, y2, y3⟩ with
              | true =>
                rw [htp] at CALLT HTE
                go_wp2_with ((go_at_call 53; refine CALLT.out.mono ?_; rintro e w5 ⟨rfl, hb5⟩; have HB5 := hid (hb2.out.trans (hb5.mono hb2.out.size)); have by_0 : w5.cell? ⟨wr.heap.size, 0, none⟩ = some (.int .i64 y0) := (hb5.cell (p := ⟨wr.heap.size, 0, none⟩) (by show wr.heap.size < _; simp)).trans (by rw [World.cell?_alloc_new]; rfl); have by_1 : w5.cell? ⟨wr.heap.size, 1, none⟩ = some (.int .i64 y1) := (hb5.cell (p := ⟨wr.heap.size, 1, none⟩) (by show wr.heap.size < _; simp)).trans (by rw [World.cell?_alloc_new]; rfl); have by_2 : w5.cell? ⟨wr.heap.size, 2, none⟩ = some (.string y2) := (hb5.cell (p := ⟨wr.heap.size, 2, none⟩) (by show wr.heap.size < _; simp)).trans (by rw [World.cell?_alloc_new]; rfl); have by_3 : w5.cell? ⟨wr.heap.size, 3, none⟩ = some (.slice D y3.length d) := (hb5.cell (p := ⟨wr.heap.size, 3, none⟩) (by show wr.heap.size < _; simp)).trans (by rw [World.cell?_alloc_new]; rfl)))
                go_roundw
                case rel => exact ⟨k + 1, by omega, by go_num, hid (all_on HX.out HA.out HTE.out), HB5.out⟩
                case measure => simp [intOf]; omega
              | false =>
                rw [htp] at CALLT HTE
                unfold StI at HST
                cases hst : stF ⟨y0, y1, y2, y3⟩ with
                | true =>
                  rw [hst] at HST HTE
                  go_wp2_with (first | (go_at_call 53; refine CALLT.out.mono ?_; rintro e w5 ⟨rfl, hb5⟩; have HB5 := hid (hb2.out.trans (hb5.mono hb2.out.size)); have by_0 : w5.cell? ⟨wr.heap.size, 0, none⟩ = some (.int .i64 y0) := (hb5.cell (p := ⟨wr.heap.size, 0, none⟩) (by show wr.heap.size < _; simp)).trans (by rw [World.cell?_alloc_new]; rfl); have by_1 : w5.cell? ⟨wr.heap.size, 1, none⟩ = some (.int .i64 y1) := (hb5.cell (p := ⟨wr.heap.size, 1, none⟩) (by show wr.heap.size < _; simp)).trans (by rw [World.cell?_alloc_new]; rfl); have by_2 : w5.cell? ⟨wr.heap.size, 2, none⟩ = some (.string y2) := (hb5.cell (p := ⟨wr.heap.size, 2, none⟩) (by show wr.heap.size < _; simp)).trans (by rw [World.cell?_alloc_new]; rfl); have by_3 : w5.cell? ⟨wr.heap.size, 3, none⟩ = some (.slice D y3.length d) := (hb5.cell (p := ⟨wr.heap.size, 3, none⟩) (by show wr.heap.size < _; simp)).trans (by rw [World.cell?_alloc_new]; rfl)) | (go_at_call 54; refine (HST.out [.int .i64 y0, .int .i64 y1, .string y2, .slice D y3.length d] _ w.heap.size (hmx.below HB5.out) HB5.out.size (ndV ((Q3.out.up hB0).below HB5.out (Nat.le_refl _)))).mono ?_; rintro e w6 ⟨rfl, hb6⟩))
                  go_roundw
                  case rel => exact ⟨k + 1, by omega, by go_num, hid (all_on HX.out HA.out HTE.out), HB5.out.trans (hb6.mono HB5.out.size)⟩
                  case measure => simp [intOf]; omega
                | false =>
                  rw [hst] at HST HTE
                  go_wp2_with (first | (go_at_call 53; refine CALLT.out.mono ?_; rintro e w5 ⟨rfl, hb5⟩; have HB5 := hid (hb2.out.trans (hb5.mono hb2.out.size)); have by_0 : w5.cell? ⟨wr.heap.size, 0, none⟩ = some (.int .i64 y0) := (hb5.cell (p := ⟨wr.heap.size, 0, none⟩) (by show wr.heap.size < _; simp)).trans (by rw [World.cell?_alloc_new]; rfl); have by_1 : w5.cell? ⟨wr.heap.size, 1, none⟩ = some (.int .i64 y1) := (hb5.cell (p := ⟨wr.heap.size, 1, none⟩) (by show wr.heap.size < _; simp)).trans (by rw [World.cell?_alloc_new]; rfl); have by_2 : w5.cell? ⟨wr.heap.size, 2, none⟩ = some (.string y2) := (hb5.cell (p := ⟨wr.heap.size, 2, none⟩) (by show wr.heap.size < _; simp)).trans (by rw [World.cell?_alloc_new]; rfl); have by_3 : w5.cell? ⟨wr.heap.size, 3, none⟩ = some (.slice D y3.length d) := (hb5.cell (p := ⟨wr.heap.size, 3, none⟩) (by show wr.heap.size < _; simp)).trans (by rw [World.cell?_alloc_new]; rfl)) | (go_at_call 54; refine (HST.out [.int .i64 y0, .int .i64 y1, .string y2, .slice D y3.length d] _ w.heap.size (hmx.below HB5.out) HB5.out.size (ndV ((Q3.out.up hB0).below HB5.out (Nat.le_refl _)))).mono ?_; rintro e w6 ⟨rfl, hb6⟩))
                  go_ret
                  exact ⟨ret_bool (by rw [EX2.out, all_f HX.out HTE.out]), HB5.out.trans (hb6.mono HB5.out.size)⟩
            · obtain rfl : k = z3.length := by omega
              clear hlt
              have h := HA.out
              rw [List.take_length] at h
              rw [h] at EX2
              go_wp2_with fail
              go_ret
              exact ⟨ret_bool EX2.out.symm, hb⟩
      · rw [emT_f ht, Bool.false_and, Bool.and_false, Bool.and_false, Bool.and_false] at EX
        clear CALL
        subst h56
        subst h0
        go_enter Tryz.func28, Tryz.ntmps28
        go_wp2_with fail
        all_goals (go_ret; exact ⟨ret_bool EX.out.symm, HB.out⟩)
    · rw [beq_false_of_ne h0, Bool.false_and, Bool.and_false, Bool.and_false] at EX
      clear CALL
      subst h56
      go_enter Tryz.func28, Tryz.ntmps28
      go_wp2_with fail
      all_goals (go_ret; exact ⟨ret_bool EX.out.symm, HB.out⟩)
  · rw [beq_false_of_ne h56, Bool.false_and, Bool.and_false] at EX
    clear CALL
    go_enter Tryz.func28, Tryz.ntmps28
    go_wp2_with fail
    all_goals (go_ret; exact ⟨ret_bool EX.out.symm, HB.out⟩)
end Go.Proofs.YtimiieckkdogeaaGreat
