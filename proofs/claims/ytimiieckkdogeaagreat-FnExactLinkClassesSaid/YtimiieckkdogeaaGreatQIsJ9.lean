/-
  Parts of the proof: IsJ9. Conditions: none.
-/
import Derived.Test.YtimiieckkdogeaaGreatQGBaseNd
import Derived.Test.YtimiieckkdogeaaGreatQGIsJ7IsJ8
set_option linter.unusedVariables false
set_option linter.unusedSimpArgs false
namespace Go.Proofs.YtimiieckkdogeaaGreat
set_option maxHeartbeats 40000000
open Lib (hid)
open Go.ChangeShapes Go.WideShapes Go.ChangeAt Go.RowKit Go.Deep Go.Joins
open Go.ChangeMaps (open_string shut_string)
set_option maxRecDepth 100000
theorem stI_46 (z1 : Int) (z2 : ByteArray) (z3 : List FNode) (hw : (FNode.mk 46 z1 z2 z3).wt ≤ 9000000000) (hE : ∀ x, x ∈ z3 → ExI x) : StI (.mk 46 z1 z2 z3) := by
  intro us w B hmx hB0 hr
  obtain ⟨A3, c3, rfl, r3⟩ := hr.node
  rw [FNode.wt_eq] at hw
  have hz : z2.size ≤ 9223372036854775807 := by omega
  have hl : z3.length ≤ 9223372036854775807 := by omega
  have EX := hid (show stF ⟨46, z1, z2, z3⟩ = (((z1 == 0) && emT z2) && (decide (1 ≤ z3.length ∧ z3.length ≤ 2) && (z3.all exF && (z3.length == 1 || hd4 z3)))) from by rw [stF_mk]; rfl)

  obtain ⟨m, hm⟩ : ∃ m, z3.length = m := ⟨_, rfl⟩
  try rw [hm] at EX
  rw [hm] at hl r3  ⊢
  have HB := hbA w 46 z1 z2 (.slice A3 m c3)

  clear hr
  have HR := hid r3
  have hcap : m ≤ c3 := by
    have h := r3
    unfold RdC at h
    obtain ⟨A', c', hA, k1, k2, _, _⟩ := h
    simp only [Value.slice.injEq, true_and] at hA
    omega
  clear r3
  by_cases e2 : z1 = 0
  · subst e2
    by_cases e1 : m = 1
    · subst e1
      obtain ⟨⟨y0, y1, y2, y3⟩, rfl⟩ := List.length_eq_one_iff.mp hm
      have HV := hid (hE ⟨y0, y1, y2, y3⟩ (List.mem_singleton.mpr rfl))
      obtain ⟨bcy, offcy, Ey, hblcy, hcc⟩ := RdC.at_ (l := [FNode.mk y0 y1 y2 y3]) FNode.len HR.out (i := 0) (x := FNode.mk y0 y1 y2 y3) rfl
      obtain ⟨Dy, dy, cy_0, cy_1, cy_2, cy_3, q3⟩ := opN HB.out (by omega) hcc (offcy) (offcy + 1) (offcy + 2) (offcy + 3) (by omega)
      have Qy := hid q3
      clear hcc q3
      subst Ey
      have CALL := hid (HV.out [.int .i64 y0, .int .i64 y1, .string y2, .slice Dy y3.length dy] _ w.heap.size (hmx.below HB.out) HB.out.size (ndV ((Qy.out.up hB0).below HB.out (Nat.le_refl _))))
      clear hm hw hE
      rw [show (decide (1 ≤ 1 ∧ 1 ≤ 2) && ([FNode.mk y0 y1 y2 y3].all exF && (1 == 1 || hd4 [FNode.mk y0 y1 y2 y3]))) = exF ⟨y0, y1, y2, y3⟩ from by simp] at EX
      go_enter Tryz.func54, Tryz.ntmps54
      go_wp2_with (first | (go_at_call 88; refine CALL.out.mono ?_; rintro e w' ⟨rfl, hb3⟩))
      all_goals (go_ret; exact ⟨ret_bool (by rw [EX.out]; exact fZ), bT HB⟩)
    · by_cases e3 : m = 2
      · subst e3
        obtain ⟨⟨y0, y1, y2, y3⟩, ⟨t0, t1, t2, t3⟩, rfl⟩ := two_of hm
        have hwy : (FNode.mk y0 y1 y2 y3).wt ≤ 9000000000 := by have := FNode.wts_at [FNode.mk y0 y1 y2 y3, FNode.mk t0 t1 t2 t3] (FNode.mk y0 y1 y2 y3) (by simp); omega
        have HV := hid (hE ⟨t0, t1, t2, t3⟩ (by simp))
        obtain ⟨bcy, offcy, Ey, hblcy, hcc⟩ := RdC.at_ (l := [FNode.mk y0 y1 y2 y3, FNode.mk t0 t1 t2 t3]) FNode.len HR.out (i := 0) (x := FNode.mk y0 y1 y2 y3) rfl
        obtain ⟨Dy, dy, cy_0, cy_1, cy_2, cy_3, q3⟩ := opN (Below.refl w.heap.size w) (by omega) hcc (offcy) (offcy + 1) (offcy + 2) (offcy + 3) (by omega)
        have Qy := hid q3
        clear hcc q3
        obtain ⟨bct, offct, Et, hblct, hcc⟩ := RdC.at_ (l := [FNode.mk y0 y1 y2 y3, FNode.mk t0 t1 t2 t3]) FNode.len HR.out (i := 1) (x := FNode.mk t0 t1 t2 t3) rfl
        obtain ⟨Dt, dt, ct_0, ct_1, ct_2, ct_3, q3⟩ := opN (Below.refl w.heap.size w) (by omega) hcc (offct + 4) (offct + 5) (offct + 6) (offct + 7) (by omega)
        have Qt := hid q3
        clear hcc q3
        have hbl : bcy < w.heap.size := Nat.lt_of_lt_of_le hblcy hB0
        subst Ey
        obtain ⟨g1, g2⟩ : bcy = bct ∧ offcy = offct := by simpa using Et
        subst g1
        subst g2
        clear Et
        have ⟨_, _, _, _⟩ := cell4 HB.out hbl cy_0 cy_1 cy_2 cy_3
        have CALL := hid (var_impl _ hwy [.int .i64 y0, .int .i64 y1, .string y2, .slice Dy y3.length dy] _ w.heap.size (ndV ((Qy.out.up hB0).below HB.out (Nat.le_refl _))))
        clear hm hw hE hwy
        rw [show (decide (1 ≤ 2 ∧ 2 ≤ 2) && ([FNode.mk y0 y1 y2 y3, FNode.mk t0 t1 t2 t3].all exF && (2 == 1 || hd4 [FNode.mk y0 y1 y2 y3, FNode.mk t0 t1 t2 t3]))) = (varF ⟨y0, y1, y2, y3⟩ && exF ⟨t0, t1, t2, t3⟩) from by rw [← varF_ex]; exact yi_eq _ _] at EX
        cases hv : varF ⟨y0, y1, y2, y3⟩ with
        | false =>
          rw [hv] at CALL EX
          clear hv
          go_enter Tryz.func54, Tryz.ntmps54
          go_wp2_with (first | (go_at_call 91; refine CALL.out.mono ?_; rintro e w3 ⟨rfl, hb3⟩; have HB3 := hid (HB.out.trans (hb3.mono HB.out.size))))
          all_goals (first | (go_ret; exact ⟨ret_bool (by rw [EX.out]; exact fZ), HB.out⟩) | (go_ret; exact ⟨ret_bool (by rw [EX.out]; exact fZ), HB3.out⟩) | (go_ret; exact ⟨ret_bool (by rw [EX.out]; exact fZ), HB3.out.trans (Below.mono (by assumption) HB3.out.size)⟩))
        | true =>
          rw [hv] at CALL EX
          clear hv
          go_enter Tryz.func54, Tryz.ntmps54
          go_wp2_with (first | (go_at_call 91; refine CALL.out.mono ?_; rintro e w3 ⟨rfl, hb3⟩; have HB3 := hid (HB.out.trans (hb3.mono HB.out.size)); have bx_w3 : w3.cell? ⟨w.heap.size, 3, none⟩ = some (.slice (some ⟨bcy, offcy, none⟩) 2 c3) := (hb3.cell (p := ⟨w.heap.size, 3, none⟩) (by show w.heap.size < _; simp)).trans (by rw [World.cell?_alloc_new]; rfl); have sz_w3 := szA hb3; have ⟨_, _, _, _⟩ := cell4 HB3.out hbl ct_0 ct_1 ct_2 ct_3) | (go_at_call 88; refine (HV.out [.int .i64 t0, .int .i64 t1, .string t2, .slice Dt t3.length dt] w3 w.heap.size (hmx.below HB3.out) HB3.out.size (ndV ((Qt.out.up hB0).below HB3.out (Nat.le_refl _)))).mono ?_; rintro e w4 ⟨rfl, hb4⟩))
          all_goals (first | (go_ret; exact ⟨ret_bool (by rw [EX.out]; exact fZ), HB.out⟩) | (go_ret; exact ⟨ret_bool (by rw [EX.out]; exact fZ), HB3.out⟩) | (go_ret; exact ⟨ret_bool (by rw [EX.out]; exact fZ), HB3.out.trans (Below.mono (by assumption) HB3.out.size)⟩))
      · rw [show decide (1 ≤ m ∧ m ≤ 2) = false from decide_eq_false (by omega)] at EX
        clear hm hw hE
        go_enter Tryz.func54, Tryz.ntmps54
        go_wp2_with (fail)
        all_goals (go_ret; exact ⟨ret_bool (by rw [EX.out]; exact fZ), bT HB⟩)
  · clear hm hw hE
    go_enter Tryz.func54, Tryz.ntmps54
    go_wp2_with (fail)
    all_goals (go_ret; exact ⟨ret_bool (by rw [EX.out]; exact fZ), bT HB⟩)
theorem stI_o (z0 z1 : Int) (z2 : ByteArray) (z3 : List FNode) (hw : (FNode.mk z0 z1 z2 z3).wt ≤ 9000000000) (n31 : ¬ z0 = 31) (n32 : ¬ z0 = 32) (n33 : ¬ z0 = 33) (n34 : ¬ z0 = 34) (n35 : ¬ z0 = 35) (n36 : ¬ z0 = 36) (n37 : ¬ z0 = 37) (n38 : ¬ z0 = 38) (n39 : ¬ z0 = 39) (n40 : ¬ z0 = 40) (n41 : ¬ z0 = 41) (n42 : ¬ z0 = 42) (n43 : ¬ z0 = 43) (n46 : ¬ z0 = 46) (n47 : ¬ z0 = 47) (n48 : ¬ z0 = 48) : StI (.mk z0 z1 z2 z3) := by
  intro us w B hmx hB0 hr
  obtain ⟨A3, c3, rfl, r3⟩ := hr.node
  rw [FNode.wt_eq] at hw
  have hz : z2.size ≤ 9223372036854775807 := by omega
  have hl : z3.length ≤ 9223372036854775807 := by omega
  have EX := hid (show stF ⟨z0, z1, z2, z3⟩ = false from by rw [stF_mk]; unfold stK; simp [n31, n32, n33, n34, n35, n36, n37, n38, n39, n40, n41, n42, n43, n46, n47, n48])

  obtain ⟨m, hm⟩ : ∃ m, z3.length = m := ⟨_, rfl⟩
  try rw [hm] at EX
  rw [hm] at hl r3  ⊢
  have HB := hbA w z0 z1 z2 (.slice A3 m c3)

  clear hm hr r3 hw
  go_enter Tryz.func54, Tryz.ntmps54
  go_wp2_with (fail)
  all_goals (go_ret; exact ⟨ret_bool EX.out.symm, HB.out⟩)
end Go.Proofs.YtimiieckkdogeaaGreat
