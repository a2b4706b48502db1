/-
  Parts of the proof: IsI6, IsI7. Conditions: none.
-/
import Derived.Test.YtimiieckkdogeaaGreatQGBaseNd
import Derived.Test.YtimiieckkdogeaaGreatQGIsCIsI0
import Derived.Test.YtimiieckkdogeaaGreatQGIsFIsB
set_option linter.unusedVariables false
set_option linter.unusedSimpArgs false
namespace Go.Proofs.YtimiieckkdogeaaGreat
set_option maxHeartbeats 40000000
open Lib (hid)
open Go.ChangeShapes Go.WideShapes Go.ChangeAt Go.RowKit Go.Deep Go.Joins
open Go.ChangeMaps (open_string shut_string)
set_option maxRecDepth 100000
theorem inB_nat (m : Nat) : inB (m : Int) 1 2 = decide (1 ≤ m ∧ m ≤ 2) := by
  unfold inB
  rw [decide_eq_decide]
  omega
theorem exI_5 (z1 : Int) (z2 : ByteArray) (z3 : List FNode) (hw : (FNode.mk 5 z1 z2 z3).wt ≤ 9000000000) (hI : ∀ x, x ∈ z3 → AlI x.kids) : ExI (.mk 5 z1 z2 z3) := by
  intro us w B hmx hB0 hr
  obtain ⟨A3, c3, rfl, r3⟩ := hr.node
  rw [FNode.wt_eq] at hw
  have hz : z2.size ≤ 9223372036854775807 := by omega
  have hl : z3.length ≤ 9223372036854775807 := by omega
  have EX := hid (show exF ⟨5, z1, z2, z3⟩ = (((z1 == 0) && emT z2) && z3.all itF) from by rw [exF_mk]; rfl)
  have HC := hid r3
  have HI := hid hI
  have HZ := hid (show ∀ x, x ∈ z3 → x.kids.length ≤ 9000000000 from fun x hx => by
    have h1 := FNode.wts_at z3 x hx
    obtain ⟨y0, y1, y2, y3⟩ := x
    rw [FNode.wt_eq] at h1
    show y3.length ≤ _
    omega)
  clear hr r3 hw hI
  go_enter Tryz.func88, Tryz.ntmps88
  go_wp2_with fail
  go_loopw [65] (fun i wr => ∃ k : Nat, k ≤ z3.length ∧ i = .int .i64 k ∧ Hid ((z3.take k).all itF = true) ∧ Below w.heap.size w wr) (fun i _ => z3.length - (intOf i).toNat)
  case atStart => exact ⟨0, Nat.zero_le _, rfl, hid rfl, (Below.refl _ _).alloc (Nat.le_refl _) _⟩
  case round =>
    obtain ⟨k, hk, rfl, HA, hb⟩ := hrel
    have hbs := hb.size
    by_cases hlt : k < z3.length
    · skip
      obtain ⟨x, hx⟩ : ∃ x, z3[k]? = some x := ⟨_, List.getElem?_eq_getElem hlt⟩
      obtain ⟨bc, offc, rfl, hblc, hcc⟩ := RdC.at_ FNode.len HC.out hx
      have HX := hid hx
      have HM := hid (List.mem_of_getElem? hx)
      clear hx
      obtain ⟨y0, y1, y2, y3⟩ := x
      obtain ⟨D, d, c_0, c_1, c_2, c_3, q3⟩ := opN hb (by omega) hcc (offc + k * 4) (offc + k * 4 + 1) (offc + k * 4 + 2) (offc + k * 4 + 3) (by omega)
      have Q3 := hid q3
      clear hcc q3
      have HV : Hid (AlI y3) := hid (HI.out _ HM.out)
      have hyl : y3.length ≤ 9000000000 := HZ.out _ HM.out
      have IT := hid (itF_mk y0 y1 y2 y3)
      by_cases e6 : y0 = 6
      · subst e6
        by_cases e0 : y1 = 0
        · subst e0
          have hb2 := hid (hb.alloc hbs (.cells #[.int .i64 6, .int .i64 0, .string y2, .slice D y3.length d] 61))
          have HV' := HV.out
          unfold AlI at HV'
          have CALL := hid (HV' (.slice D y3.length d) _ w.heap.size (hmx.below hb2.out) hb2.out.size ((Q3.out.up hB0).below hb2.out (Nat.le_refl _)))
          have HIN := hid (inB_nat y3.length)
          rw [← HIN.out] at IT
          clear HV'
          cases hv : y3.all exF with
          | true =>
            rw [hv] at CALL
            go_wp2_with (first | (go_at_call 87; refine (inRange_any _ _ _ _).mono ?_; rintro e w' ⟨rfl, rfl⟩) | (go_at_call 92; refine CALL.out.mono ?_; rintro e w' ⟨rfl, hb3⟩))
            all_goals first
              | (go_ret; exact ⟨ret_bool (by rw [EX.out, all_f HX.out (by rw [IT.out]; exact fZ), Bool.and_false]), hb2.out⟩)
              | (go_ret; exact ⟨ret_bool (by rw [EX.out, all_f HX.out (by rw [IT.out]; exact fZ), Bool.and_false]), hb2.out.trans (Below.mono (by assumption) hb2.out.size)⟩)
              | (go_roundw
                 case rel => exact ⟨k + 1, by omega, by go_num, hid (all_on HX.out HA.out (by rw [IT.out]; exact fZ)), hb2.out.trans (Below.mono (by assumption) hb2.out.size)⟩
                 case measure => simp [intOf]; omega)
          | false =>
            rw [hv] at CALL
            go_wp2_with (first | (go_at_call 87; refine (inRange_any _ _ _ _).mono ?_; rintro e w' ⟨rfl, rfl⟩) | (go_at_call 92; refine CALL.out.mono ?_; rintro e w' ⟨rfl, hb3⟩))
            all_goals first
              | (go_ret; exact ⟨ret_bool (by rw [EX.out, all_f HX.out (by rw [IT.out]; exact fZ), Bool.and_false]), hb2.out⟩)
              | (go_ret; exact ⟨ret_bool (by rw [EX.out, all_f HX.out (by rw [IT.out]; exact fZ), Bool.and_false]), hb2.out.trans (Below.mono (by assumption) hb2.out.size)⟩)
              | (go_roundw
                 case rel => exact ⟨k + 1, by omega, by go_num, hid (all_on HX.out HA.out (by rw [IT.out]; exact fZ)), hb2.out.trans (Below.mono (by assumption) hb2.out.size)⟩
                 case measure => simp [intOf]; omega)
        · have hb2 := hid (hb.alloc hbs (.cells #[.int .i64 6, .int .i64 y1, .string y2, .slice D y3.length d] 61))
          go_wp2_with fail
          go_ret
          exact ⟨ret_bool (by rw [EX.out, all_f HX.out (by rw [IT.out]; exact fZ), Bool.and_false]), hb2.out⟩
      · have hb2 := hid (hb.alloc hbs (.cells #[.int .i64 y0, .int .i64 y1, .string y2, .slice D y3.length d] 61))
        go_wp2_with fail
        go_ret
        exact ⟨ret_bool (by rw [EX.out, all_f HX.out (by rw [IT.out]; exact fZ), Bool.and_false]), hb2.out⟩
    · obtain rfl : k = z3.length := by omega
      clear hlt
      have h := HA.out
      rw [List.take_length] at h
      rw [h] at EX
      go_wp2_with fail
      all_goals (go_ret; exact ⟨ret_bool (by rw [EX.out]; exact fZ), hb⟩)
theorem exI_21 (z1 : Int) (z2 : ByteArray) (z3 : List FNode) (hw : (FNode.mk 21 z1 z2 z3).wt ≤ 9000000000) (hA : AlI z3) (hz4 : z2.size ≤ 4000000000) : ExI (.mk 21 z1 z2 z3) := by
  intro us w B hmx hB0 hr
  obtain ⟨A3, c3, rfl, r3⟩ := hr.node
  rw [FNode.wt_eq] at hw
  have hz : z2.size ≤ 9223372036854775807 := by omega
  have hl : z3.length ≤ 9223372036854775807 := by omega
  have EX := hid (show exF ⟨21, z1, z2, z3⟩ = (((z1 == 0) && stcF z2) && z3.all exF) from by rw [exF_mk]; rfl)
  unfold AlI at hA
  obtain ⟨m, hm⟩ : ∃ m, z3.length = m := ⟨_, rfl⟩
  try rw [hm] at EX
  rw [hm] at hl r3 hA ⊢
  have HB := hbA w 21 z1 z2 (.slice A3 m c3)
  have CALL := hid (hA _ _ w.heap.size (hmx.below HB.out) HB.out.size ((r3.up hB0).below HB.out (Nat.le_refl _)))
  clear hm hr hw
  have HR := hid r3
  have HA := hid hA
  clear r3 hA CALL
  by_cases e2 : z1 = 0
  · subst e2
    go_enter Tryz.func88, Tryz.ntmps88
    go_wp2_with (first | (go_at_call 116; refine (static_impl z2 _ hz4 (hmx.below HB.out)).mono ?_; rintro e w3 ⟨rfl, hb3⟩; have HB3 := hid (HB.out.trans (hb3.mono HB.out.size)); have bx : w3.cell? ⟨w.heap.size, 3, none⟩ = some (.slice A3 m c3) := (hb3.cell (p := ⟨w.heap.size, 3, none⟩) (by show w.heap.size < _; simp)).trans (by rw [World.cell?_alloc_new]; rfl)) | (go_at_call 92; refine (HA.out _ _ w.heap.size (hmx.below HB3.out) HB3.out.size ((HR.out.up hB0).below HB3.out (Nat.le_refl _))).mono ?_; rintro e w4 ⟨rfl, hb4⟩))
    all_goals (first | (go_ret; exact ⟨ret_bool (by rw [EX.out]; exact fZ), HB3.out⟩) | (go_ret; exact ⟨ret_bool (by rw [EX.out]; exact fZ), HB3.out.trans (Below.mono (by assumption) HB3.out.size)⟩))
  ·
    go_enter Tryz.func88, Tryz.ntmps88
    go_wp2_with (fail)
    all_goals (go_ret; exact ⟨ret_bool (by rw [EX.out]; exact fZ), bT HB⟩)
end Go.Proofs.YtimiieckkdogeaaGreat
namespace Go.Proofs.YtimiieckkdogeaaGreat
set_option maxHeartbeats 40000000
open Go.ChangeShapes Go.WideShapes Go.ChangeAt Go.RowKit Go.Deep Go.Joins
open Go.ChangeMaps (open_string shut_string)
set_option maxRecDepth 100000
theorem exI_23 (z1 : Int) (z2 : ByteArray) (z3 : List FNode) (hw : (FNode.mk 23 z1 z2 z3).wt ≤ 9000000000) (hA : FuI true z3) : ExI (.mk 23 z1 z2 z3) := by
  intro us w B hmx hB0 hr
  obtain ⟨A3, c3, rfl, r3⟩ := hr.node
  rw [FNode.wt_eq] at hw
  have hz : z2.size ≤ 9223372036854775807 := by omega
  have hl : z3.length ≤ 9223372036854775807 := by omega
  have EX := Lib.hid (show exF ⟨23, z1, z2, z3⟩ = (((z1 == 0) && emT z2) && usF true z3) from by rw [exF_mk]; rfl)
  unfold FuI at hA
  obtain ⟨m, hm⟩ : ∃ m, z3.length = m := ⟨_, rfl⟩
  try rw [hm] at EX
  rw [hm] at hl r3 hA ⊢
  have HB := hbA w 23 z1 z2 (.slice A3 m c3)
  have CALL := Lib.hid (hA _ _ w.heap.size (hmx.below HB.out) HB.out.size ((r3.up hB0).below HB.out (Nat.le_refl _)))
  clear hm hr r3 hw hA
  by_cases e1 : z1 = 0
  · subst e1
    go_enter Tryz.func88, Tryz.ntmps88
    go_wp2_with (first | (go_at_call 86; refine CALL.out.mono ?_; rintro e w' ⟨rfl, hb3⟩))
    all_goals (go_ret; exact ⟨ret_bool (by rw [EX.out]; exact fZ), bT HB⟩)
  ·
    go_enter Tryz.func88, Tryz.ntmps88
    go_wp2_with (first | (go_at_call 86; refine CALL.out.mono ?_; rintro e w' ⟨rfl, hb3⟩))
    all_goals (go_ret; exact ⟨ret_bool (by rw [EX.out]; exact fZ), bT HB⟩)
theorem exI_o (z0 z1 : Int) (z2 : ByteArray) (z3 : List FNode) (hw : (FNode.mk z0 z1 z2 z3).wt ≤ 9000000000) (n1 : ¬ z0 = 1) (n2 : ¬ z0 = 2) (n3 : ¬ z0 = 3) (n4 : ¬ z0 = 4) (n5 : ¬ z0 = 5) (n7 : ¬ z0 = 7) (n8 : ¬ z0 = 8) (n9 : ¬ z0 = 9) (n10 : ¬ z0 = 10) (n11 : ¬ z0 = 11) (n12 : ¬ z0 = 12) (n13 : ¬ z0 = 13) (n14 : ¬ z0 = 14) (n15 : ¬ z0 = 15) (n16 : ¬ z0 = 16) (n17 : ¬ z0 = 17) (n18 : ¬ z0 = 18) (n19 : ¬ z0 = 19) (n20 : ¬ z0 = 20) (n21 : ¬ z0 = 21) (n22 : ¬ z0 = 22) (n23 : ¬ z0 = 23) : ExI (.mk z0 z1 z2 z3) := by
  intro us w B hmx hB0 hr
  obtain ⟨A3, c3, rfl, r3⟩ := hr.node
  rw [FNode.wt_eq] at hw
  have hz : z2.size ≤ 9223372036854775807 := by omega
  have hl : z3.length ≤ 9223372036854775807 := by omega
  have EX := Lib.hid (show exF ⟨z0, z1, z2, z3⟩ = false from by rw [exF_mk]; unfold exK; simp [n1, n2, n3, n4, n5, n7, n8, n9, n10, n11, n12, n13, n14, n15, n16, n17, n18, n19, n20, n21, n22, n23])

  obtain ⟨m, hm⟩ : ∃ m, z3.length = m := ⟨_, rfl⟩
  try rw [hm] at EX
  rw [hm] at hl r3  ⊢
  have HB := hbA w z0 z1 z2 (.slice A3 m c3)

  clear hm hr r3 hw
  go_enter Tryz.func88, Tryz.ntmps88
  go_wp2_with (fail)
  all_goals (go_ret; exact ⟨ret_bool EX.out.symm, HB.out⟩)
end Go.Proofs.YtimiieckkdogeaaGreat
