/-
 Parts of the proof: ScU, ScW, ScX, ScV. Conditions: none.
-/
import Derived.Test.YtkkjnfappndmpaaGreatDoorQFold
import Derived.Test.YtkkjnfappndmpaaGreatDoorQbh
import Derived.Deep.CutRange
import Derived.Deep.CutBlock
set_option linter.unusedVariables false
set_option linter.unusedSimpArgs false
namespace Go.Proofs.YtkkjnfappndmpaaGreatDoor
set_option maxHeartbeats 40000000
open Lib (hid)
open Go.ChangeShapes Go.WideShapes Go.ChangeAt Go.RowKit Go.Deep Go.Joins
open Go.ChangeMaps (open_string shut_string)
set_option maxRecDepth 100000
theorem thS_36_3 (z1 : Int) (z2 : ByteArray) (z3 : List FNode) (hw : (FNode.mk 36 z1 z2 z3).wt ≤ 9000000000) (hk1 : z3.length = 3) : SaB 57 (FNode.mk 36 z1 z2 z3) (atSm z3 1 || (atSm z3 (z3.length - 2) && z3.length == 4)) := by
 intro us w B hB0 hr
 obtain ⟨A3, c3, rfl, r3⟩ := hr.node
 have hww := hw
 rw [FNode.wt_eq] at hw
 have hz : z2.size ≤ 9223372036854775807 := qaa
 have hl : z3.length ≤ 9000000000 := qaa
 obtain ⟨m, hm⟩ : ∃ m, z3.length = m := ⟨_, rfl⟩
 try rw [hm] at hl r3 ⊢
 have HR := hid r3
 have TX0 := tbS_new w 36 z1 z2 A3 m c3
 clear hr r3
 rw [hm] at hk1
 subst hk1
 obtain ⟨⟨y0, y1, y2, y3⟩, ⟨t0, t1, t2, t3⟩, ⟨u0, u1, u2, u3⟩, rfl⟩ := three_of hm
 have hyt : (FNode.mk t0 t1 t2 t3).wt ≤ 9000000000 := by have := FNode.wts_at [FNode.mk y0 y1 y2 y3, FNode.mk t0 t1 t2 t3, FNode.mk u0 u1 u2 u3] (FNode.mk t0 t1 t2 t3) qag; omega
 obtain ⟨bcy, offcy, Ey, hblcy, hcc⟩ := RdC.at_ (l := [FNode.mk y0 y1 y2 y3, FNode.mk t0 t1 t2 t3, FNode.mk u0 u1 u2 u3]) FNode.len HR.out (i := 0) (x := FNode.mk y0 y1 y2 y3) rfl
 obtain ⟨Dy, dy, cy_0, cy_1, cy_2, cy_3, q3⟩ := opN (Below.refl w.heap.size w) qaa hcc (offcy) (offcy + 1) (offcy + 2) (offcy + 3) qaa
 have Qy := hid q3
 clear hcc q3
 obtain ⟨bct, offct, Et, hblct, hcc⟩ := RdC.at_ (l := [FNode.mk y0 y1 y2 y3, FNode.mk t0 t1 t2 t3, FNode.mk u0 u1 u2 u3]) FNode.len HR.out (i := 1) (x := FNode.mk t0 t1 t2 t3) rfl
 obtain ⟨Dt, dt, ct_0, ct_1, ct_2, ct_3, q3⟩ := opN (Below.refl w.heap.size w) qaa hcc (offct + 4) (offct + 5) (offct + 6) (offct + 7) qaa
 have Qt := hid q3
 clear hcc q3
 obtain ⟨bcu, offcu, Eu, hblcu, hcc⟩ := RdC.at_ (l := [FNode.mk y0 y1 y2 y3, FNode.mk t0 t1 t2 t3, FNode.mk u0 u1 u2 u3]) FNode.len HR.out (i := 2) (x := FNode.mk u0 u1 u2 u3) rfl
 obtain ⟨Du, du, cu_0, cu_1, cu_2, cu_3, q3⟩ := opN (Below.refl w.heap.size w) qaa hcc (offcu + 8) (offcu + 9) (offcu + 10) (offcu + 11) qaa
 have Qu := hid q3
 clear hcc q3
 have hbl : bcy < w.heap.size := Nat.lt_of_lt_of_le hblcy hB0
 subst Ey
 obtain ⟨g1, g2⟩ : bcy = bct ∧ offcy = offct := by simpa using Et
 subst g1
 subst g2
 clear Et
 obtain ⟨g1, g2⟩ : bcy = bcu ∧ offcy = offcu := by simpa using Eu
 subst g1
 subst g2
 clear Eu
 clear hm hw hww
 have hwr1 : IntKind.i64.wrap 1 = 1 := by decide
 have hwr2 : IntKind.i64.wrap 2 = 2 := by decide
 obtain ⟨sv, hsv⟩ : ∃ v, smT ⟨t0, t1, t2, t3⟩ = v := ⟨_, rfl⟩
 have HSV := hid hsv
 obtain ⟨su, hsu⟩ : ∃ v, smT ⟨t0, t1, t2, t3⟩ = v := ⟨_, rfl⟩
 have HSU := hid hsu
 have HY := hid (show (atSm [FNode.mk y0 y1 y2 y3, FNode.mk t0 t1 t2 t3, FNode.mk u0 u1 u2 u3] 1 || (atSm [FNode.mk y0 y1 y2 y3, FNode.mk t0 t1 t2 t3, FNode.mk u0 u1 u2 u3] (3 - 2) && 3 == 4)) = (sv || (su && false)) from by rw [← hsv, ← hsu]; rfl)
 rw [HY.out]
 clear HY hsv hsu
 cases sv with
 | true =>
  go_enter Tryz.func57, Tryz.ntmps57
  go_wp2_with fail
  refine wp_region_held_drew (S := (fun w_ => Below w.heap.size w w_ ∧ w.heap.size + 1 < w_.heap.size ∧ w_.cell? ⟨w.heap.size, 2, none⟩ = some (.string z2) ∧ w_.cell? ⟨w.heap.size, 3, none⟩ = some (.slice (some ⟨bcy, offcy, none⟩) 3 c3) ∧ w_.cell? ⟨w.heap.size + 1, 0, none⟩ = some (.int .i64 4) ∧ w_.cell? ⟨w.heap.size + 1, 1, none⟩ = some (.int .i64 0) ∧ w_.cell? ⟨w.heap.size + 1, 2, none⟩ = some (.string ⟨#[116, 104, 105, 115]⟩) ∧ w_.cell? ⟨w.heap.size + 1, 3, none⟩ = some (.slice none 0 0) ∧ w_.cell? ⟨bcy, offcy + 4, none⟩ = some (.int .i64 t0) ∧ w_.cell? ⟨bcy, offcy + 5, none⟩ = some (.int .i64 t1) ∧ w_.cell? ⟨bcy, offcy + 6, none⟩ = some (.string t2) ∧ w_.cell? ⟨bcy, offcy + 7, none⟩ = some (.slice Dt t3.length dt))) qab ?_ (fun hHeld => ?_)
  ·exact zz25
  iterate 5 (refine rgt rfl rfl qz qad ?_; try simp only [aS])
  refine regCall (i := 5) qab rfl qar (fun K hK => ?_)
  go_simp
  (go_at_call 92; have TH5 : TbS w z2 (some ⟨bcy, offcy, none⟩) 3 c3 _ := TbS.of hHeld; refine (same_this ⟨t0, t1, t2, t3⟩ hyt [.int .i64 t0, .int .i64 t1, .string t2, .slice Dt t3.length dt] _ B (Nat.le_trans hB0 hHeld.1.size) (ndV (Qt.out.below hHeld.1 hB0))).mono ?_; rw [HSV.out]; rintro e w5 ⟨rfl, hb5⟩; have TX5 := TH5.call hb5)
  refine hK.out _ _ ?_ (fun hHeld => ?_)
  ·exact zz25
  exact zz96
 | false =>
  cases su with
  | true =>
   go_enter Tryz.func57, Tryz.ntmps57
   go_wp2_with fail
   refine wp_region_held_drew (S := (fun w_ => Below w.heap.size w w_ ∧ w.heap.size + 1 < w_.heap.size ∧ w_.cell? ⟨w.heap.size, 2, none⟩ = some (.string z2) ∧ w_.cell? ⟨w.heap.size, 3, none⟩ = some (.slice (some ⟨bcy, offcy, none⟩) 3 c3) ∧ w_.cell? ⟨w.heap.size + 1, 0, none⟩ = some (.int .i64 4) ∧ w_.cell? ⟨w.heap.size + 1, 1, none⟩ = some (.int .i64 0) ∧ w_.cell? ⟨w.heap.size + 1, 2, none⟩ = some (.string ⟨#[116, 104, 105, 115]⟩) ∧ w_.cell? ⟨w.heap.size + 1, 3, none⟩ = some (.slice none 0 0) ∧ w_.cell? ⟨bcy, offcy + 4, none⟩ = some (.int .i64 t0) ∧ w_.cell? ⟨bcy, offcy + 5, none⟩ = some (.int .i64 t1) ∧ w_.cell? ⟨bcy, offcy + 6, none⟩ = some (.string t2) ∧ w_.cell? ⟨bcy, offcy + 7, none⟩ = some (.slice Dt t3.length dt))) qab ?_ (fun hHeld => ?_)
   ·exact zz25
   iterate 5 (refine rgt rfl rfl qz qad ?_; try simp only [aS])
   refine regCall (i := 5) qab rfl qar (fun K hK => ?_)
   go_simp
   (go_at_call 92; have TH5 : TbS w z2 (some ⟨bcy, offcy, none⟩) 3 c3 _ := TbS.of hHeld; refine (same_this ⟨t0, t1, t2, t3⟩ hyt [.int .i64 t0, .int .i64 t1, .string t2, .slice Dt t3.length dt] _ B (Nat.le_trans hB0 hHeld.1.size) (ndV (Qt.out.below hHeld.1 hB0))).mono ?_; rw [HSV.out]; rintro e w5 ⟨rfl, hb5⟩; have TX5 := TH5.call hb5)
   refine hK.out _ _ ?_ (fun hHeld => ?_)
   ·exact zz25
   clear hK K
   try simp only [aS]
   iterate 10 (refine rgt rfl rfl qz qad ?_; try simp only [aS])
   refine regCall (i := 16) qab rfl qar (fun K hK => ?_)
   go_simp
   (go_at_call 92; have TH6 : TbS w z2 (some ⟨bcy, offcy, none⟩) 3 c3 _ := TbS.of hHeld; refine (same_this ⟨t0, t1, t2, t3⟩ hyt [.int .i64 t0, .int .i64 t1, .string t2, .slice Dt t3.length dt] _ B (Nat.le_trans hB0 hHeld.1.size) (ndV (Qt.out.below hHeld.1 hB0))).mono ?_; rw [HSU.out]; rintro e w6 ⟨rfl, hb6⟩; have TX6 := TH6.call hb6)
   refine hK.out _ _ ?_ (fun hHeld => ?_)
   ·exact zz25
   exact zz211
  | false =>
   go_enter Tryz.func57, Tryz.ntmps57
   go_wp2_with fail
   refine wp_region_held_drew (S := (fun w_ => Below w.heap.size w w_ ∧ w.heap.size + 1 < w_.heap.size ∧ w_.cell? ⟨w.heap.size, 2, none⟩ = some (.string z2) ∧ w_.cell? ⟨w.heap.size, 3, none⟩ = some (.slice (some ⟨bcy, offcy, none⟩) 3 c3) ∧ w_.cell? ⟨w.heap.size + 1, 0, none⟩ = some (.int .i64 4) ∧ w_.cell? ⟨w.heap.size + 1, 1, none⟩ = some (.int .i64 0) ∧ w_.cell? ⟨w.heap.size + 1, 2, none⟩ = some (.string ⟨#[116, 104, 105, 115]⟩) ∧ w_.cell? ⟨w.heap.size + 1, 3, none⟩ = some (.slice none 0 0) ∧ w_.cell? ⟨bcy, offcy + 4, none⟩ = some (.int .i64 t0) ∧ w_.cell? ⟨bcy, offcy + 5, none⟩ = some (.int .i64 t1) ∧ w_.cell? ⟨bcy, offcy + 6, none⟩ = some (.string t2) ∧ w_.cell? ⟨bcy, offcy + 7, none⟩ = some (.slice Dt t3.length dt))) qab ?_ (fun hHeld => ?_)
   ·exact zz25
   iterate 5 (refine rgt rfl rfl qz qad ?_; try simp only [aS])
   refine regCall (i := 5) qab rfl qar (fun K hK => ?_)
   go_simp
   (go_at_call 92; have TH5 : TbS w z2 (some ⟨bcy, offcy, none⟩) 3 c3 _ := TbS.of hHeld; refine (same_this ⟨t0, t1, t2, t3⟩ hyt [.int .i64 t0, .int .i64 t1, .string t2, .slice Dt t3.length dt] _ B (Nat.le_trans hB0 hHeld.1.size) (ndV (Qt.out.below hHeld.1 hB0))).mono ?_; rw [HSV.out]; rintro e w5 ⟨rfl, hb5⟩; have TX5 := TH5.call hb5)
   refine hK.out _ _ ?_ (fun hHeld => ?_)
   ·exact zz25
   clear hK K
   try simp only [aS]
   iterate 10 (refine rgt rfl rfl qz qad ?_; try simp only [aS])
   refine regCall (i := 16) qab rfl qar (fun K hK => ?_)
   go_simp
   (go_at_call 92; have TH6 : TbS w z2 (some ⟨bcy, offcy, none⟩) 3 c3 _ := TbS.of hHeld; refine (same_this ⟨t0, t1, t2, t3⟩ hyt [.int .i64 t0, .int .i64 t1, .string t2, .slice Dt t3.length dt] _ B (Nat.le_trans hB0 hHeld.1.size) (ndV (Qt.out.below hHeld.1 hB0))).mono ?_; rw [HSU.out]; rintro e w6 ⟨rfl, hb6⟩; have TX6 := TH6.call hb6)
   refine hK.out _ _ ?_ (fun hHeld => ?_)
   ·exact zz25
   exact zz196
theorem thS_36_4 (z1 : Int) (z2 : ByteArray) (z3 : List FNode) (hw : (FNode.mk 36 z1 z2 z3).wt ≤ 9000000000) (hk1 : z3.length = 4) : SaB 57 (FNode.mk 36 z1 z2 z3) (atSm z3 1 || (atSm z3 (z3.length - 2) && z3.length == 4)) := by
 intro us w B hB0 hr
 obtain ⟨A3, c3, rfl, r3⟩ := hr.node
 have hww := hw
 rw [FNode.wt_eq] at hw
 have hz : z2.size ≤ 9223372036854775807 := qaa
 have hl : z3.length ≤ 9000000000 := qaa
 obtain ⟨m, hm⟩ : ∃ m, z3.length = m := ⟨_, rfl⟩
 try rw [hm] at hl r3 ⊢
 have HR := hid r3
 have TX0 := tbS_new w 36 z1 z2 A3 m c3
 clear hr r3
 rw [hm] at hk1
 subst hk1
 obtain ⟨⟨y0, y1, y2, y3⟩, ⟨t0, t1, t2, t3⟩, ⟨u0, u1, u2, u3⟩, ⟨s0, s1, s2, s3⟩, rfl⟩ := four_of hm
 have hyt : (FNode.mk t0 t1 t2 t3).wt ≤ 9000000000 := by have := FNode.wts_at [FNode.mk y0 y1 y2 y3, FNode.mk t0 t1 t2 t3, FNode.mk u0 u1 u2 u3, FNode.mk s0 s1 s2 s3] (FNode.mk t0 t1 t2 t3) qag; omega
 have hyu : (FNode.mk u0 u1 u2 u3).wt ≤ 9000000000 := by have := FNode.wts_at [FNode.mk y0 y1 y2 y3, FNode.mk t0 t1 t2 t3, FNode.mk u0 u1 u2 u3, FNode.mk s0 s1 s2 s3] (FNode.mk u0 u1 u2 u3) qag; omega
 obtain ⟨bcy, offcy, Ey, hblcy, hcc⟩ := RdC.at_ (l := [FNode.mk y0 y1 y2 y3, FNode.mk t0 t1 t2 t3, FNode.mk u0 u1 u2 u3, FNode.mk s0 s1 s2 s3]) FNode.len HR.out (i := 0) (x := FNode.mk y0 y1 y2 y3) rfl
 obtain ⟨Dy, dy, cy_0, cy_1, cy_2, cy_3, q3⟩ := opN (Below.refl w.heap.size w) qaa hcc (offcy) (offcy + 1) (offcy + 2) (offcy + 3) qaa
 have Qy := hid q3
 clear hcc q3
 obtain ⟨bct, offct, Et, hblct, hcc⟩ := RdC.at_ (l := [FNode.mk y0 y1 y2 y3, FNode.mk t0 t1 t2 t3, FNode.mk u0 u1 u2 u3, FNode.mk s0 s1 s2 s3]) FNode.len HR.out (i := 1) (x := FNode.mk t0 t1 t2 t3) rfl
 obtain ⟨Dt, dt, ct_0, ct_1, ct_2, ct_3, q3⟩ := opN (Below.refl w.heap.size w) qaa hcc (offct + 4) (offct + 5) (offct + 6) (offct + 7) qaa
 have Qt := hid q3
 clear hcc q3
 obtain ⟨bcu, offcu, Eu, hblcu, hcc⟩ := RdC.at_ (l := [FNode.mk y0 y1 y2 y3, FNode.mk t0 t1 t2 t3, FNode.mk u0 u1 u2 u3, FNode.mk s0 s1 s2 s3]) FNode.len HR.out (i := 2) (x := FNode.mk u0 u1 u2 u3) rfl
 obtain ⟨Du, du, cu_0, cu_1, cu_2, cu_3, q3⟩ := opN (Below.refl w.heap.size w) qaa hcc (offcu + 8) (offcu + 9) (offcu + 10) (offcu + 11) qaa
 have Qu := hid q3
 clear hcc q3
 obtain ⟨bcs, offcs, Es, hblcs, hcc⟩ := RdC.at_ (l := [FNode.mk y0 y1 y2 y3, FNode.mk t0 t1 t2 t3, FNode.mk u0 u1 u2 u3, FNode.mk s0 s1 s2 s3]) FNode.len HR.out (i := 3) (x := FNode.mk s0 s1 s2 s3) rfl
 obtain ⟨Ds, ds, cs_0, cs_1, cs_2, cs_3, q3⟩ := opN (Below.refl w.heap.size w) qaa hcc (offcs + 12) (offcs + 13) (offcs + 14) (offcs + 15) qaa
 have Qs := hid q3
 clear hcc q3
 have hbl : bcy < w.heap.size := Nat.lt_of_lt_of_le hblcy hB0
 subst Ey
 obtain ⟨g1, g2⟩ : bcy = bct ∧ offcy = offct := by simpa using Et
 subst g1
 subst g2
 clear Et
 obtain ⟨g1, g2⟩ : bcy = bcu ∧ offcy = offcu := by simpa using Eu
 subst g1
 subst g2
 clear Eu
 obtain ⟨g1, g2⟩ : bcy = bcs ∧ offcy = offcs := by simpa using Es
 subst g1
 subst g2
 clear Es
 clear hm hw hww
 have hwr1 : IntKind.i64.wrap 1 = 1 := by decide
 have hwr2 : IntKind.i64.wrap 2 = 2 := by decide
 obtain ⟨sv, hsv⟩ : ∃ v, smT ⟨t0, t1, t2, t3⟩ = v := ⟨_, rfl⟩
 have HSV := hid hsv
 obtain ⟨su, hsu⟩ : ∃ v, smT ⟨u0, u1, u2, u3⟩ = v := ⟨_, rfl⟩
 have HSU := hid hsu
 have HY := hid (show (atSm [FNode.mk y0 y1 y2 y3, FNode.mk t0 t1 t2 t3, FNode.mk u0 u1 u2 u3, FNode.mk s0 s1 s2 s3] 1 || (atSm [FNode.mk y0 y1 y2 y3, FNode.mk t0 t1 t2 t3, FNode.mk u0 u1 u2 u3, FNode.mk s0 s1 s2 s3] (4 - 2) && 4 == 4)) = (sv || (su && true)) from by rw [← hsv, ← hsu]; rfl)
 rw [HY.out]
 clear HY hsv hsu
 cases sv with
 | true =>
  go_enter Tryz.func57, Tryz.ntmps57
  go_wp2_with fail
  refine wp_region_held_drew (S := (fun w_ => Below w.heap.size w w_ ∧ w.heap.size + 1 < w_.heap.size ∧ w_.cell? ⟨w.heap.size, 2, none⟩ = some (.string z2) ∧ w_.cell? ⟨w.heap.size, 3, none⟩ = some (.slice (some ⟨bcy, offcy, none⟩) 4 c3) ∧ w_.cell? ⟨w.heap.size + 1, 0, none⟩ = some (.int .i64 4) ∧ w_.cell? ⟨w.heap.size + 1, 1, none⟩ = some (.int .i64 0) ∧ w_.cell? ⟨w.heap.size + 1, 2, none⟩ = some (.string ⟨#[116, 104, 105, 115]⟩) ∧ w_.cell? ⟨w.heap.size + 1, 3, none⟩ = some (.slice none 0 0) ∧ w_.cell? ⟨bcy, offcy + 4, none⟩ = some (.int .i64 t0) ∧ w_.cell? ⟨bcy, offcy + 5, none⟩ = some (.int .i64 t1) ∧ w_.cell? ⟨bcy, offcy + 6, none⟩ = some (.string t2) ∧ w_.cell? ⟨bcy, offcy + 7, none⟩ = some (.slice Dt t3.length dt) ∧ w_.cell? ⟨bcy, offcy + 8, none⟩ = some (.int .i64 u0) ∧ w_.cell? ⟨bcy, offcy + 9, none⟩ = some (.int .i64 u1) ∧ w_.cell? ⟨bcy, offcy + 10, none⟩ = some (.string u2) ∧ w_.cell? ⟨bcy, offcy + 11, none⟩ = some (.slice Du u3.length du))) qab ?_ (fun hHeld => ?_)
  ·exact zz17
  iterate 5 (refine rgt rfl rfl qz qad ?_; try simp only [aS])
  refine regCall (i := 5) qab rfl qar (fun K hK => ?_)
  go_simp
  (go_at_call 92; have TH5 : TbS w z2 (some ⟨bcy, offcy, none⟩) 4 c3 _ := TbS.of hHeld; refine (same_this ⟨t0, t1, t2, t3⟩ hyt [.int .i64 t0, .int .i64 t1, .string t2, .slice Dt t3.length dt] _ B (Nat.le_trans hB0 hHeld.1.size) (ndV (Qt.out.below hHeld.1 hB0))).mono ?_; rw [HSV.out]; rintro e w5 ⟨rfl, hb5⟩; have TX5 := TH5.call hb5)
  refine hK.out _ _ ?_ (fun hHeld => ?_)
  ·exact zz17
  exact zz96
 | false =>
  cases su with
  | true =>
   go_enter Tryz.func57, Tryz.ntmps57
   go_wp2_with fail
   refine wp_region_held_drew (S := (fun w_ => Below w.heap.size w w_ ∧ w.heap.size + 1 < w_.heap.size ∧ w_.cell? ⟨w.heap.size, 2, none⟩ = some (.string z2) ∧ w_.cell? ⟨w.heap.size, 3, none⟩ = some (.slice (some ⟨bcy, offcy, none⟩) 4 c3) ∧ w_.cell? ⟨w.heap.size + 1, 0, none⟩ = some (.int .i64 4) ∧ w_.cell? ⟨w.heap.size + 1, 1, none⟩ = some (.int .i64 0) ∧ w_.cell? ⟨w.heap.size + 1, 2, none⟩ = some (.string ⟨#[116, 104, 105, 115]⟩) ∧ w_.cell? ⟨w.heap.size + 1, 3, none⟩ = some (.slice none 0 0) ∧ w_.cell? ⟨bcy, offcy + 4, none⟩ = some (.int .i64 t0) ∧ w_.cell? ⟨bcy, offcy + 5, none⟩ = some (.int .i64 t1) ∧ w_.cell? ⟨bcy, offcy + 6, none⟩ = some (.string t2) ∧ w_.cell? ⟨bcy, offcy + 7, none⟩ = some (.slice Dt t3.length dt) ∧ w_.cell? ⟨bcy, offcy + 8, none⟩ = some (.int .i64 u0) ∧ w_.cell? ⟨bcy, offcy + 9, none⟩ = some (.int .i64 u1) ∧ w_.cell? ⟨bcy, offcy + 10, none⟩ = some (.string u2) ∧ w_.cell? ⟨bcy, offcy + 11, none⟩ = some (.slice Du u3.length du))) qab ?_ (fun hHeld => ?_)
   ·exact zz17
   iterate 5 (refine rgt rfl rfl qz qad ?_; try simp only [aS])
   refine regCall (i := 5) qab rfl qar (fun K hK => ?_)
   go_simp
   (go_at_call 92; have TH5 : TbS w z2 (some ⟨bcy, offcy, none⟩) 4 c3 _ := TbS.of hHeld; refine (same_this ⟨t0, t1, t2, t3⟩ hyt [.int .i64 t0, .int .i64 t1, .string t2, .slice Dt t3.length dt] _ B (Nat.le_trans hB0 hHeld.1.size) (ndV (Qt.out.below hHeld.1 hB0))).mono ?_; rw [HSV.out]; rintro e w5 ⟨rfl, hb5⟩; have TX5 := TH5.call hb5)
   refine hK.out _ _ ?_ (fun hHeld => ?_)
   ·exact zz17
   clear hK K
   try simp only [aS]
   iterate 10 (refine rgt rfl rfl qz qad ?_; try simp only [aS])
   refine regCall (i := 16) qab rfl qar (fun K hK => ?_)
   go_simp
   (go_at_call 92; have TH6 : TbS w z2 (some ⟨bcy, offcy, none⟩) 4 c3 _ := TbS.of hHeld; refine (same_this ⟨u0, u1, u2, u3⟩ hyu [.int .i64 u0, .int .i64 u1, .string u2, .slice Du u3.length du] _ B (Nat.le_trans hB0 hHeld.1.size) (ndV (Qu.out.below hHeld.1 hB0))).mono ?_; rw [HSU.out]; rintro e w6 ⟨rfl, hb6⟩; have TX6 := TH6.call hb6)
   refine hK.out _ _ ?_ (fun hHeld => ?_)
   ·exact zz17
   exact zz211
  | false =>
   go_enter Tryz.func57, Tryz.ntmps57
   go_wp2_with fail
   refine wp_region_held_drew (S := (fun w_ => Below w.heap.size w w_ ∧ w.heap.size + 1 < w_.heap.size ∧ w_.cell? ⟨w.heap.size, 2, none⟩ = some (.string z2) ∧ w_.cell? ⟨w.heap.size, 3, none⟩ = some (.slice (some ⟨bcy, offcy, none⟩) 4 c3) ∧ w_.cell? ⟨w.heap.size + 1, 0, none⟩ = some (.int .i64 4) ∧ w_.cell? ⟨w.heap.size + 1, 1, none⟩ = some (.int .i64 0) ∧ w_.cell? ⟨w.heap.size + 1, 2, none⟩ = some (.string ⟨#[116, 104, 105, 115]⟩) ∧ w_.cell? ⟨w.heap.size + 1, 3, none⟩ = some (.slice none 0 0) ∧ w_.cell? ⟨bcy, offcy + 4, none⟩ = some (.int .i64 t0) ∧ w_.cell? ⟨bcy, offcy + 5, none⟩ = some (.int .i64 t1) ∧ w_.cell? ⟨bcy, offcy + 6, none⟩ = some (.string t2) ∧ w_.cell? ⟨bcy, offcy + 7, none⟩ = some (.slice Dt t3.length dt) ∧ w_.cell? ⟨bcy, offcy + 8, none⟩ = some (.int .i64 u0) ∧ w_.cell? ⟨bcy, offcy + 9, none⟩ = some (.int .i64 u1) ∧ w_.cell? ⟨bcy, offcy + 10, none⟩ = some (.string u2) ∧ w_.cell? ⟨bcy, offcy + 11, none⟩ = some (.slice Du u3.length du))) qab ?_ (fun hHeld => ?_)
   ·exact zz17
   iterate 5 (refine rgt rfl rfl qz qad ?_; try simp only [aS])
   refine regCall (i := 5) qab rfl qar (fun K hK => ?_)
   go_simp
   (go_at_call 92; have TH5 : TbS w z2 (some ⟨bcy, offcy, none⟩) 4 c3 _ := TbS.of hHeld; refine (same_this ⟨t0, t1, t2, t3⟩ hyt [.int .i64 t0, .int .i64 t1, .string t2, .slice Dt t3.length dt] _ B (Nat.le_trans hB0 hHeld.1.size) (ndV (Qt.out.below hHeld.1 hB0))).mono ?_; rw [HSV.out]; rintro e w5 ⟨rfl, hb5⟩; have TX5 := TH5.call hb5)
   refine hK.out _ _ ?_ (fun hHeld => ?_)
   ·exact zz17
   clear hK K
   try simp only [aS]
   iterate 10 (refine rgt rfl rfl qz qad ?_; try simp only [aS])
   refine regCall (i := 16) qab rfl qar (fun K hK => ?_)
   go_simp
   (go_at_call 92; have TH6 : TbS w z2 (some ⟨bcy, offcy, none⟩) 4 c3 _ := TbS.of hHeld; refine (same_this ⟨u0, u1, u2, u3⟩ hyu [.int .i64 u0, .int .i64 u1, .string u2, .slice Du u3.length du] _ B (Nat.le_trans hB0 hHeld.1.size) (ndV (Qu.out.below hHeld.1 hB0))).mono ?_; rw [HSU.out]; rintro e w6 ⟨rfl, hb6⟩; have TX6 := TH6.call hb6)
   refine hK.out _ _ ?_ (fun hHeld => ?_)
   ·exact zz17
   exact zz196
theorem thS_o (z0 : Int) (z1 : Int) (z2 : ByteArray) (z3 : List FNode) (hw : (FNode.mk z0 z1 z2 z3).wt ≤ 9000000000) (n24 : ¬ z0 = 24) (n25 : ¬ z0 = 25) (n40 : ¬ z0 = 40) (n17 : ¬ z0 = 17) (n44 : ¬ z0 = 44) (n36 : ¬ z0 = 36) (n46 : ¬ z0 = 46) (n15 : ¬ z0 = 15) (n16 : ¬ z0 = 16) (n41 : ¬ z0 = 41) : SaB 57 (FNode.mk z0 z1 z2 z3) (false) := by
 intro us w B hB0 hr
 obtain ⟨A3, c3, rfl, r3⟩ := hr.node
 have hww := hw
 rw [FNode.wt_eq] at hw
 have hz : z2.size ≤ 9223372036854775807 := qaa
 have hl : z3.length ≤ 9000000000 := qaa
 obtain ⟨m, hm⟩ : ∃ m, z3.length = m := ⟨_, rfl⟩
 try rw [hm] at hl r3 ⊢
 have HR := Lib.hid r3
 have TX0 := tbS_new w z0 z1 z2 A3 m c3
 clear hr r3
 clear hm hw hww
 go_enter Tryz.func57, Tryz.ntmps57
 go_wp2_with fail
 all_goals (go_ret; exact ⟨ret_bool qal, TX0.1⟩)
theorem th_spec (x : FNode) (hw : x.wt ≤ 9000000000) (hn : ndK x.kd x.kids) : SaB 57 x (thS x.kd x.tx x.kids) := by
 intro us w B hB0 hr
 obtain ⟨z0, z1, z2, z3⟩ := x
 obtain ⟨h1, h2, h3⟩ := hn
 simp only [FNode.kd, FNode.tx, FNode.kids] at *
 by_cases n24 : z0 = 24
 ·subst n24
  exact thS_24 z1 z2 z3 hw  us w B hB0 hr
 by_cases n25 : z0 = 25
 ·subst n25
  exact thS_25 z1 z2 z3 hw  us w B hB0 hr
 by_cases n40 : z0 = 40
 ·subst n40
  exact thS_40 z1 z2 z3 hw  us w B hB0 hr
 by_cases n17 : z0 = 17
 ·subst n17
  exact thS_17 z1 z2 z3 hw (h1 qae) us w B hB0 hr
 by_cases n44 : z0 = 44
 ·subst n44
  exact thS_44 z1 z2 z3 hw (h1 qae) us w B hB0 hr
 by_cases n36 : z0 = 36
 ·subst n36
  rcases h2 rfl with h34 | h34
  ·exact thS_36_3 z1 z2 z3 hw h34 us w B hB0 hr
  ·exact thS_36_4 z1 z2 z3 hw h34 us w B hB0 hr
 by_cases n46 : z0 = 46
 ·subst n46
  exact thS_46 z1 z2 z3 hw  us w B hB0 hr
 by_cases n15 : z0 = 15
 ·subst n15
  exact thS_15 z1 z2 z3 hw (h1 qae) us w B hB0 hr
 by_cases n16 : z0 = 16
 ·subst n16
  exact thS_16 z1 z2 z3 hw (h1 qae) us w B hB0 hr
 by_cases n41 : z0 = 41
 ·subst n41
  exact thS_41 z1 z2 z3 hw (h1 qae) us w B hB0 hr
 rw [show thS z0 z2 z3 = false from by unfold thS; simp [n24, n25, n40, n17, n44, n36, n46, n15, n16, n41]]
 exact thS_o z0 z1 z2 z3 hw n24 n25 n40 n17 n44 n36 n46 n15 n16 n41 us w B hB0 hr
theorem in_24 (k : Int) : inB k 24 25 = (k == 24 || k == 25) := by
 unfold inB
 rw [Bool.eq_iff_iff]
 simp
 omega
theorem in_same (a k : Int) : inB k a a = (k == a || k == a) := by
 unfold inB
 rw [Bool.eq_iff_iff]
 simp
 omega
def BkS2 (w : World) (z0 z1 : Int) (z2 : ByteArray) (A : Option Addr) (m c : Nat) (wx : World) : Prop :=
 Below w.heap.size w wx ∧ wx.cell? ⟨w.heap.size, 0, none⟩ = some (.int .i64 z0) ∧ wx.cell? ⟨w.heap.size, 1, none⟩ = some (.int .i64 z1) ∧ wx.cell? ⟨w.heap.size, 2, none⟩ = some (.string z2) ∧ wx.cell? ⟨w.heap.size, 3, none⟩ = some (.slice A m c) ∧ w.heap.size < wx.heap.size
theorem BkS2.call {w wx wy : World} {z0 z1 : Int} {z2 : ByteArray} {A : Option Addr} {m c : Nat} (h : BkS2 w z0 z1 z2 A m c wx) (hb : Below wx.heap.size wx wy) : BkS2 w z0 z1 z2 A m c wy := by
 obtain ⟨h1, h2, h3, h4, h5, h6⟩ := h
 exact ⟨h1.trans (hb.mono h1.size), (hb.cell (p := ⟨w.heap.size, 0, none⟩) h6).trans h2, (hb.cell (p := ⟨w.heap.size, 1, none⟩) h6).trans h3, (hb.cell (p := ⟨w.heap.size, 2, none⟩) h6).trans h4, (hb.cell (p := ⟨w.heap.size, 3, none⟩) h6).trans h5, Nat.lt_of_lt_of_le h6 hb.size⟩
def BrS (r : Nat) (x : FNode) : Prop := ∀ (us : List Value) (w : World) (B : Nat) (lp ins : Bool), B ≤ w.heap.size → RdVs w B x.c us → Calls Tryz.prog 34 #[.agg us.toArray, .int .i64 (r : Nat), .bool lp, .bool ins] w fun e w' => e = .returned (.bool (brS r lp ins x)) ∧ Below w.heap.size w w'
theorem brSL_take (r : Nat) (lp ins : Bool) (l : List FNode) (k : Nat) (x : FNode) (h : l[k]? = some x) : brSL r lp ins (l.take (k + 1)) = (brSL r lp ins (l.take k) || brS r lp ins x) := by
 rw [brSL_any, brSL_any]
 exact any_take_end h
theorem brSL_le (r : Nat) (lp ins : Bool) (l : List FNode) (k : Nat) (h : brSL r lp ins (l.take k) = true) : brSL r lp ins l = true := by
 rw [brSL_any] at h ⊢
 obtain ⟨x, hx, h2⟩ := List.any_eq_true.mp h
 exact List.any_eq_true.mpr ⟨x, List.mem_of_mem_take hx, h2⟩
theorem brS_of (r : Nat) (hr1 : 1 ≤ r) (hr5 : r ≤ 5) (z0 z1 : Int) (z2 : ByteArray) (z3 : List FNode) (hw : (FNode.mk z0 z1 z2 z3).wt ≤ 1000000000) (hnd : ndK z0 z3) (hE : ∀ x, x ∈ z3 → BrS r x) : BrS r ⟨z0, z1, z2, z3⟩ := by
 intro us w B lp ins hB0 hr
 obtain ⟨A3, c3, rfl, r3⟩ := hr.node
 have HTH := hid (th_spec ⟨z0, z1, z2, z3⟩ qaa hnd)
 simp only [FNode.kd, FNode.tx, FNode.kids] at HTH
 rw [FNode.wt_eq] at hw
 have hl9 : z3.length ≤ 1000000000 := qaa
 have HR := hid r3
 have HE := hid hE
 have X0 : BkS2 w z0 z1 z2 A3 z3.length c3 (w.alloc (.cells #[.int .i64 z0, .int .i64 z1, .string z2, .slice A3 z3.length c3] 44)) := ⟨(Below.refl _ w).alloc nr _, by rw [World.cell?_alloc_new]; rfl, by rw [World.cell?_alloc_new]; rfl, by rw [World.cell?_alloc_new]; rfl, by rw [World.cell?_alloc_new]; rfl, by simp⟩
 clear hr r3 hw hE hnd
 rw [brS]
 go_enter Tryz.func34, Tryz.ntmps34
 go_upto_block 0 with fail
 generalize w.alloc (.cells #[.int .i64 z0, .int .i64 z1, .string z2, .slice A3 z3.length c3] 44) = w1 at *
 have x_0 := X0.2.1; have x_1 := X0.2.2.1; have x_2 := X0.2.2.2.1; have x_3 := X0.2.2.2.2.1
 go_cut [9] from 12 to 58 (fun v wx => v = .bool (bdS r lp ins z0 z2 z3) ∧ BkS2 w z0 z1 z2 A3 z3.length c3 wx)
 case first =>
  have H : r = 1 ∨ r = 2 ∨ r = 3 ∨ r = 4 ∨ r = 5 := qaa
  rcases H with rfl | rfl | rfl | rfl | rfl
  ·cases lp with
   | true =>
    exact zz62
   | false =>
    by_cases h37 : z0 = 37
    ·subst h37
     exact zz62
    ·by_cases h38 : z0 = 38
     ·subst h38
      exact zz62
     ·have q37 : (z0 == 37) = false := beq_false_of_ne h37
      have q38 : (z0 == 38) = false := beq_false_of_ne h38
      exact zz62
  ·cases ins with
   | true =>
    exact zz62
   | false =>
    by_cases h46 : z0 = 46
    ·subst h46
     exact zz62
    ·have q46 : (z0 == 46) = false := beq_false_of_ne h46
     exact zz62
  ·go_wp2_with (go_at_call 57; refine (HTH.out [.int .i64 z0, .int .i64 z1, .string z2, .slice A3 z3.length c3] _ B (Nat.le_trans hB0 X0.1.size) (ndV (HR.out.below X0.1 hB0))).mono ?_; rintro e w5 ⟨rfl, hb5⟩; have X5 := X0.call hb5)
   all_goals (go_meet; exact ⟨by first | rfl | (simp_all [bdS]; done), X5⟩)
  ·obtain ⟨tv, htv⟩ : ∃ tv, twF 24 25 z3 = tv := ⟨_, rfl⟩
   have HTV := hid htv
   have HB4 : bdS 4 lp ins z0 z2 z3 = tv := htv
   go_wp2_with (go_at_call 58; refine (twice_spec 24 25 in_24 z3 hl9 (.slice A3 z3.length c3) _ B (Nat.le_trans hB0 X0.1.size) (HR.out.below X0.1 hB0)).mono ?_; rw [HTV.out]; rintro e w5 ⟨rfl, hbw5⟩; have Xw5 := X0.call hbw5; have w5_0 := Xw5.2.1; have w5_1 := Xw5.2.2.1; have w5_2 := Xw5.2.2.2.1; have w5_3 := Xw5.2.2.2.2.1)
   all_goals (go_meet; exact ⟨by rw [HB4], Xw5⟩)
  ·cases ht1 : twF 49 49 z3 with
   | true =>
    have HT1 := hid ht1
    have HB5 : bdS 5 lp ins z0 z2 z3 = true := by show (twF 49 49 z3 || _) = true; rw [ht1]; rfl
    have tok1 : True := trivial
    go_wp2_with (go_at_call 58; refine (twice_spec 49 49 (in_same 49) z3 hl9 (.slice A3 z3.length c3) _ B (Nat.le_trans hB0 X0.1.size) (HR.out.below X0.1 hB0)).mono ?_; rw [HT1.out]; rintro e w5 ⟨rfl, hbw5⟩; have Xw5 := X0.call hbw5; have w5_0 := Xw5.2.1; have w5_1 := Xw5.2.2.1; have w5_2 := Xw5.2.2.2.1; have w5_3 := Xw5.2.2.2.2.1)
    all_goals (go_meet; exact ⟨by rw [HB5], Xw5⟩)
   | false =>
    have HT1 := hid ht1
    have tok1 : True := trivial
    have tok2 : True := trivial
    cases ht2 : twF 54 54 z3 with
    | true =>
     have HT2 := hid ht2
     have HB5 : bdS 5 lp ins z0 z2 z3 = true := by show (twF 49 49 z3 || (twF 54 54 z3 || _)) = true; rw [ht1, ht2]; rfl
     go_wp2_with (first | (go_at_call 58; clear tok1; refine (twice_spec 49 49 (in_same 49) z3 hl9 (.slice A3 z3.length c3) _ B (Nat.le_trans hB0 X0.1.size) (HR.out.below X0.1 hB0)).mono ?_; rw [HT1.out]; rintro e w5 ⟨rfl, hbw5⟩; have Xw5 := X0.call hbw5; have w5_0 := Xw5.2.1; have w5_1 := Xw5.2.2.1; have w5_2 := Xw5.2.2.2.1; have w5_3 := Xw5.2.2.2.2.1) | (go_at_call 58; refine (twice_spec 54 54 (in_same 54) z3 hl9 (.slice A3 z3.length c3) _ B (Nat.le_trans hB0 Xw5.1.size) (HR.out.below Xw5.1 hB0)).mono ?_; rw [HT2.out]; rintro e w6 ⟨rfl, hbw6⟩; have Xw6 := Xw5.call hbw6; have w6_0 := Xw6.2.1; have w6_1 := Xw6.2.2.1; have w6_2 := Xw6.2.2.2.1; have w6_3 := Xw6.2.2.2.2.1))
     all_goals (go_meet; exact ⟨by rw [HB5], Xw6⟩)
    | false =>
     have HT2 := hid ht2
     obtain ⟨tv, htv⟩ : ∃ tv, twF 55 55 z3 = tv := ⟨_, rfl⟩
     have HTV := hid htv
     have HB5 : bdS 5 lp ins z0 z2 z3 = tv := by show (twF 49 49 z3 || (twF 54 54 z3 || twF 55 55 z3)) = tv; rw [ht1, ht2, htv]; rfl
     go_wp2_with (first | (go_at_call 58; clear tok1; refine (twice_spec 49 49 (in_same 49) z3 hl9 (.slice A3 z3.length c3) _ B (Nat.le_trans hB0 X0.1.size) (HR.out.below X0.1 hB0)).mono ?_; rw [HT1.out]; rintro e w5 ⟨rfl, hbw5⟩; have Xw5 := X0.call hbw5; have w5_0 := Xw5.2.1; have w5_1 := Xw5.2.2.1; have w5_2 := Xw5.2.2.2.1; have w5_3 := Xw5.2.2.2.2.1) | (go_at_call 58; clear tok2; refine (twice_spec 54 54 (in_same 54) z3 hl9 (.slice A3 z3.length c3) _ B (Nat.le_trans hB0 Xw5.1.size) (HR.out.below Xw5.1 hB0)).mono ?_; rw [HT2.out]; rintro e w6 ⟨rfl, hbw6⟩; have Xw6 := Xw5.call hbw6; have w6_0 := Xw6.2.1; have w6_1 := Xw6.2.2.1; have w6_2 := Xw6.2.2.2.1; have w6_3 := Xw6.2.2.2.2.1) | (go_at_call 58; refine (twice_spec 55 55 (in_same 55) z3 hl9 (.slice A3 z3.length c3) _ B (Nat.le_trans hB0 Xw6.1.size) (HR.out.below Xw6.1 hB0)).mono ?_; rw [HTV.out]; rintro e w7 ⟨rfl, hbw7⟩; have Xw7 := Xw6.call hbw7; have w7_0 := Xw7.2.1; have w7_1 := Xw7.2.2.1; have w7_2 := Xw7.2.2.2.1; have w7_3 := Xw7.2.2.2.2.1))
     all_goals (go_meet; exact ⟨by rw [HB5], Xw7⟩)
 case rest =>
  clear X0 x_0 x_1 x_2 x_3
  obtain ⟨rfl, X1⟩ := hcut
  have v_0 := X1.2.1; have v_1 := X1.2.2.1; have v_2 := X1.2.2.2.1; have v_3 := X1.2.2.2.2.1
  obtain ⟨bd, hbd⟩ : ∃ bd, bdS r lp ins z0 z2 z3 = bd := ⟨_, rfl⟩
  rw [hbd]
  have HBD := hid hbd
  clear hbd
  go_upto_region 13 with fail
  go_upto_block 1 with fail
  go_cut [2, 3] from 61 to 69 (fun l f wx => l = .bool (lpN z0 lp) ∧ f = .bool (inN z0 ins) ∧ wx = wc)
  case first =>
   by_cases n35 : z0 = 35
   ·subst n35
    exact zz57
   by_cases n36 : z0 = 36
   ·subst n36
    exact zz57
   by_cases n45 : z0 = 45
   ·subst n45
    exact zz57
   by_cases n49 : z0 = 49
   ·subst n49
    exact zz57
   by_cases n55 : z0 = 55
   ·subst n55
    exact zz57
   by_cases n23 : z0 = 23
   ·subst n23
    exact zz57
   have q35 : (z0 == 35) = false := beq_false_of_ne n35
   have q36 : (z0 == 36) = false := beq_false_of_ne n36
   have q45 : (z0 == 45) = false := beq_false_of_ne n45
   have q49 : (z0 == 49) = false := beq_false_of_ne n49
   have q55 : (z0 == 55) = false := beq_false_of_ne n55
   have q23 : (z0 == 23) = false := beq_false_of_ne n23
   have HL : lpN z0 lp = lp := by unfold lpN; simp [n35, n36, n45, n49, n55, n23]
   have HI : inN z0 ins = ins := by unfold inN; simp [n49, n55, n23]
   clear n35 n36 n45 n49 n55 n23
   go_wp2_with fail
   all_goals (go_meet; exact ⟨by rw [HL], by rw [HI], rfl⟩)
  case rest =>
   obtain ⟨rfl, rfl, rfl⟩ := hcut
   obtain ⟨lp2, hlp2⟩ : ∃ v, lpN z0 lp = v := ⟨_, rfl⟩
   obtain ⟨ins2, hins2⟩ : ∃ v, inN z0 ins = v := ⟨_, rfl⟩
   rw [hlp2, hins2]
   have HLP := hid hlp2
   have HIS := hid hins2
   clear hlp2 hins2
   go_wp2_with fail
   go_loopw [10, 9] (fun i s wr => ∃ (k : Nat) (v : Bool), k ≤ z3.length ∧ i = .int .i64 k ∧ s = .bool v ∧ Hid (v = (bd || brSL r lp2 ins2 (z3.take k))) ∧ Below w.heap.size w wr ∧ wr.cell? ⟨w.heap.size, 3, none⟩ = some (.slice A3 z3.length c3) ∧ w.heap.size < wr.heap.size) (fun i _ _ => z3.length - (intOf i).toNat)
   case atStart => exact ⟨0, bd, Nat.zero_le _, rfl, rfl, hid (by simp [brSL]), X1.1, v_3, X1.2.2.2.2.2⟩
   case round =>
    obtain ⟨k, v, hk, rfl, rfl, HV, hb, hbox, hlt0⟩ := hrel
    have hbs := hb.size
    cases v with
    | true =>
     have HT := hid (show (bd || brSL r lp2 ins2 z3) = true from by
      have h := HV.out
      cases bd with
      | true => rfl
      | false => rw [Bool.false_or] at h ⊢; exact brSL_le r lp2 ins2 z3 k h.symm)
     by_cases hlt : k < z3.length
     ·exact zz154
     ·exact zz154
    | false =>
     by_cases hlt : k < z3.length
     ·skip
      obtain ⟨x, hx⟩ : ∃ x, z3[k]? = some x := ⟨_, List.getElem?_eq_getElem hlt⟩
      obtain ⟨bc, offc, rfl, hblc, hcc⟩ := RdC.at_ FNode.len HR.out hx
      have HX := hid hx
      have HM := hid (List.mem_of_getElem? hx)
      clear hx
      obtain ⟨y0, y1, y2, y3⟩ := x
      obtain ⟨D, d, c_0, c_1, c_2, c_3, q3⟩ := opN hb qaa hcc (offc + k * 4) (offc + k * 4 + 1) (offc + k * 4 + 2) (offc + k * 4 + 3) qaa
      have Q3 := hid q3
      clear hcc q3
      have CALL := hid (HE.out _ HM.out [.int .i64 y0, .int .i64 y1, .string y2, .slice D y3.length d] _ w.heap.size lp2 ins2 hbs (ndV ((Q3.out.up hB0).below hb nr)))
      have HN := hid (show brS r lp2 ins2 ⟨y0, y1, y2, y3⟩ = (bd || brSL r lp2 ins2 (z3.take (k + 1))) from by rw [brSL_take _ _ _ _ _ _ HX.out, ← Bool.or_assoc, ← HV.out, Bool.false_or])
      go_wp2_with (go_at_call 34; refine CALL.out.mono ?_; rintro e w2 ⟨rfl, hb3⟩)
      go_roundw
      case rel => exact ⟨k + 1, _, by omega, by go_num, rfl, HN, hb.trans (hb3.mono hbs), boxk hb3 hlt0 hbox⟩
      case measure => simp [intOf]; omega
     ·have h := HV.out
      rw [List.take_of_length_le qaa] at h
      have HT := hid h
      clear h
      go_wp2_with fail
      go_ret
      exact ⟨ret_bool (by rw [HBD.out, HLP.out, HIS.out]; exact HT.out), hb⟩
end Go.Proofs.YtkkjnfappndmpaaGreatDoor
