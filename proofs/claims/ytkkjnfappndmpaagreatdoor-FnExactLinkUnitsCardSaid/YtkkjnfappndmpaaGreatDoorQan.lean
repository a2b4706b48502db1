/-
 Parts of the proof: IsJ7, IsJ8. Conditions: none.
-/
import Derived.Test.YtkkjnfappndmpaaGreatDoorQFold
import Derived.Test.YtkkjnfappndmpaaGreatDoorQaa
import Derived.Test.YtkkjnfappndmpaaGreatDoorQal
import Derived.Test.YtkkjnfappndmpaaGreatDoorQam
set_option linter.unusedVariables false
set_option linter.unusedSimpArgs false
namespace Go.Proofs.YtkkjnfappndmpaaGreatDoor
set_option maxHeartbeats 40000000
open Lib (hid)
open Go.ChangeShapes Go.WideShapes Go.ChangeAt Go.RowKit Go.Deep Go.Joins
open Go.ChangeMaps (open_string shut_string)
set_option maxRecDepth 100000
theorem three_of {l : List FNode} (h : l.length = 3) : ∃ a b c, l = [a, b, c] := by
 match l, h with
 | [a, b, c], _ => exact ⟨a, b, c, rfl⟩
theorem ifK_no (l : List FNode) (h : ¬ l.length = 2 ∧ ¬ l.length = 3) : ifK l = false := by
 exact zz151
theorem whK_no (l : List FNode) (h : ¬ l.length = 2) : whK l = false := by
 exact zz127
theorem stI_35 (z1 : Int) (z2 : ByteArray) (z3 : List FNode) (hw : (FNode.mk 35 z1 z2 z3).wt ≤ 9000000000) (hE : ∀ x, x ∈ z3 → ExI x) (hBl : BlI z3.tail) : StI (.mk 35 z1 z2 z3) := by
 intro us w B hmx hB0 hr
 obtain ⟨A3, c3, rfl, r3⟩ := hr.node
 rw [FNode.wt_eq] at hw
 have hz : z2.size ≤ 9223372036854775807 := qaa
 have hl : z3.length ≤ 9223372036854775807 := qaa
 have EX := hid (show stF ⟨35, z1, z2, z3⟩ = (((z1 == 0) && emT z2) && whK z3) from by rw [stF_mk]; rfl)
 obtain ⟨m, hm⟩ : ∃ m, z3.length = m := ⟨_, rfl⟩
 try rw [hm] at EX
 rw [hm] at hl r3  ⊢
 have HB := hbA w 35 z1 z2 (.slice A3 m c3)
 clear hr
 have HR := hid r3
 have hcap : m ≤ c3 := by
  have h := r3
  exact zz23
 clear r3
 by_cases e2 : z1 = 0
 ·subst e2
  by_cases e1 : m = 2
  ·subst e1
   obtain ⟨⟨y0, y1, y2, y3⟩, yb, rfl⟩ := two_of hm
   have HV := hid (hE ⟨y0, y1, y2, y3⟩ (List.mem_cons_self ..))
   have HL : Hid (BlI [yb]) := hid hBl
   obtain ⟨bcy, offcy, Ey, hblcy, hcc⟩ := RdC.at_ (l := [FNode.mk y0 y1 y2 y3, yb]) FNode.len HR.out (i := 0) (x := FNode.mk y0 y1 y2 y3) rfl
   obtain ⟨Dy, dy, cy_0, cy_1, cy_2, cy_3, q3⟩ := opN HB.out qaa hcc (offcy) (offcy + 1) (offcy + 2) (offcy + 3) qaa
   have Qy := hid q3
   clear hcc q3
   subst Ey
   have RT := hid (rd_drop (p := [FNode.mk y0 y1 y2 y3]) (l := [yb]) (Nat.zero_lt_succ _) rfl HR.out)
   have CALL := hid (HV.out [.int .i64 y0, .int .i64 y1, .string y2, .slice Dy y3.length dy] _ w.heap.size (hmx.below HB.out) HB.out.size (ndV ((Qy.out.up hB0).below HB.out nr)))
   clear hm hw hE hBl
   rw [show whK [FNode.mk y0 y1 y2 y3, yb] = (exF ⟨y0, y1, y2, y3⟩ && [yb].all blF) from by simp [whK]] at EX
   exact zz219
  ·
   have hk : whK z3 = false := whK_no z3 qaa
   rw [hk] at EX
   clear hm hw hE hBl
   exact zz188
 ·clear hm hw hE hBl
  exact zz215
theorem stI_34 (z1 : Int) (z2 : ByteArray) (z3 : List FNode) (hw : (FNode.mk 34 z1 z2 z3).wt ≤ 9000000000) (hE : ∀ x, x ∈ z3 → ExI x) (hBl : BlI z3.tail) : StI (.mk 34 z1 z2 z3) := by
 intro us w B hmx hB0 hr
 obtain ⟨A3, c3, rfl, r3⟩ := hr.node
 rw [FNode.wt_eq] at hw
 have hz : z2.size ≤ 9223372036854775807 := qaa
 have hl : z3.length ≤ 9223372036854775807 := qaa
 have EX := hid (show stF ⟨34, z1, z2, z3⟩ = (((z1 == 0) && emT z2) && ifK z3) from by rw [stF_mk]; rfl)
 obtain ⟨m, hm⟩ : ∃ m, z3.length = m := ⟨_, rfl⟩
 try rw [hm] at EX
 rw [hm] at hl r3  ⊢
 have HB := hbA w 34 z1 z2 (.slice A3 m c3)
 clear hr
 have HR := hid r3
 have hcap : m ≤ c3 := by
  have h := r3
  exact zz23
 clear r3
 by_cases e2 : z1 = 0
 ·subst e2
  by_cases e1 : m = 2
  ·subst e1
   obtain ⟨⟨y0, y1, y2, y3⟩, yb, rfl⟩ := two_of hm
   have HV := hid (hE ⟨y0, y1, y2, y3⟩ (List.mem_cons_self ..))
   have HL : Hid (BlI [yb]) := hid hBl
   obtain ⟨bcy, offcy, Ey, hblcy, hcc⟩ := RdC.at_ (l := [FNode.mk y0 y1 y2 y3, yb]) FNode.len HR.out (i := 0) (x := FNode.mk y0 y1 y2 y3) rfl
   obtain ⟨Dy, dy, cy_0, cy_1, cy_2, cy_3, q3⟩ := opN HB.out qaa hcc (offcy) (offcy + 1) (offcy + 2) (offcy + 3) qaa
   have Qy := hid q3
   clear hcc q3
   subst Ey
   have RT := hid (rd_drop (p := [FNode.mk y0 y1 y2 y3]) (l := [yb]) (Nat.zero_lt_succ _) rfl HR.out)
   have CALL := hid (HV.out [.int .i64 y0, .int .i64 y1, .string y2, .slice Dy y3.length dy] _ w.heap.size (hmx.below HB.out) HB.out.size (ndV ((Qy.out.up hB0).below HB.out nr)))
   clear hm hw hE hBl
   rw [show ifK [FNode.mk y0 y1 y2 y3, yb] = (exF ⟨y0, y1, y2, y3⟩ && [yb].all blF) from by simp [ifK]] at EX
   exact zz219
  ·
   by_cases e1 : m = 3
   ·subst e1
    obtain ⟨⟨y0, y1, y2, y3⟩, yb, yd, rfl⟩ := three_of hm
    have HV := hid (hE ⟨y0, y1, y2, y3⟩ (List.mem_cons_self ..))
    have HL : Hid (BlI [yb, yd]) := hid hBl
    obtain ⟨bcy, offcy, Ey, hblcy, hcc⟩ := RdC.at_ (l := [FNode.mk y0 y1 y2 y3, yb, yd]) FNode.len HR.out (i := 0) (x := FNode.mk y0 y1 y2 y3) rfl
    obtain ⟨Dy, dy, cy_0, cy_1, cy_2, cy_3, q3⟩ := opN HB.out qaa hcc (offcy) (offcy + 1) (offcy + 2) (offcy + 3) qaa
    have Qy := hid q3
    clear hcc q3
    subst Ey
    have RT := hid (rd_drop (p := [FNode.mk y0 y1 y2 y3]) (l := [yb, yd]) (Nat.zero_lt_succ _) rfl HR.out)
    have CALL := hid (HV.out [.int .i64 y0, .int .i64 y1, .string y2, .slice Dy y3.length dy] _ w.heap.size (hmx.below HB.out) HB.out.size (ndV ((Qy.out.up hB0).below HB.out nr)))
    clear hm hw hE hBl
    rw [show ifK [FNode.mk y0 y1 y2 y3, yb, yd] = (exF ⟨y0, y1, y2, y3⟩ && [yb, yd].all blF) from by simp [ifK]] at EX
    cases hv : exF ⟨y0, y1, y2, y3⟩ with
    | false =>
     exact zz183
    | true =>
     rw [hv] at CALL EX
     go_enter Tryz.func70, Tryz.ntmps70
     go_wp2_with (first | (go_at_call 67; refine zkp (inRange_any _ _ _ _) ?_) | (go_at_call 106; refine CALL.out.mono ?_; rintro e w3 ⟨rfl, hb3⟩; have HB3 := hid (HB.out.trans (hb3.mono HB.out.size)); have bx_3 : w3.cell? ⟨w.heap.size, 3, none⟩ = some (.slice (some ⟨bcy, offcy, none⟩) 3 c3) := (hb3.cell (p := ⟨w.heap.size, 3, none⟩) qa8).trans (by rw [World.cell?_alloc_new]; rfl)) | (go_at_call 108; refine (HL.out _ _ w.heap.size (hmx.below HB3.out) HB3.out.size ((RT.out.up hB0).below HB3.out nr)).mono ?_; rintro e w4 ⟨rfl, hb4⟩))
     all_goals (first | (go_ret; exact ⟨ret_bool qac, HB.out⟩) | (go_ret; exact ⟨ret_bool qac, HB3.out.trans (Below.mono qad HB3.out.size)⟩))
   ·
    have hk : ifK z3 = false := ifK_no z3 qaa
    rw [hk] at EX
    clear hm hw hE hBl
    have HIN := hid (show inB (m : Int) 2 3 = false from inB_f qaa)
    exact zz188
 ·clear hm hw hE hBl
  exact zz215
theorem four_of {l : List FNode} (h : l.length = 4) : ∃ a b c d, l = [a, b, c, d] := by
 match l, h with
 | [a, b, c, d], _ => exact ⟨a, b, c, d, rfl⟩
theorem feK_no (l : List FNode) (h : ¬ l.length = 3 ∧ ¬ l.length = 4) : feK l = false := by
 match l, h with
 | [], _ => rfl
 | [_], _ => rfl
 | [_, _], _ => rfl
 | [_, _, _], h => simp at h
 | [_, _, _, _], h => simp at h
 | _ :: _ :: _ :: _ :: _ :: _, _ => rfl
theorem fe3_eq (a y d : FNode) : feK [a, y, d] = (exF a && ((y.kd == 4 && exF y) && blF d)) := by
 show (exF a && (exF y && (y.kd == 4 && blF d))) = _
 cases exF a <;> cases exF y <;> cases (y.kd == 4) <;> cases blF d <;> rfl
theorem fe4_eq (a y z d : FNode) : feK [a, y, z, d] = (exF a && ((y.kd == 4 && exF y) && ((z.kd == 4 && exF z) && blF d))) := by
 show (exF a && (exF y && (exF z && (y.kd == 4 && (z.kd == 4 && blF d))))) = _
 cases exF a <;> cases exF y <;> cases (y.kd == 4) <;> cases exF z <;> cases (z.kd == 4) <;> cases blF d <;> rfl
theorem yi_eq (y d : FNode) : (decide (1 ≤ 2 ∧ 2 ≤ 2) && ([y, d].all exF && (2 == 1 || hd4 [y, d]))) = ((y.kd == 4 && exF y) && exF d) := by
 show (true && ((exF y && (exF d && true)) && (false || y.kd == 4))) = _
 cases exF y <;> cases (y.kd == 4) <;> cases exF d <;> rfl
theorem stI_36 (z1 : Int) (z2 : ByteArray) (z3 : List FNode) (hw : (FNode.mk 36 z1 z2 z3).wt ≤ 9000000000) (hE : ∀ x, x ∈ z3 → ExI x) (hBl : ∀ x, x ∈ z3 → BlI [x]) : StI (.mk 36 z1 z2 z3) := by
 intro us w B hmx hB0 hr
 obtain ⟨A3, c3, rfl, r3⟩ := hr.node
 rw [FNode.wt_eq] at hw
 have hz : z2.size ≤ 9223372036854775807 := qaa
 have hl : z3.length ≤ 9223372036854775807 := qaa
 have EX := hid (show stF ⟨36, z1, z2, z3⟩ = (((z1 == 0) && emT z2) && feK z3) from by rw [stF_mk]; rfl)
 obtain ⟨m, hm⟩ : ∃ m, z3.length = m := ⟨_, rfl⟩
 try rw [hm] at EX
 rw [hm] at hl r3  ⊢
 have HB := hbA w 36 z1 z2 (.slice A3 m c3)
 clear hr
 have HR := hid r3
 have hcap : m ≤ c3 := by
  have h := r3
  exact zz23
 clear r3
 by_cases e2 : z1 = 0
 ·subst e2
  by_cases e3 : m = 3
  ·subst e3
   obtain ⟨⟨y0, y1, y2, y3⟩, ⟨t0, t1, t2, t3⟩, ye, rfl⟩ := three_of hm
   obtain ⟨bcy, offcy, Ey, hblcy, hcc⟩ := RdC.at_ (l := [FNode.mk y0 y1 y2 y3, FNode.mk t0 t1 t2 t3, ye]) FNode.len HR.out (i := 0) (x := FNode.mk y0 y1 y2 y3) rfl
   obtain ⟨Dy, dy, cy_0, cy_1, cy_2, cy_3, q3⟩ := opN (Below.refl w.heap.size w) qaa hcc (offcy) (offcy + 1) (offcy + 2) (offcy + 3) qaa
   have Qy := hid q3
   clear hcc q3
   obtain ⟨bct, offct, Et, hblct, hcc⟩ := RdC.at_ (l := [FNode.mk y0 y1 y2 y3, FNode.mk t0 t1 t2 t3, ye]) FNode.len HR.out (i := 1) (x := FNode.mk t0 t1 t2 t3) rfl
   obtain ⟨Dt, dt, ct_0, ct_1, ct_2, ct_3, q3⟩ := opN (Below.refl w.heap.size w) qaa hcc (offct + 4) (offct + 5) (offct + 6) (offct + 7) qaa
   have Qt := hid q3
   clear hcc q3
   have hbl : bcy < w.heap.size := Nat.lt_of_lt_of_le hblcy hB0
   subst Ey
   obtain ⟨g1, g2⟩ : bcy = bct ∧ offcy = offct := by simpa using Et
   subst g1
   subst g2
   clear Et
   have ⟨ay_0, ay_1, ay_2, ay_3⟩ := cell4 HB.out hbl cy_0 cy_1 cy_2 cy_3
   have HV := hid (hE ⟨y0, y1, y2, y3⟩ (List.mem_cons_self ..))
   have HL := hid (hBl ye qag)
   have RT := hid (rd_drop (p := [FNode.mk y0 y1 y2 y3, FNode.mk t0 t1 t2 t3]) (l := [ye]) (Nat.zero_lt_succ _) rfl HR.out)
   have hwt : (FNode.mk t0 t1 t2 t3).wt ≤ 9000000000 := by have := FNode.wts_at [FNode.mk y0 y1 y2 y3, FNode.mk t0 t1 t2 t3, ye] (FNode.mk t0 t1 t2 t3) qag; omega
   have HVt := hid (var_impl _ hwt)
   have CALL := hid (HV.out [.int .i64 y0, .int .i64 y1, .string y2, .slice Dy y3.length dy] _ w.heap.size (hmx.below HB.out) HB.out.size (ndV ((Qy.out.up hB0).below HB.out nr)))
   clear hm hw hE hBl hwt
   rw [show feK [FNode.mk y0 y1 y2 y3, FNode.mk t0 t1 t2 t3, ye] = (exF ⟨y0, y1, y2, y3⟩ && (varF ⟨t0, t1, t2, t3⟩ && blF ye)) from by rw [← varF_ex ⟨t0, t1, t2, t3⟩]; exact fe3_eq _ _ _ ] at EX
   cases hv : exF ⟨y0, y1, y2, y3⟩ with
   | false =>
    exact zz74
   | true =>
    rw [hv] at CALL EX
    clear hv
    cases hv : varF ⟨t0, t1, t2, t3⟩ with
    | false =>
     rw [hv] at HVt EX
     clear hv
     have tok_t : True := trivial
     go_enter Tryz.func70, Tryz.ntmps70
     go_wp2_with (first | (go_at_call 67; refine zkp (inRange_any _ _ _ _) ?_) | (go_at_call 106; refine CALL.out.mono ?_; rintro e w3 ⟨rfl, hb3⟩; have HB3 := hid (HB.out.trans (hb3.mono HB.out.size)); have bx_w3 : w3.cell? ⟨w.heap.size, 3, none⟩ = some (.slice (some ⟨bcy, offcy, none⟩) 3 c3) := (hb3.cell (p := ⟨w.heap.size, 3, none⟩) qa8).trans (by rw [World.cell?_alloc_new]; rfl); have sz_w3 := szA hb3; have ⟨c_w3_t0, c_w3_t1, c_w3_t2, c_w3_t3⟩ := cell4 HB3.out hbl ct_0 ct_1 ct_2 ct_3) | (go_at_call 109; clear tok_t; refine (HVt.out [.int .i64 t0, .int .i64 t1, .string t2, .slice Dt t3.length dt] w3 w.heap.size (ndV ((Qt.out.up hB0).below HB3.out nr))).mono ?_; rintro e w4 ⟨rfl, hb4⟩; have HB4 := hid (HB3.out.trans (hb4.mono HB3.out.size)); have bx_w4 : w4.cell? ⟨w.heap.size, 3, none⟩ = some (.slice (some ⟨bcy, offcy, none⟩) 3 c3) := (hb4.cell (p := ⟨w.heap.size, 3, none⟩) sz_w3).trans bx_w3; have sz_w4 := Nat.lt_of_lt_of_le sz_w3 hb4.size))
     all_goals exact zz102
    | true =>
     rw [hv] at HVt EX
     clear hv
     have tok_t : True := trivial
     go_enter Tryz.func70, Tryz.ntmps70
     go_wp2_with (first | (go_at_call 67; refine zkp (inRange_any _ _ _ _) ?_) | (go_at_call 106; refine CALL.out.mono ?_; rintro e w3 ⟨rfl, hb3⟩; have HB3 := hid (HB.out.trans (hb3.mono HB.out.size)); have bx_w3 : w3.cell? ⟨w.heap.size, 3, none⟩ = some (.slice (some ⟨bcy, offcy, none⟩) 3 c3) := (hb3.cell (p := ⟨w.heap.size, 3, none⟩) qa8).trans (by rw [World.cell?_alloc_new]; rfl); have sz_w3 := szA hb3; have ⟨c_w3_t0, c_w3_t1, c_w3_t2, c_w3_t3⟩ := cell4 HB3.out hbl ct_0 ct_1 ct_2 ct_3) | (go_at_call 109; clear tok_t; refine (HVt.out [.int .i64 t0, .int .i64 t1, .string t2, .slice Dt t3.length dt] w3 w.heap.size (ndV ((Qt.out.up hB0).below HB3.out nr))).mono ?_; rintro e w4 ⟨rfl, hb4⟩; have HB4 := hid (HB3.out.trans (hb4.mono HB3.out.size)); have bx_w4 : w4.cell? ⟨w.heap.size, 3, none⟩ = some (.slice (some ⟨bcy, offcy, none⟩) 3 c3) := (hb4.cell (p := ⟨w.heap.size, 3, none⟩) sz_w3).trans bx_w3; have sz_w4 := Nat.lt_of_lt_of_le sz_w3 hb4.size) | (go_at_call 108; refine (HL.out _ _ w.heap.size (hmx.below HB4.out) HB4.out.size ((RT.out.up hB0).below HB4.out nr)).mono ?_; rintro e w9 ⟨rfl, hb9⟩))
     all_goals exact zz102
  ·
   by_cases e4 : m = 4
   ·subst e4
    obtain ⟨⟨y0, y1, y2, y3⟩, ⟨t0, t1, t2, t3⟩, ⟨u0, u1, u2, u3⟩, ye, rfl⟩ := four_of hm
    obtain ⟨bcy, offcy, Ey, hblcy, hcc⟩ := RdC.at_ (l := [FNode.mk y0 y1 y2 y3, FNode.mk t0 t1 t2 t3, FNode.mk u0 u1 u2 u3, ye]) FNode.len HR.out (i := 0) (x := FNode.mk y0 y1 y2 y3) rfl
    obtain ⟨Dy, dy, cy_0, cy_1, cy_2, cy_3, q3⟩ := opN (Below.refl w.heap.size w) qaa hcc (offcy) (offcy + 1) (offcy + 2) (offcy + 3) qaa
    have Qy := hid q3
    clear hcc q3
    obtain ⟨bct, offct, Et, hblct, hcc⟩ := RdC.at_ (l := [FNode.mk y0 y1 y2 y3, FNode.mk t0 t1 t2 t3, FNode.mk u0 u1 u2 u3, ye]) FNode.len HR.out (i := 1) (x := FNode.mk t0 t1 t2 t3) rfl
    obtain ⟨Dt, dt, ct_0, ct_1, ct_2, ct_3, q3⟩ := opN (Below.refl w.heap.size w) qaa hcc (offct + 4) (offct + 5) (offct + 6) (offct + 7) qaa
    have Qt := hid q3
    clear hcc q3
    obtain ⟨bcu, offcu, Eu, hblcu, hcc⟩ := RdC.at_ (l := [FNode.mk y0 y1 y2 y3, FNode.mk t0 t1 t2 t3, FNode.mk u0 u1 u2 u3, ye]) FNode.len HR.out (i := 2) (x := FNode.mk u0 u1 u2 u3) rfl
    obtain ⟨Du, du, cu_0, cu_1, cu_2, cu_3, q3⟩ := opN (Below.refl w.heap.size w) qaa hcc (offcu + 8) (offcu + 9) (offcu + 10) (offcu + 11) qaa
    have Qu := hid q3
    clear hcc q3
    have hbl : bcy < w.heap.size := Nat.lt_of_lt_of_le hblcy hB0
    subst Ey
    obtain ⟨g1, g2⟩ : bcy = bct ∧ offcy = offct := by simpa using Et
    subst g1
    subst g2
    clear Et
    obtain ⟨g1, g2⟩ : bcy = bcu ∧ offcy = offcu := by simpa using Eu
    subst g1
    subst g2
    clear Eu
    have ⟨ay_0, ay_1, ay_2, ay_3⟩ := cell4 HB.out hbl cy_0 cy_1 cy_2 cy_3
    have HV := hid (hE ⟨y0, y1, y2, y3⟩ (List.mem_cons_self ..))
    have HL := hid (hBl ye qag)
    have RT := hid (rd_drop (p := [FNode.mk y0 y1 y2 y3, FNode.mk t0 t1 t2 t3, FNode.mk u0 u1 u2 u3]) (l := [ye]) (Nat.zero_lt_succ _) rfl HR.out)
    have hwt : (FNode.mk t0 t1 t2 t3).wt ≤ 9000000000 := by have := FNode.wts_at [FNode.mk y0 y1 y2 y3, FNode.mk t0 t1 t2 t3, FNode.mk u0 u1 u2 u3, ye] (FNode.mk t0 t1 t2 t3) qag; omega
    have HVt := hid (var_impl _ hwt)
    have hwu : (FNode.mk u0 u1 u2 u3).wt ≤ 9000000000 := by have := FNode.wts_at [FNode.mk y0 y1 y2 y3, FNode.mk t0 t1 t2 t3, FNode.mk u0 u1 u2 u3, ye] (FNode.mk u0 u1 u2 u3) qag; omega
    have HVu := hid (var_impl _ hwu)
    have CALL := hid (HV.out [.int .i64 y0, .int .i64 y1, .string y2, .slice Dy y3.length dy] _ w.heap.size (hmx.below HB.out) HB.out.size (ndV ((Qy.out.up hB0).below HB.out nr)))
    clear hm hw hE hBl hwt hwu
    rw [show feK [FNode.mk y0 y1 y2 y3, FNode.mk t0 t1 t2 t3, FNode.mk u0 u1 u2 u3, ye] = (exF ⟨y0, y1, y2, y3⟩ && (varF ⟨t0, t1, t2, t3⟩ && (varF ⟨u0, u1, u2, u3⟩ && blF ye))) from by rw [← varF_ex ⟨t0, t1, t2, t3⟩]; rw [← varF_ex ⟨u0, u1, u2, u3⟩]; exact fe4_eq _ _ _ _ ] at EX
    cases hv : exF ⟨y0, y1, y2, y3⟩ with
    | false =>
     exact zz74
    | true =>
     rw [hv] at CALL EX
     clear hv
     cases hv : varF ⟨t0, t1, t2, t3⟩ with
     | false =>
      rw [hv] at HVt EX
      clear hv
      have tok_t : True := trivial
      go_enter Tryz.func70, Tryz.ntmps70
      go_wp2_with (first | (go_at_call 67; refine zkp (inRange_any _ _ _ _) ?_) | (go_at_call 106; refine CALL.out.mono ?_; rintro e w3 ⟨rfl, hb3⟩; have HB3 := hid (HB.out.trans (hb3.mono HB.out.size)); have bx_w3 : w3.cell? ⟨w.heap.size, 3, none⟩ = some (.slice (some ⟨bcy, offcy, none⟩) 4 c3) := (hb3.cell (p := ⟨w.heap.size, 3, none⟩) qa8).trans (by rw [World.cell?_alloc_new]; rfl); have sz_w3 := szA hb3; have ⟨c_w3_t0, c_w3_t1, c_w3_t2, c_w3_t3⟩ := cell4 HB3.out hbl ct_0 ct_1 ct_2 ct_3; have ⟨c_w3_u0, c_w3_u1, c_w3_u2, c_w3_u3⟩ := cell4 HB3.out hbl cu_0 cu_1 cu_2 cu_3) | (go_at_call 109; clear tok_t; refine (HVt.out [.int .i64 t0, .int .i64 t1, .string t2, .slice Dt t3.length dt] w3 w.heap.size (ndV ((Qt.out.up hB0).below HB3.out nr))).mono ?_; rintro e w4 ⟨rfl, hb4⟩; have HB4 := hid (HB3.out.trans (hb4.mono HB3.out.size)); have bx_w4 : w4.cell? ⟨w.heap.size, 3, none⟩ = some (.slice (some ⟨bcy, offcy, none⟩) 4 c3) := (hb4.cell (p := ⟨w.heap.size, 3, none⟩) sz_w3).trans bx_w3; have sz_w4 := Nat.lt_of_lt_of_le sz_w3 hb4.size; have ⟨c_w4_u0, c_w4_u1, c_w4_u2, c_w4_u3⟩ := cell4 HB4.out hbl cu_0 cu_1 cu_2 cu_3))
      all_goals exact zz102
     | true =>
      rw [hv] at HVt EX
      clear hv
      cases hv : varF ⟨u0, u1, u2, u3⟩ with
      | false =>
       rw [hv] at HVu EX
       clear hv
       have tok_t : True := trivial
       have tok_u : True := trivial
       go_enter Tryz.func70, Tryz.ntmps70
       go_wp2_with (first | (go_at_call 67; refine zkp (inRange_any _ _ _ _) ?_) | (go_at_call 106; refine CALL.out.mono ?_; rintro e w3 ⟨rfl, hb3⟩; have HB3 := hid (HB.out.trans (hb3.mono HB.out.size)); have bx_w3 : w3.cell? ⟨w.heap.size, 3, none⟩ = some (.slice (some ⟨bcy, offcy, none⟩) 4 c3) := (hb3.cell (p := ⟨w.heap.size, 3, none⟩) qa8).trans (by rw [World.cell?_alloc_new]; rfl); have sz_w3 := szA hb3; have ⟨c_w3_t0, c_w3_t1, c_w3_t2, c_w3_t3⟩ := cell4 HB3.out hbl ct_0 ct_1 ct_2 ct_3; have ⟨c_w3_u0, c_w3_u1, c_w3_u2, c_w3_u3⟩ := cell4 HB3.out hbl cu_0 cu_1 cu_2 cu_3) | (go_at_call 109; clear tok_t; refine (HVt.out [.int .i64 t0, .int .i64 t1, .string t2, .slice Dt t3.length dt] w3 w.heap.size (ndV ((Qt.out.up hB0).below HB3.out nr))).mono ?_; rintro e w4 ⟨rfl, hb4⟩; have HB4 := hid (HB3.out.trans (hb4.mono HB3.out.size)); have bx_w4 : w4.cell? ⟨w.heap.size, 3, none⟩ = some (.slice (some ⟨bcy, offcy, none⟩) 4 c3) := (hb4.cell (p := ⟨w.heap.size, 3, none⟩) sz_w3).trans bx_w3; have sz_w4 := Nat.lt_of_lt_of_le sz_w3 hb4.size; have ⟨c_w4_u0, c_w4_u1, c_w4_u2, c_w4_u3⟩ := cell4 HB4.out hbl cu_0 cu_1 cu_2 cu_3) | (go_at_call 109; clear tok_u; refine (HVu.out [.int .i64 u0, .int .i64 u1, .string u2, .slice Du u3.length du] w4 w.heap.size (ndV ((Qu.out.up hB0).below HB4.out nr))).mono ?_; rintro e w5 ⟨rfl, hb5⟩; have HB5 := hid (HB4.out.trans (hb5.mono HB4.out.size)); have bx_w5 : w5.cell? ⟨w.heap.size, 3, none⟩ = some (.slice (some ⟨bcy, offcy, none⟩) 4 c3) := (hb5.cell (p := ⟨w.heap.size, 3, none⟩) sz_w4).trans bx_w4; have sz_w5 := Nat.lt_of_lt_of_le sz_w4 hb5.size))
       all_goals exact zz143
      | true =>
       rw [hv] at HVu EX
       clear hv
       have tok_t : True := trivial
       have tok_u : True := trivial
       go_enter Tryz.func70, Tryz.ntmps70
       go_wp2_with (first | (go_at_call 67; refine zkp (inRange_any _ _ _ _) ?_) | (go_at_call 106; refine CALL.out.mono ?_; rintro e w3 ⟨rfl, hb3⟩; have HB3 := hid (HB.out.trans (hb3.mono HB.out.size)); have bx_w3 : w3.cell? ⟨w.heap.size, 3, none⟩ = some (.slice (some ⟨bcy, offcy, none⟩) 4 c3) := (hb3.cell (p := ⟨w.heap.size, 3, none⟩) qa8).trans (by rw [World.cell?_alloc_new]; rfl); have sz_w3 := szA hb3; have ⟨c_w3_t0, c_w3_t1, c_w3_t2, c_w3_t3⟩ := cell4 HB3.out hbl ct_0 ct_1 ct_2 ct_3; have ⟨c_w3_u0, c_w3_u1, c_w3_u2, c_w3_u3⟩ := cell4 HB3.out hbl cu_0 cu_1 cu_2 cu_3) | (go_at_call 109; clear tok_t; refine (HVt.out [.int .i64 t0, .int .i64 t1, .string t2, .slice Dt t3.length dt] w3 w.heap.size (ndV ((Qt.out.up hB0).below HB3.out nr))).mono ?_; rintro e w4 ⟨rfl, hb4⟩; have HB4 := hid (HB3.out.trans (hb4.mono HB3.out.size)); have bx_w4 : w4.cell? ⟨w.heap.size, 3, none⟩ = some (.slice (some ⟨bcy, offcy, none⟩) 4 c3) := (hb4.cell (p := ⟨w.heap.size, 3, none⟩) sz_w3).trans bx_w3; have sz_w4 := Nat.lt_of_lt_of_le sz_w3 hb4.size; have ⟨c_w4_u0, c_w4_u1, c_w4_u2, c_w4_u3⟩ := cell4 HB4.out hbl cu_0 cu_1 cu_2 cu_3) | (go_at_call 109; clear tok_u; refine (HVu.out [.int .i64 u0, .int .i64 u1, .string u2, .slice Du u3.length du] w4 w.heap.size (ndV ((Qu.out.up hB0).below HB4.out nr))).mono ?_; rintro e w5 ⟨rfl, hb5⟩; have HB5 := hid (HB4.out.trans (hb5.mono HB4.out.size)); have bx_w5 : w5.cell? ⟨w.heap.size, 3, none⟩ = some (.slice (some ⟨bcy, offcy, none⟩) 4 c3) := (hb5.cell (p := ⟨w.heap.size, 3, none⟩) sz_w4).trans bx_w4; have sz_w5 := Nat.lt_of_lt_of_le sz_w4 hb5.size) | (go_at_call 108; refine (HL.out _ _ w.heap.size (hmx.below HB5.out) HB5.out.size ((RT.out.up hB0).below HB5.out nr)).mono ?_; rintro e w9 ⟨rfl, hb9⟩))
       all_goals exact zz143
   ·
    have hk : feK z3 = false := feK_no z3 qaa
    rw [hk] at EX
    clear hm hw hE hBl
    have HIN := hid (show inB (m : Int) 3 4 = false from inB_f qaa)
    exact zz188
 ·clear hm hw hE hBl
  exact zz215
end Go.Proofs.YtkkjnfappndmpaaGreatDoor
