/-
 Parts of the proof: IsU2. Conditions: none.
-/
import Derived.Test.YtkkjnfappndmpaaGreatDoorQFold
import Derived.Test.YtkkjnfappndmpaaGreatDoorQaa
import Derived.Test.YtkkjnfappndmpaaGreatDoorQau
import Derived.Test.YtkkjnfappndmpaaGreatDoorQao
set_option linter.unusedVariables false
set_option linter.unusedSimpArgs false
namespace Go.Proofs.YtkkjnfappndmpaaGreatDoor
set_option maxHeartbeats 40000000
open Lib (hid)
open Go.ChangeShapes Go.WideShapes Go.ChangeAt Go.RowKit Go.Deep Go.Joins
open Go.ChangeMaps (open_string shut_string)
set_option maxRecDepth 100000
theorem cap_of {w : World} {B n c e k : Nat} {A : Option Addr} {xs : List Cel} (h : RdC w B (.s e k n xs) (.slice A n c)) : n ≤ c := by
 exact zz23
theorem fe3s (a y d : FNode) : feK [a, y, d] = ([a, y].all exF && ((y.kd == 4) && blF d)) := by
 show (exF a && (exF y && (y.kd == 4 && blF d))) = ((exF a && (exF y && true)) && _)
 cases exF a <;> cases exF y <;> cases (y.kd == 4) <;> cases blF d <;> rfl
theorem fe4s (a y z d : FNode) : feK [a, y, z, d] = ([a, y, z].all exF && ((y.kd == 4) && ((z.kd == 4) && blF d))) := by
 show (exF a && (exF y && (exF z && (y.kd == 4 && (z.kd == 4 && blF d))))) = ((exF a && (exF y && (exF z && true))) && _)
 cases exF a <;> cases exF y <;> cases exF z <;> cases (y.kd == 4) <;> cases (z.kd == 4) <;> cases blF d <;> rfl
theorem stS_34 (z1 : Int) (z2 : ByteArray) (z3 : List FNode) (hw : (FNode.mk 34 z1 z2 z3).wt ≤ 9000000000) (hn : fN 34 z1 = true) (ht : fT 34 z2 = true) (hE : ∀ x, x ∈ z3 → ExS x) (hB : ∀ x, x ∈ z3 → BkS x) : SaB 54 (FNode.mk 34 z1 z2 z3) (ifK z3) := by
 intro us w B hB0 hr
 have FD := fd_spec _ hw
 obtain ⟨A3, c3, rfl, r3⟩ := hr.node
 rw [FNode.wt_eq] at hw
 have hz : z2.size ≤ 9223372036854775807 := qaa
 have hl : z3.length ≤ 9000000000 := qaa
 have FDC := fdC FD hn ht hB0 r3
 clear FD
 have hpos3 := r3
 obtain ⟨m, hm⟩ : ∃ m, z3.length = m := ⟨_, rfl⟩
 try rw [hm] at hl r3 FDC ⊢
 have HR := hid r3
 have HB := hbA w 34 z1 z2 (.slice A3 m c3)
 clear hr r3 hpos3
 by_cases e2m : m = 2
 ·subst e2m
  obtain ⟨⟨y0, y1, y2, y3⟩, ⟨t0, t1, t2, t3⟩, rfl⟩ := two_of hm
  have Cy := hid (hE _ (List.mem_cons_self ..))
  have Ct := hid (hB ⟨t0, t1, t2, t3⟩ qag)
  have Cu := Ct
  unfold ExS at Cy
  unfold BkS at Ct Cu
  obtain ⟨bcy, offcy, Ey, hblcy, hcc⟩ := RdC.at_ (l := [FNode.mk y0 y1 y2 y3, FNode.mk t0 t1 t2 t3]) FNode.len HR.out (i := 0) (x := FNode.mk y0 y1 y2 y3) rfl
  obtain ⟨Dy, dy, cy_0, cy_1, cy_2, cy_3, q3⟩ := opN (Below.refl w.heap.size w) qaa hcc (offcy) (offcy + 1) (offcy + 2) (offcy + 3) qaa
  have Qy := hid q3
  clear hcc q3
  obtain ⟨bct, offct, Et, hblct, hcc⟩ := RdC.at_ (l := [FNode.mk y0 y1 y2 y3, FNode.mk t0 t1 t2 t3]) FNode.len HR.out (i := 1) (x := FNode.mk t0 t1 t2 t3) rfl
  obtain ⟨Dt, dt, ct_0, ct_1, ct_2, ct_3, q3⟩ := opN (Below.refl w.heap.size w) qaa hcc (offct + 4) (offct + 5) (offct + 6) (offct + 7) qaa
  have Qt := hid q3
  clear hcc q3
  have hbl : bcy < w.heap.size := Nat.lt_of_lt_of_le hblcy hB0
  subst Ey
  obtain ⟨g1, g2⟩ : bcy = bct ∧ offcy = offct := by simpa using Et
  subst g1
  subst g2
  clear Et
  clear hm hw hE hB
  rw [show ifK [FNode.mk y0 y1 y2 y3, FNode.mk t0 t1 t2 t3] = (exF ⟨y0, y1, y2, y3⟩ && (blF ⟨t0, t1, t2, t3⟩ && blF ⟨t0, t1, t2, t3⟩)) from by simp [ifK]]
  cases hvCy : exF ⟨y0, y1, y2, y3⟩ with
  | false =>
   rw [hvCy] at Cy
   go_enter Tryz.func54, Tryz.ntmps54
   go_wp2_with (first | (go_at_call 53; refine FDC.out.mono ?_; rintro e w3 ⟨rfl, hb3⟩; have HB3 := hid (HB.out.trans (hb3.mono HB.out.size)); have ⟨bx_w3_0, bx_w3_1, bx_w3_2, bx_w3_3⟩ := box4 hb3; have sz_w3 := szA hb3; have ⟨k_w3_y0, k_w3_y1, k_w3_y2, k_w3_y3⟩ := cell4 HB3.out hbl cy_0 cy_1 cy_2 cy_3; have ⟨k_w3_t0, k_w3_t1, k_w3_t2, k_w3_t3⟩ := cell4 HB3.out hbl ct_0 ct_1 ct_2 ct_3) | (go_at_call 51; refine zkp (l1In_any _ _ _ _) ?_) | (go_at_call 88; refine (Cy.out [.int .i64 y0, .int .i64 y1, .string y2, .slice Dy y3.length dy] _ w.heap.size HB3.out.size (ndV ((Qy.out.up hB0).below HB3.out nr))).mono ?_; rintro e w4 ⟨rfl, hb_w4⟩; have HB4 := hid (HB3.out.trans (hb_w4.mono HB3.out.size)); have ⟨bx_w4_0, bx_w4_1, bx_w4_2, bx_w4_3⟩ := cell4 hb_w4 sz_w3 bx_w3_0 bx_w3_1 bx_w3_2 bx_w3_3; have sz_w4 := Nat.lt_of_lt_of_le sz_w3 hb_w4.size; have ⟨k_w4_y0, k_w4_y1, k_w4_y2, k_w4_y3⟩ := cell4 HB4.out hbl cy_0 cy_1 cy_2 cy_3; have ⟨k_w4_t0, k_w4_t1, k_w4_t2, k_w4_t3⟩ := cell4 HB4.out hbl ct_0 ct_1 ct_2 ct_3))
   all_goals exact zz12
  | true =>
   rw [hvCy] at Cy
   cases hvCt : blF ⟨t0, t1, t2, t3⟩ with
   | false =>
    rw [hvCt] at Ct
    have tokCt : True := trivial
    go_enter Tryz.func54, Tryz.ntmps54
    go_wp2_with (first | (go_at_call 53; refine FDC.out.mono ?_; rintro e w3 ⟨rfl, hb3⟩; have HB3 := hid (HB.out.trans (hb3.mono HB.out.size)); have ⟨bx_w3_0, bx_w3_1, bx_w3_2, bx_w3_3⟩ := box4 hb3; have sz_w3 := szA hb3; have ⟨k_w3_y0, k_w3_y1, k_w3_y2, k_w3_y3⟩ := cell4 HB3.out hbl cy_0 cy_1 cy_2 cy_3; have ⟨k_w3_t0, k_w3_t1, k_w3_t2, k_w3_t3⟩ := cell4 HB3.out hbl ct_0 ct_1 ct_2 ct_3) | (go_at_call 51; refine zkp (l1In_any _ _ _ _) ?_) | (go_at_call 88; refine (Cy.out [.int .i64 y0, .int .i64 y1, .string y2, .slice Dy y3.length dy] _ w.heap.size HB3.out.size (ndV ((Qy.out.up hB0).below HB3.out nr))).mono ?_; rintro e w4 ⟨rfl, hb_w4⟩; have HB4 := hid (HB3.out.trans (hb_w4.mono HB3.out.size)); have ⟨bx_w4_0, bx_w4_1, bx_w4_2, bx_w4_3⟩ := cell4 hb_w4 sz_w3 bx_w3_0 bx_w3_1 bx_w3_2 bx_w3_3; have sz_w4 := Nat.lt_of_lt_of_le sz_w3 hb_w4.size; have ⟨k_w4_y0, k_w4_y1, k_w4_y2, k_w4_y3⟩ := cell4 HB4.out hbl cy_0 cy_1 cy_2 cy_3; have ⟨k_w4_t0, k_w4_t1, k_w4_t2, k_w4_t3⟩ := cell4 HB4.out hbl ct_0 ct_1 ct_2 ct_3) | (go_at_call 91; clear tokCt; refine (Ct.out [.int .i64 t0, .int .i64 t1, .string t2, .slice Dt t3.length dt] _ w.heap.size HB4.out.size (ndV ((Qt.out.up hB0).below HB4.out nr))).mono ?_; rintro e w5 ⟨rfl, hb_w5⟩; have HB5 := hid (HB4.out.trans (hb_w5.mono HB4.out.size)); have ⟨bx_w5_0, bx_w5_1, bx_w5_2, bx_w5_3⟩ := cell4 hb_w5 sz_w4 bx_w4_0 bx_w4_1 bx_w4_2 bx_w4_3; have sz_w5 := Nat.lt_of_lt_of_le sz_w4 hb_w5.size; have ⟨k_w5_y0, k_w5_y1, k_w5_y2, k_w5_y3⟩ := cell4 HB5.out hbl cy_0 cy_1 cy_2 cy_3; have ⟨k_w5_t0, k_w5_t1, k_w5_t2, k_w5_t3⟩ := cell4 HB5.out hbl ct_0 ct_1 ct_2 ct_3))
    all_goals exact zz12
   | true =>
    rw [hvCt] at Ct
    have tokCt : True := trivial
    have tokCu : True := trivial
    go_enter Tryz.func54, Tryz.ntmps54
    go_wp2_with (first | (go_at_call 53; refine FDC.out.mono ?_; rintro e w3 ⟨rfl, hb3⟩; have HB3 := hid (HB.out.trans (hb3.mono HB.out.size)); have ⟨bx_w3_0, bx_w3_1, bx_w3_2, bx_w3_3⟩ := box4 hb3; have sz_w3 := szA hb3; have ⟨k_w3_y0, k_w3_y1, k_w3_y2, k_w3_y3⟩ := cell4 HB3.out hbl cy_0 cy_1 cy_2 cy_3; have ⟨k_w3_t0, k_w3_t1, k_w3_t2, k_w3_t3⟩ := cell4 HB3.out hbl ct_0 ct_1 ct_2 ct_3) | (go_at_call 51; refine zkp (l1In_any _ _ _ _) ?_) | (go_at_call 88; refine (Cy.out [.int .i64 y0, .int .i64 y1, .string y2, .slice Dy y3.length dy] _ w.heap.size HB3.out.size (ndV ((Qy.out.up hB0).below HB3.out nr))).mono ?_; rintro e w4 ⟨rfl, hb_w4⟩; have HB4 := hid (HB3.out.trans (hb_w4.mono HB3.out.size)); have ⟨bx_w4_0, bx_w4_1, bx_w4_2, bx_w4_3⟩ := cell4 hb_w4 sz_w3 bx_w3_0 bx_w3_1 bx_w3_2 bx_w3_3; have sz_w4 := Nat.lt_of_lt_of_le sz_w3 hb_w4.size; have ⟨k_w4_y0, k_w4_y1, k_w4_y2, k_w4_y3⟩ := cell4 HB4.out hbl cy_0 cy_1 cy_2 cy_3; have ⟨k_w4_t0, k_w4_t1, k_w4_t2, k_w4_t3⟩ := cell4 HB4.out hbl ct_0 ct_1 ct_2 ct_3) | (go_at_call 91; clear tokCt; refine (Ct.out [.int .i64 t0, .int .i64 t1, .string t2, .slice Dt t3.length dt] _ w.heap.size HB4.out.size (ndV ((Qt.out.up hB0).below HB4.out nr))).mono ?_; rintro e w5 ⟨rfl, hb_w5⟩; have HB5 := hid (HB4.out.trans (hb_w5.mono HB4.out.size)); have ⟨bx_w5_0, bx_w5_1, bx_w5_2, bx_w5_3⟩ := cell4 hb_w5 sz_w4 bx_w4_0 bx_w4_1 bx_w4_2 bx_w4_3; have sz_w5 := Nat.lt_of_lt_of_le sz_w4 hb_w5.size; have ⟨k_w5_y0, k_w5_y1, k_w5_y2, k_w5_y3⟩ := cell4 HB5.out hbl cy_0 cy_1 cy_2 cy_3; have ⟨k_w5_t0, k_w5_t1, k_w5_t2, k_w5_t3⟩ := cell4 HB5.out hbl ct_0 ct_1 ct_2 ct_3) | (go_at_call 91; clear tokCu; refine (Cu.out [.int .i64 t0, .int .i64 t1, .string t2, .slice Dt t3.length dt] _ w.heap.size HB5.out.size (ndV ((Qt.out.up hB0).below HB5.out nr))).mono ?_; rintro e w6 ⟨rfl, hb_w6⟩; have HB6 := hid (HB5.out.trans (hb_w6.mono HB5.out.size)); have ⟨bx_w6_0, bx_w6_1, bx_w6_2, bx_w6_3⟩ := cell4 hb_w6 sz_w5 bx_w5_0 bx_w5_1 bx_w5_2 bx_w5_3; have sz_w6 := Nat.lt_of_lt_of_le sz_w5 hb_w6.size; have ⟨k_w6_y0, k_w6_y1, k_w6_y2, k_w6_y3⟩ := cell4 HB6.out hbl cy_0 cy_1 cy_2 cy_3; have ⟨k_w6_t0, k_w6_t1, k_w6_t2, k_w6_t3⟩ := cell4 HB6.out hbl ct_0 ct_1 ct_2 ct_3))
    all_goals exact zz12
 ·skip
  by_cases e3m : m = 3
  ·subst e3m
   obtain ⟨⟨y0, y1, y2, y3⟩, ⟨t0, t1, t2, t3⟩, ⟨u0, u1, u2, u3⟩, rfl⟩ := three_of hm
   have Cy := hid (hE _ (List.mem_cons_self ..))
   have Ct := hid (hB ⟨t0, t1, t2, t3⟩ qag)
   have Cu := hid (hB ⟨u0, u1, u2, u3⟩ qag)
   unfold ExS at Cy
   unfold BkS at Ct Cu
   obtain ⟨bcy, offcy, Ey, hblcy, hcc⟩ := RdC.at_ (l := [FNode.mk y0 y1 y2 y3, FNode.mk t0 t1 t2 t3, FNode.mk u0 u1 u2 u3]) FNode.len HR.out (i := 0) (x := FNode.mk y0 y1 y2 y3) rfl
   obtain ⟨Dy, dy, cy_0, cy_1, cy_2, cy_3, q3⟩ := opN (Below.refl w.heap.size w) qaa hcc (offcy) (offcy + 1) (offcy + 2) (offcy + 3) qaa
   have Qy := hid q3
   clear hcc q3
   obtain ⟨bct, offct, Et, hblct, hcc⟩ := RdC.at_ (l := [FNode.mk y0 y1 y2 y3, FNode.mk t0 t1 t2 t3, FNode.mk u0 u1 u2 u3]) FNode.len HR.out (i := 1) (x := FNode.mk t0 t1 t2 t3) rfl
   obtain ⟨Dt, dt, ct_0, ct_1, ct_2, ct_3, q3⟩ := opN (Below.refl w.heap.size w) qaa hcc (offct + 4) (offct + 5) (offct + 6) (offct + 7) qaa
   have Qt := hid q3
   clear hcc q3
   obtain ⟨bcu, offcu, Eu, hblcu, hcc⟩ := RdC.at_ (l := [FNode.mk y0 y1 y2 y3, FNode.mk t0 t1 t2 t3, FNode.mk u0 u1 u2 u3]) FNode.len HR.out (i := 2) (x := FNode.mk u0 u1 u2 u3) rfl
   obtain ⟨Du, du, cu_0, cu_1, cu_2, cu_3, q3⟩ := opN (Below.refl w.heap.size w) qaa hcc (offcu + 8) (offcu + 9) (offcu + 10) (offcu + 11) qaa
   have Qu := hid q3
   clear hcc q3
   have hbl : bcy < w.heap.size := Nat.lt_of_lt_of_le hblcy hB0
   subst Ey
   obtain ⟨g1, g2⟩ : bcy = bct ∧ offcy = offct := by simpa using Et
   subst g1
   subst g2
   clear Et
   obtain ⟨g1, g2⟩ : bcy = bcu ∧ offcy = offcu := by simpa using Eu
   subst g1
   subst g2
   clear Eu
   clear hm hw hE hB
   rw [show ifK [FNode.mk y0 y1 y2 y3, FNode.mk t0 t1 t2 t3, FNode.mk u0 u1 u2 u3] = (exF ⟨y0, y1, y2, y3⟩ && (blF ⟨t0, t1, t2, t3⟩ && blF ⟨u0, u1, u2, u3⟩)) from rfl]
   cases hvCy : exF ⟨y0, y1, y2, y3⟩ with
   | false =>
    rw [hvCy] at Cy
    go_enter Tryz.func54, Tryz.ntmps54
    go_wp2_with (first | (go_at_call 53; refine FDC.out.mono ?_; rintro e w3 ⟨rfl, hb3⟩; have HB3 := hid (HB.out.trans (hb3.mono HB.out.size)); have ⟨bx_w3_0, bx_w3_1, bx_w3_2, bx_w3_3⟩ := box4 hb3; have sz_w3 := szA hb3; have ⟨k_w3_y0, k_w3_y1, k_w3_y2, k_w3_y3⟩ := cell4 HB3.out hbl cy_0 cy_1 cy_2 cy_3; have ⟨k_w3_t0, k_w3_t1, k_w3_t2, k_w3_t3⟩ := cell4 HB3.out hbl ct_0 ct_1 ct_2 ct_3; have ⟨k_w3_u0, k_w3_u1, k_w3_u2, k_w3_u3⟩ := cell4 HB3.out hbl cu_0 cu_1 cu_2 cu_3) | (go_at_call 51; refine zkp (l1In_any _ _ _ _) ?_) | (go_at_call 88; refine (Cy.out [.int .i64 y0, .int .i64 y1, .string y2, .slice Dy y3.length dy] _ w.heap.size HB3.out.size (ndV ((Qy.out.up hB0).below HB3.out nr))).mono ?_; rintro e w4 ⟨rfl, hb_w4⟩; have HB4 := hid (HB3.out.trans (hb_w4.mono HB3.out.size)); have ⟨bx_w4_0, bx_w4_1, bx_w4_2, bx_w4_3⟩ := cell4 hb_w4 sz_w3 bx_w3_0 bx_w3_1 bx_w3_2 bx_w3_3; have sz_w4 := Nat.lt_of_lt_of_le sz_w3 hb_w4.size; have ⟨k_w4_y0, k_w4_y1, k_w4_y2, k_w4_y3⟩ := cell4 HB4.out hbl cy_0 cy_1 cy_2 cy_3; have ⟨k_w4_t0, k_w4_t1, k_w4_t2, k_w4_t3⟩ := cell4 HB4.out hbl ct_0 ct_1 ct_2 ct_3; have ⟨k_w4_u0, k_w4_u1, k_w4_u2, k_w4_u3⟩ := cell4 HB4.out hbl cu_0 cu_1 cu_2 cu_3))
    all_goals exact zz12
   | true =>
    rw [hvCy] at Cy
    cases hvCt : blF ⟨t0, t1, t2, t3⟩ with
    | false =>
     rw [hvCt] at Ct
     have tokCt : True := trivial
     go_enter Tryz.func54, Tryz.ntmps54
     go_wp2_with (first | (go_at_call 53; refine FDC.out.mono ?_; rintro e w3 ⟨rfl, hb3⟩; have HB3 := hid (HB.out.trans (hb3.mono HB.out.size)); have ⟨bx_w3_0, bx_w3_1, bx_w3_2, bx_w3_3⟩ := box4 hb3; have sz_w3 := szA hb3; have ⟨k_w3_y0, k_w3_y1, k_w3_y2, k_w3_y3⟩ := cell4 HB3.out hbl cy_0 cy_1 cy_2 cy_3; have ⟨k_w3_t0, k_w3_t1, k_w3_t2, k_w3_t3⟩ := cell4 HB3.out hbl ct_0 ct_1 ct_2 ct_3; have ⟨k_w3_u0, k_w3_u1, k_w3_u2, k_w3_u3⟩ := cell4 HB3.out hbl cu_0 cu_1 cu_2 cu_3) | (go_at_call 51; refine zkp (l1In_any _ _ _ _) ?_) | (go_at_call 88; refine (Cy.out [.int .i64 y0, .int .i64 y1, .string y2, .slice Dy y3.length dy] _ w.heap.size HB3.out.size (ndV ((Qy.out.up hB0).below HB3.out nr))).mono ?_; rintro e w4 ⟨rfl, hb_w4⟩; have HB4 := hid (HB3.out.trans (hb_w4.mono HB3.out.size)); have ⟨bx_w4_0, bx_w4_1, bx_w4_2, bx_w4_3⟩ := cell4 hb_w4 sz_w3 bx_w3_0 bx_w3_1 bx_w3_2 bx_w3_3; have sz_w4 := Nat.lt_of_lt_of_le sz_w3 hb_w4.size; have ⟨k_w4_y0, k_w4_y1, k_w4_y2, k_w4_y3⟩ := cell4 HB4.out hbl cy_0 cy_1 cy_2 cy_3; have ⟨k_w4_t0, k_w4_t1, k_w4_t2, k_w4_t3⟩ := cell4 HB4.out hbl ct_0 ct_1 ct_2 ct_3; have ⟨k_w4_u0, k_w4_u1, k_w4_u2, k_w4_u3⟩ := cell4 HB4.out hbl cu_0 cu_1 cu_2 cu_3) | (go_at_call 91; clear tokCt; refine (Ct.out [.int .i64 t0, .int .i64 t1, .string t2, .slice Dt t3.length dt] _ w.heap.size HB4.out.size (ndV ((Qt.out.up hB0).below HB4.out nr))).mono ?_; rintro e w5 ⟨rfl, hb_w5⟩; have HB5 := hid (HB4.out.trans (hb_w5.mono HB4.out.size)); have ⟨bx_w5_0, bx_w5_1, bx_w5_2, bx_w5_3⟩ := cell4 hb_w5 sz_w4 bx_w4_0 bx_w4_1 bx_w4_2 bx_w4_3; have sz_w5 := Nat.lt_of_lt_of_le sz_w4 hb_w5.size; have ⟨k_w5_y0, k_w5_y1, k_w5_y2, k_w5_y3⟩ := cell4 HB5.out hbl cy_0 cy_1 cy_2 cy_3; have ⟨k_w5_t0, k_w5_t1, k_w5_t2, k_w5_t3⟩ := cell4 HB5.out hbl ct_0 ct_1 ct_2 ct_3; have ⟨k_w5_u0, k_w5_u1, k_w5_u2, k_w5_u3⟩ := cell4 HB5.out hbl cu_0 cu_1 cu_2 cu_3))
     all_goals exact zz12
    | true =>
     rw [hvCt] at Ct
     have tokCt : True := trivial
     have tokCu : True := trivial
     go_enter Tryz.func54, Tryz.ntmps54
     go_wp2_with (first | (go_at_call 53; refine FDC.out.mono ?_; rintro e w3 ⟨rfl, hb3⟩; have HB3 := hid (HB.out.trans (hb3.mono HB.out.size)); have ⟨bx_w3_0, bx_w3_1, bx_w3_2, bx_w3_3⟩ := box4 hb3; have sz_w3 := szA hb3; have ⟨k_w3_y0, k_w3_y1, k_w3_y2, k_w3_y3⟩ := cell4 HB3.out hbl cy_0 cy_1 cy_2 cy_3; have ⟨k_w3_t0, k_w3_t1, k_w3_t2, k_w3_t3⟩ := cell4 HB3.out hbl ct_0 ct_1 ct_2 ct_3; have ⟨k_w3_u0, k_w3_u1, k_w3_u2, k_w3_u3⟩ := cell4 HB3.out hbl cu_0 cu_1 cu_2 cu_3) | (go_at_call 51; refine zkp (l1In_any _ _ _ _) ?_) | (go_at_call 88; refine (Cy.out [.int .i64 y0, .int .i64 y1, .string y2, .slice Dy y3.length dy] _ w.heap.size HB3.out.size (ndV ((Qy.out.up hB0).below HB3.out nr))).mono ?_; rintro e w4 ⟨rfl, hb_w4⟩; have HB4 := hid (HB3.out.trans (hb_w4.mono HB3.out.size)); have ⟨bx_w4_0, bx_w4_1, bx_w4_2, bx_w4_3⟩ := cell4 hb_w4 sz_w3 bx_w3_0 bx_w3_1 bx_w3_2 bx_w3_3; have sz_w4 := Nat.lt_of_lt_of_le sz_w3 hb_w4.size; have ⟨k_w4_y0, k_w4_y1, k_w4_y2, k_w4_y3⟩ := cell4 HB4.out hbl cy_0 cy_1 cy_2 cy_3; have ⟨k_w4_t0, k_w4_t1, k_w4_t2, k_w4_t3⟩ := cell4 HB4.out hbl ct_0 ct_1 ct_2 ct_3; have ⟨k_w4_u0, k_w4_u1, k_w4_u2, k_w4_u3⟩ := cell4 HB4.out hbl cu_0 cu_1 cu_2 cu_3) | (go_at_call 91; clear tokCt; refine (Ct.out [.int .i64 t0, .int .i64 t1, .string t2, .slice Dt t3.length dt] _ w.heap.size HB4.out.size (ndV ((Qt.out.up hB0).below HB4.out nr))).mono ?_; rintro e w5 ⟨rfl, hb_w5⟩; have HB5 := hid (HB4.out.trans (hb_w5.mono HB4.out.size)); have ⟨bx_w5_0, bx_w5_1, bx_w5_2, bx_w5_3⟩ := cell4 hb_w5 sz_w4 bx_w4_0 bx_w4_1 bx_w4_2 bx_w4_3; have sz_w5 := Nat.lt_of_lt_of_le sz_w4 hb_w5.size; have ⟨k_w5_y0, k_w5_y1, k_w5_y2, k_w5_y3⟩ := cell4 HB5.out hbl cy_0 cy_1 cy_2 cy_3; have ⟨k_w5_t0, k_w5_t1, k_w5_t2, k_w5_t3⟩ := cell4 HB5.out hbl ct_0 ct_1 ct_2 ct_3; have ⟨k_w5_u0, k_w5_u1, k_w5_u2, k_w5_u3⟩ := cell4 HB5.out hbl cu_0 cu_1 cu_2 cu_3) | (go_at_call 91; clear tokCu; refine (Cu.out [.int .i64 u0, .int .i64 u1, .string u2, .slice Du u3.length du] _ w.heap.size HB5.out.size (ndV ((Qu.out.up hB0).below HB5.out nr))).mono ?_; rintro e w6 ⟨rfl, hb_w6⟩; have HB6 := hid (HB5.out.trans (hb_w6.mono HB5.out.size)); have ⟨bx_w6_0, bx_w6_1, bx_w6_2, bx_w6_3⟩ := cell4 hb_w6 sz_w5 bx_w5_0 bx_w5_1 bx_w5_2 bx_w5_3; have sz_w6 := Nat.lt_of_lt_of_le sz_w5 hb_w6.size; have ⟨k_w6_y0, k_w6_y1, k_w6_y2, k_w6_y3⟩ := cell4 HB6.out hbl cy_0 cy_1 cy_2 cy_3; have ⟨k_w6_t0, k_w6_t1, k_w6_t2, k_w6_t3⟩ := cell4 HB6.out hbl ct_0 ct_1 ct_2 ct_3; have ⟨_, _, _, _⟩ := cell4 HB6.out hbl cu_0 cu_1 cu_2 cu_3))
     all_goals exact zz12
  ·skip
   rw [ifK_no z3 qaa]
   have HIN := hid (show inB (m : Int) 2 3 = false from inB_f qaa)
   clear hm hw hE hB
   exact zz172
theorem stS_35 (z1 : Int) (z2 : ByteArray) (z3 : List FNode) (hw : (FNode.mk 35 z1 z2 z3).wt ≤ 9000000000) (hn : fN 35 z1 = true) (ht : fT 35 z2 = true) (hE : ∀ x, x ∈ z3 → ExS x) (hB : ∀ x, x ∈ z3 → BkS x) : SaB 54 (FNode.mk 35 z1 z2 z3) (whK z3) := by
 intro us w B hB0 hr
 have FD := fd_spec _ hw
 obtain ⟨A3, c3, rfl, r3⟩ := hr.node
 rw [FNode.wt_eq] at hw
 have hz : z2.size ≤ 9223372036854775807 := qaa
 have hl : z3.length ≤ 9000000000 := qaa
 have FDC := fdC FD hn ht hB0 r3
 clear FD
 have hpos3 := r3
 obtain ⟨m, hm⟩ : ∃ m, z3.length = m := ⟨_, rfl⟩
 try rw [hm] at hl r3 FDC ⊢
 have HR := hid r3
 have HB := hbA w 35 z1 z2 (.slice A3 m c3)
 clear hr r3 hpos3
 by_cases e2m : m = 2
 ·subst e2m
  obtain ⟨⟨y0, y1, y2, y3⟩, ⟨t0, t1, t2, t3⟩, rfl⟩ := two_of hm
  have Cy := hid (hE _ (List.mem_cons_self ..))
  have Ct := hid (hB ⟨t0, t1, t2, t3⟩ qag)
  unfold ExS at Cy
  unfold BkS at Ct
  obtain ⟨bcy, offcy, Ey, hblcy, hcc⟩ := RdC.at_ (l := [FNode.mk y0 y1 y2 y3, FNode.mk t0 t1 t2 t3]) FNode.len HR.out (i := 0) (x := FNode.mk y0 y1 y2 y3) rfl
  obtain ⟨Dy, dy, cy_0, cy_1, cy_2, cy_3, q3⟩ := opN (Below.refl w.heap.size w) qaa hcc (offcy) (offcy + 1) (offcy + 2) (offcy + 3) qaa
  have Qy := hid q3
  clear hcc q3
  obtain ⟨bct, offct, Et, hblct, hcc⟩ := RdC.at_ (l := [FNode.mk y0 y1 y2 y3, FNode.mk t0 t1 t2 t3]) FNode.len HR.out (i := 1) (x := FNode.mk t0 t1 t2 t3) rfl
  obtain ⟨Dt, dt, ct_0, ct_1, ct_2, ct_3, q3⟩ := opN (Below.refl w.heap.size w) qaa hcc (offct + 4) (offct + 5) (offct + 6) (offct + 7) qaa
  have Qt := hid q3
  clear hcc q3
  have hbl : bcy < w.heap.size := Nat.lt_of_lt_of_le hblcy hB0
  subst Ey
  obtain ⟨g1, g2⟩ : bcy = bct ∧ offcy = offct := by simpa using Et
  subst g1
  subst g2
  clear Et
  clear hm hw hE hB
  rw [show whK [FNode.mk y0 y1 y2 y3, FNode.mk t0 t1 t2 t3] = (exF ⟨y0, y1, y2, y3⟩ && blF ⟨t0, t1, t2, t3⟩) from rfl]
  cases hvCy : exF ⟨y0, y1, y2, y3⟩ with
  | false =>
   rw [hvCy] at Cy
   go_enter Tryz.func54, Tryz.ntmps54
   go_wp2_with (first | (go_at_call 53; refine FDC.out.mono ?_; rintro e w3 ⟨rfl, hb3⟩; have HB3 := hid (HB.out.trans (hb3.mono HB.out.size)); have ⟨bx_w3_0, bx_w3_1, bx_w3_2, bx_w3_3⟩ := box4 hb3; have sz_w3 := szA hb3; have ⟨k_w3_y0, k_w3_y1, k_w3_y2, k_w3_y3⟩ := cell4 HB3.out hbl cy_0 cy_1 cy_2 cy_3; have ⟨k_w3_t0, k_w3_t1, k_w3_t2, k_w3_t3⟩ := cell4 HB3.out hbl ct_0 ct_1 ct_2 ct_3) | (go_at_call 88; refine (Cy.out [.int .i64 y0, .int .i64 y1, .string y2, .slice Dy y3.length dy] _ w.heap.size HB3.out.size (ndV ((Qy.out.up hB0).below HB3.out nr))).mono ?_; rintro e w4 ⟨rfl, hb_w4⟩; have HB4 := hid (HB3.out.trans (hb_w4.mono HB3.out.size)); have ⟨bx_w4_0, bx_w4_1, bx_w4_2, bx_w4_3⟩ := cell4 hb_w4 sz_w3 bx_w3_0 bx_w3_1 bx_w3_2 bx_w3_3; have sz_w4 := Nat.lt_of_lt_of_le sz_w3 hb_w4.size; have ⟨k_w4_y0, k_w4_y1, k_w4_y2, k_w4_y3⟩ := cell4 HB4.out hbl cy_0 cy_1 cy_2 cy_3; have ⟨k_w4_t0, k_w4_t1, k_w4_t2, k_w4_t3⟩ := cell4 HB4.out hbl ct_0 ct_1 ct_2 ct_3))
   all_goals exact zz12
  | true =>
   rw [hvCy] at Cy
   have tokCt : True := trivial
   go_enter Tryz.func54, Tryz.ntmps54
   go_wp2_with (first | (go_at_call 53; refine FDC.out.mono ?_; rintro e w3 ⟨rfl, hb3⟩; have HB3 := hid (HB.out.trans (hb3.mono HB.out.size)); have ⟨bx_w3_0, bx_w3_1, bx_w3_2, bx_w3_3⟩ := box4 hb3; have sz_w3 := szA hb3; have ⟨k_w3_y0, k_w3_y1, k_w3_y2, k_w3_y3⟩ := cell4 HB3.out hbl cy_0 cy_1 cy_2 cy_3; have ⟨k_w3_t0, k_w3_t1, k_w3_t2, k_w3_t3⟩ := cell4 HB3.out hbl ct_0 ct_1 ct_2 ct_3) | (go_at_call 88; refine (Cy.out [.int .i64 y0, .int .i64 y1, .string y2, .slice Dy y3.length dy] _ w.heap.size HB3.out.size (ndV ((Qy.out.up hB0).below HB3.out nr))).mono ?_; rintro e w4 ⟨rfl, hb_w4⟩; have HB4 := hid (HB3.out.trans (hb_w4.mono HB3.out.size)); have ⟨bx_w4_0, bx_w4_1, bx_w4_2, bx_w4_3⟩ := cell4 hb_w4 sz_w3 bx_w3_0 bx_w3_1 bx_w3_2 bx_w3_3; have sz_w4 := Nat.lt_of_lt_of_le sz_w3 hb_w4.size; have ⟨k_w4_y0, k_w4_y1, k_w4_y2, k_w4_y3⟩ := cell4 HB4.out hbl cy_0 cy_1 cy_2 cy_3; have ⟨k_w4_t0, k_w4_t1, k_w4_t2, k_w4_t3⟩ := cell4 HB4.out hbl ct_0 ct_1 ct_2 ct_3) | (go_at_call 91; clear tokCt; refine (Ct.out [.int .i64 t0, .int .i64 t1, .string t2, .slice Dt t3.length dt] _ w.heap.size HB4.out.size (ndV ((Qt.out.up hB0).below HB4.out nr))).mono ?_; rintro e w5 ⟨rfl, hb_w5⟩; have HB5 := hid (HB4.out.trans (hb_w5.mono HB4.out.size)); have ⟨_, _, _, _⟩ := cell4 hb_w5 sz_w4 bx_w4_0 bx_w4_1 bx_w4_2 bx_w4_3; have sz_w5 := Nat.lt_of_lt_of_le sz_w4 hb_w5.size; have ⟨_, _, _, _⟩ := cell4 HB5.out hbl cy_0 cy_1 cy_2 cy_3; have ⟨_, _, _, _⟩ := cell4 HB5.out hbl ct_0 ct_1 ct_2 ct_3))
   all_goals exact zz12
 ·skip
  rw [whK_no z3 qaa]
  clear hm hw hE hB
  go_enter Tryz.func54, Tryz.ntmps54
  go_wp2_with (first | (go_at_call 53; refine FDC.out.mono ?_; rintro e w3 ⟨rfl, hb3⟩; have HB3 := hid (HB.out.trans (hb3.mono HB.out.size)); have ⟨bx_w3_0, bx_w3_1, bx_w3_2, bx_w3_3⟩ := box4 hb3; have sz_w3 := szA hb3))
  all_goals exact zz12
end Go.Proofs.YtkkjnfappndmpaaGreatDoor
