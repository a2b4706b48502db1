/-
 Parts of the proof: IsU3, IsU4. Conditions: none.
-/
import Derived.Test.YtkkjnfappndmpaaGreatDoorQFold
import Derived.Test.YtkkjnfappndmpaaGreatDoorQaa
import Derived.Test.YtkkjnfappndmpaaGreatDoorQav
set_option linter.unusedVariables false
set_option linter.unusedSimpArgs false
namespace Go.Proofs.YtkkjnfappndmpaaGreatDoor
set_option maxHeartbeats 40000000
open Lib (hid)
open Go.ChangeShapes Go.WideShapes Go.ChangeAt Go.RowKit Go.Deep Go.Joins
open Go.ChangeMaps (open_string shut_string)
set_option maxRecDepth 100000
theorem stS_46 (z1 : Int) (z2 : ByteArray) (z3 : List FNode) (hw : (FNode.mk 46 z1 z2 z3).wt ≤ 9000000000) (hn : fN 46 z1 = true) (ht : fT 46 z2 = true) (hA : EaS z3) : SaB 54 (FNode.mk 46 z1 z2 z3) (decide (1 ≤ z3.length ∧ z3.length ≤ 2) && (z3.all exF && (z3.length == 1 || hd4 z3))) := by
 intro us w B hB0 hr
 have FD := fd_spec _ hw
 obtain ⟨A3, c3, rfl, r3⟩ := hr.node
 rw [FNode.wt_eq] at hw
 have hz : z2.size ≤ 9223372036854775807 := qaa
 have hl : z3.length ≤ 9000000000 := qaa
 have FDC := fdC FD hn ht hB0 r3
 clear FD
 have hpos3 := r3
 obtain ⟨m, hm⟩ : ∃ m, z3.length = m := ⟨_, rfl⟩
 try rw [hm] at hl r3 FDC ⊢
 have HR := hid r3
 have HB := hbA w 46 z1 z2 (.slice A3 m c3)
 clear hr r3 hpos3
 unfold EaS at hA
 rw [hm] at hA
 have HA := hid hA
 clear hA
 by_cases e1 : m = 1
 ·subst e1
  rw [show (decide (1 ≤ 1 ∧ 1 ≤ 2) && (z3.all exF && (1 == 1 || hd4 z3))) = z3.all exF from by simp]
  clear hm hw
  go_enter Tryz.func54, Tryz.ntmps54
  go_wp2_with (first | (go_at_call 53; refine FDC.out.mono ?_; rintro e w3 ⟨rfl, hb3⟩; have HB3 := hid (HB.out.trans (hb3.mono HB.out.size)); have ⟨bx_w3_0, bx_w3_1, bx_w3_2, bx_w3_3⟩ := box4 hb3; have sz_w3 := szA hb3) | (go_at_call 51; refine zkp (l1In_any _ _ _ _) ?_) | (go_at_call 89; refine (HA.out _ _ w.heap.size HB3.out.size ((HR.out.up hB0).below HB3.out nr)).mono ?_; rintro e w4 ⟨rfl, hbe⟩; have HB4 := hid (HB3.out.trans (hbe.mono HB3.out.size))))
  all_goals exact zz12
 ·by_cases e2 : m = 2
  ·subst e2
   obtain ⟨⟨y0, y1, y2, y3⟩, yb, rfl⟩ := two_of hm
   obtain ⟨bcy, offcy, Ey, hblcy, hcc⟩ := RdC.at_ (l := [FNode.mk y0 y1 y2 y3, yb]) FNode.len HR.out (i := 0) (x := FNode.mk y0 y1 y2 y3) rfl
   obtain ⟨Dy, dy, cy_0, cy_1, cy_2, cy_3, q3⟩ := opN (Below.refl w.heap.size w) qaa hcc (offcy) (offcy + 1) (offcy + 2) (offcy + 3) qaa
   have Qy := hid q3
   clear hcc q3
   have hbl : bcy < w.heap.size := Nat.lt_of_lt_of_le hblcy hB0
   subst Ey
   rw [show (decide (1 ≤ 2 ∧ 2 ≤ 2) && ([FNode.mk y0 y1 y2 y3, yb].all exF && (2 == 1 || hd4 [FNode.mk y0 y1 y2 y3, yb]))) = ([FNode.mk y0 y1 y2 y3, yb].all exF && y0 == 4) from by simp [hd4, FNode.kd]]
   clear hm hw
   cases hv : [FNode.mk y0 y1 y2 y3, yb].all exF with
   | false =>
    rw [hv] at HA
    go_enter Tryz.func54, Tryz.ntmps54
    go_wp2_with (first | (go_at_call 53; refine FDC.out.mono ?_; rintro e w3 ⟨rfl, hb3⟩; have HB3 := hid (HB.out.trans (hb3.mono HB.out.size)); have ⟨bx_w3_0, bx_w3_1, bx_w3_2, bx_w3_3⟩ := box4 hb3; have sz_w3 := szA hb3) | (go_at_call 51; refine zkp (l1In_any _ _ _ _) ?_) | (go_at_call 89; refine (HA.out _ _ w.heap.size HB3.out.size ((HR.out.up hB0).below HB3.out nr)).mono ?_; rintro e w4 ⟨rfl, hbe⟩; have HB4 := hid (HB3.out.trans (hbe.mono HB3.out.size)); have ⟨bx_w4_0, bx_w4_1, bx_w4_2, bx_w4_3⟩ := cell4 hbe sz_w3 bx_w3_0 bx_w3_1 bx_w3_2 bx_w3_3; have sz_w4 := Nat.lt_of_lt_of_le sz_w3 hbe.size))
    all_goals exact zz12
   | true =>
    rw [hv] at HA
    go_enter Tryz.func54, Tryz.ntmps54
    go_wp2_with (first | (go_at_call 53; refine FDC.out.mono ?_; rintro e w3 ⟨rfl, hb3⟩; have HB3 := hid (HB.out.trans (hb3.mono HB.out.size)); have ⟨bx_w3_0, bx_w3_1, bx_w3_2, bx_w3_3⟩ := box4 hb3; have sz_w3 := szA hb3) | (go_at_call 51; refine zkp (l1In_any _ _ _ _) ?_) | (go_at_call 89; refine (HA.out _ _ w.heap.size HB3.out.size ((HR.out.up hB0).below HB3.out nr)).mono ?_; rintro e w4 ⟨rfl, hbe⟩; have HB4 := hid (HB3.out.trans (hbe.mono HB3.out.size)); have ⟨bx_w4_0, bx_w4_1, bx_w4_2, bx_w4_3⟩ := cell4 hbe sz_w3 bx_w3_0 bx_w3_1 bx_w3_2 bx_w3_3; have sz_w4 := Nat.lt_of_lt_of_le sz_w3 hbe.size; have ⟨_, _, _, _⟩ := cell4 HB4.out hbl cy_0 cy_1 cy_2 cy_3))
    all_goals exact zz12
  ·rw [show decide (1 ≤ m ∧ m ≤ 2) = false from decide_eq_false qaa]
   have HIN := hid (show inB (m : Int) 1 2 = false from inB_f qaa)
   clear hm hw
   exact zz172
theorem stS_48 (z1 : Int) (z2 : ByteArray) (z3 : List FNode) (hw : (FNode.mk 48 z1 z2 z3).wt ≤ 9000000000) (hn : fN 48 z1 = true) (ht : fT 48 z2 = true) (hb48 : BkS ⟨48, z1, z2, z3⟩) : SaB 54 (FNode.mk 48 z1 z2 z3) (z3.all stF) := by
 intro us w B hB0 hr
 have FD := fd_spec _ hw
 obtain ⟨A3, c3, rfl, r3⟩ := hr.node
 rw [FNode.wt_eq] at hw
 have hz : z2.size ≤ 9223372036854775807 := qaa
 have hl : z3.length ≤ 9000000000 := qaa
 have HB0 : Below w.heap.size w (w.alloc (.cells #[.int .i64 48, .int .i64 z1, .string z2, .slice A3 z3.length c3] 44)) := (Below.refl _ w).alloc nr _
 have FDC := hid (FD [.int .i64 48, .int .i64 z1, .string z2, .slice A3 z3.length c3] _ w.heap.size HB0.size (ndV ((r3.up hB0).below HB0 nr)))
 simp only [FNode.kd, FNode.nu, FNode.tx] at FDC
 rw [hn, ht] at FDC
 have EV : blF ⟨48, z1, z2, z3⟩ = z3.all stF := by
  have h1 : (z1 == 0) = true := hn
  have h2 : emT z2 = true := ht
  rw [blF_mk, h1, h2]
  rfl
 unfold BkS at hb48
 rw [EV] at hb48
 have HBK := hid hb48
 have HRZ := hid r3
 obtain ⟨ball, hball⟩ : ∃ b, z3.all stF = b := ⟨_, rfl⟩
 rw [hball] at HBK
 rw [hball]
 clear FD HB0 hb48 EV
 have hpos3 := r3
 obtain ⟨m, hm⟩ : ∃ m, z3.length = m := ⟨_, rfl⟩
 rw [hm] at hl r3 FDC ⊢
 have HR := hid r3
 have HB := hbA w 48 z1 z2 (.slice A3 m c3)
 clear hr r3 hpos3
 have HRW : Hid (RdC w B (.s 44 4 z3.length (FNode.flat z3)) (.slice A3 m c3)) := hid (by rw [hm]; exact HR.out)
 clear HRZ
 clear hm hw
 go_enter Tryz.func54, Tryz.ntmps54
 go_wp2_with (first | (go_at_call 53; refine FDC.out.mono ?_; rintro e w3 ⟨rfl, hb3⟩; have HB3 := hid (HB.out.trans (hb3.mono HB.out.size)); have ⟨bx_w3_0, bx_w3_1, bx_w3_2, bx_w3_3⟩ := box4 hb3; have sz_w3 := szA hb3) | (go_at_call 91; refine (HBK.out [.int .i64 48, .int .i64 z1, .string z2, .slice A3 m c3] _ w.heap.size HB3.out.size (ndV (HRW.out.up hB0 |>.below HB3.out nr))).mono ?_; rintro e w4 ⟨rfl, hb4⟩; have HB4 := hid (HB3.out.trans (hb4.mono HB3.out.size))))
 all_goals exact zz12
theorem stS_41 (z1 : Int) (z2 : ByteArray) (z3 : List FNode) (hw : (FNode.mk 41 z1 z2 z3).wt ≤ 9000000000) (hn : fN 41 z1 = true) (ht : fT 41 z2 = true) (hE : ∀ x, x ∈ z3 → ExS x) : SaB 54 (FNode.mk 41 z1 z2 z3) (z3.length == 1 && (hdT z3 && z3.all exF)) := by
 intro us w B hB0 hr
 have FD := fd_spec _ hw
 obtain ⟨A3, c3, rfl, r3⟩ := hr.node
 rw [FNode.wt_eq] at hw
 have hz : z2.size ≤ 9223372036854775807 := qaa
 have hl : z3.length ≤ 9000000000 := qaa
 have FDC := fdC FD hn ht hB0 r3
 clear FD
 have hpos3 := r3
 obtain ⟨m, hm⟩ : ∃ m, z3.length = m := ⟨_, rfl⟩
 try rw [hm] at hl r3 FDC ⊢
 have HR := hid r3
 have HB := hbA w 41 z1 z2 (.slice A3 m c3)
 clear hr r3 hpos3
 by_cases e1m : m = 1
 ·subst e1m
  obtain ⟨⟨y0, y1, y2, y3⟩, rfl⟩ := List.length_eq_one_iff.mp hm
  have Cy := hid (hE ⟨y0, y1, y2, y3⟩ qag)
  have hyy : (FNode.mk y0 y1 y2 y3).wt ≤ 9000000000 := by have := FNode.wts_at [FNode.mk y0 y1 y2 y3] _ (List.mem_singleton.mpr rfl); omega
  unfold ExS at Cy
  obtain ⟨bcy, offcy, Ey, hblcy, hcc⟩ := RdC.at_ (l := [FNode.mk y0 y1 y2 y3]) FNode.len HR.out (i := 0) (x := FNode.mk y0 y1 y2 y3) rfl
  obtain ⟨Dy, dy, cy_0, cy_1, cy_2, cy_3, q3⟩ := opN (Below.refl w.heap.size w) qaa hcc (offcy) (offcy + 1) (offcy + 2) (offcy + 3) qaa
  have Qy := hid q3
  clear hcc q3
  have hbl : bcy < w.heap.size := Nat.lt_of_lt_of_le hblcy hB0
  subst Ey
  clear hm hw hE
  rw [show (1 == 1 && (hdT [FNode.mk y0 y1 y2 y3] && [FNode.mk y0 y1 y2 y3].all exF)) = (tgN ⟨y0, y1, y2, y3⟩ && exF ⟨y0, y1, y2, y3⟩) from by simp [hdT]]
  cases hvHT : tgN ⟨y0, y1, y2, y3⟩ with
  | false =>
   have HT := hid hvHT
   go_enter Tryz.func54, Tryz.ntmps54
   go_wp2_with (first | (go_at_call 53; refine FDC.out.mono ?_; rintro e w3 ⟨rfl, hb3⟩; have HB3 := hid (HB.out.trans (hb3.mono HB.out.size)); have ⟨bx_w3_0, bx_w3_1, bx_w3_2, bx_w3_3⟩ := box4 hb3; have sz_w3 := szA hb3; have ⟨k_w3_y0, k_w3_y1, k_w3_y2, k_w3_y3⟩ := cell4 HB3.out hbl cy_0 cy_1 cy_2 cy_3) | (go_at_call 90; refine (tg_spec ⟨y0, y1, y2, y3⟩ hyy [.int .i64 y0, .int .i64 y1, .string y2, .slice Dy y3.length dy] _ w.heap.size HB3.out.size (ndV ((Qy.out.up hB0).below HB3.out nr))).mono ?_; rw [HT.out]; rintro e w4 ⟨rfl, hb_w4⟩; have HB4 := hid (HB3.out.trans (hb_w4.mono HB3.out.size)); have ⟨bx_w4_0, bx_w4_1, bx_w4_2, bx_w4_3⟩ := cell4 hb_w4 sz_w3 bx_w3_0 bx_w3_1 bx_w3_2 bx_w3_3; have sz_w4 := Nat.lt_of_lt_of_le sz_w3 hb_w4.size; have ⟨k_w4_y0, k_w4_y1, k_w4_y2, k_w4_y3⟩ := cell4 HB4.out hbl cy_0 cy_1 cy_2 cy_3))
   all_goals exact zz12
  | true =>
   have HT := hid hvHT
   go_enter Tryz.func54, Tryz.ntmps54
   go_wp2_with (first | (go_at_call 53; refine FDC.out.mono ?_; rintro e w3 ⟨rfl, hb3⟩; have HB3 := hid (HB.out.trans (hb3.mono HB.out.size)); have ⟨bx_w3_0, bx_w3_1, bx_w3_2, bx_w3_3⟩ := box4 hb3; have sz_w3 := szA hb3; have ⟨k_w3_y0, k_w3_y1, k_w3_y2, k_w3_y3⟩ := cell4 HB3.out hbl cy_0 cy_1 cy_2 cy_3) | (go_at_call 90; refine (tg_spec ⟨y0, y1, y2, y3⟩ hyy [.int .i64 y0, .int .i64 y1, .string y2, .slice Dy y3.length dy] _ w.heap.size HB3.out.size (ndV ((Qy.out.up hB0).below HB3.out nr))).mono ?_; rw [HT.out]; rintro e w4 ⟨rfl, hb_w4⟩; have HB4 := hid (HB3.out.trans (hb_w4.mono HB3.out.size)); have ⟨bx_w4_0, bx_w4_1, bx_w4_2, bx_w4_3⟩ := cell4 hb_w4 sz_w3 bx_w3_0 bx_w3_1 bx_w3_2 bx_w3_3; have sz_w4 := Nat.lt_of_lt_of_le sz_w3 hb_w4.size; have ⟨k_w4_y0, k_w4_y1, k_w4_y2, k_w4_y3⟩ := cell4 HB4.out hbl cy_0 cy_1 cy_2 cy_3) | (go_at_call 88; refine (Cy.out [.int .i64 y0, .int .i64 y1, .string y2, .slice Dy y3.length dy] _ w.heap.size HB4.out.size (ndV ((Qy.out.up hB0).below HB4.out nr))).mono ?_; rintro e w5 ⟨rfl, hb_w5⟩; have HB5 := hid (HB4.out.trans (hb_w5.mono HB4.out.size)); have ⟨_, _, _, _⟩ := cell4 hb_w5 sz_w4 bx_w4_0 bx_w4_1 bx_w4_2 bx_w4_3; have sz_w5 := Nat.lt_of_lt_of_le sz_w4 hb_w5.size; have ⟨_, _, _, _⟩ := cell4 HB5.out hbl cy_0 cy_1 cy_2 cy_3))
   all_goals exact zz12
 ·skip
  clear hm hw hE
  go_enter Tryz.func54, Tryz.ntmps54
  exact zz0
theorem stS_36 (z1 : Int) (z2 : ByteArray) (z3 : List FNode) (hw : (FNode.mk 36 z1 z2 z3).wt ≤ 9000000000) (hn : fN 36 z1 = true) (ht : fT 36 z2 = true) (hD : EaS z3.dropLast) (hB : ∀ x, x ∈ z3 → BkS x) : SaB 54 (FNode.mk 36 z1 z2 z3) (feK z3) := by
 intro us w B hB0 hr
 have FD := fd_spec _ hw
 obtain ⟨A3, c3, rfl, r3⟩ := hr.node
 rw [FNode.wt_eq] at hw
 have hz : z2.size ≤ 9223372036854775807 := qaa
 have hl : z3.length ≤ 9000000000 := qaa
 have FDC := fdC FD hn ht hB0 r3
 clear FD
 have hpos3 := r3
 obtain ⟨m, hm⟩ : ∃ m, z3.length = m := ⟨_, rfl⟩
 try rw [hm] at hl r3 FDC ⊢
 have HR := hid r3
 have HB := hbA w 36 z1 z2 (.slice A3 m c3)
 clear hr r3 hpos3
 by_cases e3m : m = 3
 ·subst e3m
  obtain ⟨⟨y0, y1, y2, y3⟩, ⟨t0, t1, t2, t3⟩, ⟨s0, s1, s2, s3⟩, rfl⟩ := three_of hm
  have Ca : Hid (EaS [FNode.mk y0 y1 y2 y3, FNode.mk t0 t1 t2 t3]) := hid hD
  have Ce := hid (hB ⟨s0, s1, s2, s3⟩ qag)
  unfold EaS at Ca
  unfold BkS at Ce
  have hcap : 3 ≤ c3 := cap_of HR.out
  obtain ⟨bcy, offcy, Ey, hblcy, hcc⟩ := RdC.at_ (l := [FNode.mk y0 y1 y2 y3, FNode.mk t0 t1 t2 t3, FNode.mk s0 s1 s2 s3]) FNode.len HR.out (i := 0) (x := FNode.mk y0 y1 y2 y3) rfl
  obtain ⟨Dy, dy, cy_0, cy_1, cy_2, cy_3, q3⟩ := opN (Below.refl w.heap.size w) qaa hcc (offcy) (offcy + 1) (offcy + 2) (offcy + 3) qaa
  have Qy := hid q3
  clear hcc q3
  obtain ⟨bct, offct, Et, hblct, hcc⟩ := RdC.at_ (l := [FNode.mk y0 y1 y2 y3, FNode.mk t0 t1 t2 t3, FNode.mk s0 s1 s2 s3]) FNode.len HR.out (i := 1) (x := FNode.mk t0 t1 t2 t3) rfl
  obtain ⟨Dt, dt, ct_0, ct_1, ct_2, ct_3, q3⟩ := opN (Below.refl w.heap.size w) qaa hcc (offct + 4) (offct + 5) (offct + 6) (offct + 7) qaa
  have Qt := hid q3
  clear hcc q3
  obtain ⟨bcs, offcs, Es, hblcs, hcc⟩ := RdC.at_ (l := [FNode.mk y0 y1 y2 y3, FNode.mk t0 t1 t2 t3, FNode.mk s0 s1 s2 s3]) FNode.len HR.out (i := 2) (x := FNode.mk s0 s1 s2 s3) rfl
  obtain ⟨Ds, ds, cs_0, cs_1, cs_2, cs_3, q3⟩ := opN (Below.refl w.heap.size w) qaa hcc (offcs + 8) (offcs + 9) (offcs + 10) (offcs + 11) qaa
  have Qs := hid q3
  clear hcc q3
  have hbl : bcy < w.heap.size := Nat.lt_of_lt_of_le hblcy hB0
  subst Ey
  obtain ⟨g1, g2⟩ : bcy = bct ∧ offcy = offct := by simpa using Et
  subst g1
  subst g2
  clear Et
  obtain ⟨g1, g2⟩ : bcy = bcs ∧ offcy = offcs := by simpa using Es
  subst g1
  subst g2
  clear Es
  have RT := hid (rd_take (p := [FNode.mk y0 y1 y2 y3, FNode.mk t0 t1 t2 t3]) (l := [FNode.mk s0 s1 s2 s3]) (Nat.zero_lt_succ _) rfl HR.out)
  clear hm hw hD hB
  rw [show feK [FNode.mk y0 y1 y2 y3, FNode.mk t0 t1 t2 t3, FNode.mk s0 s1 s2 s3] = ([FNode.mk y0 y1 y2 y3, FNode.mk t0 t1 t2 t3].all exF && ((t0 == 4) && blF ⟨s0, s1, s2, s3⟩)) from fe3s _ _ _]
  cases hvCa : [FNode.mk y0 y1 y2 y3, FNode.mk t0 t1 t2 t3].all exF with
  | false =>
   rw [hvCa] at Ca
   exact zz171
  | true =>
   rw [hvCa] at Ca
   by_cases e4t : t0 = 4
   ·subst e4t
    have tokCe : True := trivial
    go_enter Tryz.func54, Tryz.ntmps54
    go_wp2_with (first | (go_at_call 53; refine FDC.out.mono ?_; rintro e w3 ⟨rfl, hb3⟩; have HB3 := hid (HB.out.trans (hb3.mono HB.out.size)); have ⟨bx_w3_0, bx_w3_1, bx_w3_2, bx_w3_3⟩ := box4 hb3; have sz_w3 := szA hb3; have ⟨k_w3_y0, k_w3_y1, k_w3_y2, k_w3_y3⟩ := cell4 HB3.out hbl cy_0 cy_1 cy_2 cy_3; have ⟨k_w3_t0, k_w3_t1, k_w3_t2, k_w3_t3⟩ := cell4 HB3.out hbl ct_0 ct_1 ct_2 ct_3; have ⟨k_w3_s0, k_w3_s1, k_w3_s2, k_w3_s3⟩ := cell4 HB3.out hbl cs_0 cs_1 cs_2 cs_3) | (go_at_call 51; refine zkp (l1In_any _ _ _ _) ?_) | (go_at_call 89; refine (Ca.out _ _ w.heap.size HB3.out.size ((RT.out.up hB0).below HB3.out nr)).mono ?_; rintro e w4 ⟨rfl, hb_w4⟩; have HB4 := hid (HB3.out.trans (hb_w4.mono HB3.out.size)); have ⟨bx_w4_0, bx_w4_1, bx_w4_2, bx_w4_3⟩ := cell4 hb_w4 sz_w3 bx_w3_0 bx_w3_1 bx_w3_2 bx_w3_3; have sz_w4 := Nat.lt_of_lt_of_le sz_w3 hb_w4.size; have ⟨k_w4_y0, k_w4_y1, k_w4_y2, k_w4_y3⟩ := cell4 HB4.out hbl cy_0 cy_1 cy_2 cy_3; have ⟨k_w4_t0, k_w4_t1, k_w4_t2, k_w4_t3⟩ := cell4 HB4.out hbl ct_0 ct_1 ct_2 ct_3; have ⟨k_w4_s0, k_w4_s1, k_w4_s2, k_w4_s3⟩ := cell4 HB4.out hbl cs_0 cs_1 cs_2 cs_3) | (go_at_call 91; clear tokCe; refine (Ce.out [.int .i64 s0, .int .i64 s1, .string s2, .slice Ds s3.length ds] _ w.heap.size HB4.out.size (ndV ((Qs.out.up hB0).below HB4.out nr))).mono ?_; rintro e w5 ⟨rfl, hb_w5⟩; have HB5 := hid (HB4.out.trans (hb_w5.mono HB4.out.size)); have ⟨bx_w5_0, bx_w5_1, bx_w5_2, bx_w5_3⟩ := cell4 hb_w5 sz_w4 bx_w4_0 bx_w4_1 bx_w4_2 bx_w4_3; have sz_w5 := Nat.lt_of_lt_of_le sz_w4 hb_w5.size; have ⟨k_w5_y0, k_w5_y1, k_w5_y2, k_w5_y3⟩ := cell4 HB5.out hbl cy_0 cy_1 cy_2 cy_3; have ⟨k_w5_t0, k_w5_t1, k_w5_t2, k_w5_t3⟩ := cell4 HB5.out hbl ct_0 ct_1 ct_2 ct_3; have ⟨k_w5_s0, k_w5_s1, k_w5_s2, k_w5_s3⟩ := cell4 HB5.out hbl cs_0 cs_1 cs_2 cs_3))
    all_goals exact zz12
   ·skip
    exact zz171
 ·skip
  by_cases e4m : m = 4
  ·subst e4m
   obtain ⟨⟨y0, y1, y2, y3⟩, ⟨t0, t1, t2, t3⟩, ⟨u0, u1, u2, u3⟩, ⟨s0, s1, s2, s3⟩, rfl⟩ := four_of hm
   have Ca : Hid (EaS [FNode.mk y0 y1 y2 y3, FNode.mk t0 t1 t2 t3, FNode.mk u0 u1 u2 u3]) := hid hD
   have Ce := hid (hB ⟨s0, s1, s2, s3⟩ qag)
   unfold EaS at Ca
   unfold BkS at Ce
   have hcap : 4 ≤ c3 := cap_of HR.out
   obtain ⟨bcy, offcy, Ey, hblcy, hcc⟩ := RdC.at_ (l := [FNode.mk y0 y1 y2 y3, FNode.mk t0 t1 t2 t3, FNode.mk u0 u1 u2 u3, FNode.mk s0 s1 s2 s3]) FNode.len HR.out (i := 0) (x := FNode.mk y0 y1 y2 y3) rfl
   obtain ⟨Dy, dy, cy_0, cy_1, cy_2, cy_3, q3⟩ := opN (Below.refl w.heap.size w) qaa hcc (offcy) (offcy + 1) (offcy + 2) (offcy + 3) qaa
   have Qy := hid q3
   clear hcc q3
   obtain ⟨bct, offct, Et, hblct, hcc⟩ := RdC.at_ (l := [FNode.mk y0 y1 y2 y3, FNode.mk t0 t1 t2 t3, FNode.mk u0 u1 u2 u3, FNode.mk s0 s1 s2 s3]) FNode.len HR.out (i := 1) (x := FNode.mk t0 t1 t2 t3) rfl
   obtain ⟨Dt, dt, ct_0, ct_1, ct_2, ct_3, q3⟩ := opN (Below.refl w.heap.size w) qaa hcc (offct + 4) (offct + 5) (offct + 6) (offct + 7) qaa
   have Qt := hid q3
   clear hcc q3
   obtain ⟨bcu, offcu, Eu, hblcu, hcc⟩ := RdC.at_ (l := [FNode.mk y0 y1 y2 y3, FNode.mk t0 t1 t2 t3, FNode.mk u0 u1 u2 u3, FNode.mk s0 s1 s2 s3]) FNode.len HR.out (i := 2) (x := FNode.mk u0 u1 u2 u3) rfl
   obtain ⟨Du, du, cu_0, cu_1, cu_2, cu_3, q3⟩ := opN (Below.refl w.heap.size w) qaa hcc (offcu + 8) (offcu + 9) (offcu + 10) (offcu + 11) qaa
   have Qu := hid q3
   clear hcc q3
   obtain ⟨bcs, offcs, Es, hblcs, hcc⟩ := RdC.at_ (l := [FNode.mk y0 y1 y2 y3, FNode.mk t0 t1 t2 t3, FNode.mk u0 u1 u2 u3, FNode.mk s0 s1 s2 s3]) FNode.len HR.out (i := 3) (x := FNode.mk s0 s1 s2 s3) rfl
   obtain ⟨Ds, ds, cs_0, cs_1, cs_2, cs_3, q3⟩ := opN (Below.refl w.heap.size w) qaa hcc (offcs + 12) (offcs + 13) (offcs + 14) (offcs + 15) qaa
   have Qs := hid q3
   clear hcc q3
   have hbl : bcy < w.heap.size := Nat.lt_of_lt_of_le hblcy hB0
   subst Ey
   obtain ⟨g1, g2⟩ : bcy = bct ∧ offcy = offct := by simpa using Et
   subst g1
   subst g2
   clear Et
   obtain ⟨g1, g2⟩ : bcy = bcu ∧ offcy = offcu := by simpa using Eu
   subst g1
   subst g2
   clear Eu
   obtain ⟨g1, g2⟩ : bcy = bcs ∧ offcy = offcs := by simpa using Es
   subst g1
   subst g2
   clear Es
   have RT := hid (rd_take (p := [FNode.mk y0 y1 y2 y3, FNode.mk t0 t1 t2 t3, FNode.mk u0 u1 u2 u3]) (l := [FNode.mk s0 s1 s2 s3]) (Nat.zero_lt_succ _) rfl HR.out)
   clear hm hw hD hB
   rw [show feK [FNode.mk y0 y1 y2 y3, FNode.mk t0 t1 t2 t3, FNode.mk u0 u1 u2 u3, FNode.mk s0 s1 s2 s3] = ([FNode.mk y0 y1 y2 y3, FNode.mk t0 t1 t2 t3, FNode.mk u0 u1 u2 u3].all exF && ((t0 == 4) && ((u0 == 4) && blF ⟨s0, s1, s2, s3⟩))) from fe4s _ _ _ _]
   cases hvCa : [FNode.mk y0 y1 y2 y3, FNode.mk t0 t1 t2 t3, FNode.mk u0 u1 u2 u3].all exF with
   | false =>
    rw [hvCa] at Ca
    exact zz163
   | true =>
    rw [hvCa] at Ca
    by_cases e4t : t0 = 4
    ·subst e4t
     by_cases e4u : u0 = 4
     ·subst e4u
      have tokCe : True := trivial
      go_enter Tryz.func54, Tryz.ntmps54
      go_wp2_with (first | (go_at_call 53; refine FDC.out.mono ?_; rintro e w3 ⟨rfl, hb3⟩; have HB3 := hid (HB.out.trans (hb3.mono HB.out.size)); have ⟨bx_w3_0, bx_w3_1, bx_w3_2, bx_w3_3⟩ := box4 hb3; have sz_w3 := szA hb3; have ⟨k_w3_y0, k_w3_y1, k_w3_y2, k_w3_y3⟩ := cell4 HB3.out hbl cy_0 cy_1 cy_2 cy_3; have ⟨k_w3_t0, k_w3_t1, k_w3_t2, k_w3_t3⟩ := cell4 HB3.out hbl ct_0 ct_1 ct_2 ct_3; have ⟨k_w3_u0, k_w3_u1, k_w3_u2, k_w3_u3⟩ := cell4 HB3.out hbl cu_0 cu_1 cu_2 cu_3; have ⟨k_w3_s0, k_w3_s1, k_w3_s2, k_w3_s3⟩ := cell4 HB3.out hbl cs_0 cs_1 cs_2 cs_3) | (go_at_call 51; refine zkp (l1In_any _ _ _ _) ?_) | (go_at_call 89; refine (Ca.out _ _ w.heap.size HB3.out.size ((RT.out.up hB0).below HB3.out nr)).mono ?_; rintro e w4 ⟨rfl, hb_w4⟩; have HB4 := hid (HB3.out.trans (hb_w4.mono HB3.out.size)); have ⟨bx_w4_0, bx_w4_1, bx_w4_2, bx_w4_3⟩ := cell4 hb_w4 sz_w3 bx_w3_0 bx_w3_1 bx_w3_2 bx_w3_3; have sz_w4 := Nat.lt_of_lt_of_le sz_w3 hb_w4.size; have ⟨k_w4_y0, k_w4_y1, k_w4_y2, k_w4_y3⟩ := cell4 HB4.out hbl cy_0 cy_1 cy_2 cy_3; have ⟨k_w4_t0, k_w4_t1, k_w4_t2, k_w4_t3⟩ := cell4 HB4.out hbl ct_0 ct_1 ct_2 ct_3; have ⟨k_w4_u0, k_w4_u1, k_w4_u2, k_w4_u3⟩ := cell4 HB4.out hbl cu_0 cu_1 cu_2 cu_3; have ⟨k_w4_s0, k_w4_s1, k_w4_s2, k_w4_s3⟩ := cell4 HB4.out hbl cs_0 cs_1 cs_2 cs_3) | (go_at_call 91; clear tokCe; refine (Ce.out [.int .i64 s0, .int .i64 s1, .string s2, .slice Ds s3.length ds] _ w.heap.size HB4.out.size (ndV ((Qs.out.up hB0).below HB4.out nr))).mono ?_; rintro e w5 ⟨rfl, hb_w5⟩; have HB5 := hid (HB4.out.trans (hb_w5.mono HB4.out.size)); have ⟨bx_w5_0, bx_w5_1, bx_w5_2, bx_w5_3⟩ := cell4 hb_w5 sz_w4 bx_w4_0 bx_w4_1 bx_w4_2 bx_w4_3; have sz_w5 := Nat.lt_of_lt_of_le sz_w4 hb_w5.size; have ⟨k_w5_y0, k_w5_y1, k_w5_y2, k_w5_y3⟩ := cell4 HB5.out hbl cy_0 cy_1 cy_2 cy_3; have ⟨k_w5_t0, k_w5_t1, k_w5_t2, k_w5_t3⟩ := cell4 HB5.out hbl ct_0 ct_1 ct_2 ct_3; have ⟨_, _, _, _⟩ := cell4 HB5.out hbl cu_0 cu_1 cu_2 cu_3; have ⟨k_w5_s0, k_w5_s1, k_w5_s2, k_w5_s3⟩ := cell4 HB5.out hbl cs_0 cs_1 cs_2 cs_3))
      all_goals exact zz12
     ·skip
      exact zz163
    ·skip
     exact zz163
  ·skip
   rw [feK_no z3 qaa]
   have HIN := hid (show inB (m : Int) 3 4 = false from inB_f qaa)
   clear hm hw hD hB
   exact zz172
end Go.Proofs.YtkkjnfappndmpaaGreatDoor
