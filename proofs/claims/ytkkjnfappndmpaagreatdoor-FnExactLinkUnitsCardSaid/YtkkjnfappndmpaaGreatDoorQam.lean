/-
 Parts of the proof: IsI5, IsI6, IsI7. Conditions: none.
-/
import Derived.Test.YtkkjnfappndmpaaGreatDoorQFold
import Derived.Test.YtkkjnfappndmpaaGreatDoorQaa
import Derived.Test.YtkkjnfappndmpaaGreatDoorQah
import Derived.Test.YtkkjnfappndmpaaGreatDoorQag
import Derived.Test.YtkkjnfappndmpaaGreatDoorQal
set_option linter.unusedVariables false
set_option linter.unusedSimpArgs false
namespace Go.Proofs.YtkkjnfappndmpaaGreatDoor
set_option maxHeartbeats 40000000
open Lib (hid)
open Go.ChangeShapes Go.WideShapes Go.ChangeAt Go.RowKit Go.Deep Go.Joins
open Go.ChangeMaps (open_string shut_string)
set_option maxRecDepth 100000
theorem two_of {l : List FNode} (h : l.length = 2) : ∃ a b, l = [a, b] := by
 match l, h with
 | [a, b], _ => exact ⟨a, b, rfl⟩
theorem exI_15 (z1 : Int) (z2 : ByteArray) (z3 : List FNode) (hw : (FNode.mk 15 z1 z2 z3).wt ≤ 9000000000) (hA : AlI z3) : ExI (.mk 15 z1 z2 z3) := by
 have EX := hid (show exF ⟨15, z1, z2, z3⟩ = (((z1 == 0) && emT z2) && (z3.length == 2 && (hdT z3 && z3.all exF))) from by rw [exF_mk]; rfl)
 have Hf (w : World) u := hbA w 15 z1 z2 u
 exact zz169
theorem exI_16 (z1 : Int) (z2 : ByteArray) (z3 : List FNode) (hw : (FNode.mk 16 z1 z2 z3).wt ≤ 9000000000) (hA : AlI z3) : ExI (.mk 16 z1 z2 z3) := by
 have EX := hid (show exF ⟨16, z1, z2, z3⟩ = (((z1 == 0) && emT z2) && (z3.length == 2 && (hdT z3 && z3.all exF))) from by rw [exF_mk]; rfl)
 have Hf (w : World) u := hbA w 16 z1 z2 u
 exact zz169
theorem inB_nat (m : Nat) : inB (m : Int) 1 2 = decide (1 ≤ m ∧ m ≤ 2) := by
 unfold inB
 rw [decide_eq_decide]
 omega
theorem exI_5 (z1 : Int) (z2 : ByteArray) (z3 : List FNode) (hw : (FNode.mk 5 z1 z2 z3).wt ≤ 9000000000) (hI : ∀ x, x ∈ z3 → AlI x.kids) : ExI (.mk 5 z1 z2 z3) := by
 intro us w B hmx hB0 hr
 obtain ⟨A3, c3, rfl, r3⟩ := hr.node
 rw [FNode.wt_eq] at hw
 have hz : z2.size ≤ 9223372036854775807 := qaa
 have hl : z3.length ≤ 9223372036854775807 := qaa
 have EX := hid (show exF ⟨5, z1, z2, z3⟩ = (((z1 == 0) && emT z2) && z3.all itF) from by rw [exF_mk]; rfl)
 have HC := hid r3
 have HI := hid hI
 have HZ := hid (show ∀ x, x ∈ z3 → x.kids.length ≤ 9000000000 from fun x hx => by
  exact zz152)
 clear hr r3 hw hI
 go_enter Tryz.func106, Tryz.ntmps106
 go_wp2_with fail
 go_loopw [65] (fun i wr => ∃ k : Nat, k ≤ z3.length ∧ i = .int .i64 k ∧ Hid ((z3.take k).all itF = true) ∧ Below w.heap.size w wr) (fun i _ => z3.length - (intOf i).toNat)
 case atStart => exact ⟨0, Nat.zero_le _, rfl, hid rfl, (Below.refl _ _).alloc nr _⟩
 case round =>
  obtain ⟨k, hk, rfl, HA, hb⟩ := hrel
  have hbs := hb.size
  by_cases hlt : k < z3.length
  ·skip
   obtain ⟨x, hx⟩ : ∃ x, z3[k]? = some x := ⟨_, List.getElem?_eq_getElem hlt⟩
   obtain ⟨bc, offc, rfl, hblc, hcc⟩ := RdC.at_ FNode.len HC.out hx
   have HX := hid hx
   have HM := hid (List.mem_of_getElem? hx)
   clear hx
   obtain ⟨y0, y1, y2, y3⟩ := x
   obtain ⟨D, d, c_0, c_1, c_2, c_3, q3⟩ := opN hb qaa hcc (offc + k * 4) (offc + k * 4 + 1) (offc + k * 4 + 2) (offc + k * 4 + 3) qaa
   have Q3 := hid q3
   clear hcc q3
   have HV : Hid (AlI y3) := hid (HI.out _ HM.out)
   have hyl : y3.length ≤ 9000000000 := HZ.out _ HM.out
   have IT := hid (itF_mk y0 y1 y2 y3)
   by_cases e6 : y0 = 6
   ·subst e6
    by_cases e0 : y1 = 0
    ·subst e0
     have hb2 := hid (hb.alloc hbs (.cells #[.int .i64 6, .int .i64 0, .string y2, .slice D y3.length d] 44))
     have HV' := HV.out
     unfold AlI at HV'
     have CALL := hid (HV' (.slice D y3.length d) _ w.heap.size (hmx.below hb2.out) hb2.out.size ((Q3.out.up hB0).below hb2.out nr))
     have HIN := hid (inB_nat y3.length)
     rw [← HIN.out] at IT
     clear HV'
     cases hv : y3.all exF with
     | true =>
      exact zz60
     | false =>
      exact zz60
    ·have hb2 := hid (hb.alloc hbs (.cells #[.int .i64 6, .int .i64 y1, .string y2, .slice D y3.length d] 44))
     go_wp2_with fail
     go_ret
     exact ⟨ret_bool qay, hb2.out⟩
   ·have hb2 := hid (hb.alloc hbs (.cells #[.int .i64 y0, .int .i64 y1, .string y2, .slice D y3.length d] 44))
    go_wp2_with fail
    go_ret
    exact ⟨ret_bool qay, hb2.out⟩
  ·exact zz123
theorem exI_21 (z1 : Int) (z2 : ByteArray) (z3 : List FNode) (hw : (FNode.mk 21 z1 z2 z3).wt ≤ 9000000000) (hA : AlI z3) (hz4 : z2.size ≤ 4000000000) : ExI (.mk 21 z1 z2 z3) := by
 intro us w B hmx hB0 hr
 obtain ⟨A3, c3, rfl, r3⟩ := hr.node
 rw [FNode.wt_eq] at hw
 have hz : z2.size ≤ 9223372036854775807 := qaa
 have hl : z3.length ≤ 9223372036854775807 := qaa
 have EX := hid (show exF ⟨21, z1, z2, z3⟩ = (((z1 == 0) && stcF z2) && z3.all exF) from by rw [exF_mk]; rfl)
 unfold AlI at hA
 obtain ⟨m, hm⟩ : ∃ m, z3.length = m := ⟨_, rfl⟩
 try rw [hm] at EX
 rw [hm] at hl r3 hA ⊢
 have HB := hbA w 21 z1 z2 (.slice A3 m c3)
 have CALL := hid (hA _ _ w.heap.size (hmx.below HB.out) HB.out.size ((r3.up hB0).below HB.out nr))
 clear hm hr hw
 have HR := hid r3
 have HA := hid hA
 clear r3 hA CALL
 by_cases e2 : z1 = 0
 ·subst e2
  go_enter Tryz.func106, Tryz.ntmps106
  go_wp2_with (first | (go_at_call 135; refine (static_impl z2 _ hz4 (hmx.below HB.out)).mono ?_; rintro e w3 ⟨rfl, hb3⟩; have HB3 := hid (HB.out.trans (hb3.mono HB.out.size)); have bx : w3.cell? ⟨w.heap.size, 3, none⟩ = some (.slice A3 m c3) := (hb3.cell (p := ⟨w.heap.size, 3, none⟩) qa8).trans (by rw [World.cell?_alloc_new]; rfl)) | (go_at_call 110; refine (HA.out _ _ w.heap.size (hmx.below HB3.out) HB3.out.size ((HR.out.up hB0).below HB3.out nr)).mono ?_; rintro e w4 ⟨rfl, hb4⟩))
  all_goals (first | (go_ret; exact ⟨ret_bool qac, HB3.out⟩) | (go_ret; exact ⟨ret_bool qac, HB3.out.trans (Below.mono qad HB3.out.size)⟩))
 ·
  go_enter Tryz.func106, Tryz.ntmps106
  exact zz176
theorem exI_23 (z1 : Int) (z2 : ByteArray) (z3 : List FNode) (hw : (FNode.mk 23 z1 z2 z3).wt ≤ 9000000000) (hA : FuI true z3) : ExI (.mk 23 z1 z2 z3) := by
 intro us w B hmx hB0 hr
 obtain ⟨A3, c3, rfl, r3⟩ := hr.node
 rw [FNode.wt_eq] at hw
 have hz : z2.size ≤ 9223372036854775807 := qaa
 have hl : z3.length ≤ 9223372036854775807 := qaa
 have EX := Lib.hid (show exF ⟨23, z1, z2, z3⟩ = (((z1 == 0) && emT z2) && usF true z3) from by rw [exF_mk]; rfl)
 unfold FuI at hA
 obtain ⟨m, hm⟩ : ∃ m, z3.length = m := ⟨_, rfl⟩
 try rw [hm] at EX
 rw [hm] at hl r3 hA ⊢
 have HB := hbA w 23 z1 z2 (.slice A3 m c3)
 have CALL := Lib.hid (hA _ _ w.heap.size (hmx.below HB.out) HB.out.size ((r3.up hB0).below HB.out nr))
 clear hm hr r3 hw hA
 by_cases e1 : z1 = 0
 ·subst e1
  go_enter Tryz.func106, Tryz.ntmps106
  go_wp2_with (first | (go_at_call 105; refine CALL.out.mono ?_; rintro e w' ⟨rfl, hb3⟩))
  all_goals exact zz22
 ·
  go_enter Tryz.func106, Tryz.ntmps106
  go_wp2_with (first | (go_at_call 105; refine CALL.out.mono ?_; rintro e w' ⟨rfl, hb3⟩))
  all_goals exact zz22
theorem exI_o (z0 z1 : Int) (z2 : ByteArray) (z3 : List FNode) (hw : (FNode.mk z0 z1 z2 z3).wt ≤ 9000000000) (n1 : ¬ z0 = 1) (n2 : ¬ z0 = 2) (n3 : ¬ z0 = 3) (n4 : ¬ z0 = 4) (n5 : ¬ z0 = 5) (n7 : ¬ z0 = 7) (n8 : ¬ z0 = 8) (n9 : ¬ z0 = 9) (n10 : ¬ z0 = 10) (n11 : ¬ z0 = 11) (n12 : ¬ z0 = 12) (n13 : ¬ z0 = 13) (n14 : ¬ z0 = 14) (n15 : ¬ z0 = 15) (n16 : ¬ z0 = 16) (n17 : ¬ z0 = 17) (n18 : ¬ z0 = 18) (n19 : ¬ z0 = 19) (n20 : ¬ z0 = 20) (n21 : ¬ z0 = 21) (n22 : ¬ z0 = 22) (n23 : ¬ z0 = 23) : ExI (.mk z0 z1 z2 z3) := by
 intro us w B hmx hB0 hr
 obtain ⟨A3, c3, rfl, r3⟩ := hr.node
 rw [FNode.wt_eq] at hw
 have hz : z2.size ≤ 9223372036854775807 := qaa
 have hl : z3.length ≤ 9223372036854775807 := qaa
 have EX := Lib.hid (show exF ⟨z0, z1, z2, z3⟩ = false from by rw [exF_mk]; unfold exK; simp [n1, n2, n3, n4, n5, n7, n8, n9, n10, n11, n12, n13, n14, n15, n16, n17, n18, n19, n20, n21, n22, n23])
 obtain ⟨m, hm⟩ : ∃ m, z3.length = m := ⟨_, rfl⟩
 try rw [hm] at EX
 rw [hm] at hl r3  ⊢
 have HB := hbA w z0 z1 z2 (.slice A3 m c3)
 clear hm hr r3 hw
 go_enter Tryz.func106, Tryz.ntmps106
 go_wp2_with (fail)
 all_goals (go_ret; exact ⟨ret_bool EX.out.symm, HB.out⟩)
end Go.Proofs.YtkkjnfappndmpaaGreatDoor
