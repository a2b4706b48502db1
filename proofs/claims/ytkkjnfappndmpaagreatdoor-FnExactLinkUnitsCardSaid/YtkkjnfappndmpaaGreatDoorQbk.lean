/-
 Parts of the proof: IsS8, IsU1. Conditions: none.
-/
import Derived.Test.YtkkjnfappndmpaaGreatDoorQFold
import Derived.Test.YtkkjnfappndmpaaGreatDoorQaa
import Derived.Test.YtkkjnfappndmpaaGreatDoorQau
import Derived.Test.YtkkjnfappndmpaaGreatDoorQam
set_option linter.unusedVariables false
set_option linter.unusedSimpArgs false
namespace Go.Proofs.YtkkjnfappndmpaaGreatDoor
set_option maxHeartbeats 40000000
open Lib (hid)
open Go.ChangeShapes Go.WideShapes Go.ChangeAt Go.RowKit Go.Deep Go.Joins
open Go.ChangeMaps (open_string shut_string)
set_option maxRecDepth 100000
theorem exS_5 (z1 : Int) (z2 : ByteArray) (z3 : List FNode) (hw : (FNode.mk 5 z1 z2 z3).wt ≤ 9000000000) (hn : fN 5 z1 = true) (ht : fT 5 z2 = true) (hI : ∀ x, x ∈ z3 → EaS x.kids) : SaB 88 (FNode.mk 5 z1 z2 z3) (z3.all itF) := by
 intro us w B hB0 hr
 have FD := fd_spec _ hw
 obtain ⟨A3, c3, rfl, r3⟩ := hr.node
 rw [FNode.wt_eq] at hw
 have hz : z2.size ≤ 9223372036854775807 := qaa
 have hl : z3.length ≤ 9000000000 := qaa
 have FDC := fdC FD hn ht hB0 r3
 clear FD
 have hpos3 := r3
 obtain ⟨m, hm⟩ : ∃ m, z3.length = m := ⟨_, rfl⟩
 try rw [hm] at hl r3 FDC ⊢
 have HR := hid r3
 have HB := hbA w 5 z1 z2 (.slice A3 m c3)
 clear hr r3 hpos3
 have HI := hid hI
 have HC : Hid (RdC w B (.s 44 4 z3.length (FNode.flat z3)) (.slice A3 z3.length c3)) := hid (by rw [hm]; exact HR.out)
 have HM0 := hid hm
 have HZ := hid (show ∀ x, x ∈ z3 → x.kids.length ≤ 9000000000 from fun x hx => by
  exact zz152)
 clear hm hw hI
 go_enter Tryz.func88, Tryz.ntmps88
 go_wp2_with ((go_at_call 53; refine FDC.out.mono ?_; rintro e w3 ⟨rfl, hb3⟩; have HB3 := hid (HB.out.trans (hb3.mono HB.out.size)); have ⟨bx_w3_0, bx_w3_1, bx_w3_2, bx_w3_3⟩ := box4 hb3; have sz_w3 := szA hb3))
 go_loopw [6] (fun i wr => ∃ k : Nat, k ≤ m ∧ i = .int .i64 k ∧ Hid ((z3.take k).all itF = true) ∧ Below w.heap.size w wr ∧ wr.cell? ⟨w.heap.size, 3, none⟩ = some (.slice A3 m c3) ∧ w.heap.size < wr.heap.size) (fun i _ => m - (intOf i).toNat)
 case atStart => exact ⟨0, Nat.zero_le _, rfl, hid rfl, HB3.out, bx_w3_3, sz_w3⟩
 case round =>
  obtain ⟨k, hk, rfl, HA, hb, hbox, hlt0⟩ := hrel
  have hbs := hb.size
  by_cases hlt1 : k < m
  ·have hlt : k < z3.length := by have := HM0.out; omega
   obtain ⟨x, hx⟩ : ∃ x, z3[k]? = some x := ⟨_, List.getElem?_eq_getElem hlt⟩
   obtain ⟨bc, offc, rfl, hblc, hcc⟩ := RdC.at_ FNode.len HC.out hx
   have HX := hid hx
   have HM := hid (List.mem_of_getElem? hx)
   clear hx
   obtain ⟨y0, y1, y2, y3⟩ := x
   obtain ⟨D, d, c_0, c_1, c_2, c_3, q3⟩ := opN hb qaa hcc (offc + k * 4) (offc + k * 4 + 1) (offc + k * 4 + 2) (offc + k * 4 + 3) qaa
   have Q3 := hid q3
   clear hcc q3
   have HV : Hid (EaS y3) := hid (HI.out _ HM.out)
   have hyl : y3.length ≤ 9000000000 := HZ.out _ HM.out
   have IT := hid (itF_mk y0 y1 y2 y3)
   obtain ⟨q, hq⟩ : ∃ q, y3.length = q := ⟨_, rfl⟩
   have Q3' := Q3.out
   have HV' := HV.out
   unfold EaS at HV'
   rw [hq] at c_3 hyl IT Q3' HV'
   have Q4 := hid Q3'
   have HIN := hid (inB_nat q)
   clear hq Q3 Q3' HV
   by_cases e6 : y0 = 6
   ·subst e6
    by_cases e0 : y1 = 0
    ·subst e0
     by_cases et : y2.toList = []
     ·have IT2 := hid (show itF ⟨6, 0, y2, y3⟩ = (decide (1 ≤ q ∧ q ≤ 2) && y3.all exF) from by rw [IT.out, emT_t et]; rfl)
      clear IT
      have hb2 := hid (hb.alloc hbs (.cells #[.int .i64 6, .int .i64 0, .string y2, .slice D q d] 44))
      have kb2 := (Below.refl wr.heap.size wr).alloc nr (.cells #[.int .i64 6, .int .i64 0, .string y2, .slice D q d] 44)
      have CALL := hid (HV' (.slice D q d) _ w.heap.size hb2.out.size ((Q4.out.up hB0).below hb2.out nr))
      clear HV'
      by_cases hq2 : 1 ≤ q ∧ q ≤ 2
      ·rw [decide_eq_true hq2] at HIN IT2
       cases hv : y3.all exF with
       | true =>
        rw [hv] at CALL IT2
        go_wp2_with (first | (go_at_call 51; refine (l1In_any _ _ _ _).mono ?_; rw [HIN.out]; rintro e w' ⟨rfl, rfl⟩) | (go_at_call 89; refine CALL.out.mono ?_; rintro e w5 ⟨rfl, hb5⟩; have HB5 := hid (hb2.out.trans (hb5.mono hb2.out.size)); have KB5 := kb2.trans (hb5.mono kb2.size)))
        go_roundw
        case rel => exact ⟨k + 1, by omega, by go_num, hid (all_on HX.out HA.out IT2.out), HB5.out, boxk KB5 hlt0 hbox⟩
        case measure => simp [intOf]; omega
       | false =>
        rw [hv] at CALL IT2
        have HF := hid (all_f HX.out (IT2.out.trans (Bool.and_false _)))
        go_wp2_with (first | (go_at_call 51; refine (l1In_any _ _ _ _).mono ?_; rw [HIN.out]; rintro e w' ⟨rfl, rfl⟩) | (go_at_call 89; refine CALL.out.mono ?_; rintro e w5 ⟨rfl, hb5⟩; have HB5 := hid (hb2.out.trans (hb5.mono hb2.out.size)); have KB5 := kb2.trans (hb5.mono kb2.size)))
        go_ret
        exact ⟨ret_bool HF.out.symm, HB5.out⟩
      ·rw [decide_eq_false hq2] at HIN IT2
       have HF := hid (all_f HX.out IT2.out)
       exact zz197
     ·rw [emT_f et, Bool.false_and, Bool.and_false, Bool.and_false] at IT
      have HF := hid (all_f HX.out IT.out)
      have hb2 := hid (hb.alloc hbs (.cells #[.int .i64 6, .int .i64 0, .string y2, .slice D q d] 44))
      clear HV'
      go_wp2_with fail
      all_goals first
       | (go_ret; exact ⟨ret_bool HF.out.symm, hb2.out⟩)
       | contradiction
    ·rw [beq_false_of_ne e0, Bool.false_and, Bool.and_false] at IT
     have HF := hid (all_f HX.out IT.out)
     have hb2 := hid (hb.alloc hbs (.cells #[.int .i64 6, .int .i64 y1, .string y2, .slice D q d] 44))
     clear HV'
     exact zz210
   ·rw [beq_false_of_ne e6, Bool.false_and] at IT
    have HF := hid (all_f HX.out IT.out)
    have hb2 := hid (hb.alloc hbs (.cells #[.int .i64 y0, .int .i64 y1, .string y2, .slice D q d] 44))
    clear HV'
    exact zz210
  ·obtain rfl : k = m := qaa
   clear hlt1
   have h := HA.out
   rw [List.take_of_length_le (by rw [HM0.out]; exact Nat.le_refl _)] at h
   go_wp2_with fail
   all_goals (go_ret; exact ⟨ret_bool h.symm, hb⟩)
theorem exS_o (z0 z1 : Int) (z2 : ByteArray) (z3 : List FNode) (hw : (FNode.mk z0 z1 z2 z3).wt ≤ 9000000000) (hn : fN z0 z1 = true) (ht : fT z0 z2 = true) (n1 : ¬ z0 = 1) (n2 : ¬ z0 = 2) (n3 : ¬ z0 = 3) (n4 : ¬ z0 = 4) (n5 : ¬ z0 = 5) (n7 : ¬ z0 = 7) (n8 : ¬ z0 = 8) (n9 : ¬ z0 = 9) (n10 : ¬ z0 = 10) (n11 : ¬ z0 = 11) (n12 : ¬ z0 = 12) (n13 : ¬ z0 = 13) (n14 : ¬ z0 = 14) (n15 : ¬ z0 = 15) (n16 : ¬ z0 = 16) (n17 : ¬ z0 = 17) (n18 : ¬ z0 = 18) (n19 : ¬ z0 = 19) (n20 : ¬ z0 = 20) (n21 : ¬ z0 = 21) (n22 : ¬ z0 = 22) (n23 : ¬ z0 = 23) : SaB 88 (FNode.mk z0 z1 z2 z3) (false) := by
 exact zz174
theorem exS_badf_o (z0 z1 : Int) (z2 : ByteArray) (z3 : List FNode) (hw : (FNode.mk z0 z1 z2 z3).wt ≤ 9000000000) (fb : Bool) (hn : fN z0 z1 = false) (ht : fT z0 z2 = fb) : SaB 88 (FNode.mk z0 z1 z2 z3) (false) := by
 exact zz174
theorem exS_badt_o (z0 z1 : Int) (z2 : ByteArray) (z3 : List FNode) (hw : (FNode.mk z0 z1 z2 z3).wt ≤ 9000000000) (fb : Bool) (hn : fN z0 z1 = true) (ht : fT z0 z2 = false) : SaB 88 (FNode.mk z0 z1 z2 z3) (false) := by
 exact zz174
theorem stS_31 (z1 : Int) (z2 : ByteArray) (z3 : List FNode) (hw : (FNode.mk 31 z1 z2 z3).wt ≤ 9000000000) (hn : fN 31 z1 = true) (ht : fT 31 z2 = true) : SaB 54 (FNode.mk 31 z1 z2 z3) (z3.length == 0) := by
 have Hf (w : World) u := hbA w 31 z1 z2 u
 exact zz165
theorem stS_37 (z1 : Int) (z2 : ByteArray) (z3 : List FNode) (hw : (FNode.mk 37 z1 z2 z3).wt ≤ 9000000000) (hn : fN 37 z1 = true) (ht : fT 37 z2 = true) : SaB 54 (FNode.mk 37 z1 z2 z3) (z3.length == 0) := by
 have Hf (w : World) u := hbA w 37 z1 z2 u
 exact zz165
theorem stS_38 (z1 : Int) (z2 : ByteArray) (z3 : List FNode) (hw : (FNode.mk 38 z1 z2 z3).wt ≤ 9000000000) (hn : fN 38 z1 = true) (ht : fT 38 z2 = true) : SaB 54 (FNode.mk 38 z1 z2 z3) (z3.length == 0) := by
 have Hf (w : World) u := hbA w 38 z1 z2 u
 exact zz165
theorem stS_40 (z1 : Int) (z2 : ByteArray) (z3 : List FNode) (hw : (FNode.mk 40 z1 z2 z3).wt ≤ 9000000000) (hn : fN 40 z1 = true) (ht : fT 40 z2 = true) : SaB 54 (FNode.mk 40 z1 z2 z3) (z3.length == 0) := by
 have Hf (w : World) u := hbA w 40 z1 z2 u
 exact zz165
theorem stS_47 (z1 : Int) (z2 : ByteArray) (z3 : List FNode) (hw : (FNode.mk 47 z1 z2 z3).wt ≤ 9000000000) (hn : fN 47 z1 = true) (ht : fT 47 z2 = true) : SaB 54 (FNode.mk 47 z1 z2 z3) (z3.length == 0) := by
 have Hf (w : World) u := hbA w 47 z1 z2 u
 exact zz165
theorem stS_32 (z1 : Int) (z2 : ByteArray) (z3 : List FNode) (hw : (FNode.mk 32 z1 z2 z3).wt ≤ 9000000000) (hn : fN 32 z1 = true) (ht : fT 32 z2 = true) (hE : ∀ x, x ∈ z3 → ExS x) : SaB 54 (FNode.mk 32 z1 z2 z3) (z3.length == 1 && z3.all exF) := by
 have Hf (w : World) u := hbA w 32 z1 z2 u
 exact zz161
theorem stS_33 (z1 : Int) (z2 : ByteArray) (z3 : List FNode) (hw : (FNode.mk 33 z1 z2 z3).wt ≤ 9000000000) (hn : fN 33 z1 = true) (ht : fT 33 z2 = true) (hE : ∀ x, x ∈ z3 → ExS x) : SaB 54 (FNode.mk 33 z1 z2 z3) (z3.length == 1 && z3.all exF) := by
 have Hf (w : World) u := hbA w 33 z1 z2 u
 exact zz161
theorem stS_42 (z1 : Int) (z2 : ByteArray) (z3 : List FNode) (hw : (FNode.mk 42 z1 z2 z3).wt ≤ 9000000000) (hn : fN 42 z1 = true) (ht : fT 42 z2 = true) (hE : ∀ x, x ∈ z3 → ExS x) : SaB 54 (FNode.mk 42 z1 z2 z3) (z3.length == 1 && z3.all exF) := by
 have Hf (w : World) u := hbA w 42 z1 z2 u
 exact zz161
theorem stS_39 (z1 : Int) (z2 : ByteArray) (z3 : List FNode) (hw : (FNode.mk 39 z1 z2 z3).wt ≤ 9000000000) (hn : fN 39 z1 = true) (ht : fT 39 z2 = true) (hA : EaS z3) : SaB 54 (FNode.mk 39 z1 z2 z3) (decide (z3.length ≤ 1) && z3.all exF) := by
 intro us w B hB0 hr
 have FD := fd_spec _ hw
 obtain ⟨A3, c3, rfl, r3⟩ := hr.node
 rw [FNode.wt_eq] at hw
 have hz : z2.size ≤ 9223372036854775807 := qaa
 have hl : z3.length ≤ 9000000000 := qaa
 have FDC := fdC FD hn ht hB0 r3
 clear FD
 have hpos3 := r3
 obtain ⟨m, hm⟩ : ∃ m, z3.length = m := ⟨_, rfl⟩
 try rw [hm] at hl r3 FDC ⊢
 have HR := hid r3
 have HB := hbA w 39 z1 z2 (.slice A3 m c3)
 clear hr r3 hpos3
 unfold EaS at hA
 rw [hm] at hA
 have HA := hid hA
 clear hA
 clear hm hw
 by_cases e1 : m ≤ 1
 ·rw [show decide (m ≤ 1) = true from decide_eq_true e1]
  go_enter Tryz.func54, Tryz.ntmps54
  exact zz3
 ·rw [show decide (m ≤ 1) = false from decide_eq_false e1]
  go_enter Tryz.func54, Tryz.ntmps54
  exact zz0
theorem stS_o (z0 z1 : Int) (z2 : ByteArray) (z3 : List FNode) (hw : (FNode.mk z0 z1 z2 z3).wt ≤ 9000000000) (hn : fN z0 z1 = true) (ht : fT z0 z2 = true) (n31 : ¬ z0 = 31) (n32 : ¬ z0 = 32) (n33 : ¬ z0 = 33) (n34 : ¬ z0 = 34) (n35 : ¬ z0 = 35) (n36 : ¬ z0 = 36) (n37 : ¬ z0 = 37) (n38 : ¬ z0 = 38) (n39 : ¬ z0 = 39) (n40 : ¬ z0 = 40) (n41 : ¬ z0 = 41) (n42 : ¬ z0 = 42) (n43 : ¬ z0 = 43) (n46 : ¬ z0 = 46) (n47 : ¬ z0 = 47) (n48 : ¬ z0 = 48) : SaB 54 (FNode.mk z0 z1 z2 z3) (false) := by
 exact zz175
theorem stS_badf_o (z0 z1 : Int) (z2 : ByteArray) (z3 : List FNode) (hw : (FNode.mk z0 z1 z2 z3).wt ≤ 9000000000) (fb : Bool) (hn : fN z0 z1 = false) (ht : fT z0 z2 = fb) : SaB 54 (FNode.mk z0 z1 z2 z3) (false) := by
 exact zz175
theorem stS_badt_o (z0 z1 : Int) (z2 : ByteArray) (z3 : List FNode) (hw : (FNode.mk z0 z1 z2 z3).wt ≤ 9000000000) (fb : Bool) (hn : fN z0 z1 = true) (ht : fT z0 z2 = false) : SaB 54 (FNode.mk z0 z1 z2 z3) (false) := by
 exact zz175
end Go.Proofs.YtkkjnfappndmpaaGreatDoor
