/-
 Parts of the proof: IsK5. Conditions: none.
-/
import Derived.Test.YtkkjnfappndmpaaGreatDoorQFold
import Derived.Test.YtkkjnfappndmpaaGreatDoorQaa
import Derived.Test.YtkkjnfappndmpaaGreatDoorQap
set_option linter.unusedVariables false
set_option linter.unusedSimpArgs false
namespace Go.Proofs.YtkkjnfappndmpaaGreatDoor
set_option maxHeartbeats 40000000
open Lib (hid)
open Go.ChangeShapes Go.WideShapes Go.ChangeAt Go.RowKit Go.Deep Go.Joins
open Go.ChangeMaps (open_string shut_string)
set_option maxRecDepth 100000
theorem top_51 (z2 : ByteArray) (z3 : List FNode) (hw : (FNode.mk 51 0 z2 z3).wt ≤ 1000000000) (hgo : goodF z2 = true) (us : List Value) (w : World) (B : Nat) (hmx : MaxAt w) (hB0 : B ≤ w.heap.size) (hr : RdVs w B (FNode.mk 51 0 z2 z3).c us) :
  Calls Tryz.prog 69 #[.agg us.toArray] w fun e w' => e = .returned (.bool (clsP false 0 z3)) ∧ Below w.heap.size w w' := by
 obtain ⟨A3, c3, rfl, r3⟩ := hr.node
 have hww := hw
 rw [FNode.wt_eq] at hw
 have hz : z2.size ≤ 9223372036854775807 := qaa
 have hl : z3.length ≤ 9223372036854775807 := qaa
 have HB := hbA w 51 0 z2 (.slice A3 z3.length c3)
 have HC := hid r3
 have HW : Hid (∀ x, x ∈ z3 → x.wt ≤ 1000000000) := hid fun x hx => by have := (kid_wt (x := ⟨51, 0, z2, z3⟩) (y := x) hx).1; omega
 clear hr r3 hw hww
 go_enter Tryz.func69, Tryz.ntmps69
 go_wp2_with ((go_at_call 104; refine zkp (GoV _ _ hz hgo _) ?_))
 go_loopw [28, 3] (fun i pp wr => ∃ (k : Nat) (p : Int), k ≤ z3.length ∧ i = .int .i64 k ∧ pp = .int .i64 p ∧ (p = 0 ∨ p = 1 ∨ p = 2) ∧ Hid (clsP false p (z3.drop k) = clsP false 0 z3) ∧ Below w.heap.size w wr ∧ wr.cell? ⟨w.heap.size, 0, none⟩ = some (.int .i64 51) ∧ w.heap.size < wr.heap.size) (fun i _ _ => z3.length - (intOf i).toNat)
 case atStart => exact ⟨0, 0, Nat.zero_le _, rfl, rfl, Or.inl rfl, hid rfl, HB.out, by rw [World.cell?_alloc_new]; rfl, by simp⟩
 case round =>
  obtain ⟨k, p, hk, rfl, rfl, hp3, HP0, hb, hbox, hlt0⟩ := hrel
  have hbs := hb.size
  by_cases hlt : k < z3.length
  ·skip
   obtain ⟨x, hx⟩ : ∃ x, z3[k]? = some x := ⟨_, List.getElem?_eq_getElem hlt⟩
   obtain ⟨bc, offc, rfl, hblc, hcc⟩ := RdC.at_ FNode.len HC.out hx
   have HX := hid hx
   have HM := hid (List.mem_of_getElem? hx)
   clear hx
   obtain ⟨y0, y1, y2, y3⟩ := x
   obtain ⟨D, d, c_0, c_1, c_2, c_3, q3⟩ := opN hb qaa hcc (offc + k * 4) (offc + k * 4 + 1) (offc + k * 4 + 2) (offc + k * 4 + 3) qaa
   have Q3 := hid q3
   clear hcc q3
   have HA := hid (clsP_at false p z3 k y0 y1 y2 y3 HX.out)
   have hyw := HW.out _ HM.out
   have hzy : y2.size ≤ 9223372036854775807 := by have := (len_wt ⟨y0, y1, y2, y3⟩).2; simp only [FNode.tx] at this; omega
   have hly : y3.length ≤ 1000000000 := by have := (len_wt ⟨y0, y1, y2, y3⟩).1; simp only [FNode.kids] at this; omega
   cases hgy : goodF y2 with
   | false =>
    have HP := hid (show clsP false p (z3.drop k) = false from by rw [HA.out, hgy]; rfl)
    have hb2 := hb.alloc hbs (.cells #[.int .i64 y0, .int .i64 y1, .string y2, .slice D y3.length d] 44)
    exact zz20
   | true =>
    rw [hgy] at HA
    by_cases e52 : y0 = 52
    ·subst e52
     have HP := hid (show clsP false p (z3.drop k) = false from by rw [HA.out]; simp)
     have hb2 := hb.alloc hbs (.cells #[.int .i64 52, .int .i64 y1, .string y2, .slice D y3.length d] 44)
     exact zz20
    ·by_cases e53 : y0 = 53
     ·subst e53
      obtain ⟨m, hm⟩ : ∃ m, y3.length = m := ⟨_, rfl⟩
      rw [hm] at c_3 hly HA
      clear Q3 hm hyw
      rcases hp3 with rfl | rfl | rfl
      ·by_cases e1 : y1 = 0
       ·subst e1
        by_cases e2 : m = 0
        ·subst e2
         have HP := hid (show clsP false 0 (z3.drop k) = clsP false 1 (z3.drop (k + 1)) from by rw [HA.out]; simp)
         exact zz26
        ·have HP := hid (show clsP false 0 (z3.drop k) = false from by rw [HA.out]; simp [e2])
         exact zz190
       ·have HP := hid (show clsP false 0 (z3.drop k) = false from by rw [HA.out]; simp [e1])
        exact zz180
      ·by_cases e1 : y1 = 0
       ·subst e1
        by_cases e2 : m = 0
        ·subst e2
         have HP := hid (show clsP false 1 (z3.drop k) = clsP false 1 (z3.drop (k + 1)) from by rw [HA.out]; simp)
         exact zz26
        ·have HP := hid (show clsP false 1 (z3.drop k) = false from by rw [HA.out]; simp [e2])
         exact zz190
       ·have HP := hid (show clsP false 1 (z3.drop k) = false from by rw [HA.out]; simp [e1])
        exact zz180
      ·have HP := hid (show clsP false 2 (z3.drop k) = false from by rw [HA.out]; simp)
       exact zz180
     ·by_cases e54 : y0 = 54
      ·subst e54
       obtain ⟨m, hm⟩ : ∃ m, y3.length = m := ⟨_, rfl⟩
       have Q3' := Q3.out
       rw [hm] at c_3 hly Q3'
       clear Q3
       by_cases e0 : y1 = 0
       ·subst e0
        by_cases e2 : m = 1
        ·subst e2
         obtain ⟨⟨g0, g1, g2, g3⟩, rfl⟩ := one_of hm
         have QH := hid Q3'
         obtain ⟨bcg, offcg, Eg, hblcg, hcc⟩ := nd_at rfl (l := [FNode.mk g0 g1 g2 g3]) QH.out (i := 0) (x := FNode.mk g0 g1 g2 g3) rfl
         obtain ⟨Dg, dg, cg_0, cg_1, cg_2, cg_3, q3⟩ := opN (Below.refl w.heap.size w) qaa hcc (offcg) (offcg + 1) (offcg + 2) (offcg + 3) qaa
         have Qg := hid q3
         clear hcc q3
         have hblg : bcg < w.heap.size := Nat.lt_of_lt_of_le hblcg hB0
         subst Eg
         have hb2 := hid (hb.alloc hbs (.cells #[.int .i64 54, .int .i64 0, .string y2, .slice (some ⟨bcg, offcg, none⟩) 1 d] 44))
         have kb2 := (Below.refl wr.heap.size wr).alloc nr (.cells #[.int .i64 54, .int .i64 0, .string y2, .slice (some ⟨bcg, offcg, none⟩) 1 d] 44)
         have ⟨h_g0, h_g1, h_g2, h_g3⟩ := cell4 hb2.out hblg cg_0 cg_1 cg_2 cg_3
         have hgw : (FNode.mk g0 g1 g2 g3).wt ≤ 1000000000 := by have := (kid_wt (x := ⟨54, 0, y2, [⟨g0, g1, g2, g3⟩]⟩) (y := ⟨g0, g1, g2, g3⟩) (by simp [FNode.kids])).1; omega
         have HA2 := hid (show clsP false p (z3.drop k) = ((inB g0 1 3 && exF ⟨g0, g1, g2, g3⟩) && clsP false 2 (z3.drop (k + 1))) from by rw [HA.out]; simp [oneF, FNode.kd, show inB 0 0 1 = true from by decide])
         exact zz18
        ·have HP := hid (show clsP false p (z3.drop k) = false from by rw [HA.out, show oneF y3 = false from one_no y3 qaa]; simp)
         exact zz218
       ·by_cases e1 : y1 = 1
        ·subst e1
         by_cases e2 : m = 1
         ·subst e2
          obtain ⟨⟨g0, g1, g2, g3⟩, rfl⟩ := one_of hm
          have QH := hid Q3'
          obtain ⟨bcg, offcg, Eg, hblcg, hcc⟩ := nd_at rfl (l := [FNode.mk g0 g1 g2 g3]) QH.out (i := 0) (x := FNode.mk g0 g1 g2 g3) rfl
          obtain ⟨Dg, dg, cg_0, cg_1, cg_2, cg_3, q3⟩ := opN (Below.refl w.heap.size w) qaa hcc (offcg) (offcg + 1) (offcg + 2) (offcg + 3) qaa
          have Qg := hid q3
          clear hcc q3
          have hblg : bcg < w.heap.size := Nat.lt_of_lt_of_le hblcg hB0
          subst Eg
          have hb2 := hid (hb.alloc hbs (.cells #[.int .i64 54, .int .i64 1, .string y2, .slice (some ⟨bcg, offcg, none⟩) 1 d] 44))
          have kb2 := (Below.refl wr.heap.size wr).alloc nr (.cells #[.int .i64 54, .int .i64 1, .string y2, .slice (some ⟨bcg, offcg, none⟩) 1 d] 44)
          have ⟨h_g0, h_g1, h_g2, h_g3⟩ := cell4 hb2.out hblg cg_0 cg_1 cg_2 cg_3
          have hgw : (FNode.mk g0 g1 g2 g3).wt ≤ 1000000000 := by have := (kid_wt (x := ⟨54, 1, y2, [⟨g0, g1, g2, g3⟩]⟩) (y := ⟨g0, g1, g2, g3⟩) (by simp [FNode.kids])).1; omega
          have HA2 := hid (show clsP false p (z3.drop k) = ((inB g0 1 3 && exF ⟨g0, g1, g2, g3⟩) && clsP false 2 (z3.drop (k + 1))) from by rw [HA.out]; simp [oneF, FNode.kd, show inB 1 0 1 = true from by decide])
          exact zz18
         ·have HP := hid (show clsP false p (z3.drop k) = false from by rw [HA.out, show oneF y3 = false from one_no y3 qaa]; simp)
          exact zz216
        ·have HP := hid (show clsP false p (z3.drop k) = false from by rw [HA.out, show inB y1 0 1 = false from inB_f qaa]; simp)
         exact zz217
      ·by_cases e55 : y0 = 55
       ·subst e55
        have hb2 := hid (hb.alloc hbs (.cells #[.int .i64 55, .int .i64 y1, .string y2, .slice D y3.length d] 44))
        have kb2 := (Below.refl wr.heap.size wr).alloc nr (.cells #[.int .i64 55, .int .i64 y1, .string y2, .slice D y3.length d] 44)
        have CALL := hid (fu_impl false ⟨55, y1, y2, y3⟩ hyw (.slice D y3.length d) _ w.heap.size (hmx.below hb2.out) hb2.out.size ((Q3.out.up hB0).below hb2.out nr))
        have HA2 := hid (show clsP false p (z3.drop k) = (inB y1 0 3 && (usF false y3 && clsP false 2 (z3.drop (k + 1)))) from by rw [HA.out]; simp)
        simp only [FNode.kids] at CALL
        clear HA hyw
        cases hin : inB y1 0 3 with
        | false =>
         have HP := hid (show clsP false p (z3.drop k) = false from by rw [HA2.out, hin]; rfl)
         exact zz30
        | true =>
         have HIN := hid hin
         cases hv : usF false y3 with
         | false =>
          have HP := hid (show clsP false p (z3.drop k) = false from by rw [HA2.out, hv, Bool.false_and, Bool.and_false])
          exact zz85
         | true =>
          have HP := hid (show clsP false p (z3.drop k) = clsP false 2 (z3.drop (k + 1)) from by rw [HA2.out, hv, hin]; rfl)
          exact zz191
       ·have HP := hid (show clsP false p (z3.drop k) = false from by rw [HA.out, if_neg e52, if_neg e53, if_neg e54, if_neg e55]; rfl)
        exact zz206
  ·exact zz129
end Go.Proofs.YtkkjnfappndmpaaGreatDoor
