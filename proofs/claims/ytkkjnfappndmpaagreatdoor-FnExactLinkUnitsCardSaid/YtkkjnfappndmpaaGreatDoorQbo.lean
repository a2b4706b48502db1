/-
 Parts of the proof: IsU9. Conditions: none.
-/
import Derived.Test.YtkkjnfappndmpaaGreatDoorQFold
import Derived.Test.YtkkjnfappndmpaaGreatDoorQaa
import Derived.Test.YtkkjnfappndmpaaGreatDoorQbn
import Derived.Test.YtkkjnfappndmpaaGreatDoorQba
set_option linter.unusedVariables false
set_option linter.unusedSimpArgs false
namespace Go.Proofs.YtkkjnfappndmpaaGreatDoor
set_option maxHeartbeats 40000000
open Lib (hid)
open Go.ChangeShapes Go.WideShapes Go.ChangeAt Go.RowKit Go.Deep Go.Joins
open Go.ChangeMaps (open_string shut_string)
set_option maxRecDepth 100000
def SxS (w wr : World) (A : Option Addr) (m c : Nat) (x0 x1 : Int) (x2 : ByteArray) (D : Option Addr) (q d : Nat) (wx : World) : Prop :=
 Below w.heap.size w wx ∧ wx.cell? ⟨w.heap.size, 3, none⟩ = some (.slice A m c) ∧ w.heap.size < wx.heap.size ∧ wx.cell? ⟨wr.heap.size, 0, none⟩ = some (.int .i64 x0) ∧ wx.cell? ⟨wr.heap.size, 1, none⟩ = some (.int .i64 x1) ∧ wx.cell? ⟨wr.heap.size, 2, none⟩ = some (.string x2) ∧ wx.cell? ⟨wr.heap.size, 3, none⟩ = some (.slice D q d) ∧ wr.heap.size < wx.heap.size
theorem SxS.call {w wr wx wy : World} {A : Option Addr} {m c : Nat} {x0 x1 : Int} {x2 : ByteArray} {D : Option Addr} {q d : Nat} (h : SxS w wr A m c x0 x1 x2 D q d wx) (hb : Below wx.heap.size wx wy) : SxS w wr A m c x0 x1 x2 D q d wy := by
 obtain ⟨h1, h2, h3, h4, h5, h6, h7, h8⟩ := h
 exact ⟨h1.trans (hb.mono h1.size), (hb.cell (p := ⟨w.heap.size, 3, none⟩) h3).trans h2, Nat.lt_of_lt_of_le h3 hb.size, (hb.cell (p := ⟨wr.heap.size, 0, none⟩) h8).trans h4, (hb.cell (p := ⟨wr.heap.size, 1, none⟩) h8).trans h5, (hb.cell (p := ⟨wr.heap.size, 2, none⟩) h8).trans h6, (hb.cell (p := ⟨wr.heap.size, 3, none⟩) h8).trans h7, Nat.lt_of_lt_of_le h8 hb.size⟩
theorem script_spec (x : FNode) (hw : x.wt ≤ 1000000000) : SaB 33 x (scF x) := by
 intro us w B hB0 hr
 have HSM := hid (smS x hw)
 obtain ⟨z0, z1, z2, z3⟩ := x
 have EX := hid (show scF ⟨z0, z1, z2, z3⟩ = (smF ⟨z0, z1, z2, z3⟩ && (z0 == 56 && (z1 == 0 && (emT z2 && z3.all topF)))) from rfl)
 have HW : Hid (∀ x, x ∈ z3 → x.wt ≤ 1000000000) := hid fun x hx => by have := (kid_wt (x := ⟨z0, z1, z2, z3⟩) (y := x) hx).1; omega
 obtain ⟨A3, c3, rfl, r3⟩ := hr.node
 rw [FNode.wt_eq] at hw
 have hz : z2.size ≤ 9223372036854775807 := qaa
 have hl : z3.length ≤ 9223372036854775807 := qaa
 have HR := hid r3
 have HB := hbA w z0 z1 z2 (.slice A3 z3.length c3)
 have CALL := hid (HSM.out [.int .i64 z0, .int .i64 z1, .string z2, .slice A3 z3.length c3] _ w.heap.size HB.out.size (ndV ((HR.out.up hB0).below HB.out nr)))
 have HC := hid r3
 clear hr r3 hw HSM
 cases hs : smF ⟨z0, z1, z2, z3⟩ with
 | false =>
  rw [hs] at CALL EX
  go_enter Tryz.func33, Tryz.ntmps33
  go_wp2_with ((go_at_call 52; refine CALL.out.mono ?_; rintro e w3 ⟨rfl, hb3⟩; have HB3 := hid (HB.out.trans (hb3.mono HB.out.size)); have ⟨bx_0, bx_1, bx_2, bx_3⟩ := box4 hb3))
  all_goals (go_ret; exact ⟨ret_bool (by rw [EX.out]; rfl), HB3.out⟩)
 | true =>
  rw [hs, Bool.true_and] at EX
  rw [hs] at CALL
  by_cases h56 : z0 = 56
  ·subst h56
   by_cases h0 : z1 = 0
   ·subst h0
    by_cases ht : z2.toList = []
    ·have EX2 := hid (show scF ⟨56, 0, z2, z3⟩ = z3.all topF from by rw [EX.out, emT_t ht]; rfl)
     clear EX
     go_enter Tryz.func33, Tryz.ntmps33
     go_wp2_with ((go_at_call 52; refine CALL.out.mono ?_; rintro e w3 ⟨rfl, hb3⟩; have HB3 := hid (HB.out.trans (hb3.mono HB.out.size)); have ⟨bx_0, bx_1, bx_2, bx_3⟩ := box4 hb3))
     go_loopw [3] (fun i wr => ∃ k : Nat, k ≤ z3.length ∧ i = .int .i64 k ∧ Hid ((z3.take k).all topF = true) ∧ Below w.heap.size w wr ∧ wr.cell? ⟨w.heap.size, 3, none⟩ = some (.slice A3 z3.length c3) ∧ w.heap.size < wr.heap.size) (fun i _ => z3.length - (intOf i).toNat)
     case atStart => exact ⟨0, Nat.zero_le _, rfl, hid rfl, HB3.out, bx_3, Nat.lt_of_lt_of_le qag hb3.size⟩
     case round =>
      obtain ⟨k, hk, rfl, HA, hb, hbox, hlt0⟩ := hrel
      have hbs := hb.size
      by_cases hlt : k < z3.length
      ·skip
       obtain ⟨x, hx⟩ : ∃ x, z3[k]? = some x := ⟨_, List.getElem?_eq_getElem hlt⟩
       obtain ⟨bc, offc, rfl, hblc, hcc⟩ := RdC.at_ FNode.len HC.out hx
       have HX := hid hx
       have HM := hid (List.mem_of_getElem? hx)
       clear hx
       obtain ⟨n0, n1, n2, n3⟩ := x
       obtain ⟨D, d, c_0, c_1, c_2, c_3, q3⟩ := opN hb qaa hcc (offc + k * 4) (offc + k * 4 + 1) (offc + k * 4 + 2) (offc + k * 4 + 3) qaa
       have Q3 := hid q3
       clear hcc q3
       have hyw := HW.out _ HM.out
       have FDX0 := fd_spec ⟨n0, n1, n2, n3⟩ qaa [.int .i64 n0, .int .i64 n1, .string n2, .slice D n3.length d] (wr.alloc (.cells #[.int .i64 n0, .int .i64 n1, .string n2, .slice D n3.length d] 44)) w.heap.size (hb.alloc hbs _).size (ndV ((Q3.out.up hB0).below (hb.alloc hbs _) nr))
       simp only [FNode.kd, FNode.nu, FNode.tx] at FDX0
       have FDX := hid FDX0
       have ST := hid (st_spec ⟨n0, n1, n2, n3⟩ hyw)
       unfold StS at ST
       have kb := (Below.refl wr.heap.size wr).alloc nr (.cells #[.int .i64 n0, .int .i64 n1, .string n2, .slice D n3.length d] 44)
       have X0 : SxS w wr (some ⟨bc, offc, none⟩) z3.length c3 n0 n1 n2 D n3.length d (wr.alloc (.cells #[.int .i64 n0, .int .i64 n1, .string n2, .slice D n3.length d] 44)) := ⟨hb.alloc hbs _, (kb.cell (p := ⟨w.heap.size, 3, none⟩) hlt0).trans hbox, Nat.lt_of_lt_of_le hlt0 kb.size, by rw [World.cell?_alloc_new]; rfl, by rw [World.cell?_alloc_new]; rfl, by rw [World.cell?_alloc_new]; rfl, by rw [World.cell?_alloc_new]; rfl, by simp⟩
       have hql : n3.length ≤ 9000000000 := by have := (len_wt ⟨n0, n1, n2, n3⟩).1; simp only [FNode.kids] at this; omega
       clear FDX0 kb
       by_cases e49 : n0 = 49
       ·subst e49
        have HTE := hid (show topF ⟨49, n1, n2, n3⟩ = ((fN 49 n1 && fT 49 n2) && usF false n3) from rfl)
        have CU := hid (us_spec false ⟨49, n1, n2, n3⟩ hyw)
        unfold UsS at CU
        simp only [FNode.kids] at CU
        generalize fN 49 n1 = fa at *
        generalize fT 49 n2 = fb at *
        clear hyw
        cases fa with
        | false =>
         exact zz54
        | true =>
         cases fb with
         | false =>
          exact zz54
         | true =>
          cases hv : usF false n3 with
          | false =>
           rw [hv] at CU HTE
           go_wp2_with (first | (go_at_call 53; refine FDX.out.mono ?_; rintro e w5 ⟨rfl, hb5⟩; have X5 := X0.call hb5; have p9 := X5.2.1; have p0 := X5.2.2.2.1; have p1 := X5.2.2.2.2.1; have p2 := X5.2.2.2.2.2.1; have p3 := X5.2.2.2.2.2.2.1) | (go_at_call 54; refine (ST.out [.int .i64 49, .int .i64 n1, .string n2, .slice D n3.length d] _ w.heap.size X5.1.size (ndV ((Q3.out.up hB0).below X5.1 nr))).mono ?_; rintro e w6 ⟨rfl, hb6⟩; have X6 := X5.call hb6; have r9 := X6.2.1; have r0 := X6.2.2.2.1; have r1 := X6.2.2.2.2.1; have r2 := X6.2.2.2.2.2.1; have r3 := X6.2.2.2.2.2.2.1) | (go_at_call 55; refine (CU.out _ _ w.heap.size X6.1.size ((Q3.out.up hB0).below X6.1 nr)).mono ?_; rintro e w7 ⟨rfl, hb7⟩; have X7 := X6.call hb7))
           exact zz160
          | true =>
           rw [hv] at CU HTE
           go_wp2_with (first | (go_at_call 53; refine FDX.out.mono ?_; rintro e w5 ⟨rfl, hb5⟩; have X5 := X0.call hb5; have p9 := X5.2.1; have p0 := X5.2.2.2.1; have p1 := X5.2.2.2.2.1; have p2 := X5.2.2.2.2.2.1; have p3 := X5.2.2.2.2.2.2.1) | (go_at_call 54; refine (ST.out [.int .i64 49, .int .i64 n1, .string n2, .slice D n3.length d] _ w.heap.size X5.1.size (ndV ((Q3.out.up hB0).below X5.1 nr))).mono ?_; rintro e w6 ⟨rfl, hb6⟩; have X6 := X5.call hb6; have r9 := X6.2.1; have r0 := X6.2.2.2.1; have r1 := X6.2.2.2.2.1; have r2 := X6.2.2.2.2.2.1; have r3 := X6.2.2.2.2.2.2.1) | (go_at_call 55; refine (CU.out _ _ w.heap.size X6.1.size ((Q3.out.up hB0).below X6.1 nr)).mono ?_; rintro e w7 ⟨rfl, hb7⟩; have X7 := X6.call hb7))
           exact zz81
       by_cases e50 : n0 = 50
       ·subst e50
        have HTE := hid (show topF ⟨50, n1, n2, n3⟩ = ((fN 50 n1 && fT 50 n2) && clsF true 0 true n3) from rfl)
        have CK := hid (class_spec 50 n1 n2 n3 hyw)
        rw [show ((50 : Int) == 50) = true from rfl] at CK
        generalize fN 50 n1 = fa at *
        generalize fT 50 n2 = fb at *
        clear hyw
        cases fa with
        | false =>
         exact zz55
        | true =>
         cases fb with
         | false =>
          exact zz55
         | true =>
          cases hv : clsF true 0 true n3 with
          | false =>
           rw [hv] at CK HTE
           go_wp2_with (first | (go_at_call 53; refine FDX.out.mono ?_; rintro e w5 ⟨rfl, hb5⟩; have X5 := X0.call hb5; have p9 := X5.2.1; have p0 := X5.2.2.2.1; have p1 := X5.2.2.2.2.1; have p2 := X5.2.2.2.2.2.1; have p3 := X5.2.2.2.2.2.2.1) | (go_at_call 54; refine (ST.out [.int .i64 50, .int .i64 n1, .string n2, .slice D n3.length d] _ w.heap.size X5.1.size (ndV ((Q3.out.up hB0).below X5.1 nr))).mono ?_; rintro e w6 ⟨rfl, hb6⟩; have X6 := X5.call hb6; have r9 := X6.2.1; have r0 := X6.2.2.2.1; have r1 := X6.2.2.2.2.1; have r2 := X6.2.2.2.2.2.1; have r3 := X6.2.2.2.2.2.2.1) | (go_at_call 56; refine (CK.out [.int .i64 50, .int .i64 n1, .string n2, .slice D n3.length d] _ w.heap.size X6.1.size (ndV ((Q3.out.up hB0).below X6.1 nr))).mono ?_; rintro e w7 ⟨rfl, hb7⟩; have X7 := X6.call hb7))
           exact zz160
          | true =>
           rw [hv] at CK HTE
           go_wp2_with (first | (go_at_call 53; refine FDX.out.mono ?_; rintro e w5 ⟨rfl, hb5⟩; have X5 := X0.call hb5; have p9 := X5.2.1; have p0 := X5.2.2.2.1; have p1 := X5.2.2.2.2.1; have p2 := X5.2.2.2.2.2.1; have p3 := X5.2.2.2.2.2.2.1) | (go_at_call 54; refine (ST.out [.int .i64 50, .int .i64 n1, .string n2, .slice D n3.length d] _ w.heap.size X5.1.size (ndV ((Q3.out.up hB0).below X5.1 nr))).mono ?_; rintro e w6 ⟨rfl, hb6⟩; have X6 := X5.call hb6; have r9 := X6.2.1; have r0 := X6.2.2.2.1; have r1 := X6.2.2.2.2.1; have r2 := X6.2.2.2.2.2.1; have r3 := X6.2.2.2.2.2.2.1) | (go_at_call 56; refine (CK.out [.int .i64 50, .int .i64 n1, .string n2, .slice D n3.length d] _ w.heap.size X6.1.size (ndV ((Q3.out.up hB0).below X6.1 nr))).mono ?_; rintro e w7 ⟨rfl, hb7⟩; have X7 := X6.call hb7))
           exact zz81
       by_cases e51 : n0 = 51
       ·subst e51
        have HTE := hid (show topF ⟨51, n1, n2, n3⟩ = ((fN 51 n1 && fT 51 n2) && clsF false 0 true n3) from rfl)
        have CK := hid (class_spec 51 n1 n2 n3 hyw)
        rw [show ((51 : Int) == 50) = false from rfl] at CK
        generalize fN 51 n1 = fa at *
        generalize fT 51 n2 = fb at *
        clear hyw
        cases fa with
        | false =>
         exact zz56
        | true =>
         cases fb with
         | false =>
          exact zz56
         | true =>
          cases hv : clsF false 0 true n3 with
          | false =>
           rw [hv] at CK HTE
           go_wp2_with (first | (go_at_call 53; refine FDX.out.mono ?_; rintro e w5 ⟨rfl, hb5⟩; have X5 := X0.call hb5; have p9 := X5.2.1; have p0 := X5.2.2.2.1; have p1 := X5.2.2.2.2.1; have p2 := X5.2.2.2.2.2.1; have p3 := X5.2.2.2.2.2.2.1) | (go_at_call 54; refine (ST.out [.int .i64 51, .int .i64 n1, .string n2, .slice D n3.length d] _ w.heap.size X5.1.size (ndV ((Q3.out.up hB0).below X5.1 nr))).mono ?_; rintro e w6 ⟨rfl, hb6⟩; have X6 := X5.call hb6; have r9 := X6.2.1; have r0 := X6.2.2.2.1; have r1 := X6.2.2.2.2.1; have r2 := X6.2.2.2.2.2.1; have r3 := X6.2.2.2.2.2.2.1) | (go_at_call 56; refine (CK.out [.int .i64 51, .int .i64 n1, .string n2, .slice D n3.length d] _ w.heap.size X6.1.size (ndV ((Q3.out.up hB0).below X6.1 nr))).mono ?_; rintro e w7 ⟨rfl, hb7⟩; have X7 := X6.call hb7))
           exact zz160
          | true =>
           rw [hv] at CK HTE
           go_wp2_with (first | (go_at_call 53; refine FDX.out.mono ?_; rintro e w5 ⟨rfl, hb5⟩; have X5 := X0.call hb5; have p9 := X5.2.1; have p0 := X5.2.2.2.1; have p1 := X5.2.2.2.2.1; have p2 := X5.2.2.2.2.2.1; have p3 := X5.2.2.2.2.2.2.1) | (go_at_call 54; refine (ST.out [.int .i64 51, .int .i64 n1, .string n2, .slice D n3.length d] _ w.heap.size X5.1.size (ndV ((Q3.out.up hB0).below X5.1 nr))).mono ?_; rintro e w6 ⟨rfl, hb6⟩; have X6 := X5.call hb6; have r9 := X6.2.1; have r0 := X6.2.2.2.1; have r1 := X6.2.2.2.2.1; have r2 := X6.2.2.2.2.2.1; have r3 := X6.2.2.2.2.2.2.1) | (go_at_call 56; refine (CK.out [.int .i64 51, .int .i64 n1, .string n2, .slice D n3.length d] _ w.heap.size X6.1.size (ndV ((Q3.out.up hB0).below X6.1 nr))).mono ?_; rintro e w7 ⟨rfl, hb7⟩; have X7 := X6.call hb7))
           exact zz81
       have HTE := hid (show topF ⟨n0, n1, n2, n3⟩ = stF ⟨n0, n1, n2, n3⟩ from by unfold topF; simp only [FNode.kd, e49, e50, e51, ↓reduceIte, or_self])
       clear hyw
       cases hv : stF ⟨n0, n1, n2, n3⟩ with
       | true =>
        rw [hv] at ST HTE
        go_wp2_with (first | (go_at_call 53; refine FDX.out.mono ?_; rintro e w5 ⟨rfl, hb5⟩; have X5 := X0.call hb5; have p9 := X5.2.1; have p0 := X5.2.2.2.1; have p1 := X5.2.2.2.2.1; have p2 := X5.2.2.2.2.2.1; have p3 := X5.2.2.2.2.2.2.1) | (go_at_call 54; refine (ST.out [.int .i64 n0, .int .i64 n1, .string n2, .slice D n3.length d] _ w.heap.size X5.1.size (ndV ((Q3.out.up hB0).below X5.1 nr))).mono ?_; rintro e w6 ⟨rfl, hb6⟩; have X6 := X5.call hb6; have r9 := X6.2.1; have r0 := X6.2.2.2.1; have r1 := X6.2.2.2.2.1; have r2 := X6.2.2.2.2.2.1; have r3 := X6.2.2.2.2.2.2.1))
        go_roundw
        case rel => exact ⟨k + 1, by omega, by go_num, hid (all_on HX.out HA.out HTE.out), X6.1, X6.2.1, X6.2.2.1⟩
        case measure => simp [intOf]; omega
       | false =>
        rw [hv] at ST HTE
        go_wp2_with (first | (go_at_call 53; refine FDX.out.mono ?_; rintro e w5 ⟨rfl, hb5⟩; have X5 := X0.call hb5; have p9 := X5.2.1; have p0 := X5.2.2.2.1; have p1 := X5.2.2.2.2.1; have p2 := X5.2.2.2.2.2.1; have p3 := X5.2.2.2.2.2.2.1) | (go_at_call 54; refine (ST.out [.int .i64 n0, .int .i64 n1, .string n2, .slice D n3.length d] _ w.heap.size X5.1.size (ndV ((Q3.out.up hB0).below X5.1 nr))).mono ?_; rintro e w6 ⟨rfl, hb6⟩; have X6 := X5.call hb6; have r9 := X6.2.1; have r0 := X6.2.2.2.1; have r1 := X6.2.2.2.2.1; have r2 := X6.2.2.2.2.2.1; have r3 := X6.2.2.2.2.2.2.1))
        go_ret
        exact ⟨ret_bool qa0, X6.1⟩
      ·exact zz70
    ·have ht2 : z2.toList.isEmpty = false := emT_f ht
     rw [emT_f ht, Bool.false_and, Bool.and_false, Bool.and_false] at EX
     go_enter Tryz.func33, Tryz.ntmps33
     go_wp2_with ((go_at_call 52; refine CALL.out.mono ?_; rintro e w3 ⟨rfl, hb3⟩; have HB3 := hid (HB.out.trans (hb3.mono HB.out.size)); have ⟨bx_0, bx_1, bx_2, bx_3⟩ := box4 hb3))
     all_goals first
      | (go_ret; exact ⟨ret_bool EX.out.symm, HB3.out⟩)
      | contradiction
   ·rw [beq_false_of_ne h0, Bool.false_and, Bool.and_false] at EX
    exact zz108
  ·rw [beq_false_of_ne h56, Bool.false_and] at EX
   exact zz108
end Go.Proofs.YtkkjnfappndmpaaGreatDoor
