/-
 Parts of the proof: IsU5. Conditions: none.
-/
import Derived.Test.YtkkjnfappndmpaaGreatDoorQFold
import Derived.Test.YtkkjnfappndmpaaGreatDoorQaa
import Derived.Test.YtkkjnfappndmpaaGreatDoorQav
import Derived.Deep.CutRange
import Derived.Deep.CutBlock
set_option linter.unusedVariables false
set_option linter.unusedSimpArgs false
namespace Go.Proofs.YtkkjnfappndmpaaGreatDoor
set_option maxHeartbeats 40000000
open Lib (hid)
open Go.ChangeShapes Go.WideShapes Go.ChangeAt Go.RowKit Go.Deep Go.Joins
open Go.ChangeMaps (open_string shut_string)
set_option maxRecDepth 100000
def tcC (k : Nat) (x0 : Int) (ks : List FNode) : Bool := x0 == 44 && (k == 1 && ctK ks)
def tcF (m k : Nat) (x0 : Int) (ks : List FNode) : Bool := x0 == 45 && (k + 1 == m && fnK ks)
def tyS (m k : Nat) (x : FNode) : Bool := (fN x.kd x.nu && fT x.kd x.tx) && (tcC k x.kd x.kids || tcF m k x.kd x.kids)
theorem ctF_kd (x : FNode) : ctF x = ((fN x.kd x.nu && fT x.kd x.tx) && (x.kd == 44 && ctK x.kids)) := by
 obtain ⟨k, n, t, ks⟩ := x
 rw [ctF_mk]
 show (k == 44 && ((fN k n && fT k t) && ctK ks)) = ((fN k n && fT k t) && (k == 44 && ctK ks))
 cases (k == 44) <;> cases (fN k n && fT k t) <;> rfl
theorem fnF_kd (x : FNode) : fnF x = ((fN x.kd x.nu && fT x.kd x.tx) && (x.kd == 45 && fnK x.kids)) := by
 obtain ⟨k, n, t, ks⟩ := x
 rw [fnF_mk]
 show (k == 45 && ((fN k n && fT k t) && fnK ks)) = ((fN k n && fT k t) && (k == 45 && fnK ks))
 cases (k == 45) <;> cases (fN k n && fT k t) <;> rfl
theorem tyS_21 (x : FNode) : tyS 2 1 x = (ctF x || fnF x) := by
 rw [ctF_kd, fnF_kd]
 unfold tyS tcC tcF
 show (_ && ((x.kd == 44 && (true && ctK x.kids)) || (x.kd == 45 && (true && fnK x.kids)))) = _
 rw [Bool.true_and, Bool.true_and, Bool.and_or_distrib_left]
theorem tyS_31 (x : FNode) : tyS 3 1 x = ctF x := by
 rw [ctF_kd]
 unfold tyS tcC tcF
 show (_ && ((x.kd == 44 && (true && ctK x.kids)) || (x.kd == 45 && (false && fnK x.kids)))) = _
 rw [Bool.true_and, Bool.false_and, Bool.and_false, Bool.or_false]
theorem tyS_32 (x : FNode) : tyS 3 2 x = fnF x := by
 rw [fnF_kd]
 unfold tyS tcC tcF
 show (_ && ((x.kd == 44 && (false && ctK x.kids)) || (x.kd == 45 && (true && fnK x.kids)))) = _
 rw [Bool.true_and, Bool.false_and, Bool.and_false, Bool.false_or]
theorem tyK_bad {l : List FNode} {m k : Nat} {x : FNode} (hm : l.length = m) (h23 : 2 ≤ m ∧ m ≤ 3) (hk : 1 ≤ k) (hx : l[k]? = some x) (h : tyS m k x = false) : tyK l = false := by
 subst hm
 match l, h23, k, hk, hx, h with
 | [a, b], _, 1, _, hx, h =>
  obtain rfl : b = x := by simpa using hx
  rw [ty_two, ← tyS_21, show tyS 2 1 b = false from h, Bool.and_false]
 | [a, b], _, k + 2, _, hx, h => simp at hx
 | [a, b, d], _, 1, _, hx, h =>
  obtain rfl : b = x := by simpa using hx
  rw [ty_three, ← tyS_31, show tyS 3 1 b = false from h, Bool.false_and, Bool.and_false]
 | [a, b, d], _, 2, _, hx, h =>
  obtain rfl : d = x := by simpa using hx
  rw [ty_three, ← tyS_32, show tyS 3 2 d = false from h, Bool.and_false, Bool.and_false]
 | [a, b, d], _, k + 3, _, hx, h => simp at hx
theorem tyK_good {l : List FNode} {m : Nat} {a : FNode} (hm : (a :: l).length = m) (h23 : 2 ≤ m ∧ m ≤ 3) (ha : blF a = true) (h : ∀ k x, 1 ≤ k → k < m → (a :: l)[k]? = some x → tyS m k x = true) : tyK (a :: l) = true := by
 subst hm
 match l, h23, h with
 | [b], _, h => rw [ty_two, ha, ← tyS_21, show tyS 2 1 b = true from h 1 b qaa qag rfl]; rfl
 | [b, d], _, h => rw [ty_three, ha, ← tyS_31, ← tyS_32, show tyS 3 1 b = true from h 1 b qaa qag rfl, show tyS 3 2 d = true from h 2 d qaa qag rfl]; rfl
 | [], h23, _ => simp at h23
 | _ :: _ :: _ :: _, h23, _ => simp at h23
theorem tyK_no (l : List FNode) (h : ¬ (2 ≤ l.length ∧ l.length ≤ 3)) : tyK l = false := by
 exact zz151
theorem tyK_head (a : FNode) (l : List FNode) (h : blF a = false) : tyK (a :: l) = false := by
 match l with
 | [] => rfl
 | b :: r => exact ty_bad a b r h
theorem fnK_no (l : List FNode) (h : ¬ l.length = 1) : fnK l = false := by
 match l, h with
 | [], _ => rfl
 | [_], h => simp at h
 | _ :: _ :: _, _ => rfl
/-- The node's box and the box of the kid that is looked at. -/
def TxS (w wr : World) (A : Option Addr) (m c : Nat) (x0 : Int) (D : Option Addr) (q d : Nat) (wx : World) : Prop :=
 Below w.heap.size w wx ∧ wx.cell? ⟨w.heap.size, 3, none⟩ = some (.slice A m c) ∧ w.heap.size < wx.heap.size ∧ wx.cell? ⟨wr.heap.size, 0, none⟩ = some (.int .i64 x0) ∧ wx.cell? ⟨wr.heap.size, 3, none⟩ = some (.slice D q d) ∧ wr.heap.size < wx.heap.size
theorem TxS.call {w wr wx wy : World} {A : Option Addr} {m c : Nat} {x0 : Int} {D : Option Addr} {q d : Nat} (h : TxS w wr A m c x0 D q d wx) (hb : Below wx.heap.size wx wy) : TxS w wr A m c x0 D q d wy := by
 obtain ⟨h1, h2, h3, h4, h5, h6⟩ := h
 exact ⟨h1.trans (hb.mono h1.size), (hb.cell (p := ⟨w.heap.size, 3, none⟩) h3).trans h2, Nat.lt_of_lt_of_le h3 hb.size, (hb.cell (p := ⟨wr.heap.size, 0, none⟩) h6).trans h4, (hb.cell (p := ⟨wr.heap.size, 3, none⟩) h6).trans h5, Nat.lt_of_lt_of_le h6 hb.size⟩
theorem stS_43 (z1 : Int) (z2 : ByteArray) (z3 : List FNode) (hw : (FNode.mk 43 z1 z2 z3).wt ≤ 9000000000) (hn : fN 43 z1 = true) (ht : fT 43 z2 = true) (hB : ∀ x, x ∈ z3 → BkS x) (hK : ∀ x, x ∈ z3 → ∀ y, y ∈ x.kids → ExS y ∧ BkS y) : SaB 54 (FNode.mk 43 z1 z2 z3) (tyK z3) := by
 intro us w B hB0 hr
 have FD := fd_spec _ hw
 obtain ⟨A3, c3, rfl, r3⟩ := hr.node
 rw [FNode.wt_eq] at hw
 have hz : z2.size ≤ 9223372036854775807 := qaa
 have hl : z3.length ≤ 9000000000 := qaa
 have FDC := fdC FD hn ht hB0 r3
 clear FD
 have hpos3 := r3
 obtain ⟨m, hm⟩ : ∃ m, z3.length = m := ⟨_, rfl⟩
 try rw [hm] at hl r3 FDC ⊢
 have HR := hid r3
 have HB := hbA w 43 z1 z2 (.slice A3 m c3)
 clear hr r3 hpos3
 by_cases h23 : 2 ≤ m ∧ m ≤ 3
 ·have HIN := hid (show inB (m : Int) 2 3 = true from by unfold inB; rw [decide_eq_true_iff]; omega)
  obtain ⟨⟨y0, y1, y2, y3⟩, r, rfl⟩ : ∃ a r, z3 = a :: r := by
   cases z3 with
   | nil => rw [← hm] at h23; simp at h23
   | cons a r => exact ⟨a, r, rfl⟩
  have Cy := hid (hB ⟨y0, y1, y2, y3⟩ (List.mem_cons_self ..))
  unfold BkS at Cy
  have hpos : 0 < m := qaa
  have HC : Hid (RdC w B (.s 44 4 (FNode.mk y0 y1 y2 y3 :: r).length (FNode.flat (FNode.mk y0 y1 y2 y3 :: r))) (.slice A3 (FNode.mk y0 y1 y2 y3 :: r).length c3)) := hid (by rw [hm]; exact HR.out)
  have HMM := hid hm
  have HWW := hid (show ∀ x, x ∈ (FNode.mk y0 y1 y2 y3 :: r) → x.wt ≤ 9000000000 from fun x hx => by have := FNode.wts_at (FNode.mk y0 y1 y2 y3 :: r) x hx; omega)
  have HKK := hid hK
  obtain ⟨bcy, offcy, Ey, hblcy, hcc⟩ := nd_at hm.symm (l := (FNode.mk y0 y1 y2 y3 :: r)) HR.out (i := 0) (x := FNode.mk y0 y1 y2 y3) rfl
  obtain ⟨Dy, dy, cy_0, cy_1, cy_2, cy_3, q3⟩ := opN (Below.refl w.heap.size w) qaa hcc (offcy) (offcy + 1) (offcy + 2) (offcy + 3) qaa
  have Qy := hid q3
  clear hcc q3
  have hbl : bcy < w.heap.size := Nat.lt_of_lt_of_le hblcy hB0
  subst Ey
  clear hw hB hK
  cases hv : blF ⟨y0, y1, y2, y3⟩ with
  | false =>
   rw [tyK_head _ r hv]
   rw [hv] at Cy
   clear hm
   go_enter Tryz.func54, Tryz.ntmps54
   go_wp2_with (first | (go_at_call 53; refine FDC.out.mono ?_; rintro e w3 ⟨rfl, hb3⟩; have HB3 := hid (HB.out.trans (hb3.mono HB.out.size)); have ⟨bx_w3_0, bx_w3_1, bx_w3_2, bx_w3_3⟩ := box4 hb3; have sz_w3 := szA hb3; have ⟨k_w3_y0, k_w3_y1, k_w3_y2, k_w3_y3⟩ := cell4 HB3.out hbl cy_0 cy_1 cy_2 cy_3) | (go_at_call 51; refine (l1In_any _ _ _ _).mono ?_; rw [HIN.out]; rintro e w' ⟨rfl, rfl⟩) | (go_at_call 91; refine (Cy.out [.int .i64 y0, .int .i64 y1, .string y2, .slice Dy y3.length dy] _ w.heap.size HB3.out.size (ndV ((Qy.out.up hB0).below HB3.out nr))).mono ?_; rintro e w4 ⟨rfl, hb_w4⟩; have HB4 := hid (HB3.out.trans (hb_w4.mono HB3.out.size))))
   all_goals exact zz12
  | true =>
   rw [hv] at Cy
   have HBA := hid hv
   clear hm
   go_enter Tryz.func54, Tryz.ntmps54
   go_wp2_with (first | (go_at_call 53; refine FDC.out.mono ?_; rintro e w3 ⟨rfl, hb3⟩; have HB3 := hid (HB.out.trans (hb3.mono HB.out.size)); have ⟨bx_w3_0, bx_w3_1, bx_w3_2, bx_w3_3⟩ := box4 hb3; have sz_w3 := szA hb3; have ⟨k_w3_y0, k_w3_y1, k_w3_y2, k_w3_y3⟩ := cell4 HB3.out hbl cy_0 cy_1 cy_2 cy_3) | (go_at_call 51; refine (l1In_any _ _ _ _).mono ?_; rw [HIN.out]; rintro e w' ⟨rfl, rfl⟩) | (go_at_call 91; refine (Cy.out [.int .i64 y0, .int .i64 y1, .string y2, .slice Dy y3.length dy] _ w.heap.size HB3.out.size (ndV ((Qy.out.up hB0).below HB3.out nr))).mono ?_; rintro e w4 ⟨rfl, hb_w4⟩; have HB4 := hid (HB3.out.trans (hb_w4.mono HB3.out.size)); have ⟨_, _, _, bx_w4_3⟩ := cell4 hb_w4 sz_w3 bx_w3_0 bx_w3_1 bx_w3_2 bx_w3_3; have sz_w4 := Nat.lt_of_lt_of_le sz_w3 hb_w4.size))
   go_loopw [6] (fun i wr => ∃ k : Nat, 1 ≤ k ∧ k ≤ m ∧ i = .int .i64 k ∧ Hid (∀ j x, 1 ≤ j → j < k → (FNode.mk y0 y1 y2 y3 :: r)[j]? = some x → tyS m j x = true) ∧ Below w.heap.size w wr ∧ wr.cell? ⟨w.heap.size, 3, none⟩ = some (.slice (some ⟨bcy, offcy, none⟩) m c3) ∧ w.heap.size < wr.heap.size) (fun i _ => m - (intOf i).toNat)
   case atStart => exact ⟨1, by omega, by omega, rfl, hid (fun j x h1 h2 => absurd h2 qaa), HB4.out, bx_w4_3, sz_w4⟩
   case round =>
    obtain ⟨k, hk1, hk, rfl, HA, hb, hbox, hlt0⟩ := hrel
    have hbs := hb.size
    by_cases hltm : k < m
    ·have hlt : k < (FNode.mk y0 y1 y2 y3 :: r).length := by rw [HMM.out]; exact hltm
     obtain ⟨x, hx⟩ : ∃ x, (FNode.mk y0 y1 y2 y3 :: r)[k]? = some x := ⟨_, List.getElem?_eq_getElem hlt⟩
     obtain ⟨bc2, offc2, EE, hblc2, hcc⟩ := RdC.at_ FNode.len HC.out hx
     obtain ⟨rfl, rfl⟩ : bcy = bc2 ∧ offcy = offc2 := by simpa using EE
     have HX := hid hx
     have HM := hid (List.mem_of_getElem? hx)
     clear hx
     obtain ⟨n0, n1, n2, n3⟩ := x
     rw [FNode.c_eq] at hcc
     obtain ⟨u0, e0, q0⟩ := hcc 0 _ rfl
     obtain rfl := q0.val
     have c_0 : wr.cell? ⟨bcy, offcy + k * 4, none⟩ = some (.int .i64 n0) := (hb.cell (p := ⟨bcy, _, none⟩) hbl).trans qa3
     obtain ⟨u1, e1, q1⟩ := hcc 1 _ rfl
     obtain rfl := q1.val
     have c_1 : wr.cell? ⟨bcy, offcy + k * 4 + 1, none⟩ = some (.int .i64 n1) := (hb.cell (p := ⟨bcy, _, none⟩) hbl).trans qa4
     obtain ⟨u2, e2, q2⟩ := hcc 2 _ rfl
     obtain rfl := q2.val
     have c_2 : wr.cell? ⟨bcy, offcy + k * 4 + 2, none⟩ = some (.string n2) := (hb.cell (p := ⟨bcy, _, none⟩) hbl).trans qa5
     obtain ⟨u3, e3, q3⟩ := hcc 3 _ rfl
     obtain ⟨D, d, rfl⟩ := q3.form
     have c_3 : wr.cell? ⟨bcy, offcy + k * 4 + 3, none⟩ = some (.slice D n3.length d) := (hb.cell (p := ⟨bcy, _, none⟩) hbl).trans qa6
     have Q3 := hid q3
     clear hcc e0 e1 e2 e3 q0 q1 q2 q3
     have hyw := HWW.out _ HM.out
     obtain ⟨q, hq⟩ : ∃ q, n3.length = q := ⟨_, rfl⟩
     have hql : q ≤ 9000000000 := by have := (len_wt ⟨n0, n1, n2, n3⟩).1; simp only [FNode.kids] at this; omega
     have Q3' := Q3.out
     have HQN := hid hq
     have FDX0 := fd_spec ⟨n0, n1, n2, n3⟩ hyw [.int .i64 n0, .int .i64 n1, .string n2, .slice D n3.length d] (wr.alloc (.cells #[.int .i64 n0, .int .i64 n1, .string n2, .slice D n3.length d] 44)) w.heap.size (hb.alloc hbs _).size (ndV ((Q3.out.up hB0).below (hb.alloc hbs _) nr))
     simp only [FNode.kd, FNode.nu, FNode.tx] at FDX0
     rw [hq] at c_3 Q3' FDX0
     have FDX := hid FDX0
     have Q4 := hid Q3'
     have HK : Hid (∀ y, y ∈ n3 → ExS y ∧ BkS y) := hid (HKK.out _ HM.out)
     have HS := hid (show tyS m k ⟨n0, n1, n2, n3⟩ = ((fN n0 n1 && fT n0 n2) && (tcC k n0 n3 || tcF m k n0 n3)) from rfl)
     have X0 : TxS w wr (some ⟨bcy, offcy, none⟩) m c3 n0 D q d (wr.alloc (.cells #[.int .i64 n0, .int .i64 n1, .string n2, .slice D q d] 44)) := ⟨hb.alloc hbs _, (boxk ((Below.refl wr.heap.size wr).alloc nr (.cells #[.int .i64 n0, .int .i64 n1, .string n2, .slice D q d] 44)) hlt0 hbox).1, (boxk ((Below.refl wr.heap.size wr).alloc nr (.cells #[.int .i64 n0, .int .i64 n1, .string n2, .slice D q d] 44)) hlt0 hbox).2, by rw [World.cell?_alloc_new]; rfl, by rw [World.cell?_alloc_new]; rfl, by simp⟩
     clear FDX0 hq Q3 Q3' hyw
     go_upto_region 38 with (go_at_call 53; refine FDX.out.mono ?_; rintro e w5 ⟨rfl, hb5⟩)
     have X5 := X0.call hb5
     clear X0
     have t3 := X5.2.1; have t0 := X5.2.2.2.1; have tk := X5.2.2.2.2.1
     go_cut [10] from 198 to 283 (fun c wx => c = .bool (tcC k n0 n3) ∧ TxS w wr (some ⟨bcy, offcy, none⟩) m c3 n0 D q d wx)
     case first =>
      have HTC := hid (show tcC k n0 n3 = tcC k n0 n3 from rfl)
      by_cases e44 : n0 = 44
      ·subst e44
       by_cases hk1 : k = 1
       ·subst hk1
        by_cases hq2 : q = 2
        ·subst hq2
         match n3, HQN, HK, Q4, HTC with
         | [⟨p0, p1, p2, p3⟩, ⟨v0, v1, v2, v3⟩], HQN, HK, Q4, HTC =>
          obtain ⟨bcp, offcp, Ep, hblcp, hcc⟩ := RdC.at_ (l := [FNode.mk p0 p1 p2 p3, FNode.mk v0 v1 v2 v3]) FNode.len Q4.out (i := 0) (x := FNode.mk p0 p1 p2 p3) rfl
          obtain ⟨Dp, dp, cp_0, cp_1, cp_2, cp_3, q3⟩ := opN (Below.refl w.heap.size w) qaa hcc (offcp) (offcp + 1) (offcp + 2) (offcp + 3) qaa
          have Qp := hid q3
          clear hcc q3
          obtain ⟨bcv, offcv, Ev, hblcv, hcc⟩ := RdC.at_ (l := [FNode.mk p0 p1 p2 p3, FNode.mk v0 v1 v2 v3]) FNode.len Q4.out (i := 1) (x := FNode.mk v0 v1 v2 v3) rfl
          obtain ⟨Dv, dv, cv_0, cv_1, cv_2, cv_3, q3⟩ := opN (Below.refl w.heap.size w) qaa hcc (offcv + 4) (offcv + 5) (offcv + 6) (offcv + 7) qaa
          have Qv := hid q3
          clear hcc q3
          have hblp : bcp < w.heap.size := Nat.lt_of_lt_of_le hblcp hB0
          subst Ep
          obtain ⟨g1, g2⟩ : bcp = bcv ∧ offcp = offcv := by simpa using Ev
          subst g1
          subst g2
          clear Ev
          have Cp := hid (HK.out ⟨p0, p1, p2, p3⟩ qag).1
          have Cv := hid (HK.out ⟨v0, v1, v2, v3⟩ qag).2
          unfold ExS at Cp
          unfold BkS at Cv
          have HE := hid (show tcC 1 44 [⟨p0, p1, p2, p3⟩, ⟨v0, v1, v2, v3⟩] = (p0 == 4 && (exF ⟨p0, p1, p2, p3⟩ && blF ⟨v0, v1, v2, v3⟩)) from rfl)
          have ⟨za_p0, za_p1, za_p2, za_p3⟩ := cell4 X5.1 hblp cp_0 cp_1 cp_2 cp_3
          clear HTC HQN HK
          by_cases p4 : p0 = 4
          ·subst p4
           cases hvp : exF ⟨4, p1, p2, p3⟩ with
           | false =>
            rw [hvp] at Cp
            go_wp2_with ((go_at_call 88; refine (Cp.out [.int .i64 4, .int .i64 p1, .string p2, .slice Dp p3.length dp] _ w.heap.size X5.1.size (ndV ((Qp.out.up hB0).below X5.1 nr))).mono ?_; rintro e w6 ⟨rfl, hbw6⟩; have Xw6 := X5.call hbw6))
            all_goals (go_meet; exact ⟨by rw [HE.out]; first | done | rfl | (simp_all; done), Xw6⟩)
           | true =>
            rw [hvp] at Cp
            go_wp2_with (first | (go_at_call 88; refine (Cp.out [.int .i64 4, .int .i64 p1, .string p2, .slice Dp p3.length dp] _ w.heap.size X5.1.size (ndV ((Qp.out.up hB0).below X5.1 nr))).mono ?_; rintro e w6 ⟨rfl, hbw6⟩; have Xw6 := X5.call hbw6; have u3 := Xw6.2.1; have u0 := Xw6.2.2.2.1; have uk := Xw6.2.2.2.2.1; have ⟨_, _, _, _⟩ := cell4 Xw6.1 hblp cv_0 cv_1 cv_2 cv_3) | (go_at_call 91; refine (Cv.out [.int .i64 v0, .int .i64 v1, .string v2, .slice Dv v3.length dv] _ w.heap.size Xw6.1.size (ndV ((Qv.out.up hB0).below Xw6.1 nr))).mono ?_; rintro e w7 ⟨rfl, hbw7⟩; have Xw7 := Xw6.call hbw7))
            all_goals (go_meet; exact ⟨by rw [HE.out]; first | done | rfl | (simp_all; done), Xw7⟩)
          ·exact zz94
        ·have HE := hid (show tcC 1 44 n3 = false from by unfold tcC; rw [ctK_no n3 (by have := HQN.out; omega)]; rfl)
         clear HTC
         exact zz94
       ·have HE := hid (show tcC k 44 n3 = false from by unfold tcC; rw [show (k == 1) = false from beq_false_of_ne hk1]; rfl)
        clear HTC
        exact zz94
      ·have HE := hid (show tcC k n0 n3 = false from by unfold tcC; rw [beq_false_of_ne e44]; rfl)
       clear HTC
       exact zz94
     case rest =>
      obtain ⟨rfl, X8⟩ := hcut
      have s3 := X8.2.1; have s0 := X8.2.2.2.1; have sk := X8.2.2.2.2.1
      go_upto_region 39 with fail
      go_cut [11] from 198 to 283 (fun c wx => c = .bool (tcF m k n0 n3) ∧ TxS w wr (some ⟨bcy, offcy, none⟩) m c3 n0 D q d wx)
      case first =>
       by_cases e45 : n0 = 45
       ·subst e45
        by_cases hk1 : k + 1 = m
        ·have hk2 : ((k : Int) == (m : Int) - 1) = true := by rw [beq_iff_eq]; omega
         by_cases hq1 : q = 1
         ·subst hq1
          match n3, HQN, HK, Q4 with
          | [⟨p0, p1, p2, p3⟩], HQN, HK, Q4 =>
           obtain ⟨bcp, offcp, Ep, hblcp, hcc⟩ := RdC.at_ (l := [FNode.mk p0 p1 p2 p3]) FNode.len Q4.out (i := 0) (x := FNode.mk p0 p1 p2 p3) rfl
           obtain ⟨Dp, dp, cp_0, cp_1, cp_2, cp_3, q3⟩ := opN (Below.refl w.heap.size w) qaa hcc (offcp) (offcp + 1) (offcp + 2) (offcp + 3) qaa
           have Qp := hid q3
           clear hcc q3
           have hblp : bcp < w.heap.size := Nat.lt_of_lt_of_le hblcp hB0
           subst Ep
           have Cp := hid (HK.out ⟨p0, p1, p2, p3⟩ qag).2
           unfold BkS at Cp
           have HE := hid (show tcF m k 45 [⟨p0, p1, p2, p3⟩] = blF ⟨p0, p1, p2, p3⟩ from by unfold tcF; rw [show (k + 1 == m) = true from by rw [hk1]; exact beq_self_eq_true m]; rfl)
           have ⟨za_p0, za_p1, za_p2, za_p3⟩ := cell4 X8.1 hblp cp_0 cp_1 cp_2 cp_3
           clear HQN HK
           go_wp2_with ((go_at_call 91; refine (Cp.out [.int .i64 p0, .int .i64 p1, .string p2, .slice Dp p3.length dp] _ w.heap.size X8.1.size (ndV ((Qp.out.up hB0).below X8.1 nr))).mono ?_; rintro e w9 ⟨rfl, hbw9⟩; have Xw9 := X8.call hbw9))
           all_goals (go_meet; exact ⟨by rw [HE.out]; first | done | rfl | (simp_all; done), Xw9⟩)
         ·have HE := hid (show tcF m k 45 n3 = false from by unfold tcF; rw [fnK_no n3 (by have := HQN.out; omega), Bool.and_false, Bool.and_false])
          exact zz114
        ·have hk2 : ((k : Int) == (m : Int) - 1) = false := beq_false_of_ne qaa
         have HE := hid (show tcF m k 45 n3 = false from by unfold tcF; rw [show (k + 1 == m) = false from beq_false_of_ne hk1]; rfl)
         exact zz114
       ·have HE := hid (show tcF m k n0 n3 = false from by unfold tcF; rw [beq_false_of_ne e45]; rfl)
        exact zz114
      case rest =>
       obtain ⟨rfl, X9⟩ := hcut
       generalize fN n0 n1 = fa at *
       generalize fT n0 n2 = fb at *
       generalize tcC k n0 n3 = cc at *
       generalize tcF m k n0 n3 = ff at *
       cases fa <;> cases fb <;> cases cc <;> cases ff
       all_goals first
        | (go_wp2_with fail
           go_ret
           exact ⟨ret_bool (tyK_bad HMM.out h23 hk1 HX.out HS.out).symm, X9.1⟩)
        | (go_wp2_with fail
           go_roundw
           case rel => exact ⟨k + 1, by omega, by omega, by go_num, hid (fun j x h1 h2 hx => by rcases Nat.lt_succ_iff_lt_or_eq.mp h2 with h | h; exact HA.out j x h1 h hx; subst h; rw [HX.out] at hx; cases hx; exact HS.out), X9.1, X9.2.1, X9.2.2.1⟩
           case measure => simp [intOf]; omega)
    ·obtain rfl : k = m := qaa
     clear hltm
     have HG := hid (tyK_good HMM.out h23 HBA.out HA.out)
     go_wp2_with fail
     go_ret
     exact ⟨ret_bool HG.out.symm, hb⟩
 ·rw [tyK_no z3 (by rw [hm]; exact h23)]
  have HIN := hid (show inB (m : Int) 2 3 = false from inB_f qaa)
  clear hm hw hB hK
  exact zz172
end Go.Proofs.YtkkjnfappndmpaaGreatDoor
