/-
 Parts of the proof: IsS3, IsS4. Conditions: none.
-/
import Derived.Test.YtkkjnfappndmpaaGreatDoorQFold
import Derived.Test.YtkkjnfappndmpaaGreatDoorQaa
import Derived.Test.YtkkjnfappndmpaaGreatDoorQak
import Derived.Deep.LoopGhost
import Derived.Test.YtkkjnfappndmpaaGreatDoorQah
import Derived.Test.YtkkjnfappndmpaaGreatDoorQal
import Derived.Test.YtkkjnfappndmpaaGreatDoorQap
set_option linter.unusedVariables false
set_option linter.unusedSimpArgs false
namespace Go.Proofs.YtkkjnfappndmpaaGreatDoor
set_option maxHeartbeats 40000000
open Lib (hid)
open Go.ChangeShapes Go.WideShapes Go.ChangeAt Go.RowKit Go.Deep Go.Joins
open Go.ChangeMaps (open_string shut_string)
set_option maxRecDepth 100000
def ExS (x : FNode) : Prop := ∀ (us : List Value) (w : World) (B : Nat), B ≤ w.heap.size → RdVs w B x.c us → Calls Tryz.prog 88 #[.agg us.toArray] w fun e w' => e = .returned (.bool (exF x)) ∧ Below w.heap.size w w'
def StS (x : FNode) : Prop := ∀ (us : List Value) (w : World) (B : Nat), B ≤ w.heap.size → RdVs w B x.c us → Calls Tryz.prog 54 #[.agg us.toArray] w fun e w' => e = .returned (.bool (stF x)) ∧ Below w.heap.size w w'
def BkS (x : FNode) : Prop := ∀ (us : List Value) (w : World) (B : Nat), B ≤ w.heap.size → RdVs w B x.c us → Calls Tryz.prog 91 #[.agg us.toArray] w fun e w' => e = .returned (.bool (blF x)) ∧ Below w.heap.size w w'
def EaS (l : List FNode) : Prop := ∀ (u : Value) (w : World) (B : Nat), B ≤ w.heap.size → RdC w B (.s 44 4 l.length (FNode.flat l)) u → Calls Tryz.prog 89 #[u, .int .i64 0] w fun e w' => e = .returned (.bool (l.all exF)) ∧ Below w.heap.size w w'
def UsS (use : Bool) (l : List FNode) : Prop := ∀ (u : Value) (w : World) (B : Nat), B ≤ w.heap.size → RdC w B (.s 44 4 l.length (FNode.flat l)) u → Calls Tryz.prog 55 #[u, .bool use] w fun e w' => e = .returned (.bool (usF use l)) ∧ Below w.heap.size w w'
theorem tgN_7 (n : Int) (t : ByteArray) (a b : FNode) : tgN (.mk 7 n t [a, b]) = tgN a := (tgN.eq_def _).trans (if_pos rfl)
theorem tgN_7n (n : Int) (t : ByteArray) (l : List FNode) (h : ¬ l.length = 2) : tgN (.mk 7 n t l) = false := by
 refine (tgN.eq_def _).trans ((if_pos rfl).trans ?_)
 exact zz127
theorem tg_spec (x : FNode) (hw : x.wt ≤ 9000000000) : SaB 90 x (tgN x) := by
 intro us w B hB0 hr
 obtain ⟨z0, z1, z2, z3⟩ := x
 obtain ⟨A3, c3, rfl, r3⟩ := hr.node
 have HR := hid r3
 have HW := hid hw
 clear hr r3 hw
 go_enter Tryz.func90, Tryz.ntmps90
 go_wp2_with fail
 go_loopg [] (szN ⟨z0, z1, z2, z3⟩) (fun k wr => ∃ (y0 y1 : Int) (y2 : ByteArray) (y3 : List FNode) (D : Option Addr) (d m : Nat), wr = w.alloc (.cells #[.int .i64 y0, .int .i64 y1, .string y2, .slice D m d] 44) ∧ Hid (tgN ⟨y0, y1, y2, y3⟩ = tgN ⟨z0, z1, z2, z3⟩) ∧ Hid (RdC w B (.s 44 4 m (FNode.flat y3)) (.slice D m d)) ∧ Hid (y3.length = m) ∧ Hid (FNode.wt ⟨y0, y1, y2, y3⟩ ≤ 9000000000) ∧ Hid (szN ⟨y0, y1, y2, y3⟩ ≤ k))
 case atStart => exact ⟨_, _, _, _, _, _, _, rfl, hid rfl, HR, hid rfl, HW, hid nr⟩
 case round =>
  obtain ⟨y0, y1, y2, y3, D, d, m, rfl, HT, HQ, HM, HV, HS⟩ := hrel
  have hy : m ≤ 9223372036854775807 := by have := HV.out; rw [FNode.wt_eq] at this; have := HM.out; omega
  have hb2 := hbA w y0 y1 y2 (.slice D m d)
  by_cases e7 : y0 = 7
  ·subst e7
   by_cases h2 : m = 2
   ·subst h2
    match y3, HM with
    | [⟨a0, a1, a2, a3⟩, q], HM =>
     have HQ2 : Hid (RdC w B (.s 44 4 [FNode.mk a0 a1 a2 a3, q].length (FNode.flat [FNode.mk a0 a1 a2 a3, q])) (.slice D [FNode.mk a0 a1 a2 a3, q].length d)) := HQ
     obtain ⟨bca, offca, Ea, hblca, hcc⟩ := RdC.at_ (l := [FNode.mk a0 a1 a2 a3, q]) FNode.len HQ2.out (i := 0) (x := FNode.mk a0 a1 a2 a3) rfl
     obtain ⟨Da, da, ca_0, ca_1, ca_2, ca_3, q3⟩ := opN hb2.out qaa hcc (offca) (offca + 1) (offca + 2) (offca + 3) qaa
     have Qa := hid q3
     clear hcc q3
     subst Ea
     clear HQ2
     go_wp2_with fail
     go_roundg (szN ⟨a0, a1, a2, a3⟩)
     case rel => exact ⟨_, _, _, _, _, _, _, rfl, hid (by rw [← HT.out, tgN_7]), Qa, hid rfl, hid (by have h1 := HV.out; rw [FNode.wt_eq] at h1; have h2 := FNode.wts_at [FNode.mk a0 a1 a2 a3, q] _ (List.mem_cons_self ..); omega), hid nr⟩
     case measure => exact Nat.lt_of_lt_of_le (szN_7 _ _ _ _ _) HS.out
   ·have HE := hid (tgN_7n y1 y2 y3 (by have := HM.out; omega))
    go_wp2_with fail
    go_ret
    exact ⟨ret_bool (by rw [← HT.out, HE.out]), hb2.out⟩
  ·have HE := hid (tgN_o e7 y1 y2 y3)
   exact zz73
theorem eaS_of (l : List FNode) (hl : l.length ≤ 1000000000) (hE : ∀ x, x ∈ l → ExS x) : EaS l := by
 intro u w B hB0 hr
 obtain ⟨A, c, rfl⟩ := hr.form
 have HC := hid hr
 have HE := hid hE
 have hn : l.length ≤ 9223372036854775807 := qaa
 clear hr hE
 go_enter Tryz.func89, Tryz.ntmps89
 go_wp2_with fail
 go_loopw [5] (fun i wr => ∃ k : Nat, k ≤ l.length ∧ i = .int .i64 k ∧ Hid ((l.take k).all exF = true) ∧ Below w.heap.size w wr) (fun i _ => l.length - (intOf i).toNat)
 case atStart => exact ⟨0, Nat.zero_le _, rfl, hid rfl, Below.refl _ _⟩
 case round =>
  obtain ⟨k, hk, rfl, HA, hb⟩ := hrel
  have hbs := hb.size
  by_cases hlt : k < l.length
  ·skip
   obtain ⟨x, hx⟩ : ∃ x, l[k]? = some x := ⟨_, List.getElem?_eq_getElem hlt⟩
   obtain ⟨bc, offc, rfl, hblc, hcc⟩ := RdC.at_ FNode.len HC.out hx
   have HX := hid hx
   have HM := hid (List.mem_of_getElem? hx)
   clear hx
   obtain ⟨y0, y1, y2, y3⟩ := x
   obtain ⟨D, d, c_0, c_1, c_2, c_3, q3⟩ := opN hb qaa hcc (offc + k * 4) (offc + k * 4 + 1) (offc + k * 4 + 2) (offc + k * 4 + 3) qaa
   have Q3 := hid q3
   clear hcc q3
   have HV := hid (HE.out _ HM.out)
   have CALL := hid (HV.out [.int .i64 y0, .int .i64 y1, .string y2, .slice D y3.length d] _ w.heap.size hb.size (ndV ((Q3.out.up hB0).below hb nr)))
   cases hv : exF ⟨y0, y1, y2, y3⟩ with
   | true =>
    have HT := hid hv
    rw [hv] at CALL
    clear hv
    go_wp2_with (go_at_call 88; refine CALL.out.mono ?_; rintro e w2 ⟨rfl, hb3⟩)
    go_roundw
    case rel => exact ⟨k + 1, by omega, by go_num, hid (all_on HX.out HA.out HT.out), hb.trans (hb3.mono hb.size)⟩
    case measure => simp [intOf]; omega
   | false =>
    have HT := hid hv
    rw [hv] at CALL
    clear hv
    go_wp2_with (go_at_call 88; refine CALL.out.mono ?_; rintro e w2 ⟨rfl, hb3⟩)
    go_ret
    exact ⟨ret_bool (all_f HX.out HT.out).symm, hb.trans (hb3.mono hb.size)⟩
  ·exact zz98
theorem boxk {w wr X : World} {v : Value} (h : Below wr.heap.size wr X) (hlt : w.heap.size < wr.heap.size) (hc : wr.cell? ⟨w.heap.size, 3, none⟩ = some v) : X.cell? ⟨w.heap.size, 3, none⟩ = some v ∧ w.heap.size < X.heap.size :=
 ⟨(h.cell (p := ⟨w.heap.size, 3, none⟩) hlt).trans hc, Nat.lt_of_lt_of_le hlt h.size⟩
theorem bkS_of (z0 z1 : Int) (z2 : ByteArray) (z3 : List FNode) (hw : (FNode.mk z0 z1 z2 z3).wt ≤ 9000000000) (hE : ∀ x, x ∈ z3 → StS x) : BkS ⟨z0, z1, z2, z3⟩ := by
 intro us w B hB0 hr
 obtain ⟨A3, c3, rfl, r3⟩ := hr.node
 rw [FNode.wt_eq] at hw
 have hz : z2.size ≤ 9223372036854775807 := qaa
 have hl : z3.length ≤ 9223372036854775807 := qaa
 have EX := hid (blF_mk z0 z1 z2 z3)
 have HC := hid r3
 have HE := hid hE
 clear hr r3 hw hE
 have HB := hbA w z0 z1 z2 (.slice A3 z3.length c3)
 by_cases h48 : z0 = 48
 ·subst h48
  by_cases h0 : z1 = 0
  ·subst h0
   by_cases ht : z2.toList = []
   ·have EX2 := hid (show blF ⟨48, 0, z2, z3⟩ = z3.all stF from by rw [EX.out, emT_t ht]; rfl)
    clear EX
    go_enter Tryz.func91, Tryz.ntmps91
    go_wp2_with fail
    go_loopw [3] (fun i wr => ∃ k : Nat, k ≤ z3.length ∧ i = .int .i64 k ∧ Hid ((z3.take k).all stF = true) ∧ Below w.heap.size w wr ∧ wr.cell? ⟨w.heap.size, 3, none⟩ = some (.slice A3 z3.length c3) ∧ w.heap.size < wr.heap.size) (fun i _ => z3.length - (intOf i).toNat)
    case atStart => exact ⟨0, Nat.zero_le _, rfl, hid rfl, HB.out, by rw [World.cell?_alloc_new]; rfl, by simp⟩
    case round =>
     obtain ⟨k, hk, rfl, HA, hb, hbox, hlt0⟩ := hrel
     have hbs := hb.size
     by_cases hlt : k < z3.length
     ·skip
      obtain ⟨x, hx⟩ : ∃ x, z3[k]? = some x := ⟨_, List.getElem?_eq_getElem hlt⟩
      obtain ⟨bc, offc, rfl, hblc, hcc⟩ := RdC.at_ FNode.len HC.out hx
      have HX := hid hx
      have HM := hid (List.mem_of_getElem? hx)
      clear hx
      obtain ⟨y0, y1, y2, y3⟩ := x
      obtain ⟨D, d, c_0, c_1, c_2, c_3, q3⟩ := opN hb qaa hcc (offc + k * 4) (offc + k * 4 + 1) (offc + k * 4 + 2) (offc + k * 4 + 3) qaa
      have Q3 := hid q3
      clear hcc q3
      have HV := hid (HE.out _ HM.out)
      have CALL := hid (HV.out [.int .i64 y0, .int .i64 y1, .string y2, .slice D y3.length d] _ w.heap.size hb.size (ndV ((Q3.out.up hB0).below hb nr)))
      cases hv : stF ⟨y0, y1, y2, y3⟩ with
      | true =>
       have HT := hid hv
       rw [hv] at CALL
       clear hv
       go_wp2_with (go_at_call 54; refine CALL.out.mono ?_; rintro e w2 ⟨rfl, hb3⟩)
       go_roundw
       case rel => exact ⟨k + 1, by omega, by go_num, hid (all_on HX.out HA.out HT.out), hb.trans (hb3.mono hb.size), boxk hb3 hlt0 hbox⟩
       case measure => simp [intOf]; omega
      | false =>
       have HT := hid hv
       rw [hv] at CALL
       clear hv
       go_wp2_with (go_at_call 54; refine CALL.out.mono ?_; rintro e w2 ⟨rfl, hb3⟩)
       go_ret
       exact ⟨ret_bool (by rw [EX2.out, all_f HX.out HT.out]), hb.trans (hb3.mono hb.size)⟩
     ·exact zz70
   ·rw [emT_f ht, Bool.false_and, Bool.and_false, Bool.and_false] at EX
    go_enter Tryz.func91, Tryz.ntmps91
    go_wp2_with fail
    all_goals first
     | (go_ret; exact ⟨ret_bool EX.out.symm, HB.out⟩)
     | contradiction
     | (exfalso; simp_all; done)
  ·rw [beq_false_of_ne h0, Bool.false_and, Bool.and_false] at EX
   go_enter Tryz.func91, Tryz.ntmps91
   exact zz105
 ·rw [beq_false_of_ne h48, Bool.false_and] at EX
  go_enter Tryz.func91, Tryz.ntmps91
  exact zz105
theorem usS_of (use : Bool) (l : List FNode) (hl : l.length ≤ 1000000000) (hW : ∀ x, x ∈ l → x.tx.size ≤ 9223372036854775807 ∧ x.kids.length ≤ 9000000000) (hS : ∀ x, x ∈ l → BkS x) : UsS use l := by
 intro u w B hB0 hr
 obtain ⟨A, c, rfl⟩ := hr.form
 by_cases hn : l = []
 ·subst hn
  clear hr hS
  go_enter Tryz.func55, Tryz.ntmps55
  go_wp2_with fail
  go_loopw [7, 5] (fun i s wr => i = .int .i64 0 ∧ s = .bool false ∧ wr = w) (fun i _ _ => 0)
  case atStart => exact ⟨rfl, rfl, rfl⟩
  case round =>
   obtain ⟨rfl, rfl, rfl⟩ := hrel
   go_wp2_with fail
   go_ret
   exact ⟨ret_bool (usF_nil use).symm, Below.refl _ _⟩
 ·obtain ⟨r, ⟨b0, b1, b2, b3⟩, rfl⟩ := snoc_of hn
  have HQ := hid (show usF use (r ++ [⟨b0, b1, b2, b3⟩]) = (prmF use false r && blF ⟨b0, b1, b2, b3⟩) from by rw [usF_snoc, Bool.and_comm])
  have HV := hid (hS ⟨b0, b1, b2, b3⟩ qag)
  obtain ⟨m, hm⟩ : ∃ m, r.length = m := ⟨_, rfl⟩
  have HX0 := hid (show (r ++ [FNode.mk b0 b1 b2 b3])[m]? = some ⟨b0, b1, b2, b3⟩ from by rw [← hm]; simp)
  have HC := hid hr
  rw [show (r ++ [FNode.mk b0 b1 b2 b3]).length = m + 1 from by simp [hm]] at hr hl ⊢
  have HW : Hid (∀ x, x ∈ r → x.tx.size ≤ 9223372036854775807 ∧ x.kids.length ≤ 9000000000) := hid (fun x hx => hW x (List.mem_append_left _ hx))
  clear hW
  have HLEN := hid hm
  obtain ⟨bc, offc, rfl, hblc, hcc⟩ := RdC.at_ FNode.len HC.out HX0.out
  clear hr hm hS hn
  rw [FNode.c_eq] at hcc
  obtain ⟨u0, e0, q0⟩ := hcc 0 _ rfl
  obtain rfl := q0.val
  obtain ⟨u1, e1, q1⟩ := hcc 1 _ rfl
  obtain rfl := q1.val
  obtain ⟨u2, e2, q2⟩ := hcc 2 _ rfl
  obtain rfl := q2.val
  obtain ⟨u3, e3, q3⟩ := hcc 3 _ rfl
  obtain ⟨D, d, rfl⟩ := q3.form
  have c_0 : w.cell? ⟨bc, offc + m * 4, none⟩ = some (.int .i64 b0) := by simpa using e0
  have c_1 : w.cell? ⟨bc, offc + m * 4 + 1, none⟩ = some (.int .i64 b1) := by simpa using e1
  have c_2 : w.cell? ⟨bc, offc + m * 4 + 2, none⟩ = some (.string b2) := by simpa using e2
  have c_3 : w.cell? ⟨bc, offc + m * 4 + 3, none⟩ = some (.slice D b3.length d) := by simpa using e3
  have Q3b := hid q3
  clear hcc e0 e1 e2 e3 q0 q1 q2 q3
  have hblw : bc < w.heap.size := Nat.lt_of_lt_of_le hblc hB0
  have CC := hid (And.intro c_0 (And.intro c_1 (And.intro c_2 c_3)))
  clear c_0 c_1 c_2 c_3
  go_enter Tryz.func55, Tryz.ntmps55
  go_wp2_with fail
  go_loopw [7, 5] (fun i s wr => ∃ (k : Nat) (seen : Bool), k ≤ m ∧ i = .int .i64 k ∧ s = .bool seen ∧ Hid (prmF use false r = prmF use seen (r.drop k)) ∧ Below w.heap.size w wr) (fun i _ _ => m - (intOf i).toNat)
  case atStart => exact ⟨0, false, Nat.zero_le _, rfl, rfl, hid rfl, Below.refl _ _⟩
  case round =>
   obtain ⟨k, seen, hk, rfl, rfl, HP0, hb⟩ := hrel
   have hbs := hb.size
   by_cases hlt : k < m
   ·have hlt2 : k < (r ++ [FNode.mk b0 b1 b2 b3]).length := by rw [List.length_append, HLEN.out]; exact Nat.lt_succ_of_lt hlt
    obtain ⟨x, hx⟩ : ∃ x, (r ++ [FNode.mk b0 b1 b2 b3])[k]? = some x := ⟨_, List.getElem?_eq_getElem hlt2⟩
    obtain ⟨bc2, offc2, EE, hblc2, hcc⟩ := RdC.at_ FNode.len HC.out hx
    obtain ⟨rfl, rfl⟩ : bc = bc2 ∧ offc = offc2 := by simpa using EE
    have HX := hid hx
    have HM := hid (List.mem_of_getElem? hx)
    clear hx
    obtain ⟨y0, y1, y2, y3⟩ := x
    obtain ⟨D2, d2, d_0, d_1, d_2, d_3, q3⟩ := opN hb qaa hcc (offc + k * 4) (offc + k * 4 + 1) (offc + k * 4 + 2) (offc + k * 4 + 3) qaa
    have Q3 := hid q3
    clear hcc q3
    have HXR : r[k]? = some ⟨y0, y1, y2, y3⟩ := by
     have h := HX.out
     rwa [List.getElem?_append_left (by rw [HLEN.out]; exact hlt)] at h
    obtain ⟨q, hq⟩ : ∃ q, y3.length = q := ⟨_, rfl⟩
    have HE : y3.isEmpty = (q == 0) := by rw [← hq]; cases y3 <;> rfl
    have HP := hid (show prmF use seen (r.drop k) = ((y0 == 24 && !seen || y0 == 25 && use) && (inB y1 0 1 && (goodF y2 && ((q == 0) && prmF use (seen || y0 == 25) (r.drop (k + 1)))))) from by rw [← HE]; exact prmF_at use seen r k _ HXR)
    rw [hq] at d_3
    have hqb : q ≤ 9000000000 := by have := (HW.out _ (List.mem_of_getElem? HXR)).2; simp only [FNode.kids] at this; omega
    have HZ : Hid (y2.size ≤ 9223372036854775807) := hid (HW.out _ (List.mem_of_getElem? HXR)).1
    clear HXR HE hq HX HM Q3
    by_cases e25 : y0 = 25
    ·subst e25
     cases use with
     | true =>
      have hb2 := hid (hb.alloc hbs (.cells #[.int .i64 25, .int .i64 y1, .string y2, .slice D2 q d2] 44))
      cases hin : inB y1 0 1 with
      | false =>
       have HIN := hid hin
       have HF := hid (show usF true (r ++ [⟨b0, b1, b2, b3⟩]) = false from by rw [HQ.out, HP0.out, HP.out, hin]; simp)
       exact zz197
      | true =>
       have HIN := hid hin
       cases hgy : goodF y2 with
       | false =>
        have HF := hid (show usF true (r ++ [⟨b0, b1, b2, b3⟩]) = false from by rw [HQ.out, HP0.out, HP.out, hgy]; simp)
        exact zz92
       | true =>
        by_cases hq0 : q = 0
        ·subst hq0
         have HN := hid (show prmF true false r = prmF true true (r.drop (k + 1)) from by rw [HP0.out, HP.out, hin, hgy]; simp)
         go_wp2_with (first | (go_at_call 51; refine (l1In_any _ _ _ _).mono ?_; rw [HIN.out]; rintro e w' ⟨rfl, rfl⟩) | (go_at_call 85; refine (GoS _ true HZ.out hgy _).mono ?_; rintro e w3 ⟨rfl, hb3⟩; have HB3 := hid (hb2.out.trans (hb3.mono hb2.out.size)); have bx_3 : w3.cell? ⟨wr.heap.size, 3, none⟩ = some (.slice D2 0 d2) := (hb3.cell (p := ⟨wr.heap.size, 3, none⟩) qav).trans (by rw [World.cell?_alloc_new]; rfl)))
         go_roundw
         case rel => exact ⟨k + 1, true, by omega, by go_num, rfl, HN, HB3.out⟩
         case measure => simp [intOf]; omega
        ·have HF := hid (show usF true (r ++ [⟨b0, b1, b2, b3⟩]) = false from by rw [HQ.out, HP0.out, HP.out]; simp [hq0])
         exact zz65
     | false =>
      have hb2 := hid (hb.alloc hbs (.cells #[.int .i64 25, .int .i64 y1, .string y2, .slice D2 q d2] 44))
      have HF := hid (show usF false (r ++ [⟨b0, b1, b2, b3⟩]) = false from by rw [HQ.out, HP0.out, HP.out]; simp)
      exact zz210
    ·by_cases e24 : y0 = 24
     ·subst e24
      cases seen with
      | false =>
       have hb2 := hid (hb.alloc hbs (.cells #[.int .i64 24, .int .i64 y1, .string y2, .slice D2 q d2] 44))
       cases hin : inB y1 0 1 with
       | false =>
        have HIN := hid hin
        have HF := hid (show usF use (r ++ [⟨b0, b1, b2, b3⟩]) = false from by rw [HQ.out, HP0.out, HP.out, hin]; simp)
        exact zz197
       | true =>
        have HIN := hid hin
        cases hgy : goodF y2 with
        | false =>
         have HF := hid (show usF use (r ++ [⟨b0, b1, b2, b3⟩]) = false from by rw [HQ.out, HP0.out, HP.out, hgy]; simp)
         exact zz92
        | true =>
         by_cases hq0 : q = 0
         ·subst hq0
          have HN := hid (show prmF use false r = prmF use false (r.drop (k + 1)) from by rw [HP0.out, HP.out, hin, hgy]; simp)
          go_wp2_with (first | (go_at_call 51; refine (l1In_any _ _ _ _).mono ?_; rw [HIN.out]; rintro e w' ⟨rfl, rfl⟩) | (go_at_call 85; refine (GoS _ true HZ.out hgy _).mono ?_; rintro e w3 ⟨rfl, hb3⟩; have HB3 := hid (hb2.out.trans (hb3.mono hb2.out.size)); have bx_3 : w3.cell? ⟨wr.heap.size, 3, none⟩ = some (.slice D2 0 d2) := (hb3.cell (p := ⟨wr.heap.size, 3, none⟩) qav).trans (by rw [World.cell?_alloc_new]; rfl)))
          go_roundw
          case rel => exact ⟨k + 1, false, by omega, by go_num, rfl, HN, HB3.out⟩
          case measure => simp [intOf]; omega
         ·have HF := hid (show usF use (r ++ [⟨b0, b1, b2, b3⟩]) = false from by rw [HQ.out, HP0.out, HP.out]; simp [hq0])
          exact zz65
      | true =>
       have hb2 := hid (hb.alloc hbs (.cells #[.int .i64 24, .int .i64 y1, .string y2, .slice D2 q d2] 44))
       have HF := hid (show usF use (r ++ [⟨b0, b1, b2, b3⟩]) = false from by rw [HQ.out, HP0.out, HP.out]; simp)
       exact zz210
     ·have hb2 := hid (hb.alloc hbs (.cells #[.int .i64 y0, .int .i64 y1, .string y2, .slice D2 q d2] 44))
      have HF := hid (show usF use (r ++ [⟨b0, b1, b2, b3⟩]) = false from by rw [HQ.out, HP0.out, HP.out, beq_false_of_ne e24, beq_false_of_ne e25]; simp)
      exact zz210
   ·obtain rfl : k = m := qaa
    clear hlt
    have h := HP0.out
    rw [List.drop_of_length_le (by rw [HLEN.out]; exact Nat.le_refl _)] at h
    have h2 : prmF use seen [] = true := by cases use <;> cases seen <;> rfl
    rw [h2] at h
    rw [h] at HQ
    have ⟨_, _, _, _⟩ := cell4 hb hblw CC.out.1 CC.out.2.1 CC.out.2.2.1 CC.out.2.2.2
    have CALL := hid (HV.out [.int .i64 b0, .int .i64 b1, .string b2, .slice D b3.length d] _ w.heap.size hbs (ndV ((Q3b.out.up hB0).below hb nr)))
    go_wp2_with (go_at_call 91; refine CALL.out.mono ?_; rintro e w2 ⟨rfl, hb3⟩)
    go_ret
    exact ⟨ret_bool (by rw [HQ.out, Bool.true_and]), hb.trans (hb3.mono hb.size)⟩
end Go.Proofs.YtkkjnfappndmpaaGreatDoor
