/-
 Parts of the proof: IsF, IsB. Conditions: none.
-/
import Derived.Test.YtkkjnfappndmpaaGreatDoorQFold
import Derived.Test.YtkkjnfappndmpaaGreatDoorQaa
import Derived.Test.YtkkjnfappndmpaaGreatDoorQag
set_option linter.unusedVariables false
set_option linter.unusedSimpArgs false
namespace Go.Proofs.YtkkjnfappndmpaaGreatDoor
set_option maxHeartbeats 40000000
open Lib (hid)
open Go.ChangeShapes Go.WideShapes Go.ChangeAt Go.RowKit Go.Deep Go.Joins
open Go.ChangeMaps (open_string shut_string)
set_option maxRecDepth 100000
def FuI (use : Bool) (l : List FNode) : Prop := ∀ (u : Value) (w : World) (B : Nat), MaxAt w → B ≤ w.heap.size → RdC w B (.s 44 4 l.length (FNode.flat l)) u → Calls Tryz.prog 105 #[u, .bool use] w fun e w' => e = .returned (.bool (usF use l)) ∧ Below w.heap.size w w'
theorem usF_nil (use : Bool) : usF use [] = false := rfl
theorem usF_snoc (use : Bool) (l : List FNode) (b : FNode) : usF use (l ++ [b]) = (blF b && prmF use false l) := by
 unfold usF
 rw [List.getLast?_concat, List.dropLast_concat]
theorem prmF_at (use seen : Bool) (l : List FNode) (k : Nat) (x : FNode) (h : l[k]? = some x) :
  prmF use seen (l.drop k) = ((x.kd == 24 && !seen || x.kd == 25 && use) && (inB x.nu 0 1 && (goodF x.tx && (x.kids.isEmpty && prmF use (seen || x.kd == 25) (l.drop (k + 1)))))) := by
 obtain ⟨hk, he⟩ := List.getElem?_eq_some_iff.1 h
 rw [List.drop_eq_getElem_cons hk, he, prmF]
theorem blF_no {k : Int} (h : ¬ k = 48) (n : Int) (t : ByteArray) (ks : List FNode) : blF (.mk k n t ks) = false := by
 rw [blF_mk, beq_false_of_ne h]
 rfl
theorem snoc_of {l : List FNode} (h : ¬ l = []) : ∃ r b, l = r ++ [b] := ⟨l.dropLast, l.getLast h, (List.dropLast_concat_getLast h).symm⟩
theorem fuI_of (use : Bool) (l : List FNode) (hl : l.length ≤ 1000000000) (hW : ∀ x, x ∈ l → x.tx.size ≤ 9223372036854775807) (hS : ∀ x, x ∈ l → StI x) : FuI use l := by
 intro u w B hmx hB0 hr
 obtain ⟨A, c, rfl⟩ := hr.form
 by_cases hn : l = []
 ·subst hn
  clear hr hS
  go_enter Tryz.func105, Tryz.ntmps105
  go_wp2_with fail
  go_ret
  exact ⟨ret_bool (usF_nil use).symm, Below.refl _ _⟩
 ·obtain ⟨r, ⟨b0, b1, b2, b3⟩, rfl⟩ := snoc_of hn
  have HQ := hid (usF_snoc use r ⟨b0, b1, b2, b3⟩)
  have HV := hid (hS ⟨b0, b1, b2, b3⟩ qag)
  obtain ⟨m, hm⟩ : ∃ m, r.length = m := ⟨_, rfl⟩
  have HX := hid (show (r ++ [FNode.mk b0 b1 b2 b3])[m]? = some ⟨b0, b1, b2, b3⟩ from by rw [← hm]; simp)
  have HC := hid hr
  rw [show (r ++ [FNode.mk b0 b1 b2 b3]).length = m + 1 from by simp [hm]] at hr hl ⊢
  have HR := hid hr
  have HW : Hid (∀ x, x ∈ r → x.tx.size ≤ 9223372036854775807) := hid (fun x hx => hW x (List.mem_append_left _ hx))
  clear hW
  have HLEN := hid hm
  obtain ⟨bc, offc, rfl, hblc, hcc⟩ := RdC.at_ FNode.len HC.out HX.out
  have hcap : m + 1 ≤ c := by
   exact zz202
  clear hr hm hS hn
  rw [FNode.c_eq] at hcc
  obtain ⟨u0, e0, q0⟩ := hcc 0 _ rfl
  obtain rfl := q0.val
  obtain ⟨u1, e1, q1⟩ := hcc 1 _ rfl
  obtain rfl := q1.val
  obtain ⟨u2, e2, q2⟩ := hcc 2 _ rfl
  obtain rfl := q2.val
  obtain ⟨u3, e3, q3⟩ := hcc 3 _ rfl
  obtain ⟨D, d, rfl⟩ := q3.form
  have c_0 : w.cell? ⟨bc, offc + m * 4, none⟩ = some (.int .i64 b0) := by simpa using e0
  have c_1 : w.cell? ⟨bc, offc + m * 4 + 1, none⟩ = some (.int .i64 b1) := by simpa using e1
  have c_2 : w.cell? ⟨bc, offc + m * 4 + 2, none⟩ = some (.string b2) := by simpa using e2
  have c_3 : w.cell? ⟨bc, offc + m * 4 + 3, none⟩ = some (.slice D b3.length d) := by simpa using e3
  have Q3 := hid q3
  clear hcc e0 e1 e2 e3 q0 q1 q2 q3
  have CALL := hid (HV.out [.int .i64 b0, .int .i64 b1, .string b2, .slice D b3.length d] w B hmx hB0 (ndV Q3.out))
  by_cases e48 : b0 = 48
  ·subst e48
   rw [blF_48] at CALL
   cases hv : blF ⟨48, b1, b2, b3⟩ with
   | false =>
    rw [hv] at CALL HQ
    go_enter Tryz.func105, Tryz.ntmps105
    go_wp2_with (go_at_call 70; refine CALL.out.mono ?_; rintro e w2 ⟨rfl, hb3⟩)
    go_ret
    exact ⟨ret_bool HQ.out.symm, hb3⟩
   | true =>
    rw [hv] at CALL HQ
    go_enter Tryz.func105, Tryz.ntmps105
    go_wp2_with (go_at_call 70; refine CALL.out.mono ?_; rintro e w2 ⟨rfl, hb3⟩)
    go_loopw [34, 6] (fun i s wr => ∃ (k : Nat) (seen : Bool), k ≤ m ∧ i = .int .i64 k ∧ s = .bool seen ∧ Hid (prmF use false r = prmF use seen (r.drop k)) ∧ Below w.heap.size w wr) (fun i _ _ => m - (intOf i).toNat)
    case atStart => exact ⟨0, false, Nat.zero_le _, rfl, rfl, hid rfl, hb3⟩
    case round =>
     obtain ⟨k, seen, hk, rfl, rfl, HP0, hb⟩ := hrel
     have hbs := hb.size
     by_cases hlt : k < m
     ·have hlt2 : k < (r ++ [FNode.mk 48 b1 b2 b3]).length := by rw [List.length_append, HLEN.out]; exact Nat.lt_succ_of_lt hlt
      obtain ⟨x, hx⟩ : ∃ x, (r ++ [FNode.mk 48 b1 b2 b3])[k]? = some x := ⟨_, List.getElem?_eq_getElem hlt2⟩
      obtain ⟨bc2, offc2, EE, hblc2, hcc⟩ := RdC.at_ FNode.len HC.out hx
      obtain ⟨rfl, rfl⟩ : bc = bc2 ∧ offc = offc2 := by simpa using EE
      have HX := hid hx
      have HM := hid (List.mem_of_getElem? hx)
      clear hx
      obtain ⟨y0, y1, y2, y3⟩ := x
      obtain ⟨D2, d2, d_0, d_1, d_2, d_3, q3⟩ := opN hb qaa hcc (offc + k * 4) (offc + k * 4 + 1) (offc + k * 4 + 2) (offc + k * 4 + 3) qaa
      have Q3 := hid q3
      clear hcc q3
      have HXR : r[k]? = some ⟨y0, y1, y2, y3⟩ := by
       have h := HX.out
       rwa [List.getElem?_append_left (by rw [HLEN.out]; exact hlt)] at h
      obtain ⟨q, hq⟩ : ∃ q, y3.length = q := ⟨_, rfl⟩
      have HE : y3.isEmpty = (q == 0) := by rw [← hq]; cases y3 <;> rfl
      have HP := hid (show prmF use seen (r.drop k) = ((y0 == 24 && !seen || y0 == 25 && use) && (inB y1 0 1 && (goodF y2 && ((q == 0) && prmF use (seen || y0 == 25) (r.drop (k + 1)))))) from by rw [← HE]; exact prmF_at use seen r k _ HXR)
      rw [hq] at d_3
      have HZ : Hid (y2.size ≤ 9223372036854775807) := hid (HW.out _ (List.mem_of_getElem? HXR))
      clear HXR HE hq HX HM Q3
      by_cases e25 : y0 = 25
      ·subst e25
       cases use with
       | true =>
        have hb2 := hid (hb.alloc hbs (.cells #[.int .i64 25, .int .i64 y1, .string y2, .slice D2 q d2] 44))
        go_wp2_with (first | (go_at_call 67; refine zkp (inRange_any _ _ _ _) ?_) | (go_at_call 104; refine zkp (good_impl _ _ HZ.out) ?_))
        all_goals first
         | (go_ret; exact ⟨ret_bool (by rw [HQ.out, HP0.out, HP.out]; first | (simp_all; done) | (simp_all; intro hq0; omega)), hb2.out⟩)
         | (go_roundw
            case rel => exact ⟨k + 1, true, by omega, by go_num, rfl, hid (HP0.out.trans (HP.out.trans (by simp_all))), hb2.out⟩
            case measure => simp [intOf]; omega)
       | false =>
        have hb2 := hid (hb.alloc hbs (.cells #[.int .i64 25, .int .i64 y1, .string y2, .slice D2 q d2] 44))
        exact zz146
      ·by_cases e24 : y0 = 24
       ·subst e24
        have hb2 := hid (hb.alloc hbs (.cells #[.int .i64 24, .int .i64 y1, .string y2, .slice D2 q d2] 44))
        cases seen with
        | false =>
         go_wp2_with (first | (go_at_call 67; refine zkp (inRange_any _ _ _ _) ?_) | (go_at_call 104; refine zkp (good_impl _ _ HZ.out) ?_))
         all_goals first
          | (go_ret; exact ⟨ret_bool (by rw [HQ.out, HP0.out, HP.out]; first | (simp_all; done) | (simp_all; intro hq0; omega)), hb2.out⟩)
          | (go_roundw
             case rel => exact ⟨k + 1, false, by omega, by go_num, rfl, hid (HP0.out.trans (HP.out.trans (by simp_all))), hb2.out⟩
             case measure => simp [intOf]; omega)
        | true =>
         exact zz146
       ·have hb2 := hid (hb.alloc hbs (.cells #[.int .i64 y0, .int .i64 y1, .string y2, .slice D2 q d2] 44))
        have f1 := beq_false_of_ne e24
        have f2 := beq_false_of_ne e25
        go_wp2_with fail
        go_ret
        exact ⟨ret_bool (by rw [HQ.out, HP0.out, HP.out, f1, f2]; simp), hb2.out⟩
     ·obtain rfl : k = m := qaa
      clear hlt
      have h := HP0.out
      rw [List.drop_of_length_le (by rw [HLEN.out]; exact Nat.le_refl _)] at h
      have h2 : prmF use seen [] = true := by cases use <;> cases seen <;> rfl
      rw [h2] at h
      rw [h] at HQ
      go_wp2_with fail
      go_ret
      exact ⟨ret_bool HQ.out.symm, hb⟩
  ·have hv := blF_no e48 b1 b2 b3
   rw [hv] at HQ
   go_enter Tryz.func105, Tryz.ntmps105
   go_wp2_with fail
   go_ret
   exact ⟨ret_bool HQ.out.symm, Below.refl _ _⟩
def BlI (l : List FNode) : Prop := ∀ (u : Value) (w : World) (B : Nat), MaxAt w → B ≤ w.heap.size → RdC w B (.s 44 4 l.length (FNode.flat l)) u → Calls Tryz.prog 108 #[u] w fun e w' => e = .returned (.bool (l.all blF)) ∧ Below w.heap.size w w'
theorem blI_of (l : List FNode) (hl : l.length ≤ 1000000000) (hE : ∀ x, x ∈ l → StI x) : BlI l := by
 intro u w B hmx hB0 hr
 obtain ⟨A, c, rfl⟩ := hr.form
 have HC := hid hr
 have HE := hid hE
 have hn : l.length ≤ 9223372036854775807 := qaa
 clear hr hE
 go_enter Tryz.func108, Tryz.ntmps108
 go_wp2_with fail
 go_loopw [7] (fun i wr => ∃ k : Nat, k ≤ l.length ∧ i = .int .i64 k ∧ Hid ((l.take k).all blF = true) ∧ Below w.heap.size w wr) (fun i _ => l.length - (intOf i).toNat)
 case atStart => exact ⟨0, Nat.zero_le _, rfl, hid rfl, Below.refl _ _⟩
 case round =>
  obtain ⟨k, hk, rfl, HA, hb⟩ := hrel
  have hbs := hb.size
  by_cases hlt : k < l.length
  ·skip
   obtain ⟨x, hx⟩ : ∃ x, l[k]? = some x := ⟨_, List.getElem?_eq_getElem hlt⟩
   obtain ⟨bc, offc, rfl, hblc, hcc⟩ := RdC.at_ FNode.len HC.out hx
   have HX := hid hx
   have HM := hid (List.mem_of_getElem? hx)
   clear hx
   obtain ⟨y0, y1, y2, y3⟩ := x
   obtain ⟨D, d, c_0, c_1, c_2, c_3, q3⟩ := opN hb qaa hcc (offc + k * 4) (offc + k * 4 + 1) (offc + k * 4 + 2) (offc + k * 4 + 3) qaa
   have Q3 := hid q3
   clear hcc q3
   have HV := hid (HE.out _ HM.out)
   have hb2 := hb.alloc hbs (.cells #[.int .i64 y0, .int .i64 y1, .string y2, .slice D y3.length d] 44)
   have CALL := hid (HV.out [.int .i64 y0, .int .i64 y1, .string y2, .slice D y3.length d] _ w.heap.size (hmx.below hb2) hb2.size (ndV ((Q3.out.up hB0).below hb2 nr)))
   by_cases e48 : y0 = 48
   ·subst e48
    rw [blF_48] at CALL
    cases hv : blF ⟨48, y1, y2, y3⟩ with
    | true =>
     exact zz88
    | false =>
     have HT := hid hv
     rw [hv] at CALL
     clear hv
     go_wp2_with (go_at_call 70; refine CALL.out.mono ?_; rintro e w2 ⟨rfl, hb3⟩)
     go_ret
     exact ⟨ret_bool (all_f HX.out HT.out).symm, hb2.trans (hb3.mono hb2.size)⟩
   ·have HT := hid (blF_no e48 y1 y2 y3)
    go_wp2_with fail
    go_ret
    exact ⟨ret_bool (all_f HX.out HT.out).symm, hb2⟩
  ·exact zz98
end Go.Proofs.YtkkjnfappndmpaaGreatDoor
