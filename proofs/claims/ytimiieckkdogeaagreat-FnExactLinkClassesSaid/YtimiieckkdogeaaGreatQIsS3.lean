/-
  Parts of the proof: IsS3. Conditions: none.
-/
import Derived.Test.YtimiieckkdogeaaGreatQGBaseNd
import Derived.Test.YtimiieckkdogeaaGreatQGIsS1IsS2
import Derived.Deep.LoopGhost
import Derived.Test.YtimiieckkdogeaaGreatQIsT
import Derived.Test.YtimiieckkdogeaaGreatQGIsFIsB
import Derived.Test.YtimiieckkdogeaaGreatQGIsK2IsK4
set_option linter.unusedVariables false
set_option linter.unusedSimpArgs false
namespace Go.Proofs.YtimiieckkdogeaaGreat
set_option maxHeartbeats 40000000
open Lib (hid)
open Go.ChangeShapes Go.WideShapes Go.ChangeAt Go.RowKit Go.Deep Go.Joins
open Go.ChangeMaps (open_string shut_string)
set_option maxRecDepth 100000
def ExS (x : FNode) : Prop := ∀ (us : List Value) (w : World) (B : Nat), B ≤ w.heap.size → RdVs w B x.c us → Calls Tryz.prog 76 #[.agg us.toArray] w fun e w' => e = .returned (.bool (exF x)) ∧ Below w.heap.size w w'
def StS (x : FNode) : Prop := ∀ (us : List Value) (w : World) (B : Nat), B ≤ w.heap.size → RdVs w B x.c us → Calls Tryz.prog 44 #[.agg us.toArray] w fun e w' => e = .returned (.bool (stF x)) ∧ Below w.heap.size w w'
def BkS (x : FNode) : Prop := ∀ (us : List Value) (w : World) (B : Nat), B ≤ w.heap.size → RdVs w B x.c us → Calls Tryz.prog 79 #[.agg us.toArray] w fun e w' => e = .returned (.bool (blF x)) ∧ Below w.heap.size w w'
def EaS (l : List FNode) : Prop := ∀ (u : Value) (w : World) (B : Nat), B ≤ w.heap.size → RdC w B (.s 61 4 l.length (FNode.flat l)) u → Calls Tryz.prog 77 #[u, .int .i64 0] w fun e w' => e = .returned (.bool (l.all exF)) ∧ Below w.heap.size w w'
def UsS (use : Bool) (l : List FNode) : Prop := ∀ (u : Value) (w : World) (B : Nat), B ≤ w.heap.size → RdC w B (.s 61 4 l.length (FNode.flat l)) u → Calls Tryz.prog 45 #[u, .bool use] w fun e w' => e = .returned (.bool (usF use l)) ∧ Below w.heap.size w w'
theorem tgN_7 (n : Int) (t : ByteArray) (a b : FNode) : tgN (.mk 7 n t [a, b]) = tgN a := (tgN.eq_def _).trans (if_pos rfl)
theorem tgN_7n (n : Int) (t : ByteArray) (l : List FNode) (h : ¬ l.length = 2) : tgN (.mk 7 n t l) = false := by
  refine (tgN.eq_def _).trans ((if_pos rfl).trans ?_)
  match l, h with
  | [], _ => rfl
  | [_], _ => rfl
  | [_, _], h => simp at h
  | _ :: _ :: _ :: _, _ => rfl
theorem tg_spec (x : FNode) (hw : x.wt ≤ 9000000000) : SaB 78 x (tgN x) := by
  intro us w B hB0 hr
  obtain ⟨z0, z1, z2, z3⟩ := x
  obtain ⟨A3, c3, rfl, r3⟩ := hr.node
  have HR := hid r3
  have HW := hid hw
  clear hr r3 hw
  go_enter Tryz.func78, Tryz.ntmps78
  go_wp2_with fail
  go_loopg [] (szN ⟨z0, z1, z2, z3⟩) (fun k wr => ∃ (y0 y1 : Int) (y2 : ByteArray) (y3 : List FNode) (D : Option Addr) (d m : Nat), wr = w.alloc (.cells #[.int .i64 y0, .int .i64 y1, .string y2, .slice D m d] 61) ∧ Hid (tgN ⟨y0, y1, y2, y3⟩ = tgN ⟨z0, z1, z2, z3⟩) ∧ Hid (RdC w B (.s 61 4 m (FNode.flat y3)) (.slice D m d)) ∧ Hid (y3.length = m) ∧ Hid (FNode.wt ⟨y0, y1, y2, y3⟩ ≤ 9000000000) ∧ Hid (szN ⟨y0, y1, y2, y3⟩ ≤ k))
  case atStart => exact ⟨_, _, _, _, _, _, _, rfl, hid rfl, HR, hid rfl, HW, hid (Nat.le_refl _)⟩
  case round =>
    obtain ⟨y0, y1, y2, y3, D, d, m, rfl, HT, HQ, HM, HV, HS⟩ := hrel
    have hy : m ≤ 9223372036854775807 := by have := HV.out; rw [FNode.wt_eq] at this; have := HM.out; omega
    have hb2 := hbA w y0 y1 y2 (.slice D m d)
    by_cases e7 : y0 = 7
    · subst e7
      by_cases h2 : m = 2
      · subst h2
        match y3, HM with
        | [⟨a0, a1, a2, a3⟩, q], HM =>
          have HQ2 : Hid (RdC w B (.s 61 4 [FNode.mk a0 a1 a2 a3, q].length (FNode.flat [FNode.mk a0 a1 a2 a3, q])) (.slice D [FNode.mk a0 a1 a2 a3, q].length d)) := HQ
          obtain ⟨bca, offca, Ea, hblca, hcc⟩ := RdC.at_ (l := [FNode.mk a0 a1 a2 a3, q]) FNode.len HQ2.out (i := 0) (x := FNode.mk a0 a1 a2 a3) rfl
          obtain ⟨Da, da, ca_0, ca_1, ca_2, ca_3, q3⟩ := opN hb2.out (by omega) hcc (offca) (offca + 1) (offca + 2) (offca + 3) (by omega)
          have Qa := hid q3
          clear hcc q3
          subst Ea
          clear HQ2
          go_wp2_with fail
          go_roundg (szN ⟨a0, a1, a2, a3⟩)
          case rel => exact ⟨_, _, _, _, _, _, _, rfl, hid (by rw [← HT.out, tgN_7]), Qa, hid rfl, hid (by have h1 := HV.out; rw [FNode.wt_eq] at h1; have h2 := FNode.wts_at [FNode.mk a0 a1 a2 a3, q] _ (List.mem_cons_self ..); omega), hid (Nat.le_refl _)⟩
          case measure => exact Nat.lt_of_lt_of_le (szN_7 _ _ _ _ _) HS.out
      · have HE := hid (tgN_7n y1 y2 y3 (by have := HM.out; omega))
        go_wp2_with fail
        go_ret
        exact ⟨ret_bool (by rw [← HT.out, HE.out]), hb2.out⟩
    · have HE := hid (tgN_o e7 y1 y2 y3)
      by_cases e4 : y0 = 4
      · subst e4
        go_wp2_with fail
        go_ret
        exact ⟨ret_bool (by rw [← HT.out, HE.out]; rfl), hb2.out⟩
      · by_cases e8 : y0 = 8
        · subst e8
          go_wp2_with fail
          go_ret
          exact ⟨ret_bool (by rw [← HT.out, HE.out]; rfl), hb2.out⟩
        · go_wp2_with fail
          go_ret
          exact ⟨ret_bool (by rw [← HT.out, HE.out, beq_false_of_ne e4, beq_false_of_ne e8]), hb2.out⟩
theorem eaS_of (l : List FNode) (hl : l.length ≤ 1000000000) (hE : ∀ x, x ∈ l → ExS x) : EaS l := by
  intro u w B hB0 hr
  obtain ⟨A, c, rfl⟩ := hr.form
  have HC := hid hr
  have HE := hid hE
  have hn : l.length ≤ 9223372036854775807 := by omega
  clear hr hE
  go_enter Tryz.func77, Tryz.ntmps77
  go_wp2_with fail
  go_loopw [5] (fun i wr => ∃ k : Nat, k ≤ l.length ∧ i = .int .i64 k ∧ Hid ((l.take k).all exF = true) ∧ Below w.heap.size w wr) (fun i _ => l.length - (intOf i).toNat)
  case atStart => exact ⟨0, Nat.zero_le _, rfl, hid rfl, Below.refl _ _⟩
  case round =>
    obtain ⟨k, hk, rfl, HA, hb⟩ := hrel
    have hbs := hb.size
    by_cases hlt : k < l.length
    · skip
      obtain ⟨x, hx⟩ : ∃ x, l[k]? = some x := ⟨_, List.getElem?_eq_getElem hlt⟩
      obtain ⟨bc, offc, rfl, hblc, hcc⟩ := RdC.at_ FNode.len HC.out hx
      have HX := hid hx
      have HM := hid (List.mem_of_getElem? hx)
      clear hx
      obtain ⟨y0, y1, y2, y3⟩ := x
      obtain ⟨D, d, c_0, c_1, c_2, c_3, q3⟩ := opN hb (by omega) hcc (offc + k * 4) (offc + k * 4 + 1) (offc + k * 4 + 2) (offc + k * 4 + 3) (by omega)
      have Q3 := hid q3
      clear hcc q3
      have HV := hid (HE.out _ HM.out)
      have CALL := hid (HV.out [.int .i64 y0, .int .i64 y1, .string y2, .slice D y3.length d] _ w.heap.size hb.size (ndV ((Q3.out.up hB0).below hb (Nat.le_refl _))))
      cases hv : exF ⟨y0, y1, y2, y3⟩ with
      | true =>
        have HT := hid hv
        rw [hv] at CALL
        clear hv
        go_wp2_with (go_at_call 76; refine CALL.out.mono ?_; rintro e w2 ⟨rfl, hb3⟩)
        go_roundw
        case rel => exact ⟨k + 1, by omega, by go_num, hid (all_on HX.out HA.out HT.out), hb.trans (hb3.mono hb.size)⟩
        case measure => simp [intOf]; omega
      | false =>
        have HT := hid hv
        rw [hv] at CALL
        clear hv
        go_wp2_with (go_at_call 76; refine CALL.out.mono ?_; rintro e w2 ⟨rfl, hb3⟩)
        go_ret
        exact ⟨ret_bool (all_f HX.out HT.out).symm, hb.trans (hb3.mono hb.size)⟩
    · obtain rfl : k = l.length := by omega
      clear hlt
      go_wp2_with fail
      go_ret
      have h := HA.out
      rw [List.take_length] at h
      exact ⟨ret_bool h.symm, hb⟩
theorem boxk {w wr X : World} {v : Value} (h : Below wr.heap.size wr X) (hlt : w.heap.size < wr.heap.size) (hc : wr.cell? ⟨w.heap.size, 3, none⟩ = some v) : X.cell? ⟨w.heap.size, 3, none⟩ = some v ∧ w.heap.size < X.heap.size :=
  ⟨(h.cell (p := ⟨w.heap.size, 3, none⟩) hlt).trans hc, Nat.lt_of_lt_of_le hlt h.size⟩
theorem bkS_of (z0 z1 : Int) (z2 : ByteArray) (z3 : List FNode) (hw : (FNode.mk z0 z1 z2 z3).wt ≤ 9000000000) (hE : ∀ x, x ∈ z3 → StS x) : BkS ⟨z0, z1, z2, z3⟩ := by
  intro us w B hB0 hr
  obtain ⟨A3, c3, rfl, r3⟩ := hr.node
  rw [FNode.wt_eq] at hw
  have hz : z2.size ≤ 9223372036854775807 := by omega
  have hl : z3.length ≤ 9223372036854775807 := by omega
  have EX := hid (blF_mk z0 z1 z2 z3)
  have HC := hid r3
  have HE := hid hE
  clear hr r3 hw hE
  have HB := hbA w z0 z1 z2 (.slice A3 z3.length c3)
  by_cases h48 : z0 = 48
  · subst h48
    by_cases h0 : z1 = 0
    · subst h0
      by_cases ht : z2.toList = []
      · have EX2 := hid (show blF ⟨48, 0, z2, z3⟩ = z3.all stF from by rw [EX.out, emT_t ht]; rfl)
        clear EX
        go_enter Tryz.func79, Tryz.ntmps79
        go_wp2_with fail
        go_loopw [3] (fun i wr => ∃ k : Nat, k ≤ z3.length ∧ i = .int .i64 k ∧ Hid ((z3.take k).all stF = true) ∧ Below w.heap.size w wr ∧ wr.cell? ⟨w.heap.size, 3, none⟩ = some (.slice A3 z3.length c3) ∧ w.heap.size < wr.heap.size) (fun i _ => z3.length - (intOf i).toNat)
        case atStart => exact ⟨0, Nat.zero_le _, rfl, hid rfl, HB.out, by rw [World.cell?_alloc_new]; rfl, by simp⟩
        case round =>
          obtain ⟨k, hk, rfl, HA, hb, hbox, hlt0⟩ := hrel
          have hbs := hb.size
          by_cases hlt : k < z3.length
          · skip
            obtain ⟨x, hx⟩ : ∃ x, z3[k]? = some x := ⟨_, List.getElem?_eq_getElem hlt⟩
            obtain ⟨bc, offc, rfl, hblc, hcc⟩ := RdC.at_ FNode.len HC.out hx
            have HX := hid hx
            have HM := hid (List.mem_of_getElem? hx)
            clear hx
            obtain ⟨y0, y1, y2, y3⟩ := x
            obtain ⟨D, d, c_0, c_1, c_2, c_3, q3⟩ := opN hb (by omega) hcc (offc + k * 4) (offc + k * 4 + 1) (offc + k * 4 + 2) (offc + k * 4 + 3) (by omega)
            have Q3 := hid q3
            clear hcc q3
            have HV := hid (HE.out _ HM.out)
            have CALL := hid (HV.out [.int .i64 y0, .int .i64 y1, .string y2, .slice D y3.length d] _ w.heap.size hb.size (ndV ((Q3.out.up hB0).below hb (Nat.le_refl _))))
            cases hv : stF ⟨y0, y1, y2, y3⟩ with
            | true =>
              have HT := hid hv
              rw [hv] at CALL
              clear hv
              go_wp2_with (go_at_call 44; refine CALL.out.mono ?_; rintro e w2 ⟨rfl, hb3⟩)
              go_roundw
              case rel => exact ⟨k + 1, by omega, by go_num, hid (all_on HX.out HA.out HT.out), hb.trans (hb3.mono hb.size), boxk hb3 hlt0 hbox⟩
              case measure => simp [intOf]; omega
            | false =>
              have HT := hid hv
              rw [hv] at CALL
              clear hv
              go_wp2_with (go_at_call 44; refine CALL.out.mono ?_; rintro e w2 ⟨rfl, hb3⟩)
              go_ret
              exact ⟨ret_bool (by rw [EX2.out, all_f HX.out HT.out]), hb.trans (hb3.mono hb.size)⟩
          · obtain rfl : k = z3.length := by omega
            clear hlt
            have h := HA.out
            rw [List.take_length] at h
            rw [h] at EX2
            go_wp2_with fail
            go_ret
            exact ⟨ret_bool EX2.out.symm, hb⟩
      · rw [emT_f ht, Bool.false_and, Bool.and_false, Bool.and_false] at EX
        go_enter Tryz.func79, Tryz.ntmps79
        go_wp2_with fail
        all_goals first
          | (go_ret; exact ⟨ret_bool EX.out.symm, HB.out⟩)
          | contradiction
          | (exfalso; simp_all; done)
    · rw [beq_false_of_ne h0, Bool.false_and, Bool.and_false] at EX
      go_enter Tryz.func79, Tryz.ntmps79
      go_wp2_with fail
      all_goals (go_ret; exact ⟨ret_bool EX.out.symm, HB.out⟩)
  · rw [beq_false_of_ne h48, Bool.false_and] at EX
    go_enter Tryz.func79, Tryz.ntmps79
    go_wp2_with fail
    all_goals (go_ret; exact ⟨ret_bool EX.out.symm, HB.out⟩)
end Go.Proofs.YtimiieckkdogeaaGreat
