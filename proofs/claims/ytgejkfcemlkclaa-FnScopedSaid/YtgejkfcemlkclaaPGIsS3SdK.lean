/-
  Parts of the proof: IsS3, SdK. Conditions: none.
-/
import Derived.Test.YtgejkfcemlkclaaPGBaseNd
import Derived.Test.YtgejkfcemlkclaaPGIsS1IsS2
import Derived.Deep.LoopGhost
import Derived.Test.YtgejkfcemlkclaaPGIsTSdP
import Derived.Test.YtgejkfcemlkclaaPGIsFIsB
import Derived.Test.YtgejkfcemlkclaaPGIsK2IsK4
import Derived.Test.YtgejkfcemlkclaaPGSeenIsK6
set_option linter.unusedVariables false
set_option linter.unusedSimpArgs false
namespace Go.Proofs.Ytgejkfcemlkclaa
set_option maxHeartbeats 40000000
open Lib (hid)
open Go.ChangeShapes Go.WideShapes Go.ChangeAt Go.RowKit Go.Deep Go.Joins
open Go.ChangeMaps (open_string shut_string)
set_option maxRecDepth 100000
def ExS (x : FNode) : Prop := ∀ (us : List Value) (w : World) (B : Nat), B ≤ w.heap.size → RdVs w B x.c us → Calls Try.prog 68 #[.agg us.toArray] w fun e w' => e = .returned (.bool (exF x)) ∧ Below w.heap.size w w'
def StS (x : FNode) : Prop := ∀ (us : List Value) (w : World) (B : Nat), B ≤ w.heap.size → RdVs w B x.c us → Calls Try.prog 37 #[.agg us.toArray] w fun e w' => e = .returned (.bool (stF x)) ∧ Below w.heap.size w w'
def BkS (x : FNode) : Prop := ∀ (us : List Value) (w : World) (B : Nat), B ≤ w.heap.size → RdVs w B x.c us → Calls Try.prog 71 #[.agg us.toArray] w fun e w' => e = .returned (.bool (blF x)) ∧ Below w.heap.size w w'
def EaS (l : List FNode) : Prop := ∀ (u : Value) (w : World) (B : Nat), B ≤ w.heap.size → RdC w B (.s 29 4 l.length (FNode.flat l)) u → Calls Try.prog 69 #[u, .int .i64 0] w fun e w' => e = .returned (.bool (l.all exF)) ∧ Below w.heap.size w w'
def UsS (use : Bool) (l : List FNode) : Prop := ∀ (u : Value) (w : World) (B : Nat), B ≤ w.heap.size → RdC w B (.s 29 4 l.length (FNode.flat l)) u → Calls Try.prog 38 #[u, .bool use] w fun e w' => e = .returned (.bool (usF use l)) ∧ Below w.heap.size w w'
theorem tgN_7 (n : Int) (t : ByteArray) (a b : FNode) : tgN (.mk 7 n t [a, b]) = tgN a := (tgN.eq_def _).trans (if_pos rfl)
theorem tgN_7n (n : Int) (t : ByteArray) (l : List FNode) (h : ¬ l.length = 2) : tgN (.mk 7 n t l) = false := by
  refine (tgN.eq_def _).trans ((if_pos rfl).trans ?_)
  match l, h with
  | [], _ => rfl
  | [_], _ => rfl
  | [_, _], h => simp at h
  | _ :: _ :: _ :: _, _ => rfl
theorem tg_spec (x : FNode) (hw : x.wt ≤ 9000000000) : SaB 70 x (tgN x) := by
  intro us w B hB0 hr
  obtain ⟨z0, z1, z2, z3⟩ := x
  obtain ⟨A3, c3, rfl, r3⟩ := hr.node
  have HR := hid r3
  have HW := hid hw
  clear hr r3 hw
  go_enter Try.func70, Try.ntmps70
  go_wp2_with fail
  go_loopg [] (szN ⟨z0, z1, z2, z3⟩) (fun k wr => ∃ (y0 y1 : Int) (y2 : ByteArray) (y3 : List FNode) (D : Option Addr) (d m : Nat), wr = w.alloc (.cells #[.int .i64 y0, .int .i64 y1, .string y2, .slice D m d] 29) ∧ Hid (tgN ⟨y0, y1, y2, y3⟩ = tgN ⟨z0, z1, z2, z3⟩) ∧ Hid (RdC w B (.s 29 4 m (FNode.flat y3)) (.slice D m d)) ∧ Hid (y3.length = m) ∧ Hid (FNode.wt ⟨y0, y1, y2, y3⟩ ≤ 9000000000) ∧ Hid (szN ⟨y0, y1, y2, y3⟩ ≤ k))
  case atStart => exact ⟨_, _, _, _, _, _, _, rfl, hid rfl, HR, hid rfl, HW, hid (Nat.le_refl _)⟩
  case round =>
    obtain ⟨y0, y1, y2, y3, D, d, m, rfl, HT, HQ, HM, HV, HS⟩ := hrel
    have hy : m ≤ 9223372036854775807 := by have := HV.out; rw [FNode.wt_eq] at this; have := HM.out; omega
    have hb2 := hbA w y0 y1 y2 (.slice D m d)
    by_cases e7 : y0 = 7
    · subst e7
      by_cases h2 : m = 2
      · subst h2
        match y3, HM with
        | [⟨a0, a1, a2, a3⟩, q], HM =>
          have HQ2 : Hid (RdC w B (.s 29 4 [FNode.mk a0 a1 a2 a3, q].length (FNode.flat [FNode.mk a0 a1 a2 a3, q])) (.slice D [FNode.mk a0 a1 a2 a3, q].length d)) := HQ
          obtain ⟨bca, offca, Ea, hblca, hcc⟩ := RdC.at_ (l := [FNode.mk a0 a1 a2 a3, q]) FNode.len HQ2.out (i := 0) (x := FNode.mk a0 a1 a2 a3) rfl
          obtain ⟨Da, da, ca_0, ca_1, ca_2, ca_3, q3⟩ := opN hb2.out (by omega) hcc (offca) (offca + 1) (offca + 2) (offca + 3) (by omega)
          have Qa := hid q3
          clear hcc q3
          subst Ea
          clear HQ2
          go_wp2_with fail
          go_roundg (szN ⟨a0, a1, a2, a3⟩)
          case rel => exact ⟨_, _, _, _, _, _, _, rfl, hid (by rw [← HT.out, tgN_7]), Qa, hid rfl, hid (by have h1 := HV.out; rw [FNode.wt_eq] at h1; have h2 := FNode.wts_at [FNode.mk a0 a1 a2 a3, q] _ (List.mem_cons_self ..); omega), hid (Nat.le_refl _)⟩
          case measure => exact Nat.lt_of_lt_of_le (szN_7 _ _ _ _ _) HS.out
      · have HE := hid (tgN_7n y1 y2 y3 (by have := HM.out; omega))
        go_wp2_with fail
        go_ret
        exact ⟨ret_bool (by rw [← HT.out, HE.out]), hb2.out⟩
    · have HE := hid (tgN_o e7 y1 y2 y3)
      by_cases e4 : y0 = 4
      · subst e4
        go_wp2_with fail
        go_ret
        exact ⟨ret_bool (by rw [← HT.out, HE.out]; rfl), hb2.out⟩
      · by_cases e8 : y0 = 8
        · subst e8
          go_wp2_with fail
          go_ret
          exact ⟨ret_bool (by rw [← HT.out, HE.out]; rfl), hb2.out⟩
        · go_wp2_with fail
          go_ret
          exact ⟨ret_bool (by rw [← HT.out, HE.out, beq_false_of_ne e4, beq_false_of_ne e8]), hb2.out⟩
theorem eaS_of (l : List FNode) (hl : l.length ≤ 1000000000) (hE : ∀ x, x ∈ l → ExS x) : EaS l := by
  intro u w B hB0 hr
  obtain ⟨A, c, rfl⟩ := hr.form
  have HC := hid hr
  have HE := hid hE
  have hn : l.length ≤ 9223372036854775807 := by omega
  clear hr hE
  go_enter Try.func69, Try.ntmps69
  go_wp2_with fail
  go_loopw [5] (fun i wr => ∃ k : Nat, k ≤ l.length ∧ i = .int .i64 k ∧ Hid ((l.take k).all exF = true) ∧ Below w.heap.size w wr) (fun i _ => l.length - (intOf i).toNat)
  case atStart => exact ⟨0, Nat.zero_le _, rfl, hid rfl, Below.refl _ _⟩
  case round =>
    obtain ⟨k, hk, rfl, HA, hb⟩ := hrel
    have hbs := hb.size
    by_cases hlt : k < l.length
    · skip
      obtain ⟨x, hx⟩ : ∃ x, l[k]? = some x := ⟨_, List.getElem?_eq_getElem hlt⟩
      obtain ⟨bc, offc, rfl, hblc, hcc⟩ := RdC.at_ FNode.len HC.out hx
      have HX := hid hx
      have HM := hid (List.mem_of_getElem? hx)
      clear hx
      obtain ⟨y0, y1, y2, y3⟩ := x
      obtain ⟨D, d, c_0, c_1, c_2, c_3, q3⟩ := opN hb (by omega) hcc (offc + k * 4) (offc + k * 4 + 1) (offc + k * 4 + 2) (offc + k * 4 + 3) (by omega)
      have Q3 := hid q3
      clear hcc q3
      have HV := hid (HE.out _ HM.out)
      have CALL := hid (HV.out [.int .i64 y0, .int .i64 y1, .string y2, .slice D y3.length d] _ w.heap.size hb.size (ndV ((Q3.out.up hB0).below hb (Nat.le_refl _))))
      cases hv : exF ⟨y0, y1, y2, y3⟩ with
      | true =>
        have HT := hid hv
        rw [hv] at CALL
        clear hv
        go_wp2_with (go_at_call 68; refine CALL.out.mono ?_; rintro e w2 ⟨rfl, hb3⟩)
        go_roundw
        case rel => exact ⟨k + 1, by omega, by go_num, hid (all_on HX.out HA.out HT.out), hb.trans (hb3.mono hb.size)⟩
        case measure => simp [intOf]; omega
      | false =>
        have HT := hid hv
        rw [hv] at CALL
        clear hv
        go_wp2_with (go_at_call 68; refine CALL.out.mono ?_; rintro e w2 ⟨rfl, hb3⟩)
        go_ret
        exact ⟨ret_bool (all_f HX.out HT.out).symm, hb.trans (hb3.mono hb.size)⟩
    · obtain rfl : k = l.length := by omega
      clear hlt
      go_wp2_with fail
      go_ret
      have h := HA.out
      rw [List.take_length] at h
      exact ⟨ret_bool h.symm, hb⟩
theorem boxk {w wr X : World} {v : Value} (h : Below wr.heap.size wr X) (hlt : w.heap.size < wr.heap.size) (hc : wr.cell? ⟨w.heap.size, 3, none⟩ = some v) : X.cell? ⟨w.heap.size, 3, none⟩ = some v ∧ w.heap.size < X.heap.size :=
  ⟨(h.cell (p := ⟨w.heap.size, 3, none⟩) hlt).trans hc, Nat.lt_of_lt_of_le hlt h.size⟩
theorem bkS_of (z0 z1 : Int) (z2 : ByteArray) (z3 : List FNode) (hw : (FNode.mk z0 z1 z2 z3).wt ≤ 9000000000) (hE : ∀ x, x ∈ z3 → StS x) : BkS ⟨z0, z1, z2, z3⟩ := by
  intro us w B hB0 hr
  obtain ⟨A3, c3, rfl, r3⟩ := hr.node
  rw [FNode.wt_eq] at hw
  have hz : z2.size ≤ 9223372036854775807 := by omega
  have hl : z3.length ≤ 9223372036854775807 := by omega
  have EX := hid (blF_mk z0 z1 z2 z3)
  have HC := hid r3
  have HE := hid hE
  clear hr r3 hw hE
  have HB := hbA w z0 z1 z2 (.slice A3 z3.length c3)
  by_cases h48 : z0 = 48
  · subst h48
    by_cases h0 : z1 = 0
    · subst h0
      by_cases ht : z2.toList = []
      · have EX2 := hid (show blF ⟨48, 0, z2, z3⟩ = z3.all stF from by rw [EX.out, emT_t ht]; rfl)
        clear EX
        go_enter Try.func71, Try.ntmps71
        go_wp2_with fail
        go_loopw [3] (fun i wr => ∃ k : Nat, k ≤ z3.length ∧ i = .int .i64 k ∧ Hid ((z3.take k).all stF = true) ∧ Below w.heap.size w wr ∧ wr.cell? ⟨w.heap.size, 3, none⟩ = some (.slice A3 z3.length c3) ∧ w.heap.size < wr.heap.size) (fun i _ => z3.length - (intOf i).toNat)
        case atStart => exact ⟨0, Nat.zero_le _, rfl, hid rfl, HB.out, by rw [World.cell?_alloc_new]; rfl, by simp⟩
        case round =>
          obtain ⟨k, hk, rfl, HA, hb, hbox, hlt0⟩ := hrel
          have hbs := hb.size
          by_cases hlt : k < z3.length
          · skip
            obtain ⟨x, hx⟩ : ∃ x, z3[k]? = some x := ⟨_, List.getElem?_eq_getElem hlt⟩
            obtain ⟨bc, offc, rfl, hblc, hcc⟩ := RdC.at_ FNode.len HC.out hx
            have HX := hid hx
            have HM := hid (List.mem_of_getElem? hx)
            clear hx
            obtain ⟨y0, y1, y2, y3⟩ := x
            obtain ⟨D, d, c_0, c_1, c_2, c_3, q3⟩ := opN hb (by omega) hcc (offc + k * 4) (offc + k * 4 + 1) (offc + k * 4 + 2) (offc + k * 4 + 3) (by omega)
            have Q3 := hid q3
            clear hcc q3
            have HV := hid (HE.out _ HM.out)
            have CALL := hid (HV.out [.int .i64 y0, .int .i64 y1, .string y2, .slice D y3.length d] _ w.heap.size hb.size (ndV ((Q3.out.up hB0).below hb (Nat.le_refl _))))
            cases hv : stF ⟨y0, y1, y2, y3⟩ with
            | true =>
              have HT := hid hv
              rw [hv] at CALL
              clear hv
              go_wp2_with (go_at_call 37; refine CALL.out.mono ?_; rintro e w2 ⟨rfl, hb3⟩)
              go_roundw
              case rel => exact ⟨k + 1, by omega, by go_num, hid (all_on HX.out HA.out HT.out), hb.trans (hb3.mono hb.size), boxk hb3 hlt0 hbox⟩
              case measure => simp [intOf]; omega
            | false =>
              have HT := hid hv
              rw [hv] at CALL
              clear hv
              go_wp2_with (go_at_call 37; refine CALL.out.mono ?_; rintro e w2 ⟨rfl, hb3⟩)
              go_ret
              exact ⟨ret_bool (by rw [EX2.out, all_f HX.out HT.out]), hb.trans (hb3.mono hb.size)⟩
          · obtain rfl : k = z3.length := by omega
            clear hlt
            have h := HA.out
            rw [List.take_length] at h
            rw [h] at EX2
            go_wp2_with fail
            go_ret
            exact ⟨ret_bool EX2.out.symm, hb⟩
      · rw [emT_f ht, Bool.false_and, Bool.and_false, Bool.and_false] at EX
        go_enter Try.func71, Try.ntmps71
        go_wp2_with fail
        all_goals first
          | (go_ret; exact ⟨ret_bool EX.out.symm, HB.out⟩)
          | contradiction
          | (exfalso; simp_all; done)
    · rw [beq_false_of_ne h0, Bool.false_and, Bool.and_false] at EX
      go_enter Try.func71, Try.ntmps71
      go_wp2_with fail
      all_goals (go_ret; exact ⟨ret_bool EX.out.symm, HB.out⟩)
  · rw [beq_false_of_ne h48, Bool.false_and] at EX
    go_enter Try.func71, Try.ntmps71
    go_wp2_with fail
    all_goals (go_ret; exact ⟨ret_bool EX.out.symm, HB.out⟩)
end Go.Proofs.Ytgejkfcemlkclaa
namespace Go.Proofs.Ytgejkfcemlkclaa
set_option maxHeartbeats 40000000
open Lib (hid)
open Go.ChangeShapes Go.WideShapes Go.ChangeAt Go.RowKit Go.Deep Go.Joins
open Go.ChangeMaps (open_string shut_string)
set_option maxRecDepth 100000
def KnI (q : Int) (x : FNode) : Prop := ∀ (us : List Value) (w : World) (B : Nat), B ≤ w.heap.size → RdVs w B x.c us → Calls Try.prog 15 #[.agg us.toArray, .int .i64 q] w fun e w' => e = .returned (.int .i64 (knN q x : Nat)) ∧ Below w.heap.size w w'
def HyI (x : FNode) : Prop := ∀ (us : List Value) (w : World) (B : Nat), B ≤ w.heap.size → RdVs w B x.c us → Calls Try.prog 16 #[.agg us.toArray] w fun e w' => e = .returned (.bool (hyN x)) ∧ Below w.heap.size w w'
def k01 (b : Bool) : Nat := if b = true then 1 else 0
theorem knN_mk (q k n : Int) (t : ByteArray) (ks : List FNode) : knN q (.mk k n t ks) = k01 (k == q) + knL q ks := by
  rw [knN]
  unfold k01
  by_cases h : k = q
  · rw [if_pos h, h, beq_self_eq_true, if_pos rfl]
  · rw [if_neg h, beq_false_of_ne h]; rfl
theorem knI_of (q : Int) (z0 z1 : Int) (z2 : ByteArray) (z3 : List FNode) (hw : (FNode.mk z0 z1 z2 z3).wt ≤ 1000000000) (hE : ∀ x, x ∈ z3 → KnI q x) : KnI q ⟨z0, z1, z2, z3⟩ := by
  intro us w B hB0 hr
  obtain ⟨A3, c3, rfl, r3⟩ := hr.node
  have hsz := szN_wt ⟨z0, z1, z2, z3⟩
  rw [szN] at hsz
  have hkz := knL_sz q z3
  rw [FNode.wt_eq] at hw hsz
  have hl : z3.length ≤ 9000000000 := by omega
  have hS : knL q z3 ≤ 2000000000 := by omega
  have HC := hid r3
  have HE := hid hE
  have HB := hbA w z0 z1 z2 (.slice A3 z3.length c3)
  clear hr r3 hw hE hsz hkz
  rw [knN_mk]
  cases hq : (z0 == q) with
  | false =>
    have h01 : k01 false ≤ 1 := by decide
    go_enter Try.func15, Try.ntmps15
    go_wp2_with fail
    go_loopw [6, 5] (fun i s wr => ∃ k : Nat, k ≤ z3.length ∧ i = .int .i64 k ∧ s = .int .i64 ((k01 false + knL q (z3.take k) : Nat) : Int) ∧ Below w.heap.size w wr ∧ wr.cell? ⟨w.heap.size, 3, none⟩ = some (.slice A3 z3.length c3) ∧ w.heap.size < wr.heap.size) (fun i _ _ => z3.length - (intOf i).toNat)
    case atStart => exact ⟨0, Nat.zero_le _, rfl, by simp [knL, k01], HB.out, by rw [World.cell?_alloc_new]; rfl, by simp⟩
    case round =>
      obtain ⟨k, hk, rfl, rfl, hb, hbox, hlt0⟩ := hrel
      have hbs := hb.size
      by_cases hlt : k < z3.length
      · skip
        obtain ⟨x, hx⟩ : ∃ x, z3[k]? = some x := ⟨_, List.getElem?_eq_getElem hlt⟩
        obtain ⟨bc, offc, rfl, hblc, hcc⟩ := RdC.at_ FNode.len HC.out hx
        have HX := hid hx
        have HM := hid (List.mem_of_getElem? hx)
        clear hx
        obtain ⟨y0, y1, y2, y3⟩ := x
        obtain ⟨D, d, c_0, c_1, c_2, c_3, q3⟩ := opN hb (by omega) hcc (offc + k * 4) (offc + k * 4 + 1) (offc + k * 4 + 2) (offc + k * 4 + 3) (by omega)
        have Q3 := hid q3
        clear hcc q3
        have CALL := hid (HE.out _ HM.out [.int .i64 y0, .int .i64 y1, .string y2, .slice D y3.length d] _ w.heap.size hbs (ndV ((Q3.out.up hB0).below hb (Nat.le_refl _))))
        have t1 := knL_take q z3 k _ HX.out
        have t2 := knL_le q z3 (k + 1)
        obtain ⟨N, hN⟩ : ∃ N, knN q ⟨y0, y1, y2, y3⟩ = N := ⟨_, rfl⟩
        rw [hN] at t1 CALL
        go_wp2_with (go_at_call 15; refine CALL.out.mono ?_; rintro e w2 ⟨rfl, hb3⟩)
        go_roundw
        case rel => exact ⟨k + 1, by omega, by go_num, by rw [t1]; go_num, hb.trans (hb3.mono hbs), boxk hb3 hlt0 hbox⟩
        case measure => simp [intOf]; omega
      · obtain rfl : k = z3.length := by omega
        clear hlt
        go_wp2_with fail
        go_ret
        rw [List.take_length]
        exact ⟨rfl, hb⟩
  | true =>
    have h01 : k01 true ≤ 1 := by decide
    go_enter Try.func15, Try.ntmps15
    go_wp2_with fail
    go_loopw [6, 5] (fun i s wr => ∃ k : Nat, k ≤ z3.length ∧ i = .int .i64 k ∧ s = .int .i64 ((k01 true + knL q (z3.take k) : Nat) : Int) ∧ Below w.heap.size w wr ∧ wr.cell? ⟨w.heap.size, 3, none⟩ = some (.slice A3 z3.length c3) ∧ w.heap.size < wr.heap.size) (fun i _ _ => z3.length - (intOf i).toNat)
    case atStart => exact ⟨0, Nat.zero_le _, rfl, by simp [knL, k01], HB.out, by rw [World.cell?_alloc_new]; rfl, by simp⟩
    case round =>
      obtain ⟨k, hk, rfl, rfl, hb, hbox, hlt0⟩ := hrel
      have hbs := hb.size
      by_cases hlt : k < z3.length
      · skip
        obtain ⟨x, hx⟩ : ∃ x, z3[k]? = some x := ⟨_, List.getElem?_eq_getElem hlt⟩
        obtain ⟨bc, offc, rfl, hblc, hcc⟩ := RdC.at_ FNode.len HC.out hx
        have HX := hid hx
        have HM := hid (List.mem_of_getElem? hx)
        clear hx
        obtain ⟨y0, y1, y2, y3⟩ := x
        obtain ⟨D, d, c_0, c_1, c_2, c_3, q3⟩ := opN hb (by omega) hcc (offc + k * 4) (offc + k * 4 + 1) (offc + k * 4 + 2) (offc + k * 4 + 3) (by omega)
        have Q3 := hid q3
        clear hcc q3
        have CALL := hid (HE.out _ HM.out [.int .i64 y0, .int .i64 y1, .string y2, .slice D y3.length d] _ w.heap.size hbs (ndV ((Q3.out.up hB0).below hb (Nat.le_refl _))))
        have t1 := knL_take q z3 k _ HX.out
        have t2 := knL_le q z3 (k + 1)
        obtain ⟨N, hN⟩ : ∃ N, knN q ⟨y0, y1, y2, y3⟩ = N := ⟨_, rfl⟩
        rw [hN] at t1 CALL
        go_wp2_with (go_at_call 15; refine CALL.out.mono ?_; rintro e w2 ⟨rfl, hb3⟩)
        go_roundw
        case rel => exact ⟨k + 1, by omega, by go_num, by rw [t1]; go_num, hb.trans (hb3.mono hbs), boxk hb3 hlt0 hbox⟩
        case measure => simp [intOf]; omega
      · obtain rfl : k = z3.length := by omega
        clear hlt
        go_wp2_with fail
        go_ret
        rw [List.take_length]
        exact ⟨rfl, hb⟩
theorem knI (q : Int) : ∀ (N : Nat) (x : FNode), szN x ≤ N → x.wt ≤ 1000000000 → KnI q x
  | 0, x, h, _ => absurd (szN_pos0 x) (by omega)
  | N + 1, ⟨k, z1, z2, z3⟩, h, hw => knI_of q k z1 z2 z3 hw fun y hy => knI q N y (by have := kid_sz (x := ⟨k, z1, z2, z3⟩) (y := y) hy; omega) (by
      have h1 := FNode.wts_at z3 y hy
      rw [FNode.wt_eq] at hw
      omega)
theorem hyI_of (z0 z1 : Int) (z2 : ByteArray) (z3 : List FNode) (hw : (FNode.mk z0 z1 z2 z3).wt ≤ 1000000000) (hE : ∀ x, x ∈ z3 → HyI x) : HyI ⟨z0, z1, z2, z3⟩ := by
  intro us w B hB0 hr
  obtain ⟨A3, c3, rfl, r3⟩ := hr.node
  rw [FNode.wt_eq] at hw
  have hl : z3.length ≤ 9000000000 := by omega
  have HC := hid r3
  have HE := hid hE
  have HB := hbA w z0 z1 z2 (.slice A3 z3.length c3)
  clear hr r3 hw hE
  have EX := hid (show hyN ⟨z0, z1, z2, z3⟩ = (z0 == 46 || hyL z3) from by rw [hyN])
  by_cases h46 : z0 = 46
  · subst h46
    go_enter Try.func16, Try.ntmps16
    go_wp2_with fail
    go_ret
    exact ⟨ret_bool EX.out.symm, HB.out⟩
  · rw [beq_false_of_ne h46, Bool.false_or] at EX
    have q46 : (z0 == 46) = false := beq_false_of_ne h46
    clear h46
    go_enter Try.func16, Try.ntmps16
    go_wp2_with fail
    go_loopw [11] (fun i wr => ∃ k : Nat, k ≤ z3.length ∧ i = .int .i64 k ∧ Hid (hyL (z3.take k) = false) ∧ Below w.heap.size w wr) (fun i _ => z3.length - (intOf i).toNat)
    case atStart => exact ⟨0, Nat.zero_le _, rfl, hid rfl, HB.out⟩
    case round =>
      obtain ⟨k, hk, rfl, HA, hb⟩ := hrel
      have hbs := hb.size
      by_cases hlt : k < z3.length
      · skip
        obtain ⟨x, hx⟩ : ∃ x, z3[k]? = some x := ⟨_, List.getElem?_eq_getElem hlt⟩
        obtain ⟨bc, offc, rfl, hblc, hcc⟩ := RdC.at_ FNode.len HC.out hx
        have HX := hid hx
        have HM := hid (List.mem_of_getElem? hx)
        clear hx
        obtain ⟨y0, y1, y2, y3⟩ := x
        obtain ⟨D, d, c_0, c_1, c_2, c_3, q3⟩ := opN hb (by omega) hcc (offc + k * 4) (offc + k * 4 + 1) (offc + k * 4 + 2) (offc + k * 4 + 3) (by omega)
        have Q3 := hid q3
        clear hcc q3
        have hb2 := hid (hb.alloc hbs (.cells #[.int .i64 y0, .int .i64 y1, .string y2, .slice D y3.length d] 29))
        have CALL := hid (HE.out _ HM.out [.int .i64 y0, .int .i64 y1, .string y2, .slice D y3.length d] _ w.heap.size hb2.out.size (ndV ((Q3.out.up hB0).below hb2.out (Nat.le_refl _))))
        have HN := hid (show hyL (z3.take (k + 1)) = (!(y0 == 23) && hyN ⟨y0, y1, y2, y3⟩) from by rw [hyL_take z3 k _ HX.out, HA.out, Bool.false_or]; rfl)
        by_cases h23 : y0 = 23
        · subst h23
          have HF := hid (HN.out.trans (show _ = false from rfl))
          go_wp2_with fail
          go_roundw
          case rel => exact ⟨k + 1, by omega, by go_num, HF, hb2.out⟩
          case measure => simp [intOf]; omega
        · rw [beq_false_of_ne h23, Bool.not_false, Bool.true_and] at HN
          cases hv : hyN ⟨y0, y1, y2, y3⟩ with
          | true =>
            rw [hv] at CALL HN
            have HT := hid (hyL_le z3 (k + 1) HN.out)
            go_wp2_with (go_at_call 16; refine CALL.out.mono ?_; rintro e w2 ⟨rfl, hb3⟩)
            go_ret
            exact ⟨ret_bool (by rw [EX.out, HT.out]), hb2.out.trans (hb3.mono hb2.out.size)⟩
          | false =>
            rw [hv] at CALL HN
            go_wp2_with (go_at_call 16; refine CALL.out.mono ?_; rintro e w2 ⟨rfl, hb3⟩)
            go_roundw
            case rel => exact ⟨k + 1, by omega, by go_num, HN, hb2.out.trans (hb3.mono hb2.out.size)⟩
            case measure => simp [intOf]; omega
      · obtain rfl : k = z3.length := by omega
        clear hlt
        have h := HA.out
        rw [List.take_length] at h
        rw [h] at EX
        go_wp2_with fail
        go_ret
        exact ⟨ret_bool EX.out.symm, hb⟩
theorem hyI : ∀ (N : Nat) (x : FNode), szN x ≤ N → x.wt ≤ 1000000000 → HyI x
  | 0, x, h, _ => absurd (szN_pos0 x) (by omega)
  | N + 1, ⟨k, z1, z2, z3⟩, h, hw => hyI_of k z1 z2 z3 hw fun y hy => hyI N y (by have := kid_sz (x := ⟨k, z1, z2, z3⟩) (y := y) hy; omega) (by
      have h1 := FNode.wts_at z3 y hy
      rw [FNode.wt_eq] at hw
      omega)
end Go.Proofs.Ytgejkfcemlkclaa
