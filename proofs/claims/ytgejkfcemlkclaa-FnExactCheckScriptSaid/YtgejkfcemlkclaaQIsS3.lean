/-
  Parts of the proof: IsS3. Conditions: none.
-/
import Derived.Test.YtgejkfcemlkclaaQGIsS1IsS2
import Derived.Deep.LoopGhost
import Derived.Test.YtgejkfcemlkclaaQGIsTScQ
import Derived.Test.YtgejkfcemlkclaaQGIsFRdD
import Derived.Test.YtgejkfcemlkclaaQGIsK2IsK4
namespace Go.Proofs.Ytgejkfcemlkclaa
open Go.ChangeShapes Go.WideShapes Go.ChangeAt Go.RowKit Go.Deep Go.Joins
open Go.ChangeMaps (open_string shut_string)
set_option linter.unusedVariables false
set_option linter.unusedSimpArgs false
set_option maxRecDepth 100000
def ExS (x : FNode) : Prop := ∀ (us : List Value) (w : World) (B : Nat), B ≤ w.heap.size → RdVs w B x.c us → Calls Try.prog 68 #[.agg us.toArray] w fun e w' => e = .returned (.bool (exF x)) ∧ Below w.heap.size w w'
def StS (x : FNode) : Prop := ∀ (us : List Value) (w : World) (B : Nat), B ≤ w.heap.size → RdVs w B x.c us → Calls Try.prog 37 #[.agg us.toArray] w fun e w' => e = .returned (.bool (stF x)) ∧ Below w.heap.size w w'
def BkS (x : FNode) : Prop := ∀ (us : List Value) (w : World) (B : Nat), B ≤ w.heap.size → RdVs w B x.c us → Calls Try.prog 71 #[.agg us.toArray] w fun e w' => e = .returned (.bool (blF x)) ∧ Below w.heap.size w w'
def EaS (l : List FNode) : Prop := ∀ (u : Value) (w : World) (B : Nat), B ≤ w.heap.size → RdC w B (.s 29 4 l.length (FNode.flat l)) u → Calls Try.prog 69 #[u, .int .i64 0] w fun e w' => e = .returned (.bool (l.all exF)) ∧ Below w.heap.size w w'
def UsS (use : Bool) (l : List FNode) : Prop := ∀ (u : Value) (w : World) (B : Nat), B ≤ w.heap.size → RdC w B (.s 29 4 l.length (FNode.flat l)) u → Calls Try.prog 38 #[u, .bool use] w fun e w' => e = .returned (.bool (usF use l)) ∧ Below w.heap.size w w'
theorem tgN_7 (n : Int) (t : ByteArray) (a b : FNode) : tgN (.mk 7 n t [a, b]) = tgN a := (tgN.eq_def _).trans (if_pos rfl)
theorem tgN_7n (n : Int) (t : ByteArray) (l : List FNode) (h : ¬ l.length = 2) : tgN (.mk 7 n t l) = false := by
  refine (tgN.eq_def _).trans ((if_pos rfl).trans ?_)
  match l, h with
  | [], _ => rfl
  | [_], _ => rfl
  | [_, _], h => simp at h
  | _ :: _ :: _ :: _, _ => rfl
set_option maxHeartbeats 1000000 in
theorem tg_spec (x : FNode) (hw : x.wt ≤ 9000000000) (us : List Value) (w : World) (B : Nat) (hB0 : B ≤ w.heap.size) (hr : RdVs w B x.c us) :
    Calls Try.prog 70 #[.agg us.toArray] w fun e w' => e = .returned (.bool (tgN x)) ∧ Below w.heap.size w w' := by
  obtain ⟨z0, z1, z2, z3⟩ := x
  rw [FNode.c_eq] at hr
  obtain ⟨us0, rfl, hr_0⟩ := hr.unv
  obtain ⟨us1, rfl, hr_1⟩ := hr_0.unv
  obtain ⟨us2, rfl, hr_2⟩ := hr_1.unv
  obtain ⟨A3, c3, us3, rfl, r3, hr_3⟩ := hr_2.uns
  obtain rfl := hr_3.un0
  have HR := Lib.hid r3
  have HW := Lib.hid hw
  clear hr r3 hr_0 hr_1 hr_2 hr_3 hw
  go_enter Try.func70, Try.ntmps70
  go_wp2_with fail
  go_loopg [] (szN ⟨z0, z1, z2, z3⟩) (fun k wr => ∃ (y0 y1 : Int) (y2 : ByteArray) (y3 : List FNode) (D : Option Addr) (d m : Nat), wr = w.alloc (.cells #[.int .i64 y0, .int .i64 y1, .string y2, .slice D m d] 29) ∧ Hid (tgN ⟨y0, y1, y2, y3⟩ = tgN ⟨z0, z1, z2, z3⟩) ∧ Hid (RdC w B (.s 29 4 m (FNode.flat y3)) (.slice D m d)) ∧ Hid (y3.length = m) ∧ Hid (FNode.wt ⟨y0, y1, y2, y3⟩ ≤ 9000000000) ∧ Hid (szN ⟨y0, y1, y2, y3⟩ ≤ k))
  case atStart => exact ⟨_, _, _, _, _, _, _, rfl, Lib.hid rfl, HR, Lib.hid rfl, HW, Lib.hid (Nat.le_refl _)⟩
  case round =>
    obtain ⟨y0, y1, y2, y3, D, d, m, rfl, HT, HQ, HM, HV, HS⟩ := hrel
    have hy : m ≤ 9223372036854775807 := by have := HV.out; rw [FNode.wt_eq] at this; have := HM.out; omega
    have hb2 := Lib.hid ((Below.refl _ w).alloc (Nat.le_refl _) (.cells #[.int .i64 y0, .int .i64 y1, .string y2, .slice D m d] 29))
    by_cases e7 : y0 = 7
    · subst e7
      by_cases h2 : m = 2
      · subst h2
        match y3, HM with
        | [⟨a0, a1, a2, a3⟩, q], HM =>
          have HQ2 : Hid (RdC w B (.s 29 4 [FNode.mk a0 a1 a2 a3, q].length (FNode.flat [FNode.mk a0 a1 a2 a3, q])) (.slice D [FNode.mk a0 a1 a2 a3, q].length d)) := HQ
          obtain ⟨bca, offca, Ea, hblca, hcc⟩ := RdC.at_ (l := [FNode.mk a0 a1 a2 a3, q]) FNode.len HQ2.out (i := 0) (x := FNode.mk a0 a1 a2 a3) rfl
          rw [FNode.c_eq] at hcc
          obtain ⟨u0, e0, q0⟩ := hcc 0 _ rfl
          obtain rfl := q0.val
          have ca_0 : (w.alloc (.cells #[.int .i64 7, .int .i64 y1, .string y2, .slice D 2 d] 29)).cell? ⟨bca, offca, none⟩ = some (.int .i64 a0) := (hb2.out.cell (p := ⟨bca, _, none⟩) (by show bca < w.heap.size; omega)).trans (by simpa using e0)
          obtain ⟨u1, e1, q1⟩ := hcc 1 _ rfl
          obtain rfl := q1.val
          have ca_1 : (w.alloc (.cells #[.int .i64 7, .int .i64 y1, .string y2, .slice D 2 d] 29)).cell? ⟨bca, offca + 1, none⟩ = some (.int .i64 a1) := (hb2.out.cell (p := ⟨bca, _, none⟩) (by show bca < w.heap.size; omega)).trans (by simpa using e1)
          obtain ⟨u2, e2, q2⟩ := hcc 2 _ rfl
          obtain rfl := q2.val
          have ca_2 : (w.alloc (.cells #[.int .i64 7, .int .i64 y1, .string y2, .slice D 2 d] 29)).cell? ⟨bca, offca + 2, none⟩ = some (.string a2) := (hb2.out.cell (p := ⟨bca, _, none⟩) (by show bca < w.heap.size; omega)).trans (by simpa using e2)
          obtain ⟨u3, e3, q3⟩ := hcc 3 _ rfl
          obtain ⟨Da, da, rfl⟩ := q3.form
          have ca_3 : (w.alloc (.cells #[.int .i64 7, .int .i64 y1, .string y2, .slice D 2 d] 29)).cell? ⟨bca, offca + 3, none⟩ = some (.slice Da a3.length da) := (hb2.out.cell (p := ⟨bca, _, none⟩) (by show bca < w.heap.size; omega)).trans (by simpa using e3)
          have Qa := Lib.hid q3
          clear hcc e0 e1 e2 e3 q0 q1 q2 q3
          subst Ea
          clear HQ2
          go_wp2_with fail
          go_roundg (szN ⟨a0, a1, a2, a3⟩)
          case rel => exact ⟨_, _, _, _, _, _, _, rfl, Lib.hid (by rw [← HT.out, tgN_7]), Qa, Lib.hid rfl, Lib.hid (by have h1 := HV.out; rw [FNode.wt_eq] at h1; have h2 := FNode.wts_at [FNode.mk a0 a1 a2 a3, q] _ (List.mem_cons_self ..); omega), Lib.hid (Nat.le_refl _)⟩
          case measure => exact Nat.lt_of_lt_of_le (szN_7 _ _ _ _ _) HS.out
      · have HE := Lib.hid (tgN_7n y1 y2 y3 (by have := HM.out; omega))
        go_wp2_with fail
        go_ret
        exact ⟨ret_bool (by rw [← HT.out, HE.out]), hb2.out⟩
    · have HE := Lib.hid (tgN_o e7 y1 y2 y3)
      by_cases e4 : y0 = 4
      · subst e4
        go_wp2_with fail
        go_ret
        exact ⟨ret_bool (by rw [← HT.out, HE.out]; rfl), hb2.out⟩
      · by_cases e8 : y0 = 8
        · subst e8
          go_wp2_with fail
          go_ret
          exact ⟨ret_bool (by rw [← HT.out, HE.out]; rfl), hb2.out⟩
        · go_wp2_with fail
          go_ret
          exact ⟨ret_bool (by rw [← HT.out, HE.out, beq_false_of_ne e4, beq_false_of_ne e8]), hb2.out⟩
set_option maxHeartbeats 1000000 in
theorem eaS_of (l : List FNode) (hl : l.length ≤ 1000000000) (hE : ∀ x, x ∈ l → ExS x) : EaS l := by
  intro u w B hB0 hr
  obtain ⟨A, c, rfl⟩ := hr.form
  have HC := Lib.hid hr
  have HE := Lib.hid hE
  have hn : l.length ≤ 9223372036854775807 := by omega
  clear hr hE
  go_enter Try.func69, Try.ntmps69
  go_wp2_with fail
  go_loopw [5] (fun i wr => ∃ k : Nat, k ≤ l.length ∧ i = .int .i64 k ∧ Hid ((l.take k).all exF = true) ∧ Below w.heap.size w wr) (fun i _ => l.length - (intOf i).toNat)
  case atStart => exact ⟨0, Nat.zero_le _, rfl, Lib.hid rfl, Below.refl _ _⟩
  case round =>
    obtain ⟨k, hk, rfl, HA, hb⟩ := hrel
    have hbs := hb.size
    by_cases hlt : k < l.length
    · skip
      obtain ⟨x, hx⟩ : ∃ x, l[k]? = some x := ⟨_, List.getElem?_eq_getElem hlt⟩
      obtain ⟨bc, offc, rfl, hblc, hcc⟩ := RdC.at_ FNode.len HC.out hx
      have HX := Lib.hid hx
      have HM := Lib.hid (List.mem_of_getElem? hx)
      clear hx
      obtain ⟨y0, y1, y2, y3⟩ := x
      rw [FNode.c_eq] at hcc
      obtain ⟨u0, e0, q0⟩ := hcc 0 _ rfl
      obtain rfl := q0.val
      have c_0 : wr.cell? ⟨bc, offc + k * 4, none⟩ = some (.int .i64 y0) := (hb.cell (p := ⟨bc, _, none⟩) (by show bc < w.heap.size; omega)).trans (by simpa using e0)
      obtain ⟨u1, e1, q1⟩ := hcc 1 _ rfl
      obtain rfl := q1.val
      have c_1 : wr.cell? ⟨bc, offc + k * 4 + 1, none⟩ = some (.int .i64 y1) := (hb.cell (p := ⟨bc, _, none⟩) (by show bc < w.heap.size; omega)).trans (by simpa using e1)
      obtain ⟨u2, e2, q2⟩ := hcc 2 _ rfl
      obtain rfl := q2.val
      have c_2 : wr.cell? ⟨bc, offc + k * 4 + 2, none⟩ = some (.string y2) := (hb.cell (p := ⟨bc, _, none⟩) (by show bc < w.heap.size; omega)).trans (by simpa using e2)
      obtain ⟨u3, e3, q3⟩ := hcc 3 _ rfl
      obtain ⟨D, d, rfl⟩ := q3.form
      have c_3 : wr.cell? ⟨bc, offc + k * 4 + 3, none⟩ = some (.slice D y3.length d) := (hb.cell (p := ⟨bc, _, none⟩) (by show bc < w.heap.size; omega)).trans (by simpa using e3)
      have Q3 := Lib.hid q3
      clear hcc e0 e1 e2 e3 q0 q1 q2 q3
      have HV := Lib.hid (HE.out _ HM.out)
      have CALL := Lib.hid (HV.out [.int .i64 y0, .int .i64 y1, .string y2, .slice D y3.length d] _ w.heap.size hb.size (by rw [FNode.c_eq]; exact RdVs.cons (by unfold RdC; rfl) (RdVs.cons (by unfold RdC; rfl) (RdVs.cons (by unfold RdC; rfl) (RdVs.cons ((Q3.out.up hB0).below hb (Nat.le_refl _)) (RdVs.nil _ _))))))
      cases hv : exF ⟨y0, y1, y2, y3⟩ with
      | true =>
        have HT := Lib.hid hv
        rw [hv] at CALL
        clear hv
        go_wp2_with (go_at_call 68; refine CALL.out.mono ?_; rintro e w2 ⟨rfl, hb3⟩)
        go_roundw
        case rel => exact ⟨k + 1, by omega, by go_num, Lib.hid (all_on HX.out HA.out HT.out), hb.trans (hb3.mono hb.size)⟩
        case measure => simp [intOf]; omega
      | false =>
        have HT := Lib.hid hv
        rw [hv] at CALL
        clear hv
        go_wp2_with (go_at_call 68; refine CALL.out.mono ?_; rintro e w2 ⟨rfl, hb3⟩)
        go_ret
        exact ⟨ret_bool (all_f HX.out HT.out).symm, hb.trans (hb3.mono hb.size)⟩
    · obtain rfl : k = l.length := by omega
      clear hlt
      go_wp2_with fail
      go_ret
      have h := HA.out
      rw [List.take_length] at h
      exact ⟨ret_bool h.symm, hb⟩
theorem boxk {w wr X : World} {v : Value} (h : Below wr.heap.size wr X) (hlt : w.heap.size < wr.heap.size) (hc : wr.cell? ⟨w.heap.size, 3, none⟩ = some v) : X.cell? ⟨w.heap.size, 3, none⟩ = some v ∧ w.heap.size < X.heap.size :=
  ⟨(h.cell (p := ⟨w.heap.size, 3, none⟩) hlt).trans hc, Nat.lt_of_lt_of_le hlt h.size⟩
set_option maxHeartbeats 1000000 in
theorem bkS_of (z0 z1 : Int) (z2 : ByteArray) (z3 : List FNode) (hw : (FNode.mk z0 z1 z2 z3).wt ≤ 9000000000) (hE : ∀ x, x ∈ z3 → StS x) : BkS ⟨z0, z1, z2, z3⟩ := by
  intro us w B hB0 hr
  rw [FNode.c_eq] at hr
  obtain ⟨us0, rfl, hr_0⟩ := hr.unv
  obtain ⟨us1, rfl, hr_1⟩ := hr_0.unv
  obtain ⟨us2, rfl, hr_2⟩ := hr_1.unv
  obtain ⟨A3, c3, us3, rfl, r3, hr_3⟩ := hr_2.uns
  obtain rfl := hr_3.un0
  rw [FNode.wt_eq] at hw
  have hz : z2.size ≤ 9223372036854775807 := by omega
  have hl : z3.length ≤ 9223372036854775807 := by omega
  have EX := Lib.hid (blF_mk z0 z1 z2 z3)
  have HC := Lib.hid r3
  have HE := Lib.hid hE
  clear hr r3 hr_0 hr_1 hr_2 hr_3 hw hE
  have HB := Lib.hid ((Below.refl _ w).alloc (Nat.le_refl _) (.cells #[.int .i64 z0, .int .i64 z1, .string z2, .slice A3 z3.length c3] 29))
  by_cases h48 : z0 = 48
  · subst h48
    by_cases h0 : z1 = 0
    · subst h0
      by_cases ht : z2.toList = []
      · have EX2 := Lib.hid (show blF ⟨48, 0, z2, z3⟩ = z3.all stF from by rw [EX.out, emT_t ht]; rfl)
        clear EX
        go_enter Try.func71, Try.ntmps71
        go_wp2_with fail
        go_loopw [3] (fun i wr => ∃ k : Nat, k ≤ z3.length ∧ i = .int .i64 k ∧ Hid ((z3.take k).all stF = true) ∧ Below w.heap.size w wr ∧ wr.cell? ⟨w.heap.size, 3, none⟩ = some (.slice A3 z3.length c3) ∧ w.heap.size < wr.heap.size) (fun i _ => z3.length - (intOf i).toNat)
        case atStart => exact ⟨0, Nat.zero_le _, rfl, Lib.hid rfl, HB.out, by rw [World.cell?_alloc_new]; rfl, by simp⟩
        case round =>
          obtain ⟨k, hk, rfl, HA, hb, hbox, hlt0⟩ := hrel
          have hbs := hb.size
          by_cases hlt : k < z3.length
          · skip
            obtain ⟨x, hx⟩ : ∃ x, z3[k]? = some x := ⟨_, List.getElem?_eq_getElem hlt⟩
            obtain ⟨bc, offc, rfl, hblc, hcc⟩ := RdC.at_ FNode.len HC.out hx
            have HX := Lib.hid hx
            have HM := Lib.hid (List.mem_of_getElem? hx)
            clear hx
            obtain ⟨y0, y1, y2, y3⟩ := x
            rw [FNode.c_eq] at hcc
            obtain ⟨u0, e0, q0⟩ := hcc 0 _ rfl
            obtain rfl := q0.val
            have c_0 : wr.cell? ⟨bc, offc + k * 4, none⟩ = some (.int .i64 y0) := (hb.cell (p := ⟨bc, _, none⟩) (by show bc < w.heap.size; omega)).trans (by simpa using e0)
            obtain ⟨u1, e1, q1⟩ := hcc 1 _ rfl
            obtain rfl := q1.val
            have c_1 : wr.cell? ⟨bc, offc + k * 4 + 1, none⟩ = some (.int .i64 y1) := (hb.cell (p := ⟨bc, _, none⟩) (by show bc < w.heap.size; omega)).trans (by simpa using e1)
            obtain ⟨u2, e2, q2⟩ := hcc 2 _ rfl
            obtain rfl := q2.val
            have c_2 : wr.cell? ⟨bc, offc + k * 4 + 2, none⟩ = some (.string y2) := (hb.cell (p := ⟨bc, _, none⟩) (by show bc < w.heap.size; omega)).trans (by simpa using e2)
            obtain ⟨u3, e3, q3⟩ := hcc 3 _ rfl
            obtain ⟨D, d, rfl⟩ := q3.form
            have c_3 : wr.cell? ⟨bc, offc + k * 4 + 3, none⟩ = some (.slice D y3.length d) := (hb.cell (p := ⟨bc, _, none⟩) (by show bc < w.heap.size; omega)).trans (by simpa using e3)
            have Q3 := Lib.hid q3
            clear hcc e0 e1 e2 e3 q0 q1 q2 q3
            have HV := Lib.hid (HE.out _ HM.out)
            have CALL := Lib.hid (HV.out [.int .i64 y0, .int .i64 y1, .string y2, .slice D y3.length d] _ w.heap.size hb.size (by rw [FNode.c_eq]; exact RdVs.cons (by unfold RdC; rfl) (RdVs.cons (by unfold RdC; rfl) (RdVs.cons (by unfold RdC; rfl) (RdVs.cons ((Q3.out.up hB0).below hb (Nat.le_refl _)) (RdVs.nil _ _))))))
            cases hv : stF ⟨y0, y1, y2, y3⟩ with
            | true =>
              have HT := Lib.hid hv
              rw [hv] at CALL
              clear hv
              go_wp2_with (go_at_call 37; refine CALL.out.mono ?_; rintro e w2 ⟨rfl, hb3⟩)
              go_roundw
              case rel => exact ⟨k + 1, by omega, by go_num, Lib.hid (all_on HX.out HA.out HT.out), hb.trans (hb3.mono hb.size), boxk hb3 hlt0 hbox⟩
              case measure => simp [intOf]; omega
            | false =>
              have HT := Lib.hid hv
              rw [hv] at CALL
              clear hv
              go_wp2_with (go_at_call 37; refine CALL.out.mono ?_; rintro e w2 ⟨rfl, hb3⟩)
              go_ret
              exact ⟨ret_bool (by rw [EX2.out, all_f HX.out HT.out]), hb.trans (hb3.mono hb.size)⟩
          · obtain rfl : k = z3.length := by omega
            clear hlt
            have h := HA.out
            rw [List.take_length] at h
            rw [h] at EX2
            go_wp2_with fail
            go_ret
            exact ⟨ret_bool EX2.out.symm, hb⟩
      · rw [emT_f ht, Bool.false_and, Bool.and_false, Bool.and_false] at EX
        go_enter Try.func71, Try.ntmps71
        go_wp2_with fail
        all_goals first
          | (go_ret; exact ⟨ret_bool EX.out.symm, HB.out⟩)
          | contradiction
          | (exfalso; simp_all; done)
    · rw [beq_false_of_ne h0, Bool.false_and, Bool.and_false] at EX
      go_enter Try.func71, Try.ntmps71
      go_wp2_with fail
      all_goals (go_ret; exact ⟨ret_bool EX.out.symm, HB.out⟩)
  · rw [beq_false_of_ne h48, Bool.false_and] at EX
    go_enter Try.func71, Try.ntmps71
    go_wp2_with fail
    all_goals (go_ret; exact ⟨ret_bool EX.out.symm, HB.out⟩)
end Go.Proofs.Ytgejkfcemlkclaa
