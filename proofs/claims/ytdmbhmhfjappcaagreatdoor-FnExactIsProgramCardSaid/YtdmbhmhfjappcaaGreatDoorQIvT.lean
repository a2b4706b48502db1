/-
  Parts of the proof: IvT. Conditions: none.
-/
import Derived.Test.YtdmbhmhfjappcaaGreatDoorQIvS
namespace Go.Proofs.YtdmbhmhfjappcaaGreatDoor
open Go.ChangeShapes Go.WideShapes Go.ChangeAt Go.RowKit Go.Deep Go.Joins
open Go.ChangeMaps (open_string shut_string)
set_option linter.unusedVariables false
set_option linter.unusedSimpArgs false
set_option maxRecDepth 100000
def VS (x : FValue) : Prop := ∀ (us : List Value) (w : World) (B : Nat), B ≤ w.heap.size → RdVs w B x.c us → Calls Tryz.prog 32 #[.agg us.toArray] w fun e w' => e = .returned (.bool (vF x)) ∧ Below w.heap.size w w'
set_option maxHeartbeats 1000000 in
theorem vS_k0 (z1 : Int) (z2 : ByteArray) (z3 : Int) (l : List FEntry) (hw : l.length ≤ 1000000000) (hs2 : z2.size ≤ 9000000000) : VS ⟨0, z1, z2, z3, l⟩ := by
  intro us w B hB0 hr
  rw [FValue.c_eq] at hr
  obtain ⟨us0, rfl, hr_0⟩ := hr.unv
  obtain ⟨us1, rfl, hr_1⟩ := hr_0.unv
  obtain ⟨us2, rfl, hr_2⟩ := hr_1.unv
  obtain ⟨us3, rfl, hr_3⟩ := hr_2.unv
  obtain ⟨A, c, us4, rfl, r4, hr_4⟩ := hr_3.uns
  obtain rfl := hr_4.un0
  have HC := Lib.hid (r4.up hB0)
  clear r4 hr hr_0 hr_1 hr_2 hr_3 hr_4
  clear HC hB0
  have hn : l.length ≤ 9223372036854775807 := by omega
  have HB1 := Lib.hid ((Below.refl _ w).alloc (Nat.le_refl _) (.cells #[.int .i64 0, .int .i64 z1, .string z2, .int .i64 z3, .slice A l.length c] 43))
  have hv : vF ⟨0, z1, z2, z3, l⟩ = vH 0 z1 z2 z3 l.length := by rw [vF]; rfl
  have es : z2.toList.isEmpty = emS z2 := rfl
  cases hse : emS z2 with
  | false =>
    rw [hse] at es
    have HG := Lib.hid (show vF ⟨0, z1, z2, z3, l⟩ = false from by rw [hv, vH, hse]; simp)
    clear hv
    go_enter Tryz.func32, Tryz.ntmps32
    go_wp2_with (go_at_call 28; refine (l1In_any _ _ _ _).mono ?_; rintro e w1 ⟨rfl, rfl⟩)
    all_goals (go_ret; exact ⟨ret_bool (by rw [HG.out]), HB1.out⟩)
  | true =>
    rw [hse] at es
    by_cases hx : z3 = 0
    · subst hx
      cases l with
      | nil =>
        have HG := Lib.hid (show vF ⟨0, z1, z2, 0, []⟩ = (z1 == 0) from by rw [hv]; simp [vH, hse])
        clear hv
        go_enter Tryz.func32, Tryz.ntmps32
        go_wp2_with (go_at_call 28; refine (l1In_any _ _ _ _).mono ?_; rintro e w1 ⟨rfl, rfl⟩)
        all_goals (go_ret; exact ⟨ret_bool (by rw [HG.out]), HB1.out⟩)
      | cons y r =>
        have hl0 : (0 : Int) < ((y :: r).length : Int) := by simp only [List.length_cons]; omega
        have hl1 : ¬ ((y :: r).length : Int) = 0 := by omega
        generalize hyr : y :: r = l at *
        have hl2 : (l.length == 0) = false := beq_false_of_ne (by omega)
        have HG := Lib.hid (show vF ⟨0, z1, z2, 0, l⟩ = false from by rw [hv, vH]; simp only [bne, hl2, Bool.not_false, Bool.or_true, Bool.not_true, Bool.false_and])
        clear hv
        go_enter Tryz.func32, Tryz.ntmps32
        go_wp2_with (go_at_call 28; refine (l1In_any _ _ _ _).mono ?_; rintro e w1 ⟨rfl, rfl⟩)
        all_goals (go_ret; exact ⟨ret_bool (by rw [HG.out]), HB1.out⟩)
    · have hx2 : (z3 == 0) = false := beq_false_of_ne hx
      have HG := Lib.hid (show vF ⟨0, z1, z2, z3, l⟩ = false from by rw [hv, vH]; simp only [bne, hx2, Bool.not_false, Bool.true_or, Bool.or_true, Bool.not_true, Bool.false_and])
      clear hv
      go_enter Tryz.func32, Tryz.ntmps32
      go_wp2_with (go_at_call 28; refine (l1In_any _ _ _ _).mono ?_; rintro e w1 ⟨rfl, rfl⟩)
      all_goals (go_ret; exact ⟨ret_bool (by rw [HG.out]), HB1.out⟩)
set_option maxHeartbeats 1000000 in
theorem vS_k1 (z1 : Int) (z2 : ByteArray) (z3 : Int) (l : List FEntry) (hw : l.length ≤ 1000000000) (hs2 : z2.size ≤ 9000000000) : VS ⟨1, z1, z2, z3, l⟩ := by
  intro us w B hB0 hr
  rw [FValue.c_eq] at hr
  obtain ⟨us0, rfl, hr_0⟩ := hr.unv
  obtain ⟨us1, rfl, hr_1⟩ := hr_0.unv
  obtain ⟨us2, rfl, hr_2⟩ := hr_1.unv
  obtain ⟨us3, rfl, hr_3⟩ := hr_2.unv
  obtain ⟨A, c, us4, rfl, r4, hr_4⟩ := hr_3.uns
  obtain rfl := hr_4.un0
  have HC := Lib.hid (r4.up hB0)
  clear r4 hr hr_0 hr_1 hr_2 hr_3 hr_4
  clear HC hB0
  have hn : l.length ≤ 9223372036854775807 := by omega
  have HB1 := Lib.hid ((Below.refl _ w).alloc (Nat.le_refl _) (.cells #[.int .i64 1, .int .i64 z1, .string z2, .int .i64 z3, .slice A l.length c] 43))
  have hv : vF ⟨1, z1, z2, z3, l⟩ = vH 1 z1 z2 z3 l.length := by rw [vF]; rfl
  have es : z2.toList.isEmpty = emS z2 := rfl
  cases hse : emS z2 with
  | false =>
    rw [hse] at es
    have HG := Lib.hid (show vF ⟨1, z1, z2, z3, l⟩ = false from by rw [hv, vH, hse]; simp)
    clear hv
    go_enter Tryz.func32, Tryz.ntmps32
    go_wp2_with (go_at_call 28; refine (l1In_any _ _ _ _).mono ?_; rintro e w1 ⟨rfl, rfl⟩)
    all_goals (go_ret; exact ⟨ret_bool (by rw [HG.out]), HB1.out⟩)
  | true =>
    rw [hse] at es
    by_cases hx : z3 = 0
    · subst hx
      cases l with
      | nil =>
        have HG := Lib.hid (show vF ⟨1, z1, z2, 0, []⟩ = inB z1 0 1 from by rw [hv]; simp [vH, hse])
        clear hv
        go_enter Tryz.func32, Tryz.ntmps32
        go_wp2_with (go_at_call 28; refine (l1In_any _ _ _ _).mono ?_; rintro e w1 ⟨rfl, rfl⟩)
        all_goals (go_ret; exact ⟨ret_bool (by rw [HG.out]), HB1.out⟩)
      | cons y r =>
        have hl0 : (0 : Int) < ((y :: r).length : Int) := by simp only [List.length_cons]; omega
        have hl1 : ¬ ((y :: r).length : Int) = 0 := by omega
        generalize hyr : y :: r = l at *
        have hl2 : (l.length == 0) = false := beq_false_of_ne (by omega)
        have HG := Lib.hid (show vF ⟨1, z1, z2, 0, l⟩ = false from by rw [hv, vH]; simp only [bne, hl2, Bool.not_false, Bool.or_true, Bool.not_true, Bool.false_and])
        clear hv
        go_enter Tryz.func32, Tryz.ntmps32
        go_wp2_with (go_at_call 28; refine (l1In_any _ _ _ _).mono ?_; rintro e w1 ⟨rfl, rfl⟩)
        all_goals (go_ret; exact ⟨ret_bool (by rw [HG.out]), HB1.out⟩)
    · have hx2 : (z3 == 0) = false := beq_false_of_ne hx
      have HG := Lib.hid (show vF ⟨1, z1, z2, z3, l⟩ = false from by rw [hv, vH]; simp only [bne, hx2, Bool.not_false, Bool.true_or, Bool.or_true, Bool.not_true, Bool.false_and])
      clear hv
      go_enter Tryz.func32, Tryz.ntmps32
      go_wp2_with (go_at_call 28; refine (l1In_any _ _ _ _).mono ?_; rintro e w1 ⟨rfl, rfl⟩)
      all_goals (go_ret; exact ⟨ret_bool (by rw [HG.out]), HB1.out⟩)
set_option maxHeartbeats 1000000 in
theorem vS_k2 (z1 : Int) (z2 : ByteArray) (z3 : Int) (l : List FEntry) (hw : l.length ≤ 1000000000) (hs2 : z2.size ≤ 9000000000) : VS ⟨2, z1, z2, z3, l⟩ := by
  intro us w B hB0 hr
  rw [FValue.c_eq] at hr
  obtain ⟨us0, rfl, hr_0⟩ := hr.unv
  obtain ⟨us1, rfl, hr_1⟩ := hr_0.unv
  obtain ⟨us2, rfl, hr_2⟩ := hr_1.unv
  obtain ⟨us3, rfl, hr_3⟩ := hr_2.unv
  obtain ⟨A, c, us4, rfl, r4, hr_4⟩ := hr_3.uns
  obtain rfl := hr_4.un0
  have HC := Lib.hid (r4.up hB0)
  clear r4 hr hr_0 hr_1 hr_2 hr_3 hr_4
  clear HC hB0
  have hn : l.length ≤ 9223372036854775807 := by omega
  have HB1 := Lib.hid ((Below.refl _ w).alloc (Nat.le_refl _) (.cells #[.int .i64 2, .int .i64 z1, .string z2, .int .i64 z3, .slice A l.length c] 43))
  have hv : vF ⟨2, z1, z2, z3, l⟩ = vH 2 z1 z2 z3 l.length := by rw [vF]; rfl
  have es : z2.toList.isEmpty = emS z2 := rfl
  cases hse : emS z2 with
  | false =>
    rw [hse] at es
    have HG := Lib.hid (show vF ⟨2, z1, z2, z3, l⟩ = false from by rw [hv, vH, hse]; simp)
    clear hv
    go_enter Tryz.func32, Tryz.ntmps32
    go_wp2_with (go_at_call 28; refine (l1In_any _ _ _ _).mono ?_; rintro e w1 ⟨rfl, rfl⟩)
    all_goals (go_ret; exact ⟨ret_bool (by rw [HG.out]), HB1.out⟩)
  | true =>
    rw [hse] at es
    by_cases hx : z3 = 0
    · subst hx
      cases l with
      | nil =>
        have HG := Lib.hid (show vF ⟨2, z1, z2, 0, []⟩ = inB z1 (-1000000000) 1000000000 from by rw [hv]; simp [vH, hse])
        clear hv
        go_enter Tryz.func32, Tryz.ntmps32
        go_wp2_with (go_at_call 28; refine (l1In_any _ _ _ _).mono ?_; rintro e w1 ⟨rfl, rfl⟩)
        all_goals (go_ret; exact ⟨ret_bool (by rw [HG.out]), HB1.out⟩)
      | cons y r =>
        have hl0 : (0 : Int) < ((y :: r).length : Int) := by simp only [List.length_cons]; omega
        have hl1 : ¬ ((y :: r).length : Int) = 0 := by omega
        generalize hyr : y :: r = l at *
        have hl2 : (l.length == 0) = false := beq_false_of_ne (by omega)
        have HG := Lib.hid (show vF ⟨2, z1, z2, 0, l⟩ = false from by rw [hv, vH]; simp only [bne, hl2, Bool.not_false, Bool.or_true, Bool.not_true, Bool.false_and])
        clear hv
        go_enter Tryz.func32, Tryz.ntmps32
        go_wp2_with (go_at_call 28; refine (l1In_any _ _ _ _).mono ?_; rintro e w1 ⟨rfl, rfl⟩)
        all_goals (go_ret; exact ⟨ret_bool (by rw [HG.out]), HB1.out⟩)
    · have hx2 : (z3 == 0) = false := beq_false_of_ne hx
      have HG := Lib.hid (show vF ⟨2, z1, z2, z3, l⟩ = false from by rw [hv, vH]; simp only [bne, hx2, Bool.not_false, Bool.true_or, Bool.or_true, Bool.not_true, Bool.false_and])
      clear hv
      go_enter Tryz.func32, Tryz.ntmps32
      go_wp2_with (go_at_call 28; refine (l1In_any _ _ _ _).mono ?_; rintro e w1 ⟨rfl, rfl⟩)
      all_goals (go_ret; exact ⟨ret_bool (by rw [HG.out]), HB1.out⟩)
set_option maxHeartbeats 1000000 in
theorem vS_k3 (z1 : Int) (z2 : ByteArray) (z3 : Int) (l : List FEntry) (hw : l.length ≤ 1000000000) (hs2 : z2.size ≤ 9000000000) : VS ⟨3, z1, z2, z3, l⟩ := by
  intro us w B hB0 hr
  rw [FValue.c_eq] at hr
  obtain ⟨us0, rfl, hr_0⟩ := hr.unv
  obtain ⟨us1, rfl, hr_1⟩ := hr_0.unv
  obtain ⟨us2, rfl, hr_2⟩ := hr_1.unv
  obtain ⟨us3, rfl, hr_3⟩ := hr_2.unv
  obtain ⟨A, c, us4, rfl, r4, hr_4⟩ := hr_3.uns
  obtain rfl := hr_4.un0
  have HC := Lib.hid (r4.up hB0)
  clear r4 hr hr_0 hr_1 hr_2 hr_3 hr_4
  clear HC hB0
  have hn : l.length ≤ 9223372036854775807 := by omega
  have HB1 := Lib.hid ((Below.refl _ w).alloc (Nat.le_refl _) (.cells #[.int .i64 3, .int .i64 z1, .string z2, .int .i64 z3, .slice A l.length c] 43))
  have hv : vF ⟨3, z1, z2, z3, l⟩ = vH 3 z1 z2 z3 l.length := by rw [vF]; rfl
  have es : z2.toList.isEmpty = emS z2 := rfl
  by_cases hx : z3 = 0
  · subst hx
    cases l with
    | nil =>
      by_cases hz1 : z1 = 0
      · subst hz1
        have hsz : (z2.size ≤ 400) = ((z2.size : Int) ≤ 400) := by apply propext; omega
        have HG := Lib.hid (show vF ⟨3, 0, z2, 0, []⟩ = decide ((z2.size : Int) ≤ 400) from by rw [hv]; simp [vH]; omega)
        clear hv
        go_enter Tryz.func32, Tryz.ntmps32
        go_wp2_with (go_at_call 28; refine (l1In_any _ _ _ _).mono ?_; rintro e w1 ⟨rfl, rfl⟩)
        all_goals (go_ret; exact ⟨ret_bool (by rw [HG.out]), HB1.out⟩)
      · have hz2 : (z1 == 0) = false := beq_false_of_ne hz1
        have HG := Lib.hid (show vF ⟨3, z1, z2, 0, []⟩ = false from by rw [hv]; simp [vH, hz2]; try omega)
        clear hv
        go_enter Tryz.func32, Tryz.ntmps32
        go_wp2_with (go_at_call 28; refine (l1In_any _ _ _ _).mono ?_; rintro e w1 ⟨rfl, rfl⟩)
        all_goals (go_ret; exact ⟨ret_bool (by rw [HG.out]), HB1.out⟩)
    | cons y r =>
      have hl0 : (0 : Int) < ((y :: r).length : Int) := by simp only [List.length_cons]; omega
      have hl1 : ¬ ((y :: r).length : Int) = 0 := by omega
      generalize hyr : y :: r = l at *
      have hl2 : (l.length == 0) = false := beq_false_of_ne (by omega)
      have HG := Lib.hid (show vF ⟨3, z1, z2, 0, l⟩ = false from by rw [hv, vH]; simp only [bne, hl2, Bool.not_false, Bool.or_true, Bool.not_true, Bool.false_and])
      clear hv
      go_enter Tryz.func32, Tryz.ntmps32
      go_wp2_with (go_at_call 28; refine (l1In_any _ _ _ _).mono ?_; rintro e w1 ⟨rfl, rfl⟩)
      all_goals (go_ret; exact ⟨ret_bool (by rw [HG.out]), HB1.out⟩)
  · have hx2 : (z3 == 0) = false := beq_false_of_ne hx
    have HG := Lib.hid (show vF ⟨3, z1, z2, z3, l⟩ = false from by rw [hv, vH]; simp only [bne, hx2, Bool.not_false, Bool.true_or, Bool.or_true, Bool.not_true, Bool.false_and])
    clear hv
    go_enter Tryz.func32, Tryz.ntmps32
    go_wp2_with (go_at_call 28; refine (l1In_any _ _ _ _).mono ?_; rintro e w1 ⟨rfl, rfl⟩)
    all_goals (go_ret; exact ⟨ret_bool (by rw [HG.out]), HB1.out⟩)
set_option maxHeartbeats 1000000 in
theorem vS_k6 (z1 : Int) (z2 : ByteArray) (z3 : Int) (l : List FEntry) (hw : l.length ≤ 1000000000) (hs2 : z2.size ≤ 9000000000) : VS ⟨6, z1, z2, z3, l⟩ := by
  intro us w B hB0 hr
  rw [FValue.c_eq] at hr
  obtain ⟨us0, rfl, hr_0⟩ := hr.unv
  obtain ⟨us1, rfl, hr_1⟩ := hr_0.unv
  obtain ⟨us2, rfl, hr_2⟩ := hr_1.unv
  obtain ⟨us3, rfl, hr_3⟩ := hr_2.unv
  obtain ⟨A, c, us4, rfl, r4, hr_4⟩ := hr_3.uns
  obtain rfl := hr_4.un0
  have HC := Lib.hid (r4.up hB0)
  clear r4 hr hr_0 hr_1 hr_2 hr_3 hr_4
  clear HC hB0
  have hn : l.length ≤ 9223372036854775807 := by omega
  have HB1 := Lib.hid ((Below.refl _ w).alloc (Nat.le_refl _) (.cells #[.int .i64 6, .int .i64 z1, .string z2, .int .i64 z3, .slice A l.length c] 43))
  have hv : vF ⟨6, z1, z2, z3, l⟩ = vH 6 z1 z2 z3 l.length := by rw [vF]; rfl
  have es : z2.toList.isEmpty = emS z2 := rfl
  cases hse : emS z2 with
  | false =>
    rw [hse] at es
    have HG := Lib.hid (show vF ⟨6, z1, z2, z3, l⟩ = false from by rw [hv, vH, hse]; simp)
    clear hv
    go_enter Tryz.func32, Tryz.ntmps32
    go_wp2_with (go_at_call 28; refine (l1In_any _ _ _ _).mono ?_; rintro e w1 ⟨rfl, rfl⟩)
    all_goals (go_ret; exact ⟨ret_bool (by rw [HG.out]), HB1.out⟩)
  | true =>
    rw [hse] at es
    by_cases hx : z3 = 0
    · subst hx
      cases l with
      | nil =>
        have HG := Lib.hid (show vF ⟨6, z1, z2, 0, []⟩ = inB z1 0 255 from by rw [hv]; simp [vH, hse])
        clear hv
        go_enter Tryz.func32, Tryz.ntmps32
        go_wp2_with (go_at_call 28; refine (l1In_any _ _ _ _).mono ?_; rintro e w1 ⟨rfl, rfl⟩)
        all_goals (go_ret; exact ⟨ret_bool (by rw [HG.out]), HB1.out⟩)
      | cons y r =>
        have hl0 : (0 : Int) < ((y :: r).length : Int) := by simp only [List.length_cons]; omega
        have hl1 : ¬ ((y :: r).length : Int) = 0 := by omega
        generalize hyr : y :: r = l at *
        have hl2 : (l.length == 0) = false := beq_false_of_ne (by omega)
        have HG := Lib.hid (show vF ⟨6, z1, z2, 0, l⟩ = false from by rw [hv, vH]; simp only [bne, hl2, Bool.not_false, Bool.or_true, Bool.not_true, Bool.false_and])
        clear hv
        go_enter Tryz.func32, Tryz.ntmps32
        go_wp2_with (go_at_call 28; refine (l1In_any _ _ _ _).mono ?_; rintro e w1 ⟨rfl, rfl⟩)
        all_goals (go_ret; exact ⟨ret_bool (by rw [HG.out]), HB1.out⟩)
    · have hx2 : (z3 == 0) = false := beq_false_of_ne hx
      have HG := Lib.hid (show vF ⟨6, z1, z2, z3, l⟩ = false from by rw [hv, vH]; simp only [bne, hx2, Bool.not_false, Bool.true_or, Bool.or_true, Bool.not_true, Bool.false_and])
      clear hv
      go_enter Tryz.func32, Tryz.ntmps32
      go_wp2_with (go_at_call 28; refine (l1In_any _ _ _ _).mono ?_; rintro e w1 ⟨rfl, rfl⟩)
      all_goals (go_ret; exact ⟨ret_bool (by rw [HG.out]), HB1.out⟩)
set_option maxHeartbeats 1000000 in
theorem vS_k7 (z1 : Int) (z2 : ByteArray) (z3 : Int) (l : List FEntry) (hw : l.length ≤ 1000000000) (hs2 : z2.size ≤ 9000000000) : VS ⟨7, z1, z2, z3, l⟩ := by
  intro us w B hB0 hr
  rw [FValue.c_eq] at hr
  obtain ⟨us0, rfl, hr_0⟩ := hr.unv
  obtain ⟨us1, rfl, hr_1⟩ := hr_0.unv
  obtain ⟨us2, rfl, hr_2⟩ := hr_1.unv
  obtain ⟨us3, rfl, hr_3⟩ := hr_2.unv
  obtain ⟨A, c, us4, rfl, r4, hr_4⟩ := hr_3.uns
  obtain rfl := hr_4.un0
  have HC := Lib.hid (r4.up hB0)
  clear r4 hr hr_0 hr_1 hr_2 hr_3 hr_4
  clear HC hB0
  have hn : l.length ≤ 9223372036854775807 := by omega
  have HB1 := Lib.hid ((Below.refl _ w).alloc (Nat.le_refl _) (.cells #[.int .i64 7, .int .i64 z1, .string z2, .int .i64 z3, .slice A l.length c] 43))
  have hv : vF ⟨7, z1, z2, z3, l⟩ = vH 7 z1 z2 z3 l.length := by rw [vF]; rfl
  have es : z2.toList.isEmpty = emS z2 := rfl
  cases hse : emS z2 with
  | false =>
    rw [hse] at es
    have HG := Lib.hid (show vF ⟨7, z1, z2, z3, l⟩ = false from by rw [hv, vH, hse]; simp)
    clear hv
    go_enter Tryz.func32, Tryz.ntmps32
    go_wp2_with (go_at_call 28; refine (l1In_any _ _ _ _).mono ?_; rintro e w1 ⟨rfl, rfl⟩)
    all_goals (go_ret; exact ⟨ret_bool (by rw [HG.out]), HB1.out⟩)
  | true =>
    rw [hse] at es
    by_cases hx : z3 = 0
    · subst hx
      cases l with
      | nil =>
        have HG := Lib.hid (show vF ⟨7, z1, z2, 0, []⟩ = inB z1 0 255 from by rw [hv]; simp [vH, hse])
        clear hv
        go_enter Tryz.func32, Tryz.ntmps32
        go_wp2_with (go_at_call 28; refine (l1In_any _ _ _ _).mono ?_; rintro e w1 ⟨rfl, rfl⟩)
        all_goals (go_ret; exact ⟨ret_bool (by rw [HG.out]), HB1.out⟩)
      | cons y r =>
        have hl0 : (0 : Int) < ((y :: r).length : Int) := by simp only [List.length_cons]; omega
        have hl1 : ¬ ((y :: r).length : Int) = 0 := by omega
        generalize hyr : y :: r = l at *
        have hl2 : (l.length == 0) = false := beq_false_of_ne (by omega)
        have HG := Lib.hid (show vF ⟨7, z1, z2, 0, l⟩ = false from by rw [hv, vH]; simp only [bne, hl2, Bool.not_false, Bool.or_true, Bool.not_true, Bool.false_and])
        clear hv
        go_enter Tryz.func32, Tryz.ntmps32
        go_wp2_with (go_at_call 28; refine (l1In_any _ _ _ _).mono ?_; rintro e w1 ⟨rfl, rfl⟩)
        all_goals (go_ret; exact ⟨ret_bool (by rw [HG.out]), HB1.out⟩)
    · have hx2 : (z3 == 0) = false := beq_false_of_ne hx
      have HG := Lib.hid (show vF ⟨7, z1, z2, z3, l⟩ = false from by rw [hv, vH]; simp only [bne, hx2, Bool.not_false, Bool.true_or, Bool.or_true, Bool.not_true, Bool.false_and])
      clear hv
      go_enter Tryz.func32, Tryz.ntmps32
      go_wp2_with (go_at_call 28; refine (l1In_any _ _ _ _).mono ?_; rintro e w1 ⟨rfl, rfl⟩)
      all_goals (go_ret; exact ⟨ret_bool (by rw [HG.out]), HB1.out⟩)
set_option maxHeartbeats 1000000 in
theorem vS_k8 (z1 : Int) (z2 : ByteArray) (z3 : Int) (l : List FEntry) (hw : l.length ≤ 1000000000) (hs2 : z2.size ≤ 9000000000) : VS ⟨8, z1, z2, z3, l⟩ := by
  intro us w B hB0 hr
  rw [FValue.c_eq] at hr
  obtain ⟨us0, rfl, hr_0⟩ := hr.unv
  obtain ⟨us1, rfl, hr_1⟩ := hr_0.unv
  obtain ⟨us2, rfl, hr_2⟩ := hr_1.unv
  obtain ⟨us3, rfl, hr_3⟩ := hr_2.unv
  obtain ⟨A, c, us4, rfl, r4, hr_4⟩ := hr_3.uns
  obtain rfl := hr_4.un0
  have HC := Lib.hid (r4.up hB0)
  clear r4 hr hr_0 hr_1 hr_2 hr_3 hr_4
  clear HC hB0
  have hn : l.length ≤ 9223372036854775807 := by omega
  have HB1 := Lib.hid ((Below.refl _ w).alloc (Nat.le_refl _) (.cells #[.int .i64 8, .int .i64 z1, .string z2, .int .i64 z3, .slice A l.length c] 43))
  have hv : vF ⟨8, z1, z2, z3, l⟩ = vH 8 z1 z2 z3 l.length := by rw [vF]; rfl
  have es : z2.toList.isEmpty = emS z2 := rfl
  cases hse : emS z2 with
  | false =>
    rw [hse] at es
    have HG := Lib.hid (show vF ⟨8, z1, z2, z3, l⟩ = false from by rw [hv, vH, hse]; simp)
    clear hv
    go_enter Tryz.func32, Tryz.ntmps32
    go_wp2_with (go_at_call 28; refine (l1In_any _ _ _ _).mono ?_; rintro e w1 ⟨rfl, rfl⟩)
    all_goals (go_ret; exact ⟨ret_bool (by rw [HG.out]), HB1.out⟩)
  | true =>
    rw [hse] at es
    by_cases hx : z3 = 0
    · subst hx
      cases l with
      | nil =>
        have HG := Lib.hid (show vF ⟨8, z1, z2, 0, []⟩ = inB z1 0 255 from by rw [hv]; simp [vH, hse])
        clear hv
        go_enter Tryz.func32, Tryz.ntmps32
        go_wp2_with (go_at_call 28; refine (l1In_any _ _ _ _).mono ?_; rintro e w1 ⟨rfl, rfl⟩)
        all_goals (go_ret; exact ⟨ret_bool (by rw [HG.out]), HB1.out⟩)
      | cons y r =>
        have hl0 : (0 : Int) < ((y :: r).length : Int) := by simp only [List.length_cons]; omega
        have hl1 : ¬ ((y :: r).length : Int) = 0 := by omega
        generalize hyr : y :: r = l at *
        have hl2 : (l.length == 0) = false := beq_false_of_ne (by omega)
        have HG := Lib.hid (show vF ⟨8, z1, z2, 0, l⟩ = false from by rw [hv, vH]; simp only [bne, hl2, Bool.not_false, Bool.or_true, Bool.not_true, Bool.false_and])
        clear hv
        go_enter Tryz.func32, Tryz.ntmps32
        go_wp2_with (go_at_call 28; refine (l1In_any _ _ _ _).mono ?_; rintro e w1 ⟨rfl, rfl⟩)
        all_goals (go_ret; exact ⟨ret_bool (by rw [HG.out]), HB1.out⟩)
    · have hx2 : (z3 == 0) = false := beq_false_of_ne hx
      have HG := Lib.hid (show vF ⟨8, z1, z2, z3, l⟩ = false from by rw [hv, vH]; simp only [bne, hx2, Bool.not_false, Bool.true_or, Bool.or_true, Bool.not_true, Bool.false_and])
      clear hv
      go_enter Tryz.func32, Tryz.ntmps32
      go_wp2_with (go_at_call 28; refine (l1In_any _ _ _ _).mono ?_; rintro e w1 ⟨rfl, rfl⟩)
      all_goals (go_ret; exact ⟨ret_bool (by rw [HG.out]), HB1.out⟩)
set_option maxHeartbeats 1000000 in
theorem vS_o (z0 : Int) (h : (z0 == 0) = false ∧ (z0 == 1) = false ∧ (z0 == 2) = false ∧ (z0 == 3) = false ∧ (z0 == 4) = false ∧ (z0 == 6) = false ∧ (z0 == 7) = false ∧ (z0 == 8) = false) (z1 : Int) (z2 : ByteArray) (z3 : Int) (l : List FEntry) (hw : l.length ≤ 1000000000) (hs2 : z2.size ≤ 9000000000) : VS ⟨z0, z1, z2, z3, l⟩ := by
  intro us w B hB0 hr
  rw [FValue.c_eq] at hr
  obtain ⟨us0, rfl, hr_0⟩ := hr.unv
  obtain ⟨us1, rfl, hr_1⟩ := hr_0.unv
  obtain ⟨us2, rfl, hr_2⟩ := hr_1.unv
  obtain ⟨us3, rfl, hr_3⟩ := hr_2.unv
  obtain ⟨A, c, us4, rfl, r4, hr_4⟩ := hr_3.uns
  obtain rfl := hr_4.un0
  have HC := Lib.hid (r4.up hB0)
  clear r4 hr hr_0 hr_1 hr_2 hr_3 hr_4
  clear HC hB0
  have hn : l.length ≤ 9223372036854775807 := by omega
  have HB1 := Lib.hid ((Below.refl _ w).alloc (Nat.le_refl _) (.cells #[.int .i64 z0, .int .i64 z1, .string z2, .int .i64 z3, .slice A l.length c] 43))
  obtain ⟨h0, h1, h2, h3, h4, h6, h7, h8⟩ := h
  have n3 : ¬ z0 = 3 := by simpa using h3
  have n4 : ¬ z0 = 4 := by simpa using h4
  have n0 : ¬ z0 = 0 := by simpa using h0
  have hv : vF ⟨z0, z1, z2, z3, l⟩ = false := by rw [vF, h4, vH, h0, h1, h2, h3, h6, h7, h8]; simp
  have es : z2.toList.isEmpty = emS z2 := rfl
  cases hse : emS z2 with
  | false =>
    rw [hse] at es
    have HG := Lib.hid (show vF ⟨z0, z1, z2, z3, l⟩ = false from hv)
    clear hv
    go_enter Tryz.func32, Tryz.ntmps32
    go_wp2_with (go_at_call 28; refine (l1In_any _ _ _ _).mono ?_; rintro e w1 ⟨rfl, rfl⟩)
    all_goals (go_ret; exact ⟨ret_bool (by rw [HG.out]), HB1.out⟩)
  | true =>
    rw [hse] at es
    by_cases hx : z3 = 0
    · subst hx
      cases l with
      | nil =>
        have HG := Lib.hid (show vF ⟨z0, z1, z2, 0, []⟩ = false from hv)
        clear hv
        go_enter Tryz.func32, Tryz.ntmps32
        go_wp2_with (go_at_call 28; refine (l1In_any _ _ _ _).mono ?_; rintro e w1 ⟨rfl, rfl⟩)
        all_goals (go_ret; exact ⟨ret_bool (by rw [HG.out]), HB1.out⟩)
      | cons y r =>
        have hl0 : (0 : Int) < ((y :: r).length : Int) := by simp only [List.length_cons]; omega
        have hl1 : ¬ ((y :: r).length : Int) = 0 := by omega
        generalize hyr : y :: r = l at *
        have hl2 : (l.length == 0) = false := beq_false_of_ne (by omega)
        have HG := Lib.hid (show vF ⟨z0, z1, z2, 0, l⟩ = false from hv)
        clear hv
        go_enter Tryz.func32, Tryz.ntmps32
        go_wp2_with (go_at_call 28; refine (l1In_any _ _ _ _).mono ?_; rintro e w1 ⟨rfl, rfl⟩)
        all_goals (go_ret; exact ⟨ret_bool (by rw [HG.out]), HB1.out⟩)
    · have hx2 : (z3 == 0) = false := beq_false_of_ne hx
      have HG := Lib.hid (show vF ⟨z0, z1, z2, z3, l⟩ = false from hv)
      clear hv
      go_enter Tryz.func32, Tryz.ntmps32
      go_wp2_with (go_at_call 28; refine (l1In_any _ _ _ _).mono ?_; rintro e w1 ⟨rfl, rfl⟩)
      all_goals (go_ret; exact ⟨ret_bool (by rw [HG.out]), HB1.out⟩)
end Go.Proofs.YtdmbhmhfjappcaaGreatDoor
