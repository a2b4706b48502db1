/-
  Parts of the proof: ScJ. Conditions: none.
-/
import Derived.Test.YtgejkfcemlkclaaQGScIReg
namespace Go.Proofs.Ytgejkfcemlkclaa
open Go.ChangeShapes Go.WideShapes Go.ChangeAt Go.RowKit Go.Deep Go.Joins
open Go.ChangeMaps (open_string shut_string)
set_option linter.unusedVariables false
set_option linter.unusedSimpArgs false
set_option maxRecDepth 100000
def rnmF (x : FNode) : ByteArray := if (rootF x).kd = 4 then (rootF x).tx else ByteArray.empty
theorem rnm_th (x : FNode) : ((rnmF x).toList == [116, 104, 105, 115]) = rnF x := by
  unfold rnmF rnF isTh
  by_cases h : (rootF x).kd = 4
  · rw [if_pos h, h]; rfl
  · rw [if_neg h, beq_false_of_ne h, Bool.false_and, ByteArray.toList_eq]
    rfl
set_option maxHeartbeats 1000000 in
theorem rn_impl (x : FNode) (hw : x.wt ≤ 9000000000) (hrt : rtOk x = true) (us : List Value) (w : World) (B : Nat) (hB0 : B ≤ w.heap.size) (hr : RdVs w B x.c us) :
    Calls Try.prog 74 #[.agg us.toArray] w fun e w' => e = .returned (.string (rnmF x)) ∧ Below w.heap.size w w' := by
  obtain ⟨z0, z1, z2, z3⟩ := x
  rw [FNode.c_eq] at hr
  obtain ⟨us0, rfl, hr_0⟩ := hr.unv
  obtain ⟨us1, rfl, hr_1⟩ := hr_0.unv
  obtain ⟨us2, rfl, hr_2⟩ := hr_1.unv
  obtain ⟨A3, c3, us3, rfl, r3, hr_3⟩ := hr_2.uns
  obtain rfl := hr_3.un0
  have HR := Lib.hid r3
  have HW := Lib.hid hw
  have HRT := Lib.hid hrt
  clear hr r3 hr_0 hr_1 hr_2 hr_3 hw hrt
  go_enter Try.func74, Try.ntmps74
  go_wp2_with fail
  go_loopg [] (szN ⟨z0, z1, z2, z3⟩) (fun k wr => ∃ (y0 y1 : Int) (y2 : ByteArray) (y3 : List FNode) (D : Option Addr) (d m : Nat), wr = w.alloc (.cells #[.int .i64 y0, .int .i64 y1, .string y2, .slice D m d] 29) ∧ Hid (rootF ⟨y0, y1, y2, y3⟩ = rootF ⟨z0, z1, z2, z3⟩) ∧ Hid (rtOk ⟨y0, y1, y2, y3⟩ = true) ∧ Hid (RdC w B (.s 29 4 m (FNode.flat y3)) (.slice D m d)) ∧ Hid (y3.length = m) ∧ Hid (FNode.wt ⟨y0, y1, y2, y3⟩ ≤ 9000000000) ∧ Hid (szN ⟨y0, y1, y2, y3⟩ ≤ k))
  case atStart => exact ⟨_, _, _, _, _, _, _, rfl, Lib.hid rfl, HRT, HR, Lib.hid rfl, HW, Lib.hid (Nat.le_refl _)⟩
  case round =>
    obtain ⟨y0, y1, y2, y3, D, d, m, rfl, HT, HK, HQ, HM, HV, HS⟩ := hrel
    have hy : m ≤ 9223372036854775807 := by have := HV.out; rw [FNode.wt_eq] at this; have := HM.out; omega
    have hb2 := Lib.hid ((Below.refl _ w).alloc (Nat.le_refl _) (.cells #[.int .i64 y0, .int .i64 y1, .string y2, .slice D m d] 29))
    by_cases e7 : y0 = 7
    · subst e7
      match y3, HK with
      | [], HK => have := HK.out; rw [rtOk_7n] at this; cases this
      | ⟨a0, a1, a2, a3⟩ :: r, HK =>
        have hpos : 0 < m := by have := HM.out; simp only [List.length_cons] at this; omega
        have HQ2 : Hid (RdC w B (.s 29 4 (FNode.mk a0 a1 a2 a3 :: r).length (FNode.flat (FNode.mk a0 a1 a2 a3 :: r))) (.slice D (FNode.mk a0 a1 a2 a3 :: r).length d)) := by rw [HM.out]; exact HQ
        obtain ⟨bca, offca, Ea, hblca, hcc⟩ := RdC.at_ (l := (FNode.mk a0 a1 a2 a3 :: r)) FNode.len HQ2.out (i := 0) (x := FNode.mk a0 a1 a2 a3) rfl
        rw [FNode.c_eq] at hcc
        obtain ⟨u0, e0, q0⟩ := hcc 0 _ rfl
        obtain rfl := q0.val
        have ca_0 : (w.alloc (.cells #[.int .i64 7, .int .i64 y1, .string y2, .slice D m d] 29)).cell? ⟨bca, offca, none⟩ = some (.int .i64 a0) := (hb2.out.cell (p := ⟨bca, _, none⟩) (by show bca < w.heap.size; omega)).trans (by simpa using e0)
        obtain ⟨u1, e1, q1⟩ := hcc 1 _ rfl
        obtain rfl := q1.val
        have ca_1 : (w.alloc (.cells #[.int .i64 7, .int .i64 y1, .string y2, .slice D m d] 29)).cell? ⟨bca, offca + 1, none⟩ = some (.int .i64 a1) := (hb2.out.cell (p := ⟨bca, _, none⟩) (by show bca < w.heap.size; omega)).trans (by simpa using e1)
        obtain ⟨u2, e2, q2⟩ := hcc 2 _ rfl
        obtain rfl := q2.val
        have ca_2 : (w.alloc (.cells #[.int .i64 7, .int .i64 y1, .string y2, .slice D m d] 29)).cell? ⟨bca, offca + 2, none⟩ = some (.string a2) := (hb2.out.cell (p := ⟨bca, _, none⟩) (by show bca < w.heap.size; omega)).trans (by simpa using e2)
        obtain ⟨u3, e3, q3⟩ := hcc 3 _ rfl
        obtain ⟨Da, da, rfl⟩ := q3.form
        have ca_3 : (w.alloc (.cells #[.int .i64 7, .int .i64 y1, .string y2, .slice D m d] 29)).cell? ⟨bca, offca + 3, none⟩ = some (.slice Da a3.length da) := (hb2.out.cell (p := ⟨bca, _, none⟩) (by show bca < w.heap.size; omega)).trans (by simpa using e3)
        have Qa := Lib.hid q3
        clear hcc e0 e1 e2 e3 q0 q1 q2 q3
        subst Ea
        go_wp2_with fail
        go_roundg (szN ⟨a0, a1, a2, a3⟩)
        case rel => exact ⟨_, _, _, _, _, _, _, rfl, Lib.hid (by rw [← HT.out, rootF_7]), Lib.hid (by rw [← rtOk_7 y1 y2 _ r]; exact HK.out), Qa, Lib.hid rfl, Lib.hid (by have h1 := HV.out; rw [FNode.wt_eq] at h1; have h2 := FNode.wts_at (FNode.mk a0 a1 a2 a3 :: r) _ (List.mem_cons_self ..); omega), Lib.hid (Nat.le_refl _)⟩
        case measure => exact Nat.lt_of_lt_of_le (szN_7 _ _ _ _ _) HS.out
    · have HE := Lib.hid (rootF_o e7 y1 y2 y3)
      by_cases e4 : y0 = 4
      · subst e4
        have HF := Lib.hid (show rnmF ⟨z0, z1, z2, z3⟩ = y2 from by unfold rnmF; rw [← HT.out, HE.out]; rfl)
        go_wp2_with fail
        go_ret
        exact ⟨by rw [HF.out]; rfl, hb2.out⟩
      · have HF := Lib.hid (show rnmF ⟨z0, z1, z2, z3⟩ = ByteArray.empty from by unfold rnmF; rw [← HT.out, HE.out]; exact if_neg e4)
        go_wp2_with fail
        go_ret
        exact ⟨by rw [HF.out]; rfl, hb2.out⟩
theorem thI_24 (z1 : Int) (z2 : ByteArray) (z3 : List FNode) (hw : (FNode.mk 24 z1 z2 z3).wt ≤ 9000000000)  (us : List Value) (w : World) (B : Nat) (hB0 : B ≤ w.heap.size) (hr : RdVs w B (FNode.mk 24 z1 z2 z3).c us) :
    Calls Try.prog 44 #[.agg us.toArray] w fun e w' => e = .returned (.bool (isTh z2)) ∧ Below w.heap.size w w' := by
  rw [FNode.c_eq] at hr
  obtain ⟨us0, rfl, hr_0⟩ := hr.unv
  obtain ⟨us1, rfl, hr_1⟩ := hr_0.unv
  obtain ⟨us2, rfl, hr_2⟩ := hr_1.unv
  obtain ⟨A3, c3, us3, rfl, r3, hr_3⟩ := hr_2.uns
  obtain rfl := hr_3.un0
  have hww := hw
  rw [FNode.wt_eq] at hw
  have hz : z2.size ≤ 9223372036854775807 := by omega
  have hl : z3.length ≤ 9000000000 := by omega
  have HR0 := Lib.hid r3
  obtain ⟨m, hm⟩ : ∃ m, z3.length = m := ⟨_, rfl⟩
  try rw [hm] at hl r3 ⊢
  have HR := Lib.hid r3
  have HB := Lib.hid ((Below.refl _ w).alloc (Nat.le_refl _) (.cells #[.int .i64 24, .int .i64 z1, .string z2, .slice A3 m c3] 29))
  clear hr hr_0 hr_1 hr_2 hr_3 r3
  clear hm hw hww HR0
  have HT := Lib.hid (show (z2.toList == [116, 104, 105, 115]) = isTh z2 from rfl)
  go_enter Try.func44, Try.ntmps44
  go_wp2_with (fail)
  all_goals (go_ret; exact ⟨ret_bool (by first | rfl | (simp_all; done)), HB.out⟩)
theorem thI_25 (z1 : Int) (z2 : ByteArray) (z3 : List FNode) (hw : (FNode.mk 25 z1 z2 z3).wt ≤ 9000000000)  (us : List Value) (w : World) (B : Nat) (hB0 : B ≤ w.heap.size) (hr : RdVs w B (FNode.mk 25 z1 z2 z3).c us) :
    Calls Try.prog 44 #[.agg us.toArray] w fun e w' => e = .returned (.bool (isTh z2)) ∧ Below w.heap.size w w' := by
  rw [FNode.c_eq] at hr
  obtain ⟨us0, rfl, hr_0⟩ := hr.unv
  obtain ⟨us1, rfl, hr_1⟩ := hr_0.unv
  obtain ⟨us2, rfl, hr_2⟩ := hr_1.unv
  obtain ⟨A3, c3, us3, rfl, r3, hr_3⟩ := hr_2.uns
  obtain rfl := hr_3.un0
  have hww := hw
  rw [FNode.wt_eq] at hw
  have hz : z2.size ≤ 9223372036854775807 := by omega
  have hl : z3.length ≤ 9000000000 := by omega
  have HR0 := Lib.hid r3
  obtain ⟨m, hm⟩ : ∃ m, z3.length = m := ⟨_, rfl⟩
  try rw [hm] at hl r3 ⊢
  have HR := Lib.hid r3
  have HB := Lib.hid ((Below.refl _ w).alloc (Nat.le_refl _) (.cells #[.int .i64 25, .int .i64 z1, .string z2, .slice A3 m c3] 29))
  clear hr hr_0 hr_1 hr_2 hr_3 r3
  clear hm hw hww HR0
  have HT := Lib.hid (show (z2.toList == [116, 104, 105, 115]) = isTh z2 from rfl)
  go_enter Try.func44, Try.ntmps44
  go_wp2_with (fail)
  all_goals (go_ret; exact ⟨ret_bool (by first | rfl | (simp_all; done)), HB.out⟩)
theorem thI_40 (z1 : Int) (z2 : ByteArray) (z3 : List FNode) (hw : (FNode.mk 40 z1 z2 z3).wt ≤ 9000000000)  (us : List Value) (w : World) (B : Nat) (hB0 : B ≤ w.heap.size) (hr : RdVs w B (FNode.mk 40 z1 z2 z3).c us) :
    Calls Try.prog 44 #[.agg us.toArray] w fun e w' => e = .returned (.bool (isTh z2)) ∧ Below w.heap.size w w' := by
  rw [FNode.c_eq] at hr
  obtain ⟨us0, rfl, hr_0⟩ := hr.unv
  obtain ⟨us1, rfl, hr_1⟩ := hr_0.unv
  obtain ⟨us2, rfl, hr_2⟩ := hr_1.unv
  obtain ⟨A3, c3, us3, rfl, r3, hr_3⟩ := hr_2.uns
  obtain rfl := hr_3.un0
  have hww := hw
  rw [FNode.wt_eq] at hw
  have hz : z2.size ≤ 9223372036854775807 := by omega
  have hl : z3.length ≤ 9000000000 := by omega
  have HR0 := Lib.hid r3
  obtain ⟨m, hm⟩ : ∃ m, z3.length = m := ⟨_, rfl⟩
  try rw [hm] at hl r3 ⊢
  have HR := Lib.hid r3
  have HB := Lib.hid ((Below.refl _ w).alloc (Nat.le_refl _) (.cells #[.int .i64 40, .int .i64 z1, .string z2, .slice A3 m c3] 29))
  clear hr hr_0 hr_1 hr_2 hr_3 r3
  clear hm hw hww HR0
  have HT := Lib.hid (show (z2.toList == [116, 104, 105, 115]) = isTh z2 from rfl)
  go_enter Try.func44, Try.ntmps44
  go_wp2_with (fail)
  all_goals (go_ret; exact ⟨ret_bool (by first | rfl | (simp_all; done)), HB.out⟩)
theorem thI_17 (z1 : Int) (z2 : ByteArray) (z3 : List FNode) (hw : (FNode.mk 17 z1 z2 z3).wt ≤ 9000000000) (hk1 : 1 ≤ z3.length) (us : List Value) (w : World) (B : Nat) (hB0 : B ≤ w.heap.size) (hr : RdVs w B (FNode.mk 17 z1 z2 z3).c us) :
    Calls Try.prog 44 #[.agg us.toArray] w fun e w' => e = .returned (.bool (isTh z2 || hdTx z3)) ∧ Below w.heap.size w w' := by
  rw [FNode.c_eq] at hr
  obtain ⟨us0, rfl, hr_0⟩ := hr.unv
  obtain ⟨us1, rfl, hr_1⟩ := hr_0.unv
  obtain ⟨us2, rfl, hr_2⟩ := hr_1.unv
  obtain ⟨A3, c3, us3, rfl, r3, hr_3⟩ := hr_2.uns
  obtain rfl := hr_3.un0
  have hww := hw
  rw [FNode.wt_eq] at hw
  have hz : z2.size ≤ 9223372036854775807 := by omega
  have hl : z3.length ≤ 9000000000 := by omega
  have HR0 := Lib.hid r3
  obtain ⟨m, hm⟩ : ∃ m, z3.length = m := ⟨_, rfl⟩
  try rw [hm] at hl r3 ⊢
  have HR := Lib.hid r3
  have HB := Lib.hid ((Below.refl _ w).alloc (Nat.le_refl _) (.cells #[.int .i64 17, .int .i64 z1, .string z2, .slice A3 m c3] 29))
  clear hr hr_0 hr_1 hr_2 hr_3 r3
  obtain ⟨⟨y0, y1, y2, y3⟩, r, rfl⟩ : ∃ a r, z3 = a :: r := by
    cases z3 with
    | nil => simp at hk1
    | cons a r => exact ⟨a, r, rfl⟩
  have hpos : 0 < m := by rw [← hm]; simp
  obtain ⟨bcy, offcy, Ey, hblcy, hcc⟩ := nd_at hm.symm (l := (FNode.mk y0 y1 y2 y3 :: r)) HR.out (i := 0) (x := FNode.mk y0 y1 y2 y3) rfl
  rw [FNode.c_eq] at hcc
  obtain ⟨u0, e0, q0⟩ := hcc 0 _ rfl
  obtain rfl := q0.val
  have cy_0 : w.cell? ⟨bcy, offcy, none⟩ = some (.int .i64 y0) := ((Below.refl w.heap.size w).cell (p := ⟨bcy, _, none⟩) (by show bcy < w.heap.size; omega)).trans (by simpa using e0)
  obtain ⟨u1, e1, q1⟩ := hcc 1 _ rfl
  obtain rfl := q1.val
  have cy_1 : w.cell? ⟨bcy, offcy + 1, none⟩ = some (.int .i64 y1) := ((Below.refl w.heap.size w).cell (p := ⟨bcy, _, none⟩) (by show bcy < w.heap.size; omega)).trans (by simpa using e1)
  obtain ⟨u2, e2, q2⟩ := hcc 2 _ rfl
  obtain rfl := q2.val
  have cy_2 : w.cell? ⟨bcy, offcy + 2, none⟩ = some (.string y2) := ((Below.refl w.heap.size w).cell (p := ⟨bcy, _, none⟩) (by show bcy < w.heap.size; omega)).trans (by simpa using e2)
  obtain ⟨u3, e3, q3⟩ := hcc 3 _ rfl
  obtain ⟨Dy, dy, rfl⟩ := q3.form
  have cy_3 : w.cell? ⟨bcy, offcy + 3, none⟩ = some (.slice Dy y3.length dy) := ((Below.refl w.heap.size w).cell (p := ⟨bcy, _, none⟩) (by show bcy < w.heap.size; omega)).trans (by simpa using e3)
  have Qy := Lib.hid q3
  clear hcc e0 e1 e2 e3 q0 q1 q2 q3
  have hbl : bcy < w.heap.size := Nat.lt_of_lt_of_le hblcy hB0
  subst Ey
  have a_y0 := (HB.out.cell (p := ⟨bcy, offcy, none⟩) hbl).trans cy_0
  have a_y1 := (HB.out.cell (p := ⟨bcy, offcy + 1, none⟩) hbl).trans cy_1
  have a_y2 := (HB.out.cell (p := ⟨bcy, offcy + 2, none⟩) hbl).trans cy_2
  have a_y3 := (HB.out.cell (p := ⟨bcy, offcy + 3, none⟩) hbl).trans cy_3
  clear hm hw hww hk1 HR0
  have HT := Lib.hid (show isTh z2 = (z2.toList == [116, 104, 105, 115]) from rfl)
  have HY := Lib.hid (show hdTx (FNode.mk y0 y1 y2 y3 :: r) = (y2.toList == [116, 104, 105, 115]) from rfl)
  rw [HT.out, HY.out]
  clear HT HY
  cases ht : (z2.toList == [116, 104, 105, 115]) with
  | true =>
    go_enter Try.func44, Try.ntmps44
    go_wp2_with (fail)
    all_goals (go_ret; exact ⟨ret_bool (by first | rfl | (simp_all; done)), HB.out⟩)
  | false =>
    go_enter Try.func44, Try.ntmps44
    go_wp2_with (fail)
    all_goals (go_ret; exact ⟨ret_bool (by first | rfl | (simp_all; done)), HB.out⟩)
theorem thI_44 (z1 : Int) (z2 : ByteArray) (z3 : List FNode) (hw : (FNode.mk 44 z1 z2 z3).wt ≤ 9000000000) (hk1 : 1 ≤ z3.length) (us : List Value) (w : World) (B : Nat) (hB0 : B ≤ w.heap.size) (hr : RdVs w B (FNode.mk 44 z1 z2 z3).c us) :
    Calls Try.prog 44 #[.agg us.toArray] w fun e w' => e = .returned (.bool (hdTx z3)) ∧ Below w.heap.size w w' := by
  rw [FNode.c_eq] at hr
  obtain ⟨us0, rfl, hr_0⟩ := hr.unv
  obtain ⟨us1, rfl, hr_1⟩ := hr_0.unv
  obtain ⟨us2, rfl, hr_2⟩ := hr_1.unv
  obtain ⟨A3, c3, us3, rfl, r3, hr_3⟩ := hr_2.uns
  obtain rfl := hr_3.un0
  have hww := hw
  rw [FNode.wt_eq] at hw
  have hz : z2.size ≤ 9223372036854775807 := by omega
  have hl : z3.length ≤ 9000000000 := by omega
  have HR0 := Lib.hid r3
  obtain ⟨m, hm⟩ : ∃ m, z3.length = m := ⟨_, rfl⟩
  try rw [hm] at hl r3 ⊢
  have HR := Lib.hid r3
  have HB := Lib.hid ((Below.refl _ w).alloc (Nat.le_refl _) (.cells #[.int .i64 44, .int .i64 z1, .string z2, .slice A3 m c3] 29))
  clear hr hr_0 hr_1 hr_2 hr_3 r3
  obtain ⟨⟨y0, y1, y2, y3⟩, r, rfl⟩ : ∃ a r, z3 = a :: r := by
    cases z3 with
    | nil => simp at hk1
    | cons a r => exact ⟨a, r, rfl⟩
  have hpos : 0 < m := by rw [← hm]; simp
  obtain ⟨bcy, offcy, Ey, hblcy, hcc⟩ := nd_at hm.symm (l := (FNode.mk y0 y1 y2 y3 :: r)) HR.out (i := 0) (x := FNode.mk y0 y1 y2 y3) rfl
  rw [FNode.c_eq] at hcc
  obtain ⟨u0, e0, q0⟩ := hcc 0 _ rfl
  obtain rfl := q0.val
  have cy_0 : w.cell? ⟨bcy, offcy, none⟩ = some (.int .i64 y0) := ((Below.refl w.heap.size w).cell (p := ⟨bcy, _, none⟩) (by show bcy < w.heap.size; omega)).trans (by simpa using e0)
  obtain ⟨u1, e1, q1⟩ := hcc 1 _ rfl
  obtain rfl := q1.val
  have cy_1 : w.cell? ⟨bcy, offcy + 1, none⟩ = some (.int .i64 y1) := ((Below.refl w.heap.size w).cell (p := ⟨bcy, _, none⟩) (by show bcy < w.heap.size; omega)).trans (by simpa using e1)
  obtain ⟨u2, e2, q2⟩ := hcc 2 _ rfl
  obtain rfl := q2.val
  have cy_2 : w.cell? ⟨bcy, offcy + 2, none⟩ = some (.string y2) := ((Below.refl w.heap.size w).cell (p := ⟨bcy, _, none⟩) (by show bcy < w.heap.size; omega)).trans (by simpa using e2)
  obtain ⟨u3, e3, q3⟩ := hcc 3 _ rfl
  obtain ⟨Dy, dy, rfl⟩ := q3.form
  have cy_3 : w.cell? ⟨bcy, offcy + 3, none⟩ = some (.slice Dy y3.length dy) := ((Below.refl w.heap.size w).cell (p := ⟨bcy, _, none⟩) (by show bcy < w.heap.size; omega)).trans (by simpa using e3)
  have Qy := Lib.hid q3
  clear hcc e0 e1 e2 e3 q0 q1 q2 q3
  have hbl : bcy < w.heap.size := Nat.lt_of_lt_of_le hblcy hB0
  subst Ey
  have a_y0 := (HB.out.cell (p := ⟨bcy, offcy, none⟩) hbl).trans cy_0
  have a_y1 := (HB.out.cell (p := ⟨bcy, offcy + 1, none⟩) hbl).trans cy_1
  have a_y2 := (HB.out.cell (p := ⟨bcy, offcy + 2, none⟩) hbl).trans cy_2
  have a_y3 := (HB.out.cell (p := ⟨bcy, offcy + 3, none⟩) hbl).trans cy_3
  clear hm hw hww hk1 HR0
  have HY := Lib.hid (show hdTx (FNode.mk y0 y1 y2 y3 :: r) = (y2.toList == [116, 104, 105, 115]) from rfl)
  rw [HY.out]
  go_enter Try.func44, Try.ntmps44
  go_wp2_with (fail)
  all_goals (go_ret; exact ⟨ret_bool (by first | rfl | (simp_all; done)), HB.out⟩)
theorem thI_15 (z1 : Int) (z2 : ByteArray) (z3 : List FNode) (hw : (FNode.mk 15 z1 z2 z3).wt ≤ 9000000000) (hk1 : 1 ≤ z3.length) (hr0 : ∀ a r, z3 = a :: r → rtOk a = true) (us : List Value) (w : World) (B : Nat) (hB0 : B ≤ w.heap.size) (hr : RdVs w B (FNode.mk 15 z1 z2 z3).c us) :
    Calls Try.prog 44 #[.agg us.toArray] w fun e w' => e = .returned (.bool (hdRn z3)) ∧ Below w.heap.size w w' := by
  rw [FNode.c_eq] at hr
  obtain ⟨us0, rfl, hr_0⟩ := hr.unv
  obtain ⟨us1, rfl, hr_1⟩ := hr_0.unv
  obtain ⟨us2, rfl, hr_2⟩ := hr_1.unv
  obtain ⟨A3, c3, us3, rfl, r3, hr_3⟩ := hr_2.uns
  obtain rfl := hr_3.un0
  have hww := hw
  rw [FNode.wt_eq] at hw
  have hz : z2.size ≤ 9223372036854775807 := by omega
  have hl : z3.length ≤ 9000000000 := by omega
  have HR0 := Lib.hid r3
  obtain ⟨m, hm⟩ : ∃ m, z3.length = m := ⟨_, rfl⟩
  try rw [hm] at hl r3 ⊢
  have HR := Lib.hid r3
  have HB := Lib.hid ((Below.refl _ w).alloc (Nat.le_refl _) (.cells #[.int .i64 15, .int .i64 z1, .string z2, .slice A3 m c3] 29))
  clear hr hr_0 hr_1 hr_2 hr_3 r3
  obtain ⟨⟨y0, y1, y2, y3⟩, r, rfl⟩ : ∃ a r, z3 = a :: r := by
    cases z3 with
    | nil => simp at hk1
    | cons a r => exact ⟨a, r, rfl⟩
  have hpos : 0 < m := by rw [← hm]; simp
  obtain ⟨bcy, offcy, Ey, hblcy, hcc⟩ := nd_at hm.symm (l := (FNode.mk y0 y1 y2 y3 :: r)) HR.out (i := 0) (x := FNode.mk y0 y1 y2 y3) rfl
  rw [FNode.c_eq] at hcc
  obtain ⟨u0, e0, q0⟩ := hcc 0 _ rfl
  obtain rfl := q0.val
  have cy_0 : w.cell? ⟨bcy, offcy, none⟩ = some (.int .i64 y0) := ((Below.refl w.heap.size w).cell (p := ⟨bcy, _, none⟩) (by show bcy < w.heap.size; omega)).trans (by simpa using e0)
  obtain ⟨u1, e1, q1⟩ := hcc 1 _ rfl
  obtain rfl := q1.val
  have cy_1 : w.cell? ⟨bcy, offcy + 1, none⟩ = some (.int .i64 y1) := ((Below.refl w.heap.size w).cell (p := ⟨bcy, _, none⟩) (by show bcy < w.heap.size; omega)).trans (by simpa using e1)
  obtain ⟨u2, e2, q2⟩ := hcc 2 _ rfl
  obtain rfl := q2.val
  have cy_2 : w.cell? ⟨bcy, offcy + 2, none⟩ = some (.string y2) := ((Below.refl w.heap.size w).cell (p := ⟨bcy, _, none⟩) (by show bcy < w.heap.size; omega)).trans (by simpa using e2)
  obtain ⟨u3, e3, q3⟩ := hcc 3 _ rfl
  obtain ⟨Dy, dy, rfl⟩ := q3.form
  have cy_3 : w.cell? ⟨bcy, offcy + 3, none⟩ = some (.slice Dy y3.length dy) := ((Below.refl w.heap.size w).cell (p := ⟨bcy, _, none⟩) (by show bcy < w.heap.size; omega)).trans (by simpa using e3)
  have Qy := Lib.hid q3
  clear hcc e0 e1 e2 e3 q0 q1 q2 q3
  have hbl : bcy < w.heap.size := Nat.lt_of_lt_of_le hblcy hB0
  subst Ey
  have a_y0 := (HB.out.cell (p := ⟨bcy, offcy, none⟩) hbl).trans cy_0
  have a_y1 := (HB.out.cell (p := ⟨bcy, offcy + 1, none⟩) hbl).trans cy_1
  have a_y2 := (HB.out.cell (p := ⟨bcy, offcy + 2, none⟩) hbl).trans cy_2
  have a_y3 := (HB.out.cell (p := ⟨bcy, offcy + 3, none⟩) hbl).trans cy_3
  have hrt := hr0 _ _ rfl
  have hyw : (FNode.mk y0 y1 y2 y3).wt ≤ 9000000000 := by have := FNode.wts_at (FNode.mk y0 y1 y2 y3 :: r) _ (List.mem_cons_self ..); omega
  clear hm hw hww hk1 hr0 HR0
  have HY := Lib.hid (show hdRn (FNode.mk y0 y1 y2 y3 :: r) = ((rnmF ⟨y0, y1, y2, y3⟩).toList == [116, 104, 105, 115]) from (rnm_th _).symm)
  rw [HY.out]
  go_enter Try.func44, Try.ntmps44
  go_wp2_with ((go_at_call 74; refine (rn_impl ⟨y0, y1, y2, y3⟩ hyw hrt [.int .i64 y0, .int .i64 y1, .string y2, .slice Dy y3.length dy] _ w.heap.size HB.out.size (by rw [FNode.c_eq]; exact RdVs.cons (by unfold RdC; rfl) (RdVs.cons (by unfold RdC; rfl) (RdVs.cons (by unfold RdC; rfl) (RdVs.cons ((Qy.out.up hB0).below HB.out (Nat.le_refl _)) (RdVs.nil _ _)))))).mono ?_; rintro e w4 ⟨rfl, hb4⟩))
  all_goals (go_ret; exact ⟨ret_bool (by first | rfl | (simp_all; done)), HB.out.trans (hb4.mono HB.out.size)⟩)
theorem thI_16 (z1 : Int) (z2 : ByteArray) (z3 : List FNode) (hw : (FNode.mk 16 z1 z2 z3).wt ≤ 9000000000) (hk1 : 1 ≤ z3.length) (hr0 : ∀ a r, z3 = a :: r → rtOk a = true) (us : List Value) (w : World) (B : Nat) (hB0 : B ≤ w.heap.size) (hr : RdVs w B (FNode.mk 16 z1 z2 z3).c us) :
    Calls Try.prog 44 #[.agg us.toArray] w fun e w' => e = .returned (.bool (hdRn z3)) ∧ Below w.heap.size w w' := by
  rw [FNode.c_eq] at hr
  obtain ⟨us0, rfl, hr_0⟩ := hr.unv
  obtain ⟨us1, rfl, hr_1⟩ := hr_0.unv
  obtain ⟨us2, rfl, hr_2⟩ := hr_1.unv
  obtain ⟨A3, c3, us3, rfl, r3, hr_3⟩ := hr_2.uns
  obtain rfl := hr_3.un0
  have hww := hw
  rw [FNode.wt_eq] at hw
  have hz : z2.size ≤ 9223372036854775807 := by omega
  have hl : z3.length ≤ 9000000000 := by omega
  have HR0 := Lib.hid r3
  obtain ⟨m, hm⟩ : ∃ m, z3.length = m := ⟨_, rfl⟩
  try rw [hm] at hl r3 ⊢
  have HR := Lib.hid r3
  have HB := Lib.hid ((Below.refl _ w).alloc (Nat.le_refl _) (.cells #[.int .i64 16, .int .i64 z1, .string z2, .slice A3 m c3] 29))
  clear hr hr_0 hr_1 hr_2 hr_3 r3
  obtain ⟨⟨y0, y1, y2, y3⟩, r, rfl⟩ : ∃ a r, z3 = a :: r := by
    cases z3 with
    | nil => simp at hk1
    | cons a r => exact ⟨a, r, rfl⟩
  have hpos : 0 < m := by rw [← hm]; simp
  obtain ⟨bcy, offcy, Ey, hblcy, hcc⟩ := nd_at hm.symm (l := (FNode.mk y0 y1 y2 y3 :: r)) HR.out (i := 0) (x := FNode.mk y0 y1 y2 y3) rfl
  rw [FNode.c_eq] at hcc
  obtain ⟨u0, e0, q0⟩ := hcc 0 _ rfl
  obtain rfl := q0.val
  have cy_0 : w.cell? ⟨bcy, offcy, none⟩ = some (.int .i64 y0) := ((Below.refl w.heap.size w).cell (p := ⟨bcy, _, none⟩) (by show bcy < w.heap.size; omega)).trans (by simpa using e0)
  obtain ⟨u1, e1, q1⟩ := hcc 1 _ rfl
  obtain rfl := q1.val
  have cy_1 : w.cell? ⟨bcy, offcy + 1, none⟩ = some (.int .i64 y1) := ((Below.refl w.heap.size w).cell (p := ⟨bcy, _, none⟩) (by show bcy < w.heap.size; omega)).trans (by simpa using e1)
  obtain ⟨u2, e2, q2⟩ := hcc 2 _ rfl
  obtain rfl := q2.val
  have cy_2 : w.cell? ⟨bcy, offcy + 2, none⟩ = some (.string y2) := ((Below.refl w.heap.size w).cell (p := ⟨bcy, _, none⟩) (by show bcy < w.heap.size; omega)).trans (by simpa using e2)
  obtain ⟨u3, e3, q3⟩ := hcc 3 _ rfl
  obtain ⟨Dy, dy, rfl⟩ := q3.form
  have cy_3 : w.cell? ⟨bcy, offcy + 3, none⟩ = some (.slice Dy y3.length dy) := ((Below.refl w.heap.size w).cell (p := ⟨bcy, _, none⟩) (by show bcy < w.heap.size; omega)).trans (by simpa using e3)
  have Qy := Lib.hid q3
  clear hcc e0 e1 e2 e3 q0 q1 q2 q3
  have hbl : bcy < w.heap.size := Nat.lt_of_lt_of_le hblcy hB0
  subst Ey
  have a_y0 := (HB.out.cell (p := ⟨bcy, offcy, none⟩) hbl).trans cy_0
  have a_y1 := (HB.out.cell (p := ⟨bcy, offcy + 1, none⟩) hbl).trans cy_1
  have a_y2 := (HB.out.cell (p := ⟨bcy, offcy + 2, none⟩) hbl).trans cy_2
  have a_y3 := (HB.out.cell (p := ⟨bcy, offcy + 3, none⟩) hbl).trans cy_3
  have hrt := hr0 _ _ rfl
  have hyw : (FNode.mk y0 y1 y2 y3).wt ≤ 9000000000 := by have := FNode.wts_at (FNode.mk y0 y1 y2 y3 :: r) _ (List.mem_cons_self ..); omega
  clear hm hw hww hk1 hr0 HR0
  have HY := Lib.hid (show hdRn (FNode.mk y0 y1 y2 y3 :: r) = ((rnmF ⟨y0, y1, y2, y3⟩).toList == [116, 104, 105, 115]) from (rnm_th _).symm)
  rw [HY.out]
  go_enter Try.func44, Try.ntmps44
  go_wp2_with ((go_at_call 74; refine (rn_impl ⟨y0, y1, y2, y3⟩ hyw hrt [.int .i64 y0, .int .i64 y1, .string y2, .slice Dy y3.length dy] _ w.heap.size HB.out.size (by rw [FNode.c_eq]; exact RdVs.cons (by unfold RdC; rfl) (RdVs.cons (by unfold RdC; rfl) (RdVs.cons (by unfold RdC; rfl) (RdVs.cons ((Qy.out.up hB0).below HB.out (Nat.le_refl _)) (RdVs.nil _ _)))))).mono ?_; rintro e w4 ⟨rfl, hb4⟩))
  all_goals (go_ret; exact ⟨ret_bool (by first | rfl | (simp_all; done)), HB.out.trans (hb4.mono HB.out.size)⟩)
theorem thI_41 (z1 : Int) (z2 : ByteArray) (z3 : List FNode) (hw : (FNode.mk 41 z1 z2 z3).wt ≤ 9000000000) (hk1 : 1 ≤ z3.length) (hr0 : ∀ a r, z3 = a :: r → rtOk a = true) (us : List Value) (w : World) (B : Nat) (hB0 : B ≤ w.heap.size) (hr : RdVs w B (FNode.mk 41 z1 z2 z3).c us) :
    Calls Try.prog 44 #[.agg us.toArray] w fun e w' => e = .returned (.bool (hdRn z3)) ∧ Below w.heap.size w w' := by
  rw [FNode.c_eq] at hr
  obtain ⟨us0, rfl, hr_0⟩ := hr.unv
  obtain ⟨us1, rfl, hr_1⟩ := hr_0.unv
  obtain ⟨us2, rfl, hr_2⟩ := hr_1.unv
  obtain ⟨A3, c3, us3, rfl, r3, hr_3⟩ := hr_2.uns
  obtain rfl := hr_3.un0
  have hww := hw
  rw [FNode.wt_eq] at hw
  have hz : z2.size ≤ 9223372036854775807 := by omega
  have hl : z3.length ≤ 9000000000 := by omega
  have HR0 := Lib.hid r3
  obtain ⟨m, hm⟩ : ∃ m, z3.length = m := ⟨_, rfl⟩
  try rw [hm] at hl r3 ⊢
  have HR := Lib.hid r3
  have HB := Lib.hid ((Below.refl _ w).alloc (Nat.le_refl _) (.cells #[.int .i64 41, .int .i64 z1, .string z2, .slice A3 m c3] 29))
  clear hr hr_0 hr_1 hr_2 hr_3 r3
  obtain ⟨⟨y0, y1, y2, y3⟩, r, rfl⟩ : ∃ a r, z3 = a :: r := by
    cases z3 with
    | nil => simp at hk1
    | cons a r => exact ⟨a, r, rfl⟩
  have hpos : 0 < m := by rw [← hm]; simp
  obtain ⟨bcy, offcy, Ey, hblcy, hcc⟩ := nd_at hm.symm (l := (FNode.mk y0 y1 y2 y3 :: r)) HR.out (i := 0) (x := FNode.mk y0 y1 y2 y3) rfl
  rw [FNode.c_eq] at hcc
  obtain ⟨u0, e0, q0⟩ := hcc 0 _ rfl
  obtain rfl := q0.val
  have cy_0 : w.cell? ⟨bcy, offcy, none⟩ = some (.int .i64 y0) := ((Below.refl w.heap.size w).cell (p := ⟨bcy, _, none⟩) (by show bcy < w.heap.size; omega)).trans (by simpa using e0)
  obtain ⟨u1, e1, q1⟩ := hcc 1 _ rfl
  obtain rfl := q1.val
  have cy_1 : w.cell? ⟨bcy, offcy + 1, none⟩ = some (.int .i64 y1) := ((Below.refl w.heap.size w).cell (p := ⟨bcy, _, none⟩) (by show bcy < w.heap.size; omega)).trans (by simpa using e1)
  obtain ⟨u2, e2, q2⟩ := hcc 2 _ rfl
  obtain rfl := q2.val
  have cy_2 : w.cell? ⟨bcy, offcy + 2, none⟩ = some (.string y2) := ((Below.refl w.heap.size w).cell (p := ⟨bcy, _, none⟩) (by show bcy < w.heap.size; omega)).trans (by simpa using e2)
  obtain ⟨u3, e3, q3⟩ := hcc 3 _ rfl
  obtain ⟨Dy, dy, rfl⟩ := q3.form
  have cy_3 : w.cell? ⟨bcy, offcy + 3, none⟩ = some (.slice Dy y3.length dy) := ((Below.refl w.heap.size w).cell (p := ⟨bcy, _, none⟩) (by show bcy < w.heap.size; omega)).trans (by simpa using e3)
  have Qy := Lib.hid q3
  clear hcc e0 e1 e2 e3 q0 q1 q2 q3
  have hbl : bcy < w.heap.size := Nat.lt_of_lt_of_le hblcy hB0
  subst Ey
  have a_y0 := (HB.out.cell (p := ⟨bcy, offcy, none⟩) hbl).trans cy_0
  have a_y1 := (HB.out.cell (p := ⟨bcy, offcy + 1, none⟩) hbl).trans cy_1
  have a_y2 := (HB.out.cell (p := ⟨bcy, offcy + 2, none⟩) hbl).trans cy_2
  have a_y3 := (HB.out.cell (p := ⟨bcy, offcy + 3, none⟩) hbl).trans cy_3
  have hrt := hr0 _ _ rfl
  have hyw : (FNode.mk y0 y1 y2 y3).wt ≤ 9000000000 := by have := FNode.wts_at (FNode.mk y0 y1 y2 y3 :: r) _ (List.mem_cons_self ..); omega
  clear hm hw hww hk1 hr0 HR0
  have HY := Lib.hid (show hdRn (FNode.mk y0 y1 y2 y3 :: r) = ((rnmF ⟨y0, y1, y2, y3⟩).toList == [116, 104, 105, 115]) from (rnm_th _).symm)
  rw [HY.out]
  go_enter Try.func44, Try.ntmps44
  go_wp2_with ((go_at_call 74; refine (rn_impl ⟨y0, y1, y2, y3⟩ hyw hrt [.int .i64 y0, .int .i64 y1, .string y2, .slice Dy y3.length dy] _ w.heap.size HB.out.size (by rw [FNode.c_eq]; exact RdVs.cons (by unfold RdC; rfl) (RdVs.cons (by unfold RdC; rfl) (RdVs.cons (by unfold RdC; rfl) (RdVs.cons ((Qy.out.up hB0).below HB.out (Nat.le_refl _)) (RdVs.nil _ _)))))).mono ?_; rintro e w4 ⟨rfl, hb4⟩))
  all_goals (go_ret; exact ⟨ret_bool (by first | rfl | (simp_all; done)), HB.out.trans (hb4.mono HB.out.size)⟩)
theorem thI_46 (z1 : Int) (z2 : ByteArray) (z3 : List FNode) (hw : (FNode.mk 46 z1 z2 z3).wt ≤ 9000000000)  (us : List Value) (w : World) (B : Nat) (hB0 : B ≤ w.heap.size) (hr : RdVs w B (FNode.mk 46 z1 z2 z3).c us) :
    Calls Try.prog 44 #[.agg us.toArray] w fun e w' => e = .returned (.bool (z3.length == 2 && hdTx z3)) ∧ Below w.heap.size w w' := by
  rw [FNode.c_eq] at hr
  obtain ⟨us0, rfl, hr_0⟩ := hr.unv
  obtain ⟨us1, rfl, hr_1⟩ := hr_0.unv
  obtain ⟨us2, rfl, hr_2⟩ := hr_1.unv
  obtain ⟨A3, c3, us3, rfl, r3, hr_3⟩ := hr_2.uns
  obtain rfl := hr_3.un0
  have hww := hw
  rw [FNode.wt_eq] at hw
  have hz : z2.size ≤ 9223372036854775807 := by omega
  have hl : z3.length ≤ 9000000000 := by omega
  have HR0 := Lib.hid r3
  obtain ⟨m, hm⟩ : ∃ m, z3.length = m := ⟨_, rfl⟩
  try rw [hm] at hl r3 ⊢
  have HR := Lib.hid r3
  have HB := Lib.hid ((Below.refl _ w).alloc (Nat.le_refl _) (.cells #[.int .i64 46, .int .i64 z1, .string z2, .slice A3 m c3] 29))
  clear hr hr_0 hr_1 hr_2 hr_3 r3
  by_cases h2 : m = 2
  · subst h2
    obtain ⟨⟨y0, y1, y2, y3⟩, yb, rfl⟩ := two_of hm
    obtain ⟨bcy, offcy, Ey, hblcy, hcc⟩ := RdC.at_ (l := [FNode.mk y0 y1 y2 y3, yb]) FNode.len HR.out (i := 0) (x := FNode.mk y0 y1 y2 y3) rfl
    rw [FNode.c_eq] at hcc
    obtain ⟨u0, e0, q0⟩ := hcc 0 _ rfl
    obtain rfl := q0.val
    have cy_0 : w.cell? ⟨bcy, offcy, none⟩ = some (.int .i64 y0) := ((Below.refl w.heap.size w).cell (p := ⟨bcy, _, none⟩) (by show bcy < w.heap.size; omega)).trans (by simpa using e0)
    obtain ⟨u1, e1, q1⟩ := hcc 1 _ rfl
    obtain rfl := q1.val
    have cy_1 : w.cell? ⟨bcy, offcy + 1, none⟩ = some (.int .i64 y1) := ((Below.refl w.heap.size w).cell (p := ⟨bcy, _, none⟩) (by show bcy < w.heap.size; omega)).trans (by simpa using e1)
    obtain ⟨u2, e2, q2⟩ := hcc 2 _ rfl
    obtain rfl := q2.val
    have cy_2 : w.cell? ⟨bcy, offcy + 2, none⟩ = some (.string y2) := ((Below.refl w.heap.size w).cell (p := ⟨bcy, _, none⟩) (by show bcy < w.heap.size; omega)).trans (by simpa using e2)
    obtain ⟨u3, e3, q3⟩ := hcc 3 _ rfl
    obtain ⟨Dy, dy, rfl⟩ := q3.form
    have cy_3 : w.cell? ⟨bcy, offcy + 3, none⟩ = some (.slice Dy y3.length dy) := ((Below.refl w.heap.size w).cell (p := ⟨bcy, _, none⟩) (by show bcy < w.heap.size; omega)).trans (by simpa using e3)
    have Qy := Lib.hid q3
    clear hcc e0 e1 e2 e3 q0 q1 q2 q3
    have hbl : bcy < w.heap.size := Nat.lt_of_lt_of_le hblcy hB0
    subst Ey
    have a_y0 := (HB.out.cell (p := ⟨bcy, offcy, none⟩) hbl).trans cy_0
    have a_y1 := (HB.out.cell (p := ⟨bcy, offcy + 1, none⟩) hbl).trans cy_1
    have a_y2 := (HB.out.cell (p := ⟨bcy, offcy + 2, none⟩) hbl).trans cy_2
    have a_y3 := (HB.out.cell (p := ⟨bcy, offcy + 3, none⟩) hbl).trans cy_3
    clear hm hw hww HR0
    have HY := Lib.hid (show (2 == 2 && hdTx [FNode.mk y0 y1 y2 y3, yb]) = (y2.toList == [116, 104, 105, 115]) from rfl)
    rw [HY.out]
    go_enter Try.func44, Try.ntmps44
    go_wp2_with (fail)
    all_goals (go_ret; exact ⟨ret_bool (by first | rfl | (simp_all; done)), HB.out⟩)
  · clear hm hw hww HR0
    rw [show (m == 2) = false from beq_false_of_ne h2]
    go_enter Try.func44, Try.ntmps44
    go_wp2_with (fail)
    all_goals (go_ret; exact ⟨ret_bool (by first | rfl | (simp_all; done)), HB.out⟩)
theorem thI_36 (z1 : Int) (z2 : ByteArray) (z3 : List FNode) (hw : (FNode.mk 36 z1 z2 z3).wt ≤ 9000000000) (hk1 : 3 ≤ z3.length) (us : List Value) (w : World) (B : Nat) (hB0 : B ≤ w.heap.size) (hr : RdVs w B (FNode.mk 36 z1 z2 z3).c us) :
    Calls Try.prog 44 #[.agg us.toArray] w fun e w' => e = .returned (.bool (z3.tail.any (fun y => y.kd == 4 && isTh y.tx))) ∧ Below w.heap.size w w' := by
  rw [FNode.c_eq] at hr
  obtain ⟨us0, rfl, hr_0⟩ := hr.unv
  obtain ⟨us1, rfl, hr_1⟩ := hr_0.unv
  obtain ⟨us2, rfl, hr_2⟩ := hr_1.unv
  obtain ⟨A3, c3, us3, rfl, r3, hr_3⟩ := hr_2.uns
  obtain rfl := hr_3.un0
  have hww := hw
  rw [FNode.wt_eq] at hw
  have hz : z2.size ≤ 9223372036854775807 := by omega
  have hl : z3.length ≤ 9000000000 := by omega
  have HR0 := Lib.hid r3
  obtain ⟨m, hm⟩ : ∃ m, z3.length = m := ⟨_, rfl⟩
  try rw [hm] at hl r3 ⊢
  have HR := Lib.hid r3
  have HB := Lib.hid ((Below.refl _ w).alloc (Nat.le_refl _) (.cells #[.int .i64 36, .int .i64 z1, .string z2, .slice A3 m c3] 29))
  clear hr hr_0 hr_1 hr_2 hr_3 r3
  obtain ⟨a, r, rfl⟩ : ∃ a r, z3 = a :: r := by
    cases z3 with
    | nil => simp at hk1
    | cons a r => exact ⟨a, r, rfl⟩
  obtain ⟨q, hq⟩ : ∃ q, r.length = q := ⟨_, rfl⟩
  obtain rfl : m = q + 1 := by rw [← hm, ← hq]; rfl
  obtain ⟨bc0, offc0, hA, hB1, _⟩ := nd_at (i := 0) (x := a) hm.symm (l := a :: r) HR.out rfl
  subst hA
  have hcap : q + 1 ≤ c3 := cap_of HR.out
  have hql : q ≤ 9000000000 := by omega
  have hq2 : 2 ≤ q := by simp only [List.length_cons] at hk1; omega
  have hc2 : 3 ≤ c3 := by omega
  rw [show (a :: r).tail = r from rfl]
  have HQ := Lib.hid hq
  have HE : Hid (0 < r.length → RdC w B (.s 29 4 r.length (FNode.flat r)) (.slice (some ⟨bc0, offc0 + 1 * 4, none⟩) r.length (c3 - 1))) := Lib.hid (fun h => rd_drop (p := [a]) (l := r) h (by rw [hq]; simp; omega) HR.out)
  clear hm hw hww HR0 hk1 hq
  go_enter Try.func44, Try.ntmps44
  go_wp2_with fail
  go_loopw [41] (fun i wr => ∃ k : Nat, k ≤ q ∧ i = .int .i64 k ∧ Hid ((r.take k).any (fun y => y.kd == 4 && isTh y.tx) = false) ∧ Below w.heap.size w wr) (fun i _ => q - (intOf i).toNat)
  case atStart => exact ⟨0, Nat.zero_le _, rfl, Lib.hid rfl, HB.out⟩
  case round =>
    obtain ⟨k, hk, rfl, HA, hb⟩ := hrel
    have hbs := hb.size
    by_cases hltq : k < q
    · have hlt : k < r.length := by rw [HQ.out]; exact hltq
      have HC := Lib.hid (HE.out (by omega))
      obtain ⟨x, hx⟩ : ∃ x, r[k]? = some x := ⟨_, List.getElem?_eq_getElem hlt⟩
      obtain ⟨bc2, offc2, EE, hblc2, hcc⟩ := RdC.at_ FNode.len HC.out hx
      obtain ⟨rfl, e9⟩ : bc0 = bc2 ∧ offc0 + 1 * 4 = offc2 := by simpa using EE
      subst e9
      have HX := Lib.hid hx
      have HM := Lib.hid (List.mem_of_getElem? hx)
      clear hx
      obtain ⟨y0, y1, y2, y3⟩ := x
      rw [FNode.c_eq] at hcc
      obtain ⟨u0, e0, q0⟩ := hcc 0 _ rfl
      obtain rfl := q0.val
      have c_0 : wr.cell? ⟨bc0, offc0 + 1 * 4 + k * 4, none⟩ = some (.int .i64 y0) := (hb.cell (p := ⟨bc0, _, none⟩) (by show bc0 < w.heap.size; omega)).trans (by simpa using e0)
      obtain ⟨u1, e1, q1⟩ := hcc 1 _ rfl
      obtain rfl := q1.val
      have c_1 : wr.cell? ⟨bc0, offc0 + 1 * 4 + k * 4 + 1, none⟩ = some (.int .i64 y1) := (hb.cell (p := ⟨bc0, _, none⟩) (by show bc0 < w.heap.size; omega)).trans (by simpa using e1)
      obtain ⟨u2, e2, q2⟩ := hcc 2 _ rfl
      obtain rfl := q2.val
      have c_2 : wr.cell? ⟨bc0, offc0 + 1 * 4 + k * 4 + 2, none⟩ = some (.string y2) := (hb.cell (p := ⟨bc0, _, none⟩) (by show bc0 < w.heap.size; omega)).trans (by simpa using e2)
      obtain ⟨u3, e3, q3⟩ := hcc 3 _ rfl
      obtain ⟨D, d, rfl⟩ := q3.form
      have c_3 : wr.cell? ⟨bc0, offc0 + 1 * 4 + k * 4 + 3, none⟩ = some (.slice D y3.length d) := (hb.cell (p := ⟨bc0, _, none⟩) (by show bc0 < w.heap.size; omega)).trans (by simpa using e3)
      have Q3 := Lib.hid q3
      clear hcc e0 e1 e2 e3 q0 q1 q2 q3
      have hb2 := Lib.hid (hb.alloc hbs (.cells #[.int .i64 y0, .int .i64 y1, .string y2, .slice D y3.length d] 29))
      have HS : Hid ((r.take (k + 1)).any (fun y => y.kd == 4 && isTh y.tx) = (y0 == 4 && isTh y2)) := Lib.hid (by rw [List.take_add_one, HX.out, List.any_append, HA.out]; simp [FNode.kd, FNode.tx])
      have HAL : Hid (isTh y2 = true → y0 = 4 → r.any (fun y => y.kd == 4 && isTh y.tx) = true) := Lib.hid (fun h1 h2 => List.any_eq_true.mpr ⟨_, HM.out, by simp [FNode.kd, FNode.tx, h1, h2]⟩)
      by_cases e4 : y0 = 4
      · subst e4
        cases ht : (y2.toList == [116, 104, 105, 115]) with
        | true =>
          have HF := Lib.hid (HAL.out ht rfl)
          go_wp2_with fail
          go_ret
          exact ⟨ret_bool HF.out.symm, hb2.out⟩
        | false =>
          have HF : isTh y2 = false := ht
          rw [HF] at HS
          clear HF
          go_wp2_with fail
          go_roundw
          case rel => exact ⟨k + 1, by omega, by go_num, HS, hb2.out⟩
          case measure => simp [intOf]; omega
      · rw [beq_false_of_ne e4, Bool.false_and] at HS
        go_wp2_with fail
        go_roundw
        case rel => exact ⟨k + 1, by omega, by go_num, HS, hb2.out⟩
        case measure => simp [intOf]; omega
    · obtain rfl : k = q := by omega
      clear hltq
      have h := HA.out
      rw [List.take_of_length_le (by rw [HQ.out]; exact Nat.le_refl _)] at h
      go_wp2_with fail
      go_ret
      exact ⟨ret_bool h.symm, hb⟩
theorem thI_o (z0 : Int) (z1 : Int) (z2 : ByteArray) (z3 : List FNode) (hw : (FNode.mk z0 z1 z2 z3).wt ≤ 9000000000) (n24 : ¬ z0 = 24) (n25 : ¬ z0 = 25) (n40 : ¬ z0 = 40) (n17 : ¬ z0 = 17) (n44 : ¬ z0 = 44) (n36 : ¬ z0 = 36) (n46 : ¬ z0 = 46) (n15 : ¬ z0 = 15) (n16 : ¬ z0 = 16) (n41 : ¬ z0 = 41) (us : List Value) (w : World) (B : Nat) (hB0 : B ≤ w.heap.size) (hr : RdVs w B (FNode.mk z0 z1 z2 z3).c us) :
    Calls Try.prog 44 #[.agg us.toArray] w fun e w' => e = .returned (.bool (false)) ∧ Below w.heap.size w w' := by
  rw [FNode.c_eq] at hr
  obtain ⟨us0, rfl, hr_0⟩ := hr.unv
  obtain ⟨us1, rfl, hr_1⟩ := hr_0.unv
  obtain ⟨us2, rfl, hr_2⟩ := hr_1.unv
  obtain ⟨A3, c3, us3, rfl, r3, hr_3⟩ := hr_2.uns
  obtain rfl := hr_3.un0
  have hww := hw
  rw [FNode.wt_eq] at hw
  have hz : z2.size ≤ 9223372036854775807 := by omega
  have hl : z3.length ≤ 9000000000 := by omega
  have HR0 := Lib.hid r3
  obtain ⟨m, hm⟩ : ∃ m, z3.length = m := ⟨_, rfl⟩
  try rw [hm] at hl r3 ⊢
  have HR := Lib.hid r3
  have HB := Lib.hid ((Below.refl _ w).alloc (Nat.le_refl _) (.cells #[.int .i64 z0, .int .i64 z1, .string z2, .slice A3 m c3] 29))
  clear hr hr_0 hr_1 hr_2 hr_3 r3
  clear hm hw hww HR0
  go_enter Try.func44, Try.ntmps44
  go_wp2_with (fail)
  all_goals (go_ret; exact ⟨ret_bool (by first | rfl | (simp_all; done)), HB.out⟩)
theorem th_impl (x : FNode) (hw : x.wt ≤ 9000000000) (hn : ndK x.kd x.kids) (us : List Value) (w : World) (B : Nat) (hB0 : B ≤ w.heap.size) (hr : RdVs w B x.c us) :
    Calls Try.prog 44 #[.agg us.toArray] w fun e w' => e = .returned (.bool (thI x.kd x.tx x.kids)) ∧ Below w.heap.size w w' := by
  obtain ⟨z0, z1, z2, z3⟩ := x
  obtain ⟨h1, h2, h3⟩ := hn
  simp only [FNode.kd, FNode.tx, FNode.kids] at *
  by_cases n24 : z0 = 24
  · subst n24
    exact thI_24 z1 z2 z3 hw  us w B hB0 hr
  by_cases n25 : z0 = 25
  · subst n25
    exact thI_25 z1 z2 z3 hw  us w B hB0 hr
  by_cases n40 : z0 = 40
  · subst n40
    exact thI_40 z1 z2 z3 hw  us w B hB0 hr
  by_cases n17 : z0 = 17
  · subst n17
    exact thI_17 z1 z2 z3 hw (h1 (by decide)) us w B hB0 hr
  by_cases n44 : z0 = 44
  · subst n44
    exact thI_44 z1 z2 z3 hw (h1 (by decide)) us w B hB0 hr
  by_cases n36 : z0 = 36
  · subst n36
    exact thI_36 z1 z2 z3 hw (by have := h2 rfl; omega) us w B hB0 hr
  by_cases n46 : z0 = 46
  · subst n46
    exact thI_46 z1 z2 z3 hw  us w B hB0 hr
  by_cases n15 : z0 = 15
  · subst n15
    exact thI_15 z1 z2 z3 hw (h1 (by decide)) (h3 (by decide)) us w B hB0 hr
  by_cases n16 : z0 = 16
  · subst n16
    exact thI_16 z1 z2 z3 hw (h1 (by decide)) (h3 (by decide)) us w B hB0 hr
  by_cases n41 : z0 = 41
  · subst n41
    exact thI_41 z1 z2 z3 hw (h1 (by decide)) (h3 (by decide)) us w B hB0 hr
  rw [show thI z0 z2 z3 = false from by unfold thI; simp [n24, n25, n40, n17, n44, n36, n46, n15, n16, n41]]
  exact thI_o z0 z1 z2 z3 hw n24 n25 n40 n17 n44 n36 n46 n15 n16 n41 us w B hB0 hr
end Go.Proofs.Ytgejkfcemlkclaa
