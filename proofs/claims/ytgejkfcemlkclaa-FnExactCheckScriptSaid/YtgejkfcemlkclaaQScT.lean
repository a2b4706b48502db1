/-
  Parts of the proof: ScT. Conditions: none.
-/
import Derived.Test.YtgejkfcemlkclaaQGScIReg
namespace Go.Proofs.Ytgejkfcemlkclaa
open Go.ChangeShapes Go.WideShapes Go.ChangeAt Go.RowKit Go.Deep Go.Joins
open Go.ChangeMaps (open_string shut_string)
set_option linter.unusedVariables false
set_option linter.unusedSimpArgs false
set_option maxRecDepth 100000
theorem below_drw {B : Nat} {a w : World} (h : Below B a w) : Below B a w.drew := ⟨h.os, h.tape, h.output, h.size, h.block⟩
/-- What stays: the node's box, the box of $this. -/
def TbS (w : World) (z2 : ByteArray) (A : Option Addr) (m c3 : Nat) (w_ : World) : Prop := Below w.heap.size w w_ ∧ w.heap.size + 1 < w_.heap.size ∧ w_.cell? ⟨w.heap.size, 2, none⟩ = some (.string z2) ∧ w_.cell? ⟨w.heap.size, 3, none⟩ = some (.slice A m c3) ∧ w_.cell? ⟨w.heap.size + 1, 0, none⟩ = some (.int .i64 4) ∧ w_.cell? ⟨w.heap.size + 1, 1, none⟩ = some (.int .i64 0) ∧ w_.cell? ⟨w.heap.size + 1, 2, none⟩ = some (.string ⟨#[116, 104, 105, 115]⟩) ∧ w_.cell? ⟨w.heap.size + 1, 3, none⟩ = some (.slice none 0 0)
theorem TbS.call {w wx wy : World} {z2 : ByteArray} {A : Option Addr} {m c3 : Nat} (h : TbS w z2 A m c3 wx) (hb : Below wx.heap.size wx wy) : TbS w z2 A m c3 wy := by
  obtain ⟨h1, h2, h3, h4, h5, h6, h7, h8⟩ := h
  have g : ∀ j : Nat, wy.cell? ⟨w.heap.size, j, none⟩ = wx.cell? ⟨w.heap.size, j, none⟩ := fun j => hb.cell (p := ⟨w.heap.size, j, none⟩) (by show w.heap.size < _; omega)
  have g2 : ∀ j : Nat, wy.cell? ⟨w.heap.size + 1, j, none⟩ = wx.cell? ⟨w.heap.size + 1, j, none⟩ := fun j => hb.cell (p := ⟨w.heap.size + 1, j, none⟩) h2
  exact ⟨h1.trans (hb.mono h1.size), Nat.lt_of_lt_of_le h2 hb.size, (g 2).trans h3, (g 3).trans h4, (g2 0).trans h5, (g2 1).trans h6, (g2 2).trans h7, (g2 3).trans h8⟩
theorem TbS.drew {w wx : World} {z2 : ByteArray} {A : Option Addr} {m c3 : Nat} (h : TbS w z2 A m c3 wx) : TbS w z2 A m c3 wx.drew := by
  obtain ⟨h1, h2, h3⟩ := h
  exact ⟨below_drw h1, h2, h3⟩
theorem tbS_new (w : World) (z0 z1 : Int) (z2 : ByteArray) (A : Option Addr) (m c3 : Nat) : TbS w z2 A m c3 ((w.alloc (.cells #[.int .i64 z0, .int .i64 z1, .string z2, .slice A m c3] 29)).alloc (.cells #[.int .i64 4, .int .i64 0, .string ⟨#[116, 104, 105, 115]⟩, .slice none 0 0] 29)) := by
  have b1 : Blk ((w.alloc (.cells #[.int .i64 z0, .int .i64 z1, .string z2, .slice A m c3] 29)).alloc (.cells #[.int .i64 4, .int .i64 0, .string ⟨#[116, 104, 105, 115]⟩, .slice none 0 0] 29)) w.heap.size 29 #[.int .i64 z0, .int .i64 z1, .string z2, .slice A m c3] := (Blk.new w _ _).alloc _
  have b2 := Blk.new' (w.alloc (.cells #[.int .i64 z0, .int .i64 z1, .string z2, .slice A m c3] 29)) 29 #[.int .i64 4, .int .i64 0, .string ⟨#[116, 104, 105, 115]⟩, .slice none 0 0] (w.heap.size + 1) (by simp)
  exact ⟨((Below.refl w.heap.size w).alloc (Nat.le_refl _) _).alloc (by simp) _, by simp, b1.cell 2, b1.cell 3, b2.cell 0, b2.cell 1, b2.cell 2, b2.cell 3⟩
set_option maxHeartbeats 4000000 in
theorem thS_24 (z1 : Int) (z2 : ByteArray) (z3 : List FNode) (hw : (FNode.mk 24 z1 z2 z3).wt ≤ 9000000000)  (us : List Value) (w : World) (B : Nat) (hB0 : B ≤ w.heap.size) (hr : RdVs w B (FNode.mk 24 z1 z2 z3).c us) :
    Calls Try.prog 40 #[.agg us.toArray] w fun e w' => e = .returned (.bool (isTh z2)) ∧ Below w.heap.size w w' := by
  rw [FNode.c_eq] at hr
  obtain ⟨us0, rfl, hr_0⟩ := hr.unv
  obtain ⟨us1, rfl, hr_1⟩ := hr_0.unv
  obtain ⟨us2, rfl, hr_2⟩ := hr_1.unv
  obtain ⟨A3, c3, us3, rfl, r3, hr_3⟩ := hr_2.uns
  obtain rfl := hr_3.un0
  have hww := hw
  rw [FNode.wt_eq] at hw
  have hz : z2.size ≤ 9223372036854775807 := by omega
  have hl : z3.length ≤ 9000000000 := by omega
  obtain ⟨m, hm⟩ : ∃ m, z3.length = m := ⟨_, rfl⟩
  try rw [hm] at hl r3 ⊢
  have HR := Lib.hid r3
  have TX0 := tbS_new w 24 z1 z2 A3 m c3
  clear hr hr_0 hr_1 hr_2 hr_3 r3
  clear hm hw hww
  have HT := Lib.hid (show (z2.toList == [116, 104, 105, 115]) = isTh z2 from rfl)
  go_enter Try.func40, Try.ntmps40
  go_wp2_with fail
  all_goals (go_ret; exact ⟨ret_bool (by first | rfl | (simp_all; done)), TX0.1⟩)
set_option maxHeartbeats 4000000 in
theorem thS_25 (z1 : Int) (z2 : ByteArray) (z3 : List FNode) (hw : (FNode.mk 25 z1 z2 z3).wt ≤ 9000000000)  (us : List Value) (w : World) (B : Nat) (hB0 : B ≤ w.heap.size) (hr : RdVs w B (FNode.mk 25 z1 z2 z3).c us) :
    Calls Try.prog 40 #[.agg us.toArray] w fun e w' => e = .returned (.bool (isTh z2)) ∧ Below w.heap.size w w' := by
  rw [FNode.c_eq] at hr
  obtain ⟨us0, rfl, hr_0⟩ := hr.unv
  obtain ⟨us1, rfl, hr_1⟩ := hr_0.unv
  obtain ⟨us2, rfl, hr_2⟩ := hr_1.unv
  obtain ⟨A3, c3, us3, rfl, r3, hr_3⟩ := hr_2.uns
  obtain rfl := hr_3.un0
  have hww := hw
  rw [FNode.wt_eq] at hw
  have hz : z2.size ≤ 9223372036854775807 := by omega
  have hl : z3.length ≤ 9000000000 := by omega
  obtain ⟨m, hm⟩ : ∃ m, z3.length = m := ⟨_, rfl⟩
  try rw [hm] at hl r3 ⊢
  have HR := Lib.hid r3
  have TX0 := tbS_new w 25 z1 z2 A3 m c3
  clear hr hr_0 hr_1 hr_2 hr_3 r3
  clear hm hw hww
  have HT := Lib.hid (show (z2.toList == [116, 104, 105, 115]) = isTh z2 from rfl)
  go_enter Try.func40, Try.ntmps40
  go_wp2_with fail
  all_goals (go_ret; exact ⟨ret_bool (by first | rfl | (simp_all; done)), TX0.1⟩)
set_option maxHeartbeats 4000000 in
theorem thS_40 (z1 : Int) (z2 : ByteArray) (z3 : List FNode) (hw : (FNode.mk 40 z1 z2 z3).wt ≤ 9000000000)  (us : List Value) (w : World) (B : Nat) (hB0 : B ≤ w.heap.size) (hr : RdVs w B (FNode.mk 40 z1 z2 z3).c us) :
    Calls Try.prog 40 #[.agg us.toArray] w fun e w' => e = .returned (.bool (isTh z2)) ∧ Below w.heap.size w w' := by
  rw [FNode.c_eq] at hr
  obtain ⟨us0, rfl, hr_0⟩ := hr.unv
  obtain ⟨us1, rfl, hr_1⟩ := hr_0.unv
  obtain ⟨us2, rfl, hr_2⟩ := hr_1.unv
  obtain ⟨A3, c3, us3, rfl, r3, hr_3⟩ := hr_2.uns
  obtain rfl := hr_3.un0
  have hww := hw
  rw [FNode.wt_eq] at hw
  have hz : z2.size ≤ 9223372036854775807 := by omega
  have hl : z3.length ≤ 9000000000 := by omega
  obtain ⟨m, hm⟩ : ∃ m, z3.length = m := ⟨_, rfl⟩
  try rw [hm] at hl r3 ⊢
  have HR := Lib.hid r3
  have TX0 := tbS_new w 40 z1 z2 A3 m c3
  clear hr hr_0 hr_1 hr_2 hr_3 r3
  clear hm hw hww
  have HT := Lib.hid (show (z2.toList == [116, 104, 105, 115]) = isTh z2 from rfl)
  go_enter Try.func40, Try.ntmps40
  go_wp2_with fail
  all_goals (go_ret; exact ⟨ret_bool (by first | rfl | (simp_all; done)), TX0.1⟩)
set_option maxHeartbeats 4000000 in
theorem thS_17 (z1 : Int) (z2 : ByteArray) (z3 : List FNode) (hw : (FNode.mk 17 z1 z2 z3).wt ≤ 9000000000) (hk1 : 1 ≤ z3.length) (us : List Value) (w : World) (B : Nat) (hB0 : B ≤ w.heap.size) (hr : RdVs w B (FNode.mk 17 z1 z2 z3).c us) :
    Calls Try.prog 40 #[.agg us.toArray] w fun e w' => e = .returned (.bool (isTh z2 || hdSm z3)) ∧ Below w.heap.size w w' := by
  rw [FNode.c_eq] at hr
  obtain ⟨us0, rfl, hr_0⟩ := hr.unv
  obtain ⟨us1, rfl, hr_1⟩ := hr_0.unv
  obtain ⟨us2, rfl, hr_2⟩ := hr_1.unv
  obtain ⟨A3, c3, us3, rfl, r3, hr_3⟩ := hr_2.uns
  obtain rfl := hr_3.un0
  have hww := hw
  rw [FNode.wt_eq] at hw
  have hz : z2.size ≤ 9223372036854775807 := by omega
  have hl : z3.length ≤ 9000000000 := by omega
  obtain ⟨m, hm⟩ : ∃ m, z3.length = m := ⟨_, rfl⟩
  try rw [hm] at hl r3 ⊢
  have HR := Lib.hid r3
  have TX0 := tbS_new w 17 z1 z2 A3 m c3
  clear hr hr_0 hr_1 hr_2 hr_3 r3
  obtain ⟨⟨y0, y1, y2, y3⟩, r, rfl⟩ : ∃ a r, z3 = a :: r := by
    cases z3 with
    | nil => simp at hk1
    | cons a r => exact ⟨a, r, rfl⟩
  have hpos : 0 < m := by rw [← hm]; simp
  have hyy : (FNode.mk y0 y1 y2 y3).wt ≤ 9000000000 := by have := FNode.wts_at (FNode.mk y0 y1 y2 y3 :: r) _ (List.mem_cons_self ..); omega
  obtain ⟨bcy, offcy, Ey, hblcy, hcc⟩ := nd_at hm.symm (l := (FNode.mk y0 y1 y2 y3 :: r)) HR.out (i := 0) (x := FNode.mk y0 y1 y2 y3) rfl
  rw [FNode.c_eq] at hcc
  obtain ⟨u0, e0, q0⟩ := hcc 0 _ rfl
  obtain rfl := q0.val
  have cy_0 : w.cell? ⟨bcy, offcy, none⟩ = some (.int .i64 y0) := ((Below.refl w.heap.size w).cell (p := ⟨bcy, _, none⟩) (by show bcy < w.heap.size; omega)).trans (by simpa using e0)
  obtain ⟨u1, e1, q1⟩ := hcc 1 _ rfl
  obtain rfl := q1.val
  have cy_1 : w.cell? ⟨bcy, offcy + 1, none⟩ = some (.int .i64 y1) := ((Below.refl w.heap.size w).cell (p := ⟨bcy, _, none⟩) (by show bcy < w.heap.size; omega)).trans (by simpa using e1)
  obtain ⟨u2, e2, q2⟩ := hcc 2 _ rfl
  obtain rfl := q2.val
  have cy_2 : w.cell? ⟨bcy, offcy + 2, none⟩ = some (.string y2) := ((Below.refl w.heap.size w).cell (p := ⟨bcy, _, none⟩) (by show bcy < w.heap.size; omega)).trans (by simpa using e2)
  obtain ⟨u3, e3, q3⟩ := hcc 3 _ rfl
  obtain ⟨Dy, dy, rfl⟩ := q3.form
  have cy_3 : w.cell? ⟨bcy, offcy + 3, none⟩ = some (.slice Dy y3.length dy) := ((Below.refl w.heap.size w).cell (p := ⟨bcy, _, none⟩) (by show bcy < w.heap.size; omega)).trans (by simpa using e3)
  have Qy := Lib.hid q3
  clear hcc e0 e1 e2 e3 q0 q1 q2 q3
  have hbl : bcy < w.heap.size := Nat.lt_of_lt_of_le hblcy hB0
  subst Ey
  clear hm hw hww hk1
  have HT := Lib.hid (show isTh z2 = (z2.toList == [116, 104, 105, 115]) from rfl)
  obtain ⟨sv, hsv⟩ : ∃ v, smT ⟨y0, y1, y2, y3⟩ = v := ⟨_, rfl⟩
  have HSV := Lib.hid hsv
  have HY := Lib.hid (show hdSm (FNode.mk y0 y1 y2 y3 :: r) = sv from hsv)
  rw [HT.out, HY.out]
  clear HT HY hsv
  cases ht : (z2.toList == [116, 104, 105, 115]) with
  | true =>
    go_enter Try.func40, Try.ntmps40
    go_wp2_with fail
    refine wp_region_held_drew (S := (fun w_ => Below w.heap.size w w_ ∧ w.heap.size + 1 < w_.heap.size ∧ w_.cell? ⟨w.heap.size, 2, none⟩ = some (.string z2) ∧ w_.cell? ⟨w.heap.size, 3, none⟩ = some (.slice (some ⟨bcy, offcy, none⟩) m c3) ∧ w_.cell? ⟨w.heap.size + 1, 0, none⟩ = some (.int .i64 4) ∧ w_.cell? ⟨w.heap.size + 1, 1, none⟩ = some (.int .i64 0) ∧ w_.cell? ⟨w.heap.size + 1, 2, none⟩ = some (.string ⟨#[116, 104, 105, 115]⟩) ∧ w_.cell? ⟨w.heap.size + 1, 3, none⟩ = some (.slice none 0 0) ∧ w_.cell? ⟨bcy, offcy, none⟩ = some (.int .i64 y0) ∧ w_.cell? ⟨bcy, offcy + 1, none⟩ = some (.int .i64 y1) ∧ w_.cell? ⟨bcy, offcy + 2, none⟩ = some (.string y2) ∧ w_.cell? ⟨bcy, offcy + 3, none⟩ = some (.slice Dy y3.length dy))) (by kernel_rfl) ?_ (fun hHeld => ?_)
    · (try dsimp only)
      (first | exact ⟨TX0.drew.1, TX0.drew.2.1, TX0.drew.2.2.1, TX0.drew.2.2.2.1, TX0.drew.2.2.2.2.1, TX0.drew.2.2.2.2.2.1, TX0.drew.2.2.2.2.2.2.1, TX0.drew.2.2.2.2.2.2.2, (TX0.drew.1.cell (p := ⟨bcy, offcy, none⟩) hbl).trans cy_0, (TX0.drew.1.cell (p := ⟨bcy, offcy + 1, none⟩) hbl).trans cy_1, (TX0.drew.1.cell (p := ⟨bcy, offcy + 2, none⟩) hbl).trans cy_2, (TX0.drew.1.cell (p := ⟨bcy, offcy + 3, none⟩) hbl).trans cy_3⟩ | exact ⟨TX6.1, TX6.2.1, TX6.2.2.1, TX6.2.2.2.1, TX6.2.2.2.2.1, TX6.2.2.2.2.2.1, TX6.2.2.2.2.2.2.1, TX6.2.2.2.2.2.2.2, (TX6.1.cell (p := ⟨bcy, offcy, none⟩) hbl).trans cy_0, (TX6.1.cell (p := ⟨bcy, offcy + 1, none⟩) hbl).trans cy_1, (TX6.1.cell (p := ⟨bcy, offcy + 2, none⟩) hbl).trans cy_2, (TX6.1.cell (p := ⟨bcy, offcy + 3, none⟩) hbl).trans cy_3⟩ | exact ⟨TX5.1, TX5.2.1, TX5.2.2.1, TX5.2.2.2.1, TX5.2.2.2.2.1, TX5.2.2.2.2.2.1, TX5.2.2.2.2.2.2.1, TX5.2.2.2.2.2.2.2, (TX5.1.cell (p := ⟨bcy, offcy, none⟩) hbl).trans cy_0, (TX5.1.cell (p := ⟨bcy, offcy + 1, none⟩) hbl).trans cy_1, (TX5.1.cell (p := ⟨bcy, offcy + 2, none⟩) hbl).trans cy_2, (TX5.1.cell (p := ⟨bcy, offcy + 3, none⟩) hbl).trans cy_3⟩ | exact ⟨TX4.1, TX4.2.1, TX4.2.2.1, TX4.2.2.2.1, TX4.2.2.2.2.1, TX4.2.2.2.2.2.1, TX4.2.2.2.2.2.2.1, TX4.2.2.2.2.2.2.2, (TX4.1.cell (p := ⟨bcy, offcy, none⟩) hbl).trans cy_0, (TX4.1.cell (p := ⟨bcy, offcy + 1, none⟩) hbl).trans cy_1, (TX4.1.cell (p := ⟨bcy, offcy + 2, none⟩) hbl).trans cy_2, (TX4.1.cell (p := ⟨bcy, offcy + 3, none⟩) hbl).trans cy_3⟩)
    refine regTake (i := 0) (v := ?_) rfl (by kernel_rfl) (by kernel_rfl) (by kernel_rfl) (fun _ _ _ h => h) (by rfl) ?_ (by assumption) ?_
    rotate_left
    · intro w_ hSw
      (try dsimp only at hSw)
      go_simp
      (try with_reducible rfl)
    try simp only [Act.put, List.setIfInBounds_toArray, List.set_cons_zero, List.set_cons_succ]
    refine regTake (i := 1) (v := ?_) rfl (by kernel_rfl) (by kernel_rfl) (by kernel_rfl) (fun _ _ _ h => h) (by rfl) ?_ (by assumption) ?_
    rotate_left
    · intro w_ hSw
      (try dsimp only at hSw)
      go_simp
      (try with_reducible rfl)
    try simp only [Act.put, List.setIfInBounds_toArray, List.set_cons_zero, List.set_cons_succ]
    refine regTake (i := 2) (v := ?_) rfl (by kernel_rfl) (by kernel_rfl) (by kernel_rfl) (fun _ _ _ h => h) (by rfl) ?_ (by assumption) ?_
    rotate_left
    · intro w_ hSw
      (try dsimp only at hSw)
      go_simp
      (try with_reducible rfl)
    try simp only [Act.put, List.setIfInBounds_toArray, List.set_cons_zero, List.set_cons_succ]
    refine regTake (i := 3) (v := ?_) rfl (by kernel_rfl) (by kernel_rfl) (by kernel_rfl) (fun _ _ _ h => h) (by rfl) ?_ (by assumption) ?_
    rotate_left
    · intro w_ hSw
      (try dsimp only at hSw)
      go_simp
      (try with_reducible rfl)
    try simp only [Act.put, List.setIfInBounds_toArray, List.set_cons_zero, List.set_cons_succ]
    refine regSkip (i := 4) rfl (by kernel_rfl) (by kernel_rfl) (by kernel_rfl) (fun _ _ _ h => h) (by rfl) (by assumption) ?_
    try simp only [Act.put, List.setIfInBounds_toArray, List.set_cons_zero, List.set_cons_succ]
    refine regSkip (i := 5) rfl (by kernel_rfl) (by kernel_rfl) (by kernel_rfl) (fun _ _ _ h => h) (by rfl) (by assumption) ?_
    try simp only [Act.put, List.setIfInBounds_toArray, List.set_cons_zero, List.set_cons_succ]
    refine regSkip (i := 6) rfl (by kernel_rfl) (by kernel_rfl) (by kernel_rfl) (fun _ _ _ h => h) (by rfl) (by assumption) ?_
    try simp only [Act.put, List.setIfInBounds_toArray, List.set_cons_zero, List.set_cons_succ]
    refine regSkip (i := 7) rfl (by kernel_rfl) (by kernel_rfl) (by kernel_rfl) (fun _ _ _ h => h) (by rfl) (by assumption) ?_
    try simp only [Act.put, List.setIfInBounds_toArray, List.set_cons_zero, List.set_cons_succ]
    refine regSkip (i := 8) rfl (by kernel_rfl) (by kernel_rfl) (by kernel_rfl) (fun _ _ _ h => h) (by rfl) (by assumption) ?_
    try simp only [Act.put, List.setIfInBounds_toArray, List.set_cons_zero, List.set_cons_succ]
    refine regSkip (i := 9) rfl (by kernel_rfl) (by kernel_rfl) (by kernel_rfl) (fun _ _ _ h => h) (by rfl) (by assumption) ?_
    try simp only [Act.put, List.setIfInBounds_toArray, List.set_cons_zero, List.set_cons_succ]
    refine regTake (i := 10) (v := ?_) rfl (by kernel_rfl) (by kernel_rfl) (by kernel_rfl) (fun _ _ _ h => h) (by rfl) ?_ (by assumption) ?_
    rotate_left
    · intro w_ hSw
      (try dsimp only at hSw)
      go_simp
      (try with_reducible rfl)
    try simp only [Act.put, List.setIfInBounds_toArray, List.set_cons_zero, List.set_cons_succ]
    refine regTake (i := 11) (v := ?_) rfl (by kernel_rfl) (by kernel_rfl) (by kernel_rfl) (fun _ _ _ h => h) (by rfl) ?_ (by assumption) ?_
    rotate_left
    · intro w_ hSw
      (try dsimp only at hSw)
      go_simp
      (try with_reducible rfl)
    try simp only [Act.put, List.setIfInBounds_toArray, List.set_cons_zero, List.set_cons_succ]
    refine wpAnyH_done (by kernel_rfl) ?_ _
    go_wp2_with fail
    go_ret
    exact ⟨ret_bool (rfl), below_drw TX0.1⟩
  | false =>
    go_enter Try.func40, Try.ntmps40
    go_wp2_with fail
    refine wp_region_held_drew (S := (fun w_ => Below w.heap.size w w_ ∧ w.heap.size + 1 < w_.heap.size ∧ w_.cell? ⟨w.heap.size, 2, none⟩ = some (.string z2) ∧ w_.cell? ⟨w.heap.size, 3, none⟩ = some (.slice (some ⟨bcy, offcy, none⟩) m c3) ∧ w_.cell? ⟨w.heap.size + 1, 0, none⟩ = some (.int .i64 4) ∧ w_.cell? ⟨w.heap.size + 1, 1, none⟩ = some (.int .i64 0) ∧ w_.cell? ⟨w.heap.size + 1, 2, none⟩ = some (.string ⟨#[116, 104, 105, 115]⟩) ∧ w_.cell? ⟨w.heap.size + 1, 3, none⟩ = some (.slice none 0 0) ∧ w_.cell? ⟨bcy, offcy, none⟩ = some (.int .i64 y0) ∧ w_.cell? ⟨bcy, offcy + 1, none⟩ = some (.int .i64 y1) ∧ w_.cell? ⟨bcy, offcy + 2, none⟩ = some (.string y2) ∧ w_.cell? ⟨bcy, offcy + 3, none⟩ = some (.slice Dy y3.length dy))) (by kernel_rfl) ?_ (fun hHeld => ?_)
    · (try dsimp only)
      (first | exact ⟨TX0.drew.1, TX0.drew.2.1, TX0.drew.2.2.1, TX0.drew.2.2.2.1, TX0.drew.2.2.2.2.1, TX0.drew.2.2.2.2.2.1, TX0.drew.2.2.2.2.2.2.1, TX0.drew.2.2.2.2.2.2.2, (TX0.drew.1.cell (p := ⟨bcy, offcy, none⟩) hbl).trans cy_0, (TX0.drew.1.cell (p := ⟨bcy, offcy + 1, none⟩) hbl).trans cy_1, (TX0.drew.1.cell (p := ⟨bcy, offcy + 2, none⟩) hbl).trans cy_2, (TX0.drew.1.cell (p := ⟨bcy, offcy + 3, none⟩) hbl).trans cy_3⟩ | exact ⟨TX6.1, TX6.2.1, TX6.2.2.1, TX6.2.2.2.1, TX6.2.2.2.2.1, TX6.2.2.2.2.2.1, TX6.2.2.2.2.2.2.1, TX6.2.2.2.2.2.2.2, (TX6.1.cell (p := ⟨bcy, offcy, none⟩) hbl).trans cy_0, (TX6.1.cell (p := ⟨bcy, offcy + 1, none⟩) hbl).trans cy_1, (TX6.1.cell (p := ⟨bcy, offcy + 2, none⟩) hbl).trans cy_2, (TX6.1.cell (p := ⟨bcy, offcy + 3, none⟩) hbl).trans cy_3⟩ | exact ⟨TX5.1, TX5.2.1, TX5.2.2.1, TX5.2.2.2.1, TX5.2.2.2.2.1, TX5.2.2.2.2.2.1, TX5.2.2.2.2.2.2.1, TX5.2.2.2.2.2.2.2, (TX5.1.cell (p := ⟨bcy, offcy, none⟩) hbl).trans cy_0, (TX5.1.cell (p := ⟨bcy, offcy + 1, none⟩) hbl).trans cy_1, (TX5.1.cell (p := ⟨bcy, offcy + 2, none⟩) hbl).trans cy_2, (TX5.1.cell (p := ⟨bcy, offcy + 3, none⟩) hbl).trans cy_3⟩ | exact ⟨TX4.1, TX4.2.1, TX4.2.2.1, TX4.2.2.2.1, TX4.2.2.2.2.1, TX4.2.2.2.2.2.1, TX4.2.2.2.2.2.2.1, TX4.2.2.2.2.2.2.2, (TX4.1.cell (p := ⟨bcy, offcy, none⟩) hbl).trans cy_0, (TX4.1.cell (p := ⟨bcy, offcy + 1, none⟩) hbl).trans cy_1, (TX4.1.cell (p := ⟨bcy, offcy + 2, none⟩) hbl).trans cy_2, (TX4.1.cell (p := ⟨bcy, offcy + 3, none⟩) hbl).trans cy_3⟩)
    refine regTake (i := 0) (v := ?_) rfl (by kernel_rfl) (by kernel_rfl) (by kernel_rfl) (fun _ _ _ h => h) (by rfl) ?_ (by assumption) ?_
    rotate_left
    · intro w_ hSw
      (try dsimp only at hSw)
      go_simp
      (try with_reducible rfl)
    try simp only [Act.put, List.setIfInBounds_toArray, List.set_cons_zero, List.set_cons_succ]
    refine regTake (i := 1) (v := ?_) rfl (by kernel_rfl) (by kernel_rfl) (by kernel_rfl) (fun _ _ _ h => h) (by rfl) ?_ (by assumption) ?_
    rotate_left
    · intro w_ hSw
      (try dsimp only at hSw)
      go_simp
      (try with_reducible rfl)
    try simp only [Act.put, List.setIfInBounds_toArray, List.set_cons_zero, List.set_cons_succ]
    refine regTake (i := 2) (v := ?_) rfl (by kernel_rfl) (by kernel_rfl) (by kernel_rfl) (fun _ _ _ h => h) (by rfl) ?_ (by assumption) ?_
    rotate_left
    · intro w_ hSw
      (try dsimp only at hSw)
      go_simp
      (try with_reducible rfl)
    try simp only [Act.put, List.setIfInBounds_toArray, List.set_cons_zero, List.set_cons_succ]
    refine regTake (i := 3) (v := ?_) rfl (by kernel_rfl) (by kernel_rfl) (by kernel_rfl) (fun _ _ _ h => h) (by rfl) ?_ (by assumption) ?_
    rotate_left
    · intro w_ hSw
      (try dsimp only at hSw)
      go_simp
      (try with_reducible rfl)
    try simp only [Act.put, List.setIfInBounds_toArray, List.set_cons_zero, List.set_cons_succ]
    refine regTake (i := 4) (v := ?_) rfl (by kernel_rfl) (by kernel_rfl) (by kernel_rfl) (fun _ _ _ h => h) (by rfl) ?_ (by assumption) ?_
    rotate_left
    · intro w_ hSw
      (try dsimp only at hSw)
      go_simp
      (try with_reducible rfl)
    try simp only [Act.put, List.setIfInBounds_toArray, List.set_cons_zero, List.set_cons_succ]
    refine regTake (i := 5) (v := ?_) rfl (by kernel_rfl) (by kernel_rfl) (by kernel_rfl) (fun _ _ _ h => h) (by rfl) ?_ (by assumption) ?_
    rotate_left
    · intro w_ hSw
      (try dsimp only at hSw)
      go_simp
      (try with_reducible rfl)
    try simp only [Act.put, List.setIfInBounds_toArray, List.set_cons_zero, List.set_cons_succ]
    refine regTake (i := 6) (v := ?_) rfl (by kernel_rfl) (by kernel_rfl) (by kernel_rfl) (fun _ _ _ h => h) (by rfl) ?_ (by assumption) ?_
    rotate_left
    · intro w_ hSw
      (try dsimp only at hSw)
      go_simp
      (try with_reducible rfl)
    try simp only [Act.put, List.setIfInBounds_toArray, List.set_cons_zero, List.set_cons_succ]
    refine regTake (i := 7) (v := ?_) rfl (by kernel_rfl) (by kernel_rfl) (by kernel_rfl) (fun _ _ _ h => h) (by rfl) ?_ (by assumption) ?_
    rotate_left
    · intro w_ hSw
      (try dsimp only at hSw)
      go_simp
      (try with_reducible rfl)
    try simp only [Act.put, List.setIfInBounds_toArray, List.set_cons_zero, List.set_cons_succ]
    refine regTake (i := 8) (v := ?_) rfl (by kernel_rfl) (by kernel_rfl) (by kernel_rfl) (fun _ _ _ h => h) (by rfl) ?_ (by assumption) ?_
    rotate_left
    · intro w_ hSw
      (try dsimp only at hSw)
      go_simp
      (try with_reducible rfl)
    try simp only [Act.put, List.setIfInBounds_toArray, List.set_cons_zero, List.set_cons_succ]
    refine regCall (i := 9) (by kernel_rfl) rfl (by rfl) (fun K hK => ?_)
    go_simp
    (go_at_call 72; have TH5 : TbS w z2 (some ⟨bcy, offcy, none⟩) m c3 _ := ⟨hHeld.1, hHeld.2.1, hHeld.2.2.1, hHeld.2.2.2.1, hHeld.2.2.2.2.1, hHeld.2.2.2.2.2.1, hHeld.2.2.2.2.2.2.1, hHeld.2.2.2.2.2.2.2.1⟩; refine (same_this ⟨y0, y1, y2, y3⟩ hyy [.int .i64 y0, .int .i64 y1, .string y2, .slice Dy y3.length dy] _ B (Nat.le_trans hB0 hHeld.1.size) (by rw [FNode.c_eq]; exact RdVs.cons (by unfold RdC; rfl) (RdVs.cons (by unfold RdC; rfl) (RdVs.cons (by unfold RdC; rfl) (RdVs.cons (Qy.out.below hHeld.1 hB0) (RdVs.nil _ _)))))).mono ?_; rw [HSV.out]; rintro e w5 ⟨rfl, hb5⟩; have TX5 := TH5.call hb5)
    refine hK.out _ _ ?_ (fun hHeld => ?_)
    · (try dsimp only)
      (first | exact ⟨TX0.drew.1, TX0.drew.2.1, TX0.drew.2.2.1, TX0.drew.2.2.2.1, TX0.drew.2.2.2.2.1, TX0.drew.2.2.2.2.2.1, TX0.drew.2.2.2.2.2.2.1, TX0.drew.2.2.2.2.2.2.2, (TX0.drew.1.cell (p := ⟨bcy, offcy, none⟩) hbl).trans cy_0, (TX0.drew.1.cell (p := ⟨bcy, offcy + 1, none⟩) hbl).trans cy_1, (TX0.drew.1.cell (p := ⟨bcy, offcy + 2, none⟩) hbl).trans cy_2, (TX0.drew.1.cell (p := ⟨bcy, offcy + 3, none⟩) hbl).trans cy_3⟩ | exact ⟨TX6.1, TX6.2.1, TX6.2.2.1, TX6.2.2.2.1, TX6.2.2.2.2.1, TX6.2.2.2.2.2.1, TX6.2.2.2.2.2.2.1, TX6.2.2.2.2.2.2.2, (TX6.1.cell (p := ⟨bcy, offcy, none⟩) hbl).trans cy_0, (TX6.1.cell (p := ⟨bcy, offcy + 1, none⟩) hbl).trans cy_1, (TX6.1.cell (p := ⟨bcy, offcy + 2, none⟩) hbl).trans cy_2, (TX6.1.cell (p := ⟨bcy, offcy + 3, none⟩) hbl).trans cy_3⟩ | exact ⟨TX5.1, TX5.2.1, TX5.2.2.1, TX5.2.2.2.1, TX5.2.2.2.2.1, TX5.2.2.2.2.2.1, TX5.2.2.2.2.2.2.1, TX5.2.2.2.2.2.2.2, (TX5.1.cell (p := ⟨bcy, offcy, none⟩) hbl).trans cy_0, (TX5.1.cell (p := ⟨bcy, offcy + 1, none⟩) hbl).trans cy_1, (TX5.1.cell (p := ⟨bcy, offcy + 2, none⟩) hbl).trans cy_2, (TX5.1.cell (p := ⟨bcy, offcy + 3, none⟩) hbl).trans cy_3⟩ | exact ⟨TX4.1, TX4.2.1, TX4.2.2.1, TX4.2.2.2.1, TX4.2.2.2.2.1, TX4.2.2.2.2.2.1, TX4.2.2.2.2.2.2.1, TX4.2.2.2.2.2.2.2, (TX4.1.cell (p := ⟨bcy, offcy, none⟩) hbl).trans cy_0, (TX4.1.cell (p := ⟨bcy, offcy + 1, none⟩) hbl).trans cy_1, (TX4.1.cell (p := ⟨bcy, offcy + 2, none⟩) hbl).trans cy_2, (TX4.1.cell (p := ⟨bcy, offcy + 3, none⟩) hbl).trans cy_3⟩)
    clear hK K
    try simp only [Act.put, List.setIfInBounds_toArray, List.set_cons_zero, List.set_cons_succ]
    refine regTake (i := 10) (v := ?_) rfl (by kernel_rfl) (by kernel_rfl) (by kernel_rfl) (fun _ _ _ h => h) (by rfl) ?_ (by assumption) ?_
    rotate_left
    · intro w_ hSw
      (try dsimp only at hSw)
      go_simp
      (try with_reducible rfl)
    try simp only [Act.put, List.setIfInBounds_toArray, List.set_cons_zero, List.set_cons_succ]
    refine regTake (i := 11) (v := ?_) rfl (by kernel_rfl) (by kernel_rfl) (by kernel_rfl) (fun _ _ _ h => h) (by rfl) ?_ (by assumption) ?_
    rotate_left
    · intro w_ hSw
      (try dsimp only at hSw)
      go_simp
      (try with_reducible rfl)
    try simp only [Act.put, List.setIfInBounds_toArray, List.set_cons_zero, List.set_cons_succ]
    refine wpAnyH_done (by kernel_rfl) ?_ _
    go_wp2_with fail
    go_ret
    exact ⟨ret_bool (by first | rfl | (simp_all; done)), TX5.1⟩
set_option maxHeartbeats 4000000 in
theorem thS_44 (z1 : Int) (z2 : ByteArray) (z3 : List FNode) (hw : (FNode.mk 44 z1 z2 z3).wt ≤ 9000000000) (hk1 : 1 ≤ z3.length) (us : List Value) (w : World) (B : Nat) (hB0 : B ≤ w.heap.size) (hr : RdVs w B (FNode.mk 44 z1 z2 z3).c us) :
    Calls Try.prog 40 #[.agg us.toArray] w fun e w' => e = .returned (.bool (hdSm z3)) ∧ Below w.heap.size w w' := by
  rw [FNode.c_eq] at hr
  obtain ⟨us0, rfl, hr_0⟩ := hr.unv
  obtain ⟨us1, rfl, hr_1⟩ := hr_0.unv
  obtain ⟨us2, rfl, hr_2⟩ := hr_1.unv
  obtain ⟨A3, c3, us3, rfl, r3, hr_3⟩ := hr_2.uns
  obtain rfl := hr_3.un0
  have hww := hw
  rw [FNode.wt_eq] at hw
  have hz : z2.size ≤ 9223372036854775807 := by omega
  have hl : z3.length ≤ 9000000000 := by omega
  obtain ⟨m, hm⟩ : ∃ m, z3.length = m := ⟨_, rfl⟩
  try rw [hm] at hl r3 ⊢
  have HR := Lib.hid r3
  have TX0 := tbS_new w 44 z1 z2 A3 m c3
  clear hr hr_0 hr_1 hr_2 hr_3 r3
  obtain ⟨⟨y0, y1, y2, y3⟩, r, rfl⟩ : ∃ a r, z3 = a :: r := by
    cases z3 with
    | nil => simp at hk1
    | cons a r => exact ⟨a, r, rfl⟩
  have hpos : 0 < m := by rw [← hm]; simp
  have hyy : (FNode.mk y0 y1 y2 y3).wt ≤ 9000000000 := by have := FNode.wts_at (FNode.mk y0 y1 y2 y3 :: r) _ (List.mem_cons_self ..); omega
  obtain ⟨bcy, offcy, Ey, hblcy, hcc⟩ := nd_at hm.symm (l := (FNode.mk y0 y1 y2 y3 :: r)) HR.out (i := 0) (x := FNode.mk y0 y1 y2 y3) rfl
  rw [FNode.c_eq] at hcc
  obtain ⟨u0, e0, q0⟩ := hcc 0 _ rfl
  obtain rfl := q0.val
  have cy_0 : w.cell? ⟨bcy, offcy, none⟩ = some (.int .i64 y0) := ((Below.refl w.heap.size w).cell (p := ⟨bcy, _, none⟩) (by show bcy < w.heap.size; omega)).trans (by simpa using e0)
  obtain ⟨u1, e1, q1⟩ := hcc 1 _ rfl
  obtain rfl := q1.val
  have cy_1 : w.cell? ⟨bcy, offcy + 1, none⟩ = some (.int .i64 y1) := ((Below.refl w.heap.size w).cell (p := ⟨bcy, _, none⟩) (by show bcy < w.heap.size; omega)).trans (by simpa using e1)
  obtain ⟨u2, e2, q2⟩ := hcc 2 _ rfl
  obtain rfl := q2.val
  have cy_2 : w.cell? ⟨bcy, offcy + 2, none⟩ = some (.string y2) := ((Below.refl w.heap.size w).cell (p := ⟨bcy, _, none⟩) (by show bcy < w.heap.size; omega)).trans (by simpa using e2)
  obtain ⟨u3, e3, q3⟩ := hcc 3 _ rfl
  obtain ⟨Dy, dy, rfl⟩ := q3.form
  have cy_3 : w.cell? ⟨bcy, offcy + 3, none⟩ = some (.slice Dy y3.length dy) := ((Below.refl w.heap.size w).cell (p := ⟨bcy, _, none⟩) (by show bcy < w.heap.size; omega)).trans (by simpa using e3)
  have Qy := Lib.hid q3
  clear hcc e0 e1 e2 e3 q0 q1 q2 q3
  have hbl : bcy < w.heap.size := Nat.lt_of_lt_of_le hblcy hB0
  subst Ey
  clear hm hw hww hk1
  obtain ⟨sv, hsv⟩ : ∃ v, smT ⟨y0, y1, y2, y3⟩ = v := ⟨_, rfl⟩
  have HSV := Lib.hid hsv
  have HY := Lib.hid (show hdSm (FNode.mk y0 y1 y2 y3 :: r) = sv from hsv)
  rw [HY.out]
  clear HY hsv
  go_enter Try.func40, Try.ntmps40
  go_wp2_with fail
  refine wp_region_held_drew (S := (fun w_ => Below w.heap.size w w_ ∧ w.heap.size + 1 < w_.heap.size ∧ w_.cell? ⟨w.heap.size, 2, none⟩ = some (.string z2) ∧ w_.cell? ⟨w.heap.size, 3, none⟩ = some (.slice (some ⟨bcy, offcy, none⟩) m c3) ∧ w_.cell? ⟨w.heap.size + 1, 0, none⟩ = some (.int .i64 4) ∧ w_.cell? ⟨w.heap.size + 1, 1, none⟩ = some (.int .i64 0) ∧ w_.cell? ⟨w.heap.size + 1, 2, none⟩ = some (.string ⟨#[116, 104, 105, 115]⟩) ∧ w_.cell? ⟨w.heap.size + 1, 3, none⟩ = some (.slice none 0 0) ∧ w_.cell? ⟨bcy, offcy, none⟩ = some (.int .i64 y0) ∧ w_.cell? ⟨bcy, offcy + 1, none⟩ = some (.int .i64 y1) ∧ w_.cell? ⟨bcy, offcy + 2, none⟩ = some (.string y2) ∧ w_.cell? ⟨bcy, offcy + 3, none⟩ = some (.slice Dy y3.length dy))) (by kernel_rfl) ?_ (fun hHeld => ?_)
  · (try dsimp only)
    (first | exact ⟨TX0.drew.1, TX0.drew.2.1, TX0.drew.2.2.1, TX0.drew.2.2.2.1, TX0.drew.2.2.2.2.1, TX0.drew.2.2.2.2.2.1, TX0.drew.2.2.2.2.2.2.1, TX0.drew.2.2.2.2.2.2.2, (TX0.drew.1.cell (p := ⟨bcy, offcy, none⟩) hbl).trans cy_0, (TX0.drew.1.cell (p := ⟨bcy, offcy + 1, none⟩) hbl).trans cy_1, (TX0.drew.1.cell (p := ⟨bcy, offcy + 2, none⟩) hbl).trans cy_2, (TX0.drew.1.cell (p := ⟨bcy, offcy + 3, none⟩) hbl).trans cy_3⟩ | exact ⟨TX6.1, TX6.2.1, TX6.2.2.1, TX6.2.2.2.1, TX6.2.2.2.2.1, TX6.2.2.2.2.2.1, TX6.2.2.2.2.2.2.1, TX6.2.2.2.2.2.2.2, (TX6.1.cell (p := ⟨bcy, offcy, none⟩) hbl).trans cy_0, (TX6.1.cell (p := ⟨bcy, offcy + 1, none⟩) hbl).trans cy_1, (TX6.1.cell (p := ⟨bcy, offcy + 2, none⟩) hbl).trans cy_2, (TX6.1.cell (p := ⟨bcy, offcy + 3, none⟩) hbl).trans cy_3⟩ | exact ⟨TX5.1, TX5.2.1, TX5.2.2.1, TX5.2.2.2.1, TX5.2.2.2.2.1, TX5.2.2.2.2.2.1, TX5.2.2.2.2.2.2.1, TX5.2.2.2.2.2.2.2, (TX5.1.cell (p := ⟨bcy, offcy, none⟩) hbl).trans cy_0, (TX5.1.cell (p := ⟨bcy, offcy + 1, none⟩) hbl).trans cy_1, (TX5.1.cell (p := ⟨bcy, offcy + 2, none⟩) hbl).trans cy_2, (TX5.1.cell (p := ⟨bcy, offcy + 3, none⟩) hbl).trans cy_3⟩ | exact ⟨TX4.1, TX4.2.1, TX4.2.2.1, TX4.2.2.2.1, TX4.2.2.2.2.1, TX4.2.2.2.2.2.1, TX4.2.2.2.2.2.2.1, TX4.2.2.2.2.2.2.2, (TX4.1.cell (p := ⟨bcy, offcy, none⟩) hbl).trans cy_0, (TX4.1.cell (p := ⟨bcy, offcy + 1, none⟩) hbl).trans cy_1, (TX4.1.cell (p := ⟨bcy, offcy + 2, none⟩) hbl).trans cy_2, (TX4.1.cell (p := ⟨bcy, offcy + 3, none⟩) hbl).trans cy_3⟩)
  refine regTake (i := 0) (v := ?_) rfl (by kernel_rfl) (by kernel_rfl) (by kernel_rfl) (fun _ _ _ h => h) (by rfl) ?_ (by assumption) ?_
  rotate_left
  · intro w_ hSw
    (try dsimp only at hSw)
    go_simp
    (try with_reducible rfl)
  try simp only [Act.put, List.setIfInBounds_toArray, List.set_cons_zero, List.set_cons_succ]
  refine regTake (i := 1) (v := ?_) rfl (by kernel_rfl) (by kernel_rfl) (by kernel_rfl) (fun _ _ _ h => h) (by rfl) ?_ (by assumption) ?_
  rotate_left
  · intro w_ hSw
    (try dsimp only at hSw)
    go_simp
    (try with_reducible rfl)
  try simp only [Act.put, List.setIfInBounds_toArray, List.set_cons_zero, List.set_cons_succ]
  refine regTake (i := 2) (v := ?_) rfl (by kernel_rfl) (by kernel_rfl) (by kernel_rfl) (fun _ _ _ h => h) (by rfl) ?_ (by assumption) ?_
  rotate_left
  · intro w_ hSw
    (try dsimp only at hSw)
    go_simp
    (try with_reducible rfl)
  try simp only [Act.put, List.setIfInBounds_toArray, List.set_cons_zero, List.set_cons_succ]
  refine regTake (i := 3) (v := ?_) rfl (by kernel_rfl) (by kernel_rfl) (by kernel_rfl) (fun _ _ _ h => h) (by rfl) ?_ (by assumption) ?_
  rotate_left
  · intro w_ hSw
    (try dsimp only at hSw)
    go_simp
    (try with_reducible rfl)
  try simp only [Act.put, List.setIfInBounds_toArray, List.set_cons_zero, List.set_cons_succ]
  refine regTake (i := 4) (v := ?_) rfl (by kernel_rfl) (by kernel_rfl) (by kernel_rfl) (fun _ _ _ h => h) (by rfl) ?_ (by assumption) ?_
  rotate_left
  · intro w_ hSw
    (try dsimp only at hSw)
    go_simp
    (try with_reducible rfl)
  try simp only [Act.put, List.setIfInBounds_toArray, List.set_cons_zero, List.set_cons_succ]
  refine regCall (i := 5) (by kernel_rfl) rfl (by rfl) (fun K hK => ?_)
  go_simp
  (go_at_call 72; have TH5 : TbS w z2 (some ⟨bcy, offcy, none⟩) m c3 _ := ⟨hHeld.1, hHeld.2.1, hHeld.2.2.1, hHeld.2.2.2.1, hHeld.2.2.2.2.1, hHeld.2.2.2.2.2.1, hHeld.2.2.2.2.2.2.1, hHeld.2.2.2.2.2.2.2.1⟩; refine (same_this ⟨y0, y1, y2, y3⟩ hyy [.int .i64 y0, .int .i64 y1, .string y2, .slice Dy y3.length dy] _ B (Nat.le_trans hB0 hHeld.1.size) (by rw [FNode.c_eq]; exact RdVs.cons (by unfold RdC; rfl) (RdVs.cons (by unfold RdC; rfl) (RdVs.cons (by unfold RdC; rfl) (RdVs.cons (Qy.out.below hHeld.1 hB0) (RdVs.nil _ _)))))).mono ?_; rw [HSV.out]; rintro e w5 ⟨rfl, hb5⟩; have TX5 := TH5.call hb5)
  refine hK.out _ _ ?_ (fun hHeld => ?_)
  · (try dsimp only)
    (first | exact ⟨TX0.drew.1, TX0.drew.2.1, TX0.drew.2.2.1, TX0.drew.2.2.2.1, TX0.drew.2.2.2.2.1, TX0.drew.2.2.2.2.2.1, TX0.drew.2.2.2.2.2.2.1, TX0.drew.2.2.2.2.2.2.2, (TX0.drew.1.cell (p := ⟨bcy, offcy, none⟩) hbl).trans cy_0, (TX0.drew.1.cell (p := ⟨bcy, offcy + 1, none⟩) hbl).trans cy_1, (TX0.drew.1.cell (p := ⟨bcy, offcy + 2, none⟩) hbl).trans cy_2, (TX0.drew.1.cell (p := ⟨bcy, offcy + 3, none⟩) hbl).trans cy_3⟩ | exact ⟨TX6.1, TX6.2.1, TX6.2.2.1, TX6.2.2.2.1, TX6.2.2.2.2.1, TX6.2.2.2.2.2.1, TX6.2.2.2.2.2.2.1, TX6.2.2.2.2.2.2.2, (TX6.1.cell (p := ⟨bcy, offcy, none⟩) hbl).trans cy_0, (TX6.1.cell (p := ⟨bcy, offcy + 1, none⟩) hbl).trans cy_1, (TX6.1.cell (p := ⟨bcy, offcy + 2, none⟩) hbl).trans cy_2, (TX6.1.cell (p := ⟨bcy, offcy + 3, none⟩) hbl).trans cy_3⟩ | exact ⟨TX5.1, TX5.2.1, TX5.2.2.1, TX5.2.2.2.1, TX5.2.2.2.2.1, TX5.2.2.2.2.2.1, TX5.2.2.2.2.2.2.1, TX5.2.2.2.2.2.2.2, (TX5.1.cell (p := ⟨bcy, offcy, none⟩) hbl).trans cy_0, (TX5.1.cell (p := ⟨bcy, offcy + 1, none⟩) hbl).trans cy_1, (TX5.1.cell (p := ⟨bcy, offcy + 2, none⟩) hbl).trans cy_2, (TX5.1.cell (p := ⟨bcy, offcy + 3, none⟩) hbl).trans cy_3⟩ | exact ⟨TX4.1, TX4.2.1, TX4.2.2.1, TX4.2.2.2.1, TX4.2.2.2.2.1, TX4.2.2.2.2.2.1, TX4.2.2.2.2.2.2.1, TX4.2.2.2.2.2.2.2, (TX4.1.cell (p := ⟨bcy, offcy, none⟩) hbl).trans cy_0, (TX4.1.cell (p := ⟨bcy, offcy + 1, none⟩) hbl).trans cy_1, (TX4.1.cell (p := ⟨bcy, offcy + 2, none⟩) hbl).trans cy_2, (TX4.1.cell (p := ⟨bcy, offcy + 3, none⟩) hbl).trans cy_3⟩)
  clear hK K
  try simp only [Act.put, List.setIfInBounds_toArray, List.set_cons_zero, List.set_cons_succ]
  refine regTake (i := 6) (v := ?_) rfl (by kernel_rfl) (by kernel_rfl) (by kernel_rfl) (fun _ _ _ h => h) (by rfl) ?_ (by assumption) ?_
  rotate_left
  · intro w_ hSw
    (try dsimp only at hSw)
    go_simp
    (try with_reducible rfl)
  try simp only [Act.put, List.setIfInBounds_toArray, List.set_cons_zero, List.set_cons_succ]
  refine wpAnyH_done (by kernel_rfl) ?_ _
  go_wp2_with fail
  go_ret
  exact ⟨ret_bool (by first | rfl | (simp_all; done)), TX5.1⟩
set_option maxHeartbeats 4000000 in
theorem thS_15 (z1 : Int) (z2 : ByteArray) (z3 : List FNode) (hw : (FNode.mk 15 z1 z2 z3).wt ≤ 9000000000) (hk1 : 1 ≤ z3.length) (us : List Value) (w : World) (B : Nat) (hB0 : B ≤ w.heap.size) (hr : RdVs w B (FNode.mk 15 z1 z2 z3).c us) :
    Calls Try.prog 40 #[.agg us.toArray] w fun e w' => e = .returned (.bool (hdRs z3)) ∧ Below w.heap.size w w' := by
  rw [FNode.c_eq] at hr
  obtain ⟨us0, rfl, hr_0⟩ := hr.unv
  obtain ⟨us1, rfl, hr_1⟩ := hr_0.unv
  obtain ⟨us2, rfl, hr_2⟩ := hr_1.unv
  obtain ⟨A3, c3, us3, rfl, r3, hr_3⟩ := hr_2.uns
  obtain rfl := hr_3.un0
  have hww := hw
  rw [FNode.wt_eq] at hw
  have hz : z2.size ≤ 9223372036854775807 := by omega
  have hl : z3.length ≤ 9000000000 := by omega
  obtain ⟨m, hm⟩ : ∃ m, z3.length = m := ⟨_, rfl⟩
  try rw [hm] at hl r3 ⊢
  have HR := Lib.hid r3
  have TX0 := tbS_new w 15 z1 z2 A3 m c3
  clear hr hr_0 hr_1 hr_2 hr_3 r3
  obtain ⟨⟨y0, y1, y2, y3⟩, r, rfl⟩ : ∃ a r, z3 = a :: r := by
    cases z3 with
    | nil => simp at hk1
    | cons a r => exact ⟨a, r, rfl⟩
  have hpos : 0 < m := by rw [← hm]; simp
  have hyy : (FNode.mk y0 y1 y2 y3).wt ≤ 9000000000 := by have := FNode.wts_at (FNode.mk y0 y1 y2 y3 :: r) _ (List.mem_cons_self ..); omega
  obtain ⟨bcy, offcy, Ey, hblcy, hcc⟩ := nd_at hm.symm (l := (FNode.mk y0 y1 y2 y3 :: r)) HR.out (i := 0) (x := FNode.mk y0 y1 y2 y3) rfl
  rw [FNode.c_eq] at hcc
  obtain ⟨u0, e0, q0⟩ := hcc 0 _ rfl
  obtain rfl := q0.val
  have cy_0 : w.cell? ⟨bcy, offcy, none⟩ = some (.int .i64 y0) := ((Below.refl w.heap.size w).cell (p := ⟨bcy, _, none⟩) (by show bcy < w.heap.size; omega)).trans (by simpa using e0)
  obtain ⟨u1, e1, q1⟩ := hcc 1 _ rfl
  obtain rfl := q1.val
  have cy_1 : w.cell? ⟨bcy, offcy + 1, none⟩ = some (.int .i64 y1) := ((Below.refl w.heap.size w).cell (p := ⟨bcy, _, none⟩) (by show bcy < w.heap.size; omega)).trans (by simpa using e1)
  obtain ⟨u2, e2, q2⟩ := hcc 2 _ rfl
  obtain rfl := q2.val
  have cy_2 : w.cell? ⟨bcy, offcy + 2, none⟩ = some (.string y2) := ((Below.refl w.heap.size w).cell (p := ⟨bcy, _, none⟩) (by show bcy < w.heap.size; omega)).trans (by simpa using e2)
  obtain ⟨u3, e3, q3⟩ := hcc 3 _ rfl
  obtain ⟨Dy, dy, rfl⟩ := q3.form
  have cy_3 : w.cell? ⟨bcy, offcy + 3, none⟩ = some (.slice Dy y3.length dy) := ((Below.refl w.heap.size w).cell (p := ⟨bcy, _, none⟩) (by show bcy < w.heap.size; omega)).trans (by simpa using e3)
  have Qy := Lib.hid q3
  clear hcc e0 e1 e2 e3 q0 q1 q2 q3
  have hbl : bcy < w.heap.size := Nat.lt_of_lt_of_le hblcy hB0
  subst Ey
  clear hm hw hww hk1
  obtain ⟨sv, hsv⟩ : ∃ v, smT (rootF ⟨y0, y1, y2, y3⟩) = v := ⟨_, rfl⟩
  have HSV := Lib.hid hsv
  have HY := Lib.hid (show hdRs (FNode.mk y0 y1 y2 y3 :: r) = sv from hsv)
  rw [HY.out]
  clear HY hsv
  go_enter Try.func40, Try.ntmps40
  go_wp2_with fail
  refine wp_region_held_drew (S := (fun w_ => Below w.heap.size w w_ ∧ w.heap.size + 1 < w_.heap.size ∧ w_.cell? ⟨w.heap.size, 2, none⟩ = some (.string z2) ∧ w_.cell? ⟨w.heap.size, 3, none⟩ = some (.slice (some ⟨bcy, offcy, none⟩) m c3) ∧ w_.cell? ⟨w.heap.size + 1, 0, none⟩ = some (.int .i64 4) ∧ w_.cell? ⟨w.heap.size + 1, 1, none⟩ = some (.int .i64 0) ∧ w_.cell? ⟨w.heap.size + 1, 2, none⟩ = some (.string ⟨#[116, 104, 105, 115]⟩) ∧ w_.cell? ⟨w.heap.size + 1, 3, none⟩ = some (.slice none 0 0) ∧ w_.cell? ⟨bcy, offcy, none⟩ = some (.int .i64 y0) ∧ w_.cell? ⟨bcy, offcy + 1, none⟩ = some (.int .i64 y1) ∧ w_.cell? ⟨bcy, offcy + 2, none⟩ = some (.string y2) ∧ w_.cell? ⟨bcy, offcy + 3, none⟩ = some (.slice Dy y3.length dy))) (by kernel_rfl) ?_ (fun hHeld => ?_)
  · (try dsimp only)
    (first | exact ⟨TX0.drew.1, TX0.drew.2.1, TX0.drew.2.2.1, TX0.drew.2.2.2.1, TX0.drew.2.2.2.2.1, TX0.drew.2.2.2.2.2.1, TX0.drew.2.2.2.2.2.2.1, TX0.drew.2.2.2.2.2.2.2, (TX0.drew.1.cell (p := ⟨bcy, offcy, none⟩) hbl).trans cy_0, (TX0.drew.1.cell (p := ⟨bcy, offcy + 1, none⟩) hbl).trans cy_1, (TX0.drew.1.cell (p := ⟨bcy, offcy + 2, none⟩) hbl).trans cy_2, (TX0.drew.1.cell (p := ⟨bcy, offcy + 3, none⟩) hbl).trans cy_3⟩ | exact ⟨TX6.1, TX6.2.1, TX6.2.2.1, TX6.2.2.2.1, TX6.2.2.2.2.1, TX6.2.2.2.2.2.1, TX6.2.2.2.2.2.2.1, TX6.2.2.2.2.2.2.2, (TX6.1.cell (p := ⟨bcy, offcy, none⟩) hbl).trans cy_0, (TX6.1.cell (p := ⟨bcy, offcy + 1, none⟩) hbl).trans cy_1, (TX6.1.cell (p := ⟨bcy, offcy + 2, none⟩) hbl).trans cy_2, (TX6.1.cell (p := ⟨bcy, offcy + 3, none⟩) hbl).trans cy_3⟩ | exact ⟨TX5.1, TX5.2.1, TX5.2.2.1, TX5.2.2.2.1, TX5.2.2.2.2.1, TX5.2.2.2.2.2.1, TX5.2.2.2.2.2.2.1, TX5.2.2.2.2.2.2.2, (TX5.1.cell (p := ⟨bcy, offcy, none⟩) hbl).trans cy_0, (TX5.1.cell (p := ⟨bcy, offcy + 1, none⟩) hbl).trans cy_1, (TX5.1.cell (p := ⟨bcy, offcy + 2, none⟩) hbl).trans cy_2, (TX5.1.cell (p := ⟨bcy, offcy + 3, none⟩) hbl).trans cy_3⟩ | exact ⟨TX4.1, TX4.2.1, TX4.2.2.1, TX4.2.2.2.1, TX4.2.2.2.2.1, TX4.2.2.2.2.2.1, TX4.2.2.2.2.2.2.1, TX4.2.2.2.2.2.2.2, (TX4.1.cell (p := ⟨bcy, offcy, none⟩) hbl).trans cy_0, (TX4.1.cell (p := ⟨bcy, offcy + 1, none⟩) hbl).trans cy_1, (TX4.1.cell (p := ⟨bcy, offcy + 2, none⟩) hbl).trans cy_2, (TX4.1.cell (p := ⟨bcy, offcy + 3, none⟩) hbl).trans cy_3⟩)
  refine regTake (i := 0) (v := ?_) rfl (by kernel_rfl) (by kernel_rfl) (by kernel_rfl) (fun _ _ _ h => h) (by rfl) ?_ (by assumption) ?_
  rotate_left
  · intro w_ hSw
    (try dsimp only at hSw)
    go_simp
    (try with_reducible rfl)
  try simp only [Act.put, List.setIfInBounds_toArray, List.set_cons_zero, List.set_cons_succ]
  refine regTake (i := 1) (v := ?_) rfl (by kernel_rfl) (by kernel_rfl) (by kernel_rfl) (fun _ _ _ h => h) (by rfl) ?_ (by assumption) ?_
  rotate_left
  · intro w_ hSw
    (try dsimp only at hSw)
    go_simp
    (try with_reducible rfl)
  try simp only [Act.put, List.setIfInBounds_toArray, List.set_cons_zero, List.set_cons_succ]
  refine regTake (i := 2) (v := ?_) rfl (by kernel_rfl) (by kernel_rfl) (by kernel_rfl) (fun _ _ _ h => h) (by rfl) ?_ (by assumption) ?_
  rotate_left
  · intro w_ hSw
    (try dsimp only at hSw)
    go_simp
    (try with_reducible rfl)
  try simp only [Act.put, List.setIfInBounds_toArray, List.set_cons_zero, List.set_cons_succ]
  refine regTake (i := 3) (v := ?_) rfl (by kernel_rfl) (by kernel_rfl) (by kernel_rfl) (fun _ _ _ h => h) (by rfl) ?_ (by assumption) ?_
  rotate_left
  · intro w_ hSw
    (try dsimp only at hSw)
    go_simp
    (try with_reducible rfl)
  try simp only [Act.put, List.setIfInBounds_toArray, List.set_cons_zero, List.set_cons_succ]
  refine regTake (i := 5) (v := ?_) rfl (by kernel_rfl) (by kernel_rfl) (by kernel_rfl) (fun _ _ _ h => h) (by rfl) ?_ (by assumption) ?_
  rotate_left
  · intro w_ hSw
    (try dsimp only at hSw)
    go_simp
    (try with_reducible rfl)
  try simp only [Act.put, List.setIfInBounds_toArray, List.set_cons_zero, List.set_cons_succ]
  refine regCall (i := 4) (by kernel_rfl) rfl (by rfl) (fun K hK => ?_)
  go_simp
  (go_at_call 73; have TH4 : TbS w z2 (some ⟨bcy, offcy, none⟩) m c3 _ := ⟨hHeld.1, hHeld.2.1, hHeld.2.2.1, hHeld.2.2.2.1, hHeld.2.2.2.2.1, hHeld.2.2.2.2.2.1, hHeld.2.2.2.2.2.2.1, hHeld.2.2.2.2.2.2.2.1⟩; refine (root_spec ⟨y0, y1, y2, y3⟩ hyy [.int .i64 y0, .int .i64 y1, .string y2, .slice Dy y3.length dy] _ B (Nat.le_trans hB0 hHeld.1.size) (by rw [FNode.c_eq]; exact RdVs.cons (by unfold RdC; rfl) (RdVs.cons (by unfold RdC; rfl) (RdVs.cons (by unfold RdC; rfl) (RdVs.cons (Qy.out.below hHeld.1 hB0) (RdVs.nil _ _)))))).mono ?_; rintro e w4 ⟨vs, rfl, hvs, hvw, hb4⟩; have TX4 := TH4.call hb4)
  refine hK.out _ _ ?_ (fun hHeld => ?_)
  · (try dsimp only)
    (first | exact ⟨TX0.drew.1, TX0.drew.2.1, TX0.drew.2.2.1, TX0.drew.2.2.2.1, TX0.drew.2.2.2.2.1, TX0.drew.2.2.2.2.2.1, TX0.drew.2.2.2.2.2.2.1, TX0.drew.2.2.2.2.2.2.2, (TX0.drew.1.cell (p := ⟨bcy, offcy, none⟩) hbl).trans cy_0, (TX0.drew.1.cell (p := ⟨bcy, offcy + 1, none⟩) hbl).trans cy_1, (TX0.drew.1.cell (p := ⟨bcy, offcy + 2, none⟩) hbl).trans cy_2, (TX0.drew.1.cell (p := ⟨bcy, offcy + 3, none⟩) hbl).trans cy_3⟩ | exact ⟨TX6.1, TX6.2.1, TX6.2.2.1, TX6.2.2.2.1, TX6.2.2.2.2.1, TX6.2.2.2.2.2.1, TX6.2.2.2.2.2.2.1, TX6.2.2.2.2.2.2.2, (TX6.1.cell (p := ⟨bcy, offcy, none⟩) hbl).trans cy_0, (TX6.1.cell (p := ⟨bcy, offcy + 1, none⟩) hbl).trans cy_1, (TX6.1.cell (p := ⟨bcy, offcy + 2, none⟩) hbl).trans cy_2, (TX6.1.cell (p := ⟨bcy, offcy + 3, none⟩) hbl).trans cy_3⟩ | exact ⟨TX5.1, TX5.2.1, TX5.2.2.1, TX5.2.2.2.1, TX5.2.2.2.2.1, TX5.2.2.2.2.2.1, TX5.2.2.2.2.2.2.1, TX5.2.2.2.2.2.2.2, (TX5.1.cell (p := ⟨bcy, offcy, none⟩) hbl).trans cy_0, (TX5.1.cell (p := ⟨bcy, offcy + 1, none⟩) hbl).trans cy_1, (TX5.1.cell (p := ⟨bcy, offcy + 2, none⟩) hbl).trans cy_2, (TX5.1.cell (p := ⟨bcy, offcy + 3, none⟩) hbl).trans cy_3⟩ | exact ⟨TX4.1, TX4.2.1, TX4.2.2.1, TX4.2.2.2.1, TX4.2.2.2.2.1, TX4.2.2.2.2.2.1, TX4.2.2.2.2.2.2.1, TX4.2.2.2.2.2.2.2, (TX4.1.cell (p := ⟨bcy, offcy, none⟩) hbl).trans cy_0, (TX4.1.cell (p := ⟨bcy, offcy + 1, none⟩) hbl).trans cy_1, (TX4.1.cell (p := ⟨bcy, offcy + 2, none⟩) hbl).trans cy_2, (TX4.1.cell (p := ⟨bcy, offcy + 3, none⟩) hbl).trans cy_3⟩)
  clear hK K
  try simp only [Act.put, List.setIfInBounds_toArray, List.set_cons_zero, List.set_cons_succ]
  refine regCall (i := 6) (by kernel_rfl) rfl (by rfl) (fun K hK => ?_)
  go_simp
  (go_at_call 72; refine (same_this _ hvw vs _ B (Nat.le_trans hB0 hHeld.1.size) hvs).mono ?_; rw [HSV.out]; rintro e w6 ⟨rfl, hb6⟩; have TX6 := TX4.call hb6)
  refine hK.out _ _ ?_ (fun hHeld => ?_)
  · (try dsimp only)
    (first | exact ⟨TX0.drew.1, TX0.drew.2.1, TX0.drew.2.2.1, TX0.drew.2.2.2.1, TX0.drew.2.2.2.2.1, TX0.drew.2.2.2.2.2.1, TX0.drew.2.2.2.2.2.2.1, TX0.drew.2.2.2.2.2.2.2, (TX0.drew.1.cell (p := ⟨bcy, offcy, none⟩) hbl).trans cy_0, (TX0.drew.1.cell (p := ⟨bcy, offcy + 1, none⟩) hbl).trans cy_1, (TX0.drew.1.cell (p := ⟨bcy, offcy + 2, none⟩) hbl).trans cy_2, (TX0.drew.1.cell (p := ⟨bcy, offcy + 3, none⟩) hbl).trans cy_3⟩ | exact ⟨TX6.1, TX6.2.1, TX6.2.2.1, TX6.2.2.2.1, TX6.2.2.2.2.1, TX6.2.2.2.2.2.1, TX6.2.2.2.2.2.2.1, TX6.2.2.2.2.2.2.2, (TX6.1.cell (p := ⟨bcy, offcy, none⟩) hbl).trans cy_0, (TX6.1.cell (p := ⟨bcy, offcy + 1, none⟩) hbl).trans cy_1, (TX6.1.cell (p := ⟨bcy, offcy + 2, none⟩) hbl).trans cy_2, (TX6.1.cell (p := ⟨bcy, offcy + 3, none⟩) hbl).trans cy_3⟩ | exact ⟨TX5.1, TX5.2.1, TX5.2.2.1, TX5.2.2.2.1, TX5.2.2.2.2.1, TX5.2.2.2.2.2.1, TX5.2.2.2.2.2.2.1, TX5.2.2.2.2.2.2.2, (TX5.1.cell (p := ⟨bcy, offcy, none⟩) hbl).trans cy_0, (TX5.1.cell (p := ⟨bcy, offcy + 1, none⟩) hbl).trans cy_1, (TX5.1.cell (p := ⟨bcy, offcy + 2, none⟩) hbl).trans cy_2, (TX5.1.cell (p := ⟨bcy, offcy + 3, none⟩) hbl).trans cy_3⟩ | exact ⟨TX4.1, TX4.2.1, TX4.2.2.1, TX4.2.2.2.1, TX4.2.2.2.2.1, TX4.2.2.2.2.2.1, TX4.2.2.2.2.2.2.1, TX4.2.2.2.2.2.2.2, (TX4.1.cell (p := ⟨bcy, offcy, none⟩) hbl).trans cy_0, (TX4.1.cell (p := ⟨bcy, offcy + 1, none⟩) hbl).trans cy_1, (TX4.1.cell (p := ⟨bcy, offcy + 2, none⟩) hbl).trans cy_2, (TX4.1.cell (p := ⟨bcy, offcy + 3, none⟩) hbl).trans cy_3⟩)
  clear hK K
  try simp only [Act.put, List.setIfInBounds_toArray, List.set_cons_zero, List.set_cons_succ]
  refine regTake (i := 7) (v := ?_) rfl (by kernel_rfl) (by kernel_rfl) (by kernel_rfl) (fun _ _ _ h => h) (by rfl) ?_ (by assumption) ?_
  rotate_left
  · intro w_ hSw
    (try dsimp only at hSw)
    go_simp
    (try with_reducible rfl)
  try simp only [Act.put, List.setIfInBounds_toArray, List.set_cons_zero, List.set_cons_succ]
  refine wpAnyH_done (by kernel_rfl) ?_ _
  go_wp2_with fail
  go_ret
  exact ⟨ret_bool (by first | rfl | (simp_all; done)), TX6.1⟩
set_option maxHeartbeats 4000000 in
theorem thS_16 (z1 : Int) (z2 : ByteArray) (z3 : List FNode) (hw : (FNode.mk 16 z1 z2 z3).wt ≤ 9000000000) (hk1 : 1 ≤ z3.length) (us : List Value) (w : World) (B : Nat) (hB0 : B ≤ w.heap.size) (hr : RdVs w B (FNode.mk 16 z1 z2 z3).c us) :
    Calls Try.prog 40 #[.agg us.toArray] w fun e w' => e = .returned (.bool (hdRs z3)) ∧ Below w.heap.size w w' := by
  rw [FNode.c_eq] at hr
  obtain ⟨us0, rfl, hr_0⟩ := hr.unv
  obtain ⟨us1, rfl, hr_1⟩ := hr_0.unv
  obtain ⟨us2, rfl, hr_2⟩ := hr_1.unv
  obtain ⟨A3, c3, us3, rfl, r3, hr_3⟩ := hr_2.uns
  obtain rfl := hr_3.un0
  have hww := hw
  rw [FNode.wt_eq] at hw
  have hz : z2.size ≤ 9223372036854775807 := by omega
  have hl : z3.length ≤ 9000000000 := by omega
  obtain ⟨m, hm⟩ : ∃ m, z3.length = m := ⟨_, rfl⟩
  try rw [hm] at hl r3 ⊢
  have HR := Lib.hid r3
  have TX0 := tbS_new w 16 z1 z2 A3 m c3
  clear hr hr_0 hr_1 hr_2 hr_3 r3
  obtain ⟨⟨y0, y1, y2, y3⟩, r, rfl⟩ : ∃ a r, z3 = a :: r := by
    cases z3 with
    | nil => simp at hk1
    | cons a r => exact ⟨a, r, rfl⟩
  have hpos : 0 < m := by rw [← hm]; simp
  have hyy : (FNode.mk y0 y1 y2 y3).wt ≤ 9000000000 := by have := FNode.wts_at (FNode.mk y0 y1 y2 y3 :: r) _ (List.mem_cons_self ..); omega
  obtain ⟨bcy, offcy, Ey, hblcy, hcc⟩ := nd_at hm.symm (l := (FNode.mk y0 y1 y2 y3 :: r)) HR.out (i := 0) (x := FNode.mk y0 y1 y2 y3) rfl
  rw [FNode.c_eq] at hcc
  obtain ⟨u0, e0, q0⟩ := hcc 0 _ rfl
  obtain rfl := q0.val
  have cy_0 : w.cell? ⟨bcy, offcy, none⟩ = some (.int .i64 y0) := ((Below.refl w.heap.size w).cell (p := ⟨bcy, _, none⟩) (by show bcy < w.heap.size; omega)).trans (by simpa using e0)
  obtain ⟨u1, e1, q1⟩ := hcc 1 _ rfl
  obtain rfl := q1.val
  have cy_1 : w.cell? ⟨bcy, offcy + 1, none⟩ = some (.int .i64 y1) := ((Below.refl w.heap.size w).cell (p := ⟨bcy, _, none⟩) (by show bcy < w.heap.size; omega)).trans (by simpa using e1)
  obtain ⟨u2, e2, q2⟩ := hcc 2 _ rfl
  obtain rfl := q2.val
  have cy_2 : w.cell? ⟨bcy, offcy + 2, none⟩ = some (.string y2) := ((Below.refl w.heap.size w).cell (p := ⟨bcy, _, none⟩) (by show bcy < w.heap.size; omega)).trans (by simpa using e2)
  obtain ⟨u3, e3, q3⟩ := hcc 3 _ rfl
  obtain ⟨Dy, dy, rfl⟩ := q3.form
  have cy_3 : w.cell? ⟨bcy, offcy + 3, none⟩ = some (.slice Dy y3.length dy) := ((Below.refl w.heap.size w).cell (p := ⟨bcy, _, none⟩) (by show bcy < w.heap.size; omega)).trans (by simpa using e3)
  have Qy := Lib.hid q3
  clear hcc e0 e1 e2 e3 q0 q1 q2 q3
  have hbl : bcy < w.heap.size := Nat.lt_of_lt_of_le hblcy hB0
  subst Ey
  clear hm hw hww hk1
  obtain ⟨sv, hsv⟩ : ∃ v, smT (rootF ⟨y0, y1, y2, y3⟩) = v := ⟨_, rfl⟩
  have HSV := Lib.hid hsv
  have HY := Lib.hid (show hdRs (FNode.mk y0 y1 y2 y3 :: r) = sv from hsv)
  rw [HY.out]
  clear HY hsv
  go_enter Try.func40, Try.ntmps40
  go_wp2_with fail
  refine wp_region_held_drew (S := (fun w_ => Below w.heap.size w w_ ∧ w.heap.size + 1 < w_.heap.size ∧ w_.cell? ⟨w.heap.size, 2, none⟩ = some (.string z2) ∧ w_.cell? ⟨w.heap.size, 3, none⟩ = some (.slice (some ⟨bcy, offcy, none⟩) m c3) ∧ w_.cell? ⟨w.heap.size + 1, 0, none⟩ = some (.int .i64 4) ∧ w_.cell? ⟨w.heap.size + 1, 1, none⟩ = some (.int .i64 0) ∧ w_.cell? ⟨w.heap.size + 1, 2, none⟩ = some (.string ⟨#[116, 104, 105, 115]⟩) ∧ w_.cell? ⟨w.heap.size + 1, 3, none⟩ = some (.slice none 0 0) ∧ w_.cell? ⟨bcy, offcy, none⟩ = some (.int .i64 y0) ∧ w_.cell? ⟨bcy, offcy + 1, none⟩ = some (.int .i64 y1) ∧ w_.cell? ⟨bcy, offcy + 2, none⟩ = some (.string y2) ∧ w_.cell? ⟨bcy, offcy + 3, none⟩ = some (.slice Dy y3.length dy))) (by kernel_rfl) ?_ (fun hHeld => ?_)
  · (try dsimp only)
    (first | exact ⟨TX0.drew.1, TX0.drew.2.1, TX0.drew.2.2.1, TX0.drew.2.2.2.1, TX0.drew.2.2.2.2.1, TX0.drew.2.2.2.2.2.1, TX0.drew.2.2.2.2.2.2.1, TX0.drew.2.2.2.2.2.2.2, (TX0.drew.1.cell (p := ⟨bcy, offcy, none⟩) hbl).trans cy_0, (TX0.drew.1.cell (p := ⟨bcy, offcy + 1, none⟩) hbl).trans cy_1, (TX0.drew.1.cell (p := ⟨bcy, offcy + 2, none⟩) hbl).trans cy_2, (TX0.drew.1.cell (p := ⟨bcy, offcy + 3, none⟩) hbl).trans cy_3⟩ | exact ⟨TX6.1, TX6.2.1, TX6.2.2.1, TX6.2.2.2.1, TX6.2.2.2.2.1, TX6.2.2.2.2.2.1, TX6.2.2.2.2.2.2.1, TX6.2.2.2.2.2.2.2, (TX6.1.cell (p := ⟨bcy, offcy, none⟩) hbl).trans cy_0, (TX6.1.cell (p := ⟨bcy, offcy + 1, none⟩) hbl).trans cy_1, (TX6.1.cell (p := ⟨bcy, offcy + 2, none⟩) hbl).trans cy_2, (TX6.1.cell (p := ⟨bcy, offcy + 3, none⟩) hbl).trans cy_3⟩ | exact ⟨TX5.1, TX5.2.1, TX5.2.2.1, TX5.2.2.2.1, TX5.2.2.2.2.1, TX5.2.2.2.2.2.1, TX5.2.2.2.2.2.2.1, TX5.2.2.2.2.2.2.2, (TX5.1.cell (p := ⟨bcy, offcy, none⟩) hbl).trans cy_0, (TX5.1.cell (p := ⟨bcy, offcy + 1, none⟩) hbl).trans cy_1, (TX5.1.cell (p := ⟨bcy, offcy + 2, none⟩) hbl).trans cy_2, (TX5.1.cell (p := ⟨bcy, offcy + 3, none⟩) hbl).trans cy_3⟩ | exact ⟨TX4.1, TX4.2.1, TX4.2.2.1, TX4.2.2.2.1, TX4.2.2.2.2.1, TX4.2.2.2.2.2.1, TX4.2.2.2.2.2.2.1, TX4.2.2.2.2.2.2.2, (TX4.1.cell (p := ⟨bcy, offcy, none⟩) hbl).trans cy_0, (TX4.1.cell (p := ⟨bcy, offcy + 1, none⟩) hbl).trans cy_1, (TX4.1.cell (p := ⟨bcy, offcy + 2, none⟩) hbl).trans cy_2, (TX4.1.cell (p := ⟨bcy, offcy + 3, none⟩) hbl).trans cy_3⟩)
  refine regTake (i := 0) (v := ?_) rfl (by kernel_rfl) (by kernel_rfl) (by kernel_rfl) (fun _ _ _ h => h) (by rfl) ?_ (by assumption) ?_
  rotate_left
  · intro w_ hSw
    (try dsimp only at hSw)
    go_simp
    (try with_reducible rfl)
  try simp only [Act.put, List.setIfInBounds_toArray, List.set_cons_zero, List.set_cons_succ]
  refine regTake (i := 1) (v := ?_) rfl (by kernel_rfl) (by kernel_rfl) (by kernel_rfl) (fun _ _ _ h => h) (by rfl) ?_ (by assumption) ?_
  rotate_left
  · intro w_ hSw
    (try dsimp only at hSw)
    go_simp
    (try with_reducible rfl)
  try simp only [Act.put, List.setIfInBounds_toArray, List.set_cons_zero, List.set_cons_succ]
  refine regTake (i := 2) (v := ?_) rfl (by kernel_rfl) (by kernel_rfl) (by kernel_rfl) (fun _ _ _ h => h) (by rfl) ?_ (by assumption) ?_
  rotate_left
  · intro w_ hSw
    (try dsimp only at hSw)
    go_simp
    (try with_reducible rfl)
  try simp only [Act.put, List.setIfInBounds_toArray, List.set_cons_zero, List.set_cons_succ]
  refine regTake (i := 3) (v := ?_) rfl (by kernel_rfl) (by kernel_rfl) (by kernel_rfl) (fun _ _ _ h => h) (by rfl) ?_ (by assumption) ?_
  rotate_left
  · intro w_ hSw
    (try dsimp only at hSw)
    go_simp
    (try with_reducible rfl)
  try simp only [Act.put, List.setIfInBounds_toArray, List.set_cons_zero, List.set_cons_succ]
  refine regTake (i := 5) (v := ?_) rfl (by kernel_rfl) (by kernel_rfl) (by kernel_rfl) (fun _ _ _ h => h) (by rfl) ?_ (by assumption) ?_
  rotate_left
  · intro w_ hSw
    (try dsimp only at hSw)
    go_simp
    (try with_reducible rfl)
  try simp only [Act.put, List.setIfInBounds_toArray, List.set_cons_zero, List.set_cons_succ]
  refine regCall (i := 4) (by kernel_rfl) rfl (by rfl) (fun K hK => ?_)
  go_simp
  (go_at_call 73; have TH4 : TbS w z2 (some ⟨bcy, offcy, none⟩) m c3 _ := ⟨hHeld.1, hHeld.2.1, hHeld.2.2.1, hHeld.2.2.2.1, hHeld.2.2.2.2.1, hHeld.2.2.2.2.2.1, hHeld.2.2.2.2.2.2.1, hHeld.2.2.2.2.2.2.2.1⟩; refine (root_spec ⟨y0, y1, y2, y3⟩ hyy [.int .i64 y0, .int .i64 y1, .string y2, .slice Dy y3.length dy] _ B (Nat.le_trans hB0 hHeld.1.size) (by rw [FNode.c_eq]; exact RdVs.cons (by unfold RdC; rfl) (RdVs.cons (by unfold RdC; rfl) (RdVs.cons (by unfold RdC; rfl) (RdVs.cons (Qy.out.below hHeld.1 hB0) (RdVs.nil _ _)))))).mono ?_; rintro e w4 ⟨vs, rfl, hvs, hvw, hb4⟩; have TX4 := TH4.call hb4)
  refine hK.out _ _ ?_ (fun hHeld => ?_)
  · (try dsimp only)
    (first | exact ⟨TX0.drew.1, TX0.drew.2.1, TX0.drew.2.2.1, TX0.drew.2.2.2.1, TX0.drew.2.2.2.2.1, TX0.drew.2.2.2.2.2.1, TX0.drew.2.2.2.2.2.2.1, TX0.drew.2.2.2.2.2.2.2, (TX0.drew.1.cell (p := ⟨bcy, offcy, none⟩) hbl).trans cy_0, (TX0.drew.1.cell (p := ⟨bcy, offcy + 1, none⟩) hbl).trans cy_1, (TX0.drew.1.cell (p := ⟨bcy, offcy + 2, none⟩) hbl).trans cy_2, (TX0.drew.1.cell (p := ⟨bcy, offcy + 3, none⟩) hbl).trans cy_3⟩ | exact ⟨TX6.1, TX6.2.1, TX6.2.2.1, TX6.2.2.2.1, TX6.2.2.2.2.1, TX6.2.2.2.2.2.1, TX6.2.2.2.2.2.2.1, TX6.2.2.2.2.2.2.2, (TX6.1.cell (p := ⟨bcy, offcy, none⟩) hbl).trans cy_0, (TX6.1.cell (p := ⟨bcy, offcy + 1, none⟩) hbl).trans cy_1, (TX6.1.cell (p := ⟨bcy, offcy + 2, none⟩) hbl).trans cy_2, (TX6.1.cell (p := ⟨bcy, offcy + 3, none⟩) hbl).trans cy_3⟩ | exact ⟨TX5.1, TX5.2.1, TX5.2.2.1, TX5.2.2.2.1, TX5.2.2.2.2.1, TX5.2.2.2.2.2.1, TX5.2.2.2.2.2.2.1, TX5.2.2.2.2.2.2.2, (TX5.1.cell (p := ⟨bcy, offcy, none⟩) hbl).trans cy_0, (TX5.1.cell (p := ⟨bcy, offcy + 1, none⟩) hbl).trans cy_1, (TX5.1.cell (p := ⟨bcy, offcy + 2, none⟩) hbl).trans cy_2, (TX5.1.cell (p := ⟨bcy, offcy + 3, none⟩) hbl).trans cy_3⟩ | exact ⟨TX4.1, TX4.2.1, TX4.2.2.1, TX4.2.2.2.1, TX4.2.2.2.2.1, TX4.2.2.2.2.2.1, TX4.2.2.2.2.2.2.1, TX4.2.2.2.2.2.2.2, (TX4.1.cell (p := ⟨bcy, offcy, none⟩) hbl).trans cy_0, (TX4.1.cell (p := ⟨bcy, offcy + 1, none⟩) hbl).trans cy_1, (TX4.1.cell (p := ⟨bcy, offcy + 2, none⟩) hbl).trans cy_2, (TX4.1.cell (p := ⟨bcy, offcy + 3, none⟩) hbl).trans cy_3⟩)
  clear hK K
  try simp only [Act.put, List.setIfInBounds_toArray, List.set_cons_zero, List.set_cons_succ]
  refine regCall (i := 6) (by kernel_rfl) rfl (by rfl) (fun K hK => ?_)
  go_simp
  (go_at_call 72; refine (same_this _ hvw vs _ B (Nat.le_trans hB0 hHeld.1.size) hvs).mono ?_; rw [HSV.out]; rintro e w6 ⟨rfl, hb6⟩; have TX6 := TX4.call hb6)
  refine hK.out _ _ ?_ (fun hHeld => ?_)
  · (try dsimp only)
    (first | exact ⟨TX0.drew.1, TX0.drew.2.1, TX0.drew.2.2.1, TX0.drew.2.2.2.1, TX0.drew.2.2.2.2.1, TX0.drew.2.2.2.2.2.1, TX0.drew.2.2.2.2.2.2.1, TX0.drew.2.2.2.2.2.2.2, (TX0.drew.1.cell (p := ⟨bcy, offcy, none⟩) hbl).trans cy_0, (TX0.drew.1.cell (p := ⟨bcy, offcy + 1, none⟩) hbl).trans cy_1, (TX0.drew.1.cell (p := ⟨bcy, offcy + 2, none⟩) hbl).trans cy_2, (TX0.drew.1.cell (p := ⟨bcy, offcy + 3, none⟩) hbl).trans cy_3⟩ | exact ⟨TX6.1, TX6.2.1, TX6.2.2.1, TX6.2.2.2.1, TX6.2.2.2.2.1, TX6.2.2.2.2.2.1, TX6.2.2.2.2.2.2.1, TX6.2.2.2.2.2.2.2, (TX6.1.cell (p := ⟨bcy, offcy, none⟩) hbl).trans cy_0, (TX6.1.cell (p := ⟨bcy, offcy + 1, none⟩) hbl).trans cy_1, (TX6.1.cell (p := ⟨bcy, offcy + 2, none⟩) hbl).trans cy_2, (TX6.1.cell (p := ⟨bcy, offcy + 3, none⟩) hbl).trans cy_3⟩ | exact ⟨TX5.1, TX5.2.1, TX5.2.2.1, TX5.2.2.2.1, TX5.2.2.2.2.1, TX5.2.2.2.2.2.1, TX5.2.2.2.2.2.2.1, TX5.2.2.2.2.2.2.2, (TX5.1.cell (p := ⟨bcy, offcy, none⟩) hbl).trans cy_0, (TX5.1.cell (p := ⟨bcy, offcy + 1, none⟩) hbl).trans cy_1, (TX5.1.cell (p := ⟨bcy, offcy + 2, none⟩) hbl).trans cy_2, (TX5.1.cell (p := ⟨bcy, offcy + 3, none⟩) hbl).trans cy_3⟩ | exact ⟨TX4.1, TX4.2.1, TX4.2.2.1, TX4.2.2.2.1, TX4.2.2.2.2.1, TX4.2.2.2.2.2.1, TX4.2.2.2.2.2.2.1, TX4.2.2.2.2.2.2.2, (TX4.1.cell (p := ⟨bcy, offcy, none⟩) hbl).trans cy_0, (TX4.1.cell (p := ⟨bcy, offcy + 1, none⟩) hbl).trans cy_1, (TX4.1.cell (p := ⟨bcy, offcy + 2, none⟩) hbl).trans cy_2, (TX4.1.cell (p := ⟨bcy, offcy + 3, none⟩) hbl).trans cy_3⟩)
  clear hK K
  try simp only [Act.put, List.setIfInBounds_toArray, List.set_cons_zero, List.set_cons_succ]
  refine regTake (i := 7) (v := ?_) rfl (by kernel_rfl) (by kernel_rfl) (by kernel_rfl) (fun _ _ _ h => h) (by rfl) ?_ (by assumption) ?_
  rotate_left
  · intro w_ hSw
    (try dsimp only at hSw)
    go_simp
    (try with_reducible rfl)
  try simp only [Act.put, List.setIfInBounds_toArray, List.set_cons_zero, List.set_cons_succ]
  refine wpAnyH_done (by kernel_rfl) ?_ _
  go_wp2_with fail
  go_ret
  exact ⟨ret_bool (by first | rfl | (simp_all; done)), TX6.1⟩
set_option maxHeartbeats 4000000 in
theorem thS_41 (z1 : Int) (z2 : ByteArray) (z3 : List FNode) (hw : (FNode.mk 41 z1 z2 z3).wt ≤ 9000000000) (hk1 : 1 ≤ z3.length) (us : List Value) (w : World) (B : Nat) (hB0 : B ≤ w.heap.size) (hr : RdVs w B (FNode.mk 41 z1 z2 z3).c us) :
    Calls Try.prog 40 #[.agg us.toArray] w fun e w' => e = .returned (.bool (hdRs z3)) ∧ Below w.heap.size w w' := by
  rw [FNode.c_eq] at hr
  obtain ⟨us0, rfl, hr_0⟩ := hr.unv
  obtain ⟨us1, rfl, hr_1⟩ := hr_0.unv
  obtain ⟨us2, rfl, hr_2⟩ := hr_1.unv
  obtain ⟨A3, c3, us3, rfl, r3, hr_3⟩ := hr_2.uns
  obtain rfl := hr_3.un0
  have hww := hw
  rw [FNode.wt_eq] at hw
  have hz : z2.size ≤ 9223372036854775807 := by omega
  have hl : z3.length ≤ 9000000000 := by omega
  obtain ⟨m, hm⟩ : ∃ m, z3.length = m := ⟨_, rfl⟩
  try rw [hm] at hl r3 ⊢
  have HR := Lib.hid r3
  have TX0 := tbS_new w 41 z1 z2 A3 m c3
  clear hr hr_0 hr_1 hr_2 hr_3 r3
  obtain ⟨⟨y0, y1, y2, y3⟩, r, rfl⟩ : ∃ a r, z3 = a :: r := by
    cases z3 with
    | nil => simp at hk1
    | cons a r => exact ⟨a, r, rfl⟩
  have hpos : 0 < m := by rw [← hm]; simp
  have hyy : (FNode.mk y0 y1 y2 y3).wt ≤ 9000000000 := by have := FNode.wts_at (FNode.mk y0 y1 y2 y3 :: r) _ (List.mem_cons_self ..); omega
  obtain ⟨bcy, offcy, Ey, hblcy, hcc⟩ := nd_at hm.symm (l := (FNode.mk y0 y1 y2 y3 :: r)) HR.out (i := 0) (x := FNode.mk y0 y1 y2 y3) rfl
  rw [FNode.c_eq] at hcc
  obtain ⟨u0, e0, q0⟩ := hcc 0 _ rfl
  obtain rfl := q0.val
  have cy_0 : w.cell? ⟨bcy, offcy, none⟩ = some (.int .i64 y0) := ((Below.refl w.heap.size w).cell (p := ⟨bcy, _, none⟩) (by show bcy < w.heap.size; omega)).trans (by simpa using e0)
  obtain ⟨u1, e1, q1⟩ := hcc 1 _ rfl
  obtain rfl := q1.val
  have cy_1 : w.cell? ⟨bcy, offcy + 1, none⟩ = some (.int .i64 y1) := ((Below.refl w.heap.size w).cell (p := ⟨bcy, _, none⟩) (by show bcy < w.heap.size; omega)).trans (by simpa using e1)
  obtain ⟨u2, e2, q2⟩ := hcc 2 _ rfl
  obtain rfl := q2.val
  have cy_2 : w.cell? ⟨bcy, offcy + 2, none⟩ = some (.string y2) := ((Below.refl w.heap.size w).cell (p := ⟨bcy, _, none⟩) (by show bcy < w.heap.size; omega)).trans (by simpa using e2)
  obtain ⟨u3, e3, q3⟩ := hcc 3 _ rfl
  obtain ⟨Dy, dy, rfl⟩ := q3.form
  have cy_3 : w.cell? ⟨bcy, offcy + 3, none⟩ = some (.slice Dy y3.length dy) := ((Below.refl w.heap.size w).cell (p := ⟨bcy, _, none⟩) (by show bcy < w.heap.size; omega)).trans (by simpa using e3)
  have Qy := Lib.hid q3
  clear hcc e0 e1 e2 e3 q0 q1 q2 q3
  have hbl : bcy < w.heap.size := Nat.lt_of_lt_of_le hblcy hB0
  subst Ey
  clear hm hw hww hk1
  obtain ⟨sv, hsv⟩ : ∃ v, smT (rootF ⟨y0, y1, y2, y3⟩) = v := ⟨_, rfl⟩
  have HSV := Lib.hid hsv
  have HY := Lib.hid (show hdRs (FNode.mk y0 y1 y2 y3 :: r) = sv from hsv)
  rw [HY.out]
  clear HY hsv
  go_enter Try.func40, Try.ntmps40
  go_wp2_with fail
  refine wp_region_held_drew (S := (fun w_ => Below w.heap.size w w_ ∧ w.heap.size + 1 < w_.heap.size ∧ w_.cell? ⟨w.heap.size, 2, none⟩ = some (.string z2) ∧ w_.cell? ⟨w.heap.size, 3, none⟩ = some (.slice (some ⟨bcy, offcy, none⟩) m c3) ∧ w_.cell? ⟨w.heap.size + 1, 0, none⟩ = some (.int .i64 4) ∧ w_.cell? ⟨w.heap.size + 1, 1, none⟩ = some (.int .i64 0) ∧ w_.cell? ⟨w.heap.size + 1, 2, none⟩ = some (.string ⟨#[116, 104, 105, 115]⟩) ∧ w_.cell? ⟨w.heap.size + 1, 3, none⟩ = some (.slice none 0 0) ∧ w_.cell? ⟨bcy, offcy, none⟩ = some (.int .i64 y0) ∧ w_.cell? ⟨bcy, offcy + 1, none⟩ = some (.int .i64 y1) ∧ w_.cell? ⟨bcy, offcy + 2, none⟩ = some (.string y2) ∧ w_.cell? ⟨bcy, offcy + 3, none⟩ = some (.slice Dy y3.length dy))) (by kernel_rfl) ?_ (fun hHeld => ?_)
  · (try dsimp only)
    (first | exact ⟨TX0.drew.1, TX0.drew.2.1, TX0.drew.2.2.1, TX0.drew.2.2.2.1, TX0.drew.2.2.2.2.1, TX0.drew.2.2.2.2.2.1, TX0.drew.2.2.2.2.2.2.1, TX0.drew.2.2.2.2.2.2.2, (TX0.drew.1.cell (p := ⟨bcy, offcy, none⟩) hbl).trans cy_0, (TX0.drew.1.cell (p := ⟨bcy, offcy + 1, none⟩) hbl).trans cy_1, (TX0.drew.1.cell (p := ⟨bcy, offcy + 2, none⟩) hbl).trans cy_2, (TX0.drew.1.cell (p := ⟨bcy, offcy + 3, none⟩) hbl).trans cy_3⟩ | exact ⟨TX6.1, TX6.2.1, TX6.2.2.1, TX6.2.2.2.1, TX6.2.2.2.2.1, TX6.2.2.2.2.2.1, TX6.2.2.2.2.2.2.1, TX6.2.2.2.2.2.2.2, (TX6.1.cell (p := ⟨bcy, offcy, none⟩) hbl).trans cy_0, (TX6.1.cell (p := ⟨bcy, offcy + 1, none⟩) hbl).trans cy_1, (TX6.1.cell (p := ⟨bcy, offcy + 2, none⟩) hbl).trans cy_2, (TX6.1.cell (p := ⟨bcy, offcy + 3, none⟩) hbl).trans cy_3⟩ | exact ⟨TX5.1, TX5.2.1, TX5.2.2.1, TX5.2.2.2.1, TX5.2.2.2.2.1, TX5.2.2.2.2.2.1, TX5.2.2.2.2.2.2.1, TX5.2.2.2.2.2.2.2, (TX5.1.cell (p := ⟨bcy, offcy, none⟩) hbl).trans cy_0, (TX5.1.cell (p := ⟨bcy, offcy + 1, none⟩) hbl).trans cy_1, (TX5.1.cell (p := ⟨bcy, offcy + 2, none⟩) hbl).trans cy_2, (TX5.1.cell (p := ⟨bcy, offcy + 3, none⟩) hbl).trans cy_3⟩ | exact ⟨TX4.1, TX4.2.1, TX4.2.2.1, TX4.2.2.2.1, TX4.2.2.2.2.1, TX4.2.2.2.2.2.1, TX4.2.2.2.2.2.2.1, TX4.2.2.2.2.2.2.2, (TX4.1.cell (p := ⟨bcy, offcy, none⟩) hbl).trans cy_0, (TX4.1.cell (p := ⟨bcy, offcy + 1, none⟩) hbl).trans cy_1, (TX4.1.cell (p := ⟨bcy, offcy + 2, none⟩) hbl).trans cy_2, (TX4.1.cell (p := ⟨bcy, offcy + 3, none⟩) hbl).trans cy_3⟩)
  refine regTake (i := 0) (v := ?_) rfl (by kernel_rfl) (by kernel_rfl) (by kernel_rfl) (fun _ _ _ h => h) (by rfl) ?_ (by assumption) ?_
  rotate_left
  · intro w_ hSw
    (try dsimp only at hSw)
    go_simp
    (try with_reducible rfl)
  try simp only [Act.put, List.setIfInBounds_toArray, List.set_cons_zero, List.set_cons_succ]
  refine regTake (i := 1) (v := ?_) rfl (by kernel_rfl) (by kernel_rfl) (by kernel_rfl) (fun _ _ _ h => h) (by rfl) ?_ (by assumption) ?_
  rotate_left
  · intro w_ hSw
    (try dsimp only at hSw)
    go_simp
    (try with_reducible rfl)
  try simp only [Act.put, List.setIfInBounds_toArray, List.set_cons_zero, List.set_cons_succ]
  refine regTake (i := 2) (v := ?_) rfl (by kernel_rfl) (by kernel_rfl) (by kernel_rfl) (fun _ _ _ h => h) (by rfl) ?_ (by assumption) ?_
  rotate_left
  · intro w_ hSw
    (try dsimp only at hSw)
    go_simp
    (try with_reducible rfl)
  try simp only [Act.put, List.setIfInBounds_toArray, List.set_cons_zero, List.set_cons_succ]
  refine regTake (i := 3) (v := ?_) rfl (by kernel_rfl) (by kernel_rfl) (by kernel_rfl) (fun _ _ _ h => h) (by rfl) ?_ (by assumption) ?_
  rotate_left
  · intro w_ hSw
    (try dsimp only at hSw)
    go_simp
    (try with_reducible rfl)
  try simp only [Act.put, List.setIfInBounds_toArray, List.set_cons_zero, List.set_cons_succ]
  refine regTake (i := 5) (v := ?_) rfl (by kernel_rfl) (by kernel_rfl) (by kernel_rfl) (fun _ _ _ h => h) (by rfl) ?_ (by assumption) ?_
  rotate_left
  · intro w_ hSw
    (try dsimp only at hSw)
    go_simp
    (try with_reducible rfl)
  try simp only [Act.put, List.setIfInBounds_toArray, List.set_cons_zero, List.set_cons_succ]
  refine regCall (i := 4) (by kernel_rfl) rfl (by rfl) (fun K hK => ?_)
  go_simp
  (go_at_call 73; have TH4 : TbS w z2 (some ⟨bcy, offcy, none⟩) m c3 _ := ⟨hHeld.1, hHeld.2.1, hHeld.2.2.1, hHeld.2.2.2.1, hHeld.2.2.2.2.1, hHeld.2.2.2.2.2.1, hHeld.2.2.2.2.2.2.1, hHeld.2.2.2.2.2.2.2.1⟩; refine (root_spec ⟨y0, y1, y2, y3⟩ hyy [.int .i64 y0, .int .i64 y1, .string y2, .slice Dy y3.length dy] _ B (Nat.le_trans hB0 hHeld.1.size) (by rw [FNode.c_eq]; exact RdVs.cons (by unfold RdC; rfl) (RdVs.cons (by unfold RdC; rfl) (RdVs.cons (by unfold RdC; rfl) (RdVs.cons (Qy.out.below hHeld.1 hB0) (RdVs.nil _ _)))))).mono ?_; rintro e w4 ⟨vs, rfl, hvs, hvw, hb4⟩; have TX4 := TH4.call hb4)
  refine hK.out _ _ ?_ (fun hHeld => ?_)
  · (try dsimp only)
    (first | exact ⟨TX0.drew.1, TX0.drew.2.1, TX0.drew.2.2.1, TX0.drew.2.2.2.1, TX0.drew.2.2.2.2.1, TX0.drew.2.2.2.2.2.1, TX0.drew.2.2.2.2.2.2.1, TX0.drew.2.2.2.2.2.2.2, (TX0.drew.1.cell (p := ⟨bcy, offcy, none⟩) hbl).trans cy_0, (TX0.drew.1.cell (p := ⟨bcy, offcy + 1, none⟩) hbl).trans cy_1, (TX0.drew.1.cell (p := ⟨bcy, offcy + 2, none⟩) hbl).trans cy_2, (TX0.drew.1.cell (p := ⟨bcy, offcy + 3, none⟩) hbl).trans cy_3⟩ | exact ⟨TX6.1, TX6.2.1, TX6.2.2.1, TX6.2.2.2.1, TX6.2.2.2.2.1, TX6.2.2.2.2.2.1, TX6.2.2.2.2.2.2.1, TX6.2.2.2.2.2.2.2, (TX6.1.cell (p := ⟨bcy, offcy, none⟩) hbl).trans cy_0, (TX6.1.cell (p := ⟨bcy, offcy + 1, none⟩) hbl).trans cy_1, (TX6.1.cell (p := ⟨bcy, offcy + 2, none⟩) hbl).trans cy_2, (TX6.1.cell (p := ⟨bcy, offcy + 3, none⟩) hbl).trans cy_3⟩ | exact ⟨TX5.1, TX5.2.1, TX5.2.2.1, TX5.2.2.2.1, TX5.2.2.2.2.1, TX5.2.2.2.2.2.1, TX5.2.2.2.2.2.2.1, TX5.2.2.2.2.2.2.2, (TX5.1.cell (p := ⟨bcy, offcy, none⟩) hbl).trans cy_0, (TX5.1.cell (p := ⟨bcy, offcy + 1, none⟩) hbl).trans cy_1, (TX5.1.cell (p := ⟨bcy, offcy + 2, none⟩) hbl).trans cy_2, (TX5.1.cell (p := ⟨bcy, offcy + 3, none⟩) hbl).trans cy_3⟩ | exact ⟨TX4.1, TX4.2.1, TX4.2.2.1, TX4.2.2.2.1, TX4.2.2.2.2.1, TX4.2.2.2.2.2.1, TX4.2.2.2.2.2.2.1, TX4.2.2.2.2.2.2.2, (TX4.1.cell (p := ⟨bcy, offcy, none⟩) hbl).trans cy_0, (TX4.1.cell (p := ⟨bcy, offcy + 1, none⟩) hbl).trans cy_1, (TX4.1.cell (p := ⟨bcy, offcy + 2, none⟩) hbl).trans cy_2, (TX4.1.cell (p := ⟨bcy, offcy + 3, none⟩) hbl).trans cy_3⟩)
  clear hK K
  try simp only [Act.put, List.setIfInBounds_toArray, List.set_cons_zero, List.set_cons_succ]
  refine regCall (i := 6) (by kernel_rfl) rfl (by rfl) (fun K hK => ?_)
  go_simp
  (go_at_call 72; refine (same_this _ hvw vs _ B (Nat.le_trans hB0 hHeld.1.size) hvs).mono ?_; rw [HSV.out]; rintro e w6 ⟨rfl, hb6⟩; have TX6 := TX4.call hb6)
  refine hK.out _ _ ?_ (fun hHeld => ?_)
  · (try dsimp only)
    (first | exact ⟨TX0.drew.1, TX0.drew.2.1, TX0.drew.2.2.1, TX0.drew.2.2.2.1, TX0.drew.2.2.2.2.1, TX0.drew.2.2.2.2.2.1, TX0.drew.2.2.2.2.2.2.1, TX0.drew.2.2.2.2.2.2.2, (TX0.drew.1.cell (p := ⟨bcy, offcy, none⟩) hbl).trans cy_0, (TX0.drew.1.cell (p := ⟨bcy, offcy + 1, none⟩) hbl).trans cy_1, (TX0.drew.1.cell (p := ⟨bcy, offcy + 2, none⟩) hbl).trans cy_2, (TX0.drew.1.cell (p := ⟨bcy, offcy + 3, none⟩) hbl).trans cy_3⟩ | exact ⟨TX6.1, TX6.2.1, TX6.2.2.1, TX6.2.2.2.1, TX6.2.2.2.2.1, TX6.2.2.2.2.2.1, TX6.2.2.2.2.2.2.1, TX6.2.2.2.2.2.2.2, (TX6.1.cell (p := ⟨bcy, offcy, none⟩) hbl).trans cy_0, (TX6.1.cell (p := ⟨bcy, offcy + 1, none⟩) hbl).trans cy_1, (TX6.1.cell (p := ⟨bcy, offcy + 2, none⟩) hbl).trans cy_2, (TX6.1.cell (p := ⟨bcy, offcy + 3, none⟩) hbl).trans cy_3⟩ | exact ⟨TX5.1, TX5.2.1, TX5.2.2.1, TX5.2.2.2.1, TX5.2.2.2.2.1, TX5.2.2.2.2.2.1, TX5.2.2.2.2.2.2.1, TX5.2.2.2.2.2.2.2, (TX5.1.cell (p := ⟨bcy, offcy, none⟩) hbl).trans cy_0, (TX5.1.cell (p := ⟨bcy, offcy + 1, none⟩) hbl).trans cy_1, (TX5.1.cell (p := ⟨bcy, offcy + 2, none⟩) hbl).trans cy_2, (TX5.1.cell (p := ⟨bcy, offcy + 3, none⟩) hbl).trans cy_3⟩ | exact ⟨TX4.1, TX4.2.1, TX4.2.2.1, TX4.2.2.2.1, TX4.2.2.2.2.1, TX4.2.2.2.2.2.1, TX4.2.2.2.2.2.2.1, TX4.2.2.2.2.2.2.2, (TX4.1.cell (p := ⟨bcy, offcy, none⟩) hbl).trans cy_0, (TX4.1.cell (p := ⟨bcy, offcy + 1, none⟩) hbl).trans cy_1, (TX4.1.cell (p := ⟨bcy, offcy + 2, none⟩) hbl).trans cy_2, (TX4.1.cell (p := ⟨bcy, offcy + 3, none⟩) hbl).trans cy_3⟩)
  clear hK K
  try simp only [Act.put, List.setIfInBounds_toArray, List.set_cons_zero, List.set_cons_succ]
  refine regTake (i := 7) (v := ?_) rfl (by kernel_rfl) (by kernel_rfl) (by kernel_rfl) (fun _ _ _ h => h) (by rfl) ?_ (by assumption) ?_
  rotate_left
  · intro w_ hSw
    (try dsimp only at hSw)
    go_simp
    (try with_reducible rfl)
  try simp only [Act.put, List.setIfInBounds_toArray, List.set_cons_zero, List.set_cons_succ]
  refine wpAnyH_done (by kernel_rfl) ?_ _
  go_wp2_with fail
  go_ret
  exact ⟨ret_bool (by first | rfl | (simp_all; done)), TX6.1⟩
set_option maxHeartbeats 4000000 in
theorem thS_46 (z1 : Int) (z2 : ByteArray) (z3 : List FNode) (hw : (FNode.mk 46 z1 z2 z3).wt ≤ 9000000000)  (us : List Value) (w : World) (B : Nat) (hB0 : B ≤ w.heap.size) (hr : RdVs w B (FNode.mk 46 z1 z2 z3).c us) :
    Calls Try.prog 40 #[.agg us.toArray] w fun e w' => e = .returned (.bool (z3.length == 2 && hdSm z3)) ∧ Below w.heap.size w w' := by
  rw [FNode.c_eq] at hr
  obtain ⟨us0, rfl, hr_0⟩ := hr.unv
  obtain ⟨us1, rfl, hr_1⟩ := hr_0.unv
  obtain ⟨us2, rfl, hr_2⟩ := hr_1.unv
  obtain ⟨A3, c3, us3, rfl, r3, hr_3⟩ := hr_2.uns
  obtain rfl := hr_3.un0
  have hww := hw
  rw [FNode.wt_eq] at hw
  have hz : z2.size ≤ 9223372036854775807 := by omega
  have hl : z3.length ≤ 9000000000 := by omega
  obtain ⟨m, hm⟩ : ∃ m, z3.length = m := ⟨_, rfl⟩
  try rw [hm] at hl r3 ⊢
  have HR := Lib.hid r3
  have TX0 := tbS_new w 46 z1 z2 A3 m c3
  clear hr hr_0 hr_1 hr_2 hr_3 r3
  by_cases h2 : m = 2
  · subst h2
    obtain ⟨⟨y0, y1, y2, y3⟩, yb, rfl⟩ := two_of hm
    have hyy : (FNode.mk y0 y1 y2 y3).wt ≤ 9000000000 := by have := FNode.wts_at [FNode.mk y0 y1 y2 y3, yb] _ (List.mem_cons_self ..); omega
    obtain ⟨bcy, offcy, Ey, hblcy, hcc⟩ := RdC.at_ (l := [FNode.mk y0 y1 y2 y3, yb]) FNode.len HR.out (i := 0) (x := FNode.mk y0 y1 y2 y3) rfl
    rw [FNode.c_eq] at hcc
    obtain ⟨u0, e0, q0⟩ := hcc 0 _ rfl
    obtain rfl := q0.val
    have cy_0 : w.cell? ⟨bcy, offcy, none⟩ = some (.int .i64 y0) := ((Below.refl w.heap.size w).cell (p := ⟨bcy, _, none⟩) (by show bcy < w.heap.size; omega)).trans (by simpa using e0)
    obtain ⟨u1, e1, q1⟩ := hcc 1 _ rfl
    obtain rfl := q1.val
    have cy_1 : w.cell? ⟨bcy, offcy + 1, none⟩ = some (.int .i64 y1) := ((Below.refl w.heap.size w).cell (p := ⟨bcy, _, none⟩) (by show bcy < w.heap.size; omega)).trans (by simpa using e1)
    obtain ⟨u2, e2, q2⟩ := hcc 2 _ rfl
    obtain rfl := q2.val
    have cy_2 : w.cell? ⟨bcy, offcy + 2, none⟩ = some (.string y2) := ((Below.refl w.heap.size w).cell (p := ⟨bcy, _, none⟩) (by show bcy < w.heap.size; omega)).trans (by simpa using e2)
    obtain ⟨u3, e3, q3⟩ := hcc 3 _ rfl
    obtain ⟨Dy, dy, rfl⟩ := q3.form
    have cy_3 : w.cell? ⟨bcy, offcy + 3, none⟩ = some (.slice Dy y3.length dy) := ((Below.refl w.heap.size w).cell (p := ⟨bcy, _, none⟩) (by show bcy < w.heap.size; omega)).trans (by simpa using e3)
    have Qy := Lib.hid q3
    clear hcc e0 e1 e2 e3 q0 q1 q2 q3
    have hbl : bcy < w.heap.size := Nat.lt_of_lt_of_le hblcy hB0
    subst Ey
    clear hm hw hww
    obtain ⟨sv, hsv⟩ : ∃ v, smT ⟨y0, y1, y2, y3⟩ = v := ⟨_, rfl⟩
    have HSV := Lib.hid hsv
    have HY := Lib.hid (show (2 == 2 && hdSm [FNode.mk y0 y1 y2 y3, yb]) = sv from hsv)
    rw [HY.out]
    clear HY hsv
    go_enter Try.func40, Try.ntmps40
    go_wp2_with fail
    refine wp_region_held_drew (S := (fun w_ => Below w.heap.size w w_ ∧ w.heap.size + 1 < w_.heap.size ∧ w_.cell? ⟨w.heap.size, 2, none⟩ = some (.string z2) ∧ w_.cell? ⟨w.heap.size, 3, none⟩ = some (.slice (some ⟨bcy, offcy, none⟩) 2 c3) ∧ w_.cell? ⟨w.heap.size + 1, 0, none⟩ = some (.int .i64 4) ∧ w_.cell? ⟨w.heap.size + 1, 1, none⟩ = some (.int .i64 0) ∧ w_.cell? ⟨w.heap.size + 1, 2, none⟩ = some (.string ⟨#[116, 104, 105, 115]⟩) ∧ w_.cell? ⟨w.heap.size + 1, 3, none⟩ = some (.slice none 0 0) ∧ w_.cell? ⟨bcy, offcy, none⟩ = some (.int .i64 y0) ∧ w_.cell? ⟨bcy, offcy + 1, none⟩ = some (.int .i64 y1) ∧ w_.cell? ⟨bcy, offcy + 2, none⟩ = some (.string y2) ∧ w_.cell? ⟨bcy, offcy + 3, none⟩ = some (.slice Dy y3.length dy))) (by kernel_rfl) ?_ (fun hHeld => ?_)
    · (try dsimp only)
      (first | exact ⟨TX0.drew.1, TX0.drew.2.1, TX0.drew.2.2.1, TX0.drew.2.2.2.1, TX0.drew.2.2.2.2.1, TX0.drew.2.2.2.2.2.1, TX0.drew.2.2.2.2.2.2.1, TX0.drew.2.2.2.2.2.2.2, (TX0.drew.1.cell (p := ⟨bcy, offcy, none⟩) hbl).trans cy_0, (TX0.drew.1.cell (p := ⟨bcy, offcy + 1, none⟩) hbl).trans cy_1, (TX0.drew.1.cell (p := ⟨bcy, offcy + 2, none⟩) hbl).trans cy_2, (TX0.drew.1.cell (p := ⟨bcy, offcy + 3, none⟩) hbl).trans cy_3⟩ | exact ⟨TX6.1, TX6.2.1, TX6.2.2.1, TX6.2.2.2.1, TX6.2.2.2.2.1, TX6.2.2.2.2.2.1, TX6.2.2.2.2.2.2.1, TX6.2.2.2.2.2.2.2, (TX6.1.cell (p := ⟨bcy, offcy, none⟩) hbl).trans cy_0, (TX6.1.cell (p := ⟨bcy, offcy + 1, none⟩) hbl).trans cy_1, (TX6.1.cell (p := ⟨bcy, offcy + 2, none⟩) hbl).trans cy_2, (TX6.1.cell (p := ⟨bcy, offcy + 3, none⟩) hbl).trans cy_3⟩ | exact ⟨TX5.1, TX5.2.1, TX5.2.2.1, TX5.2.2.2.1, TX5.2.2.2.2.1, TX5.2.2.2.2.2.1, TX5.2.2.2.2.2.2.1, TX5.2.2.2.2.2.2.2, (TX5.1.cell (p := ⟨bcy, offcy, none⟩) hbl).trans cy_0, (TX5.1.cell (p := ⟨bcy, offcy + 1, none⟩) hbl).trans cy_1, (TX5.1.cell (p := ⟨bcy, offcy + 2, none⟩) hbl).trans cy_2, (TX5.1.cell (p := ⟨bcy, offcy + 3, none⟩) hbl).trans cy_3⟩ | exact ⟨TX4.1, TX4.2.1, TX4.2.2.1, TX4.2.2.2.1, TX4.2.2.2.2.1, TX4.2.2.2.2.2.1, TX4.2.2.2.2.2.2.1, TX4.2.2.2.2.2.2.2, (TX4.1.cell (p := ⟨bcy, offcy, none⟩) hbl).trans cy_0, (TX4.1.cell (p := ⟨bcy, offcy + 1, none⟩) hbl).trans cy_1, (TX4.1.cell (p := ⟨bcy, offcy + 2, none⟩) hbl).trans cy_2, (TX4.1.cell (p := ⟨bcy, offcy + 3, none⟩) hbl).trans cy_3⟩)
    refine regTake (i := 0) (v := ?_) rfl (by kernel_rfl) (by kernel_rfl) (by kernel_rfl) (fun _ _ _ h => h) (by rfl) ?_ (by assumption) ?_
    rotate_left
    · intro w_ hSw
      (try dsimp only at hSw)
      go_simp
      (try with_reducible rfl)
    try simp only [Act.put, List.setIfInBounds_toArray, List.set_cons_zero, List.set_cons_succ]
    refine regTake (i := 1) (v := ?_) rfl (by kernel_rfl) (by kernel_rfl) (by kernel_rfl) (fun _ _ _ h => h) (by rfl) ?_ (by assumption) ?_
    rotate_left
    · intro w_ hSw
      (try dsimp only at hSw)
      go_simp
      (try with_reducible rfl)
    try simp only [Act.put, List.setIfInBounds_toArray, List.set_cons_zero, List.set_cons_succ]
    refine regTake (i := 2) (v := ?_) rfl (by kernel_rfl) (by kernel_rfl) (by kernel_rfl) (fun _ _ _ h => h) (by rfl) ?_ (by assumption) ?_
    rotate_left
    · intro w_ hSw
      (try dsimp only at hSw)
      go_simp
      (try with_reducible rfl)
    try simp only [Act.put, List.setIfInBounds_toArray, List.set_cons_zero, List.set_cons_succ]
    refine regTake (i := 3) (v := ?_) rfl (by kernel_rfl) (by kernel_rfl) (by kernel_rfl) (fun _ _ _ h => h) (by rfl) ?_ (by assumption) ?_
    rotate_left
    · intro w_ hSw
      (try dsimp only at hSw)
      go_simp
      (try with_reducible rfl)
    try simp only [Act.put, List.setIfInBounds_toArray, List.set_cons_zero, List.set_cons_succ]
    refine regTake (i := 4) (v := ?_) rfl (by kernel_rfl) (by kernel_rfl) (by kernel_rfl) (fun _ _ _ h => h) (by rfl) ?_ (by assumption) ?_
    rotate_left
    · intro w_ hSw
      (try dsimp only at hSw)
      go_simp
      (try with_reducible rfl)
    try simp only [Act.put, List.setIfInBounds_toArray, List.set_cons_zero, List.set_cons_succ]
    refine regTake (i := 5) (v := ?_) rfl (by kernel_rfl) (by kernel_rfl) (by kernel_rfl) (fun _ _ _ h => h) (by rfl) ?_ (by assumption) ?_
    rotate_left
    · intro w_ hSw
      (try dsimp only at hSw)
      go_simp
      (try with_reducible rfl)
    try simp only [Act.put, List.setIfInBounds_toArray, List.set_cons_zero, List.set_cons_succ]
    refine regTake (i := 6) (v := ?_) rfl (by kernel_rfl) (by kernel_rfl) (by kernel_rfl) (fun _ _ _ h => h) (by rfl) ?_ (by assumption) ?_
    rotate_left
    · intro w_ hSw
      (try dsimp only at hSw)
      go_simp
      (try with_reducible rfl)
    try simp only [Act.put, List.setIfInBounds_toArray, List.set_cons_zero, List.set_cons_succ]
    refine regTake (i := 7) (v := ?_) rfl (by kernel_rfl) (by kernel_rfl) (by kernel_rfl) (fun _ _ _ h => h) (by rfl) ?_ (by assumption) ?_
    rotate_left
    · intro w_ hSw
      (try dsimp only at hSw)
      go_simp
      (try with_reducible rfl)
    try simp only [Act.put, List.setIfInBounds_toArray, List.set_cons_zero, List.set_cons_succ]
    refine regTake (i := 8) (v := ?_) rfl (by kernel_rfl) (by kernel_rfl) (by kernel_rfl) (fun _ _ _ h => h) (by rfl) ?_ (by assumption) ?_
    rotate_left
    · intro w_ hSw
      (try dsimp only at hSw)
      go_simp
      (try with_reducible rfl)
    try simp only [Act.put, List.setIfInBounds_toArray, List.set_cons_zero, List.set_cons_succ]
    refine regTake (i := 9) (v := ?_) rfl (by kernel_rfl) (by kernel_rfl) (by kernel_rfl) (fun _ _ _ h => h) (by rfl) ?_ (by assumption) ?_
    rotate_left
    · intro w_ hSw
      (try dsimp only at hSw)
      go_simp
      (try with_reducible rfl)
    try simp only [Act.put, List.setIfInBounds_toArray, List.set_cons_zero, List.set_cons_succ]
    refine regCall (i := 10) (by kernel_rfl) rfl (by rfl) (fun K hK => ?_)
    go_simp
    (go_at_call 72; have TH5 : TbS w z2 (some ⟨bcy, offcy, none⟩) 2 c3 _ := ⟨hHeld.1, hHeld.2.1, hHeld.2.2.1, hHeld.2.2.2.1, hHeld.2.2.2.2.1, hHeld.2.2.2.2.2.1, hHeld.2.2.2.2.2.2.1, hHeld.2.2.2.2.2.2.2.1⟩; refine (same_this ⟨y0, y1, y2, y3⟩ hyy [.int .i64 y0, .int .i64 y1, .string y2, .slice Dy y3.length dy] _ B (Nat.le_trans hB0 hHeld.1.size) (by rw [FNode.c_eq]; exact RdVs.cons (by unfold RdC; rfl) (RdVs.cons (by unfold RdC; rfl) (RdVs.cons (by unfold RdC; rfl) (RdVs.cons (Qy.out.below hHeld.1 hB0) (RdVs.nil _ _)))))).mono ?_; rw [HSV.out]; rintro e w5 ⟨rfl, hb5⟩; have TX5 := TH5.call hb5)
    refine hK.out _ _ ?_ (fun hHeld => ?_)
    · (try dsimp only)
      (first | exact ⟨TX0.drew.1, TX0.drew.2.1, TX0.drew.2.2.1, TX0.drew.2.2.2.1, TX0.drew.2.2.2.2.1, TX0.drew.2.2.2.2.2.1, TX0.drew.2.2.2.2.2.2.1, TX0.drew.2.2.2.2.2.2.2, (TX0.drew.1.cell (p := ⟨bcy, offcy, none⟩) hbl).trans cy_0, (TX0.drew.1.cell (p := ⟨bcy, offcy + 1, none⟩) hbl).trans cy_1, (TX0.drew.1.cell (p := ⟨bcy, offcy + 2, none⟩) hbl).trans cy_2, (TX0.drew.1.cell (p := ⟨bcy, offcy + 3, none⟩) hbl).trans cy_3⟩ | exact ⟨TX6.1, TX6.2.1, TX6.2.2.1, TX6.2.2.2.1, TX6.2.2.2.2.1, TX6.2.2.2.2.2.1, TX6.2.2.2.2.2.2.1, TX6.2.2.2.2.2.2.2, (TX6.1.cell (p := ⟨bcy, offcy, none⟩) hbl).trans cy_0, (TX6.1.cell (p := ⟨bcy, offcy + 1, none⟩) hbl).trans cy_1, (TX6.1.cell (p := ⟨bcy, offcy + 2, none⟩) hbl).trans cy_2, (TX6.1.cell (p := ⟨bcy, offcy + 3, none⟩) hbl).trans cy_3⟩ | exact ⟨TX5.1, TX5.2.1, TX5.2.2.1, TX5.2.2.2.1, TX5.2.2.2.2.1, TX5.2.2.2.2.2.1, TX5.2.2.2.2.2.2.1, TX5.2.2.2.2.2.2.2, (TX5.1.cell (p := ⟨bcy, offcy, none⟩) hbl).trans cy_0, (TX5.1.cell (p := ⟨bcy, offcy + 1, none⟩) hbl).trans cy_1, (TX5.1.cell (p := ⟨bcy, offcy + 2, none⟩) hbl).trans cy_2, (TX5.1.cell (p := ⟨bcy, offcy + 3, none⟩) hbl).trans cy_3⟩ | exact ⟨TX4.1, TX4.2.1, TX4.2.2.1, TX4.2.2.2.1, TX4.2.2.2.2.1, TX4.2.2.2.2.2.1, TX4.2.2.2.2.2.2.1, TX4.2.2.2.2.2.2.2, (TX4.1.cell (p := ⟨bcy, offcy, none⟩) hbl).trans cy_0, (TX4.1.cell (p := ⟨bcy, offcy + 1, none⟩) hbl).trans cy_1, (TX4.1.cell (p := ⟨bcy, offcy + 2, none⟩) hbl).trans cy_2, (TX4.1.cell (p := ⟨bcy, offcy + 3, none⟩) hbl).trans cy_3⟩)
    clear hK K
    try simp only [Act.put, List.setIfInBounds_toArray, List.set_cons_zero, List.set_cons_succ]
    refine regTake (i := 11) (v := ?_) rfl (by kernel_rfl) (by kernel_rfl) (by kernel_rfl) (fun _ _ _ h => h) (by rfl) ?_ (by assumption) ?_
    rotate_left
    · intro w_ hSw
      (try dsimp only at hSw)
      go_simp
      (try with_reducible rfl)
    try simp only [Act.put, List.setIfInBounds_toArray, List.set_cons_zero, List.set_cons_succ]
    refine regTake (i := 12) (v := ?_) rfl (by kernel_rfl) (by kernel_rfl) (by kernel_rfl) (fun _ _ _ h => h) (by rfl) ?_ (by assumption) ?_
    rotate_left
    · intro w_ hSw
      (try dsimp only at hSw)
      go_simp
      (try with_reducible rfl)
    try simp only [Act.put, List.setIfInBounds_toArray, List.set_cons_zero, List.set_cons_succ]
    refine wpAnyH_done (by kernel_rfl) ?_ _
    go_wp2_with fail
    go_ret
    exact ⟨ret_bool (by first | rfl | (simp_all; done)), TX5.1⟩
  · clear hm hw hww
    rw [show (m == 2) = false from beq_false_of_ne h2]
    have hm2 : ((m : Int) == 2) = false := beq_false_of_ne (by omega)
    go_enter Try.func40, Try.ntmps40
    go_wp2_with fail
    refine wp_region_held_drew (S := (fun w_ => Below w.heap.size w w_ ∧ w.heap.size + 1 < w_.heap.size ∧ w_.cell? ⟨w.heap.size, 2, none⟩ = some (.string z2) ∧ w_.cell? ⟨w.heap.size, 3, none⟩ = some (.slice A3 m c3) ∧ w_.cell? ⟨w.heap.size + 1, 0, none⟩ = some (.int .i64 4) ∧ w_.cell? ⟨w.heap.size + 1, 1, none⟩ = some (.int .i64 0) ∧ w_.cell? ⟨w.heap.size + 1, 2, none⟩ = some (.string ⟨#[116, 104, 105, 115]⟩) ∧ w_.cell? ⟨w.heap.size + 1, 3, none⟩ = some (.slice none 0 0))) (by kernel_rfl) ?_ (fun hHeld => ?_)
    · (try dsimp only)
      (first | exact ⟨TX0.drew.1, TX0.drew.2.1, TX0.drew.2.2.1, TX0.drew.2.2.2.1, TX0.drew.2.2.2.2.1, TX0.drew.2.2.2.2.2.1, TX0.drew.2.2.2.2.2.2.1, TX0.drew.2.2.2.2.2.2.2⟩ | exact ⟨TX6.1, TX6.2.1, TX6.2.2.1, TX6.2.2.2.1, TX6.2.2.2.2.1, TX6.2.2.2.2.2.1, TX6.2.2.2.2.2.2.1, TX6.2.2.2.2.2.2.2⟩ | exact ⟨TX5.1, TX5.2.1, TX5.2.2.1, TX5.2.2.2.1, TX5.2.2.2.2.1, TX5.2.2.2.2.2.1, TX5.2.2.2.2.2.2.1, TX5.2.2.2.2.2.2.2⟩ | exact ⟨TX4.1, TX4.2.1, TX4.2.2.1, TX4.2.2.2.1, TX4.2.2.2.2.1, TX4.2.2.2.2.2.1, TX4.2.2.2.2.2.2.1, TX4.2.2.2.2.2.2.2⟩)
    refine regTake (i := 0) (v := ?_) rfl (by kernel_rfl) (by kernel_rfl) (by kernel_rfl) (fun _ _ _ h => h) (by rfl) ?_ (by assumption) ?_
    rotate_left
    · intro w_ hSw
      (try dsimp only at hSw)
      go_simp
      (try with_reducible rfl)
    try simp only [Act.put, List.setIfInBounds_toArray, List.set_cons_zero, List.set_cons_succ]
    refine regTake (i := 1) (v := ?_) rfl (by kernel_rfl) (by kernel_rfl) (by kernel_rfl) (fun _ _ _ h => h) (by rfl) ?_ (by assumption) ?_
    rotate_left
    · intro w_ hSw
      (try dsimp only at hSw)
      go_simp
      (try with_reducible rfl)
    try simp only [Act.put, List.setIfInBounds_toArray, List.set_cons_zero, List.set_cons_succ]
    refine regTake (i := 2) (v := ?_) rfl (by kernel_rfl) (by kernel_rfl) (by kernel_rfl) (fun _ _ _ h => h) (by rfl) ?_ (by assumption) ?_
    rotate_left
    · intro w_ hSw
      (try dsimp only at hSw)
      go_simp
      (try with_reducible rfl)
    try simp only [Act.put, List.setIfInBounds_toArray, List.set_cons_zero, List.set_cons_succ]
    refine regTake (i := 3) (v := ?_) rfl (by kernel_rfl) (by kernel_rfl) (by kernel_rfl) (fun _ _ _ h => h) (by rfl) ?_ (by assumption) ?_
    rotate_left
    · intro w_ hSw
      (try dsimp only at hSw)
      go_simp
      (try with_reducible rfl)
    try simp only [Act.put, List.setIfInBounds_toArray, List.set_cons_zero, List.set_cons_succ]
    refine regTake (i := 4) (v := ?_) rfl (by kernel_rfl) (by kernel_rfl) (by kernel_rfl) (fun _ _ _ h => h) (by rfl) ?_ (by assumption) ?_
    rotate_left
    · intro w_ hSw
      (try dsimp only at hSw)
      go_simp
      (try with_reducible rfl)
    try simp only [Act.put, List.setIfInBounds_toArray, List.set_cons_zero, List.set_cons_succ]
    refine regSkip (i := 5) rfl (by kernel_rfl) (by kernel_rfl) (by kernel_rfl) (fun _ _ _ h => h) (by rfl) (by assumption) ?_
    try simp only [Act.put, List.setIfInBounds_toArray, List.set_cons_zero, List.set_cons_succ]
    refine regSkip (i := 6) rfl (by kernel_rfl) (by kernel_rfl) (by kernel_rfl) (fun _ _ _ h => h) (by rfl) (by assumption) ?_
    try simp only [Act.put, List.setIfInBounds_toArray, List.set_cons_zero, List.set_cons_succ]
    refine regSkip (i := 7) rfl (by kernel_rfl) (by kernel_rfl) (by kernel_rfl) (fun _ _ _ h => h) (by rfl) (by assumption) ?_
    try simp only [Act.put, List.setIfInBounds_toArray, List.set_cons_zero, List.set_cons_succ]
    refine regSkip (i := 8) rfl (by kernel_rfl) (by kernel_rfl) (by kernel_rfl) (fun _ _ _ h => h) (by rfl) (by assumption) ?_
    try simp only [Act.put, List.setIfInBounds_toArray, List.set_cons_zero, List.set_cons_succ]
    refine regSkip (i := 9) rfl (by kernel_rfl) (by kernel_rfl) (by kernel_rfl) (fun _ _ _ h => h) (by rfl) (by assumption) ?_
    try simp only [Act.put, List.setIfInBounds_toArray, List.set_cons_zero, List.set_cons_succ]
    refine regSkip (i := 10) rfl (by kernel_rfl) (by kernel_rfl) (by kernel_rfl) (fun _ _ _ h => h) (by rfl) (by assumption) ?_
    try simp only [Act.put, List.setIfInBounds_toArray, List.set_cons_zero, List.set_cons_succ]
    refine regTake (i := 11) (v := ?_) rfl (by kernel_rfl) (by kernel_rfl) (by kernel_rfl) (fun _ _ _ h => h) (by rfl) ?_ (by assumption) ?_
    rotate_left
    · intro w_ hSw
      (try dsimp only at hSw)
      go_simp
      (try with_reducible rfl)
    try simp only [Act.put, List.setIfInBounds_toArray, List.set_cons_zero, List.set_cons_succ]
    refine regTake (i := 12) (v := ?_) rfl (by kernel_rfl) (by kernel_rfl) (by kernel_rfl) (fun _ _ _ h => h) (by rfl) ?_ (by assumption) ?_
    rotate_left
    · intro w_ hSw
      (try dsimp only at hSw)
      go_simp
      (try with_reducible rfl)
    try simp only [Act.put, List.setIfInBounds_toArray, List.set_cons_zero, List.set_cons_succ]
    refine wpAnyH_done (by kernel_rfl) ?_ _
    go_wp2_with fail
    go_ret
    exact ⟨ret_bool (rfl), below_drw TX0.1⟩
end Go.Proofs.Ytgejkfcemlkclaa
