/-
  Parts of the proof: ScW. Conditions: none.
-/
import Derived.Test.YtgejkfcemlkclaaQScT
namespace Go.Proofs.Ytgejkfcemlkclaa
open Go.ChangeShapes Go.WideShapes Go.ChangeAt Go.RowKit Go.Deep Go.Joins
open Go.ChangeMaps (open_string shut_string)
set_option linter.unusedVariables false
set_option linter.unusedSimpArgs false
set_option maxRecDepth 100000
set_option maxHeartbeats 4000000 in
theorem thS_36_4 (z1 : Int) (z2 : ByteArray) (z3 : List FNode) (hw : (FNode.mk 36 z1 z2 z3).wt ≤ 9000000000) (hk1 : z3.length = 4) (us : List Value) (w : World) (B : Nat) (hB0 : B ≤ w.heap.size) (hr : RdVs w B (FNode.mk 36 z1 z2 z3).c us) :
    Calls Try.prog 40 #[.agg us.toArray] w fun e w' => e = .returned (.bool (atSm z3 1 || (atSm z3 (z3.length - 2) && z3.length == 4))) ∧ Below w.heap.size w w' := by
  rw [FNode.c_eq] at hr
  obtain ⟨us0, rfl, hr_0⟩ := hr.unv
  obtain ⟨us1, rfl, hr_1⟩ := hr_0.unv
  obtain ⟨us2, rfl, hr_2⟩ := hr_1.unv
  obtain ⟨A3, c3, us3, rfl, r3, hr_3⟩ := hr_2.uns
  obtain rfl := hr_3.un0
  have hww := hw
  rw [FNode.wt_eq] at hw
  have hz : z2.size ≤ 9223372036854775807 := by omega
  have hl : z3.length ≤ 9000000000 := by omega
  obtain ⟨m, hm⟩ : ∃ m, z3.length = m := ⟨_, rfl⟩
  try rw [hm] at hl r3 ⊢
  have HR := Lib.hid r3
  have TX0 := tbS_new w 36 z1 z2 A3 m c3
  clear hr hr_0 hr_1 hr_2 hr_3 r3
  rw [hm] at hk1
  subst hk1
  obtain ⟨⟨y0, y1, y2, y3⟩, ⟨t0, t1, t2, t3⟩, ⟨u0, u1, u2, u3⟩, ⟨s0, s1, s2, s3⟩, rfl⟩ := four_of hm
  have hyt : (FNode.mk t0 t1 t2 t3).wt ≤ 9000000000 := by have := FNode.wts_at [FNode.mk y0 y1 y2 y3, FNode.mk t0 t1 t2 t3, FNode.mk u0 u1 u2 u3, FNode.mk s0 s1 s2 s3] (FNode.mk t0 t1 t2 t3) (by simp); omega
  have hyu : (FNode.mk u0 u1 u2 u3).wt ≤ 9000000000 := by have := FNode.wts_at [FNode.mk y0 y1 y2 y3, FNode.mk t0 t1 t2 t3, FNode.mk u0 u1 u2 u3, FNode.mk s0 s1 s2 s3] (FNode.mk u0 u1 u2 u3) (by simp); omega
  obtain ⟨bcy, offcy, Ey, hblcy, hcc⟩ := RdC.at_ (l := [FNode.mk y0 y1 y2 y3, FNode.mk t0 t1 t2 t3, FNode.mk u0 u1 u2 u3, FNode.mk s0 s1 s2 s3]) FNode.len HR.out (i := 0) (x := FNode.mk y0 y1 y2 y3) rfl
  rw [FNode.c_eq] at hcc
  obtain ⟨u0, e0, q0⟩ := hcc 0 _ rfl
  obtain rfl := q0.val
  have cy_0 : w.cell? ⟨bcy, offcy, none⟩ = some (.int .i64 y0) := ((Below.refl w.heap.size w).cell (p := ⟨bcy, _, none⟩) (by show bcy < w.heap.size; omega)).trans (by simpa using e0)
  obtain ⟨u1, e1, q1⟩ := hcc 1 _ rfl
  obtain rfl := q1.val
  have cy_1 : w.cell? ⟨bcy, offcy + 1, none⟩ = some (.int .i64 y1) := ((Below.refl w.heap.size w).cell (p := ⟨bcy, _, none⟩) (by show bcy < w.heap.size; omega)).trans (by simpa using e1)
  obtain ⟨u2, e2, q2⟩ := hcc 2 _ rfl
  obtain rfl := q2.val
  have cy_2 : w.cell? ⟨bcy, offcy + 2, none⟩ = some (.string y2) := ((Below.refl w.heap.size w).cell (p := ⟨bcy, _, none⟩) (by show bcy < w.heap.size; omega)).trans (by simpa using e2)
  obtain ⟨u3, e3, q3⟩ := hcc 3 _ rfl
  obtain ⟨Dy, dy, rfl⟩ := q3.form
  have cy_3 : w.cell? ⟨bcy, offcy + 3, none⟩ = some (.slice Dy y3.length dy) := ((Below.refl w.heap.size w).cell (p := ⟨bcy, _, none⟩) (by show bcy < w.heap.size; omega)).trans (by simpa using e3)
  have Qy := Lib.hid q3
  clear hcc e0 e1 e2 e3 q0 q1 q2 q3
  obtain ⟨bct, offct, Et, hblct, hcc⟩ := RdC.at_ (l := [FNode.mk y0 y1 y2 y3, FNode.mk t0 t1 t2 t3, FNode.mk u0 u1 u2 u3, FNode.mk s0 s1 s2 s3]) FNode.len HR.out (i := 1) (x := FNode.mk t0 t1 t2 t3) rfl
  rw [FNode.c_eq] at hcc
  obtain ⟨u0, e0, q0⟩ := hcc 0 _ rfl
  obtain rfl := q0.val
  have ct_0 : w.cell? ⟨bct, offct + 4, none⟩ = some (.int .i64 t0) := ((Below.refl w.heap.size w).cell (p := ⟨bct, _, none⟩) (by show bct < w.heap.size; omega)).trans (by simpa using e0)
  obtain ⟨u1, e1, q1⟩ := hcc 1 _ rfl
  obtain rfl := q1.val
  have ct_1 : w.cell? ⟨bct, offct + 5, none⟩ = some (.int .i64 t1) := ((Below.refl w.heap.size w).cell (p := ⟨bct, _, none⟩) (by show bct < w.heap.size; omega)).trans (by simpa using e1)
  obtain ⟨u2, e2, q2⟩ := hcc 2 _ rfl
  obtain rfl := q2.val
  have ct_2 : w.cell? ⟨bct, offct + 6, none⟩ = some (.string t2) := ((Below.refl w.heap.size w).cell (p := ⟨bct, _, none⟩) (by show bct < w.heap.size; omega)).trans (by simpa using e2)
  obtain ⟨u3, e3, q3⟩ := hcc 3 _ rfl
  obtain ⟨Dt, dt, rfl⟩ := q3.form
  have ct_3 : w.cell? ⟨bct, offct + 7, none⟩ = some (.slice Dt t3.length dt) := ((Below.refl w.heap.size w).cell (p := ⟨bct, _, none⟩) (by show bct < w.heap.size; omega)).trans (by simpa using e3)
  have Qt := Lib.hid q3
  clear hcc e0 e1 e2 e3 q0 q1 q2 q3
  obtain ⟨bcu, offcu, Eu, hblcu, hcc⟩ := RdC.at_ (l := [FNode.mk y0 y1 y2 y3, FNode.mk t0 t1 t2 t3, FNode.mk u0 u1 u2 u3, FNode.mk s0 s1 s2 s3]) FNode.len HR.out (i := 2) (x := FNode.mk u0 u1 u2 u3) rfl
  rw [FNode.c_eq] at hcc
  obtain ⟨u0, e0, q0⟩ := hcc 0 _ rfl
  obtain rfl := q0.val
  have cu_0 : w.cell? ⟨bcu, offcu + 8, none⟩ = some (.int .i64 u0) := ((Below.refl w.heap.size w).cell (p := ⟨bcu, _, none⟩) (by show bcu < w.heap.size; omega)).trans (by simpa using e0)
  obtain ⟨u1, e1, q1⟩ := hcc 1 _ rfl
  obtain rfl := q1.val
  have cu_1 : w.cell? ⟨bcu, offcu + 9, none⟩ = some (.int .i64 u1) := ((Below.refl w.heap.size w).cell (p := ⟨bcu, _, none⟩) (by show bcu < w.heap.size; omega)).trans (by simpa using e1)
  obtain ⟨u2, e2, q2⟩ := hcc 2 _ rfl
  obtain rfl := q2.val
  have cu_2 : w.cell? ⟨bcu, offcu + 10, none⟩ = some (.string u2) := ((Below.refl w.heap.size w).cell (p := ⟨bcu, _, none⟩) (by show bcu < w.heap.size; omega)).trans (by simpa using e2)
  obtain ⟨u3, e3, q3⟩ := hcc 3 _ rfl
  obtain ⟨Du, du, rfl⟩ := q3.form
  have cu_3 : w.cell? ⟨bcu, offcu + 11, none⟩ = some (.slice Du u3.length du) := ((Below.refl w.heap.size w).cell (p := ⟨bcu, _, none⟩) (by show bcu < w.heap.size; omega)).trans (by simpa using e3)
  have Qu := Lib.hid q3
  clear hcc e0 e1 e2 e3 q0 q1 q2 q3
  obtain ⟨bcs, offcs, Es, hblcs, hcc⟩ := RdC.at_ (l := [FNode.mk y0 y1 y2 y3, FNode.mk t0 t1 t2 t3, FNode.mk u0 u1 u2 u3, FNode.mk s0 s1 s2 s3]) FNode.len HR.out (i := 3) (x := FNode.mk s0 s1 s2 s3) rfl
  rw [FNode.c_eq] at hcc
  obtain ⟨u0, e0, q0⟩ := hcc 0 _ rfl
  obtain rfl := q0.val
  have cs_0 : w.cell? ⟨bcs, offcs + 12, none⟩ = some (.int .i64 s0) := ((Below.refl w.heap.size w).cell (p := ⟨bcs, _, none⟩) (by show bcs < w.heap.size; omega)).trans (by simpa using e0)
  obtain ⟨u1, e1, q1⟩ := hcc 1 _ rfl
  obtain rfl := q1.val
  have cs_1 : w.cell? ⟨bcs, offcs + 13, none⟩ = some (.int .i64 s1) := ((Below.refl w.heap.size w).cell (p := ⟨bcs, _, none⟩) (by show bcs < w.heap.size; omega)).trans (by simpa using e1)
  obtain ⟨u2, e2, q2⟩ := hcc 2 _ rfl
  obtain rfl := q2.val
  have cs_2 : w.cell? ⟨bcs, offcs + 14, none⟩ = some (.string s2) := ((Below.refl w.heap.size w).cell (p := ⟨bcs, _, none⟩) (by show bcs < w.heap.size; omega)).trans (by simpa using e2)
  obtain ⟨u3, e3, q3⟩ := hcc 3 _ rfl
  obtain ⟨Ds, ds, rfl⟩ := q3.form
  have cs_3 : w.cell? ⟨bcs, offcs + 15, none⟩ = some (.slice Ds s3.length ds) := ((Below.refl w.heap.size w).cell (p := ⟨bcs, _, none⟩) (by show bcs < w.heap.size; omega)).trans (by simpa using e3)
  have Qs := Lib.hid q3
  clear hcc e0 e1 e2 e3 q0 q1 q2 q3
  have hbl : bcy < w.heap.size := Nat.lt_of_lt_of_le hblcy hB0
  subst Ey
  obtain ⟨g1, g2⟩ : bcy = bct ∧ offcy = offct := by simpa using Et
  subst g1
  subst g2
  clear Et
  obtain ⟨g1, g2⟩ : bcy = bcu ∧ offcy = offcu := by simpa using Eu
  subst g1
  subst g2
  clear Eu
  obtain ⟨g1, g2⟩ : bcy = bcs ∧ offcy = offcs := by simpa using Es
  subst g1
  subst g2
  clear Es
  clear hm hw hww
  have hwr1 : IntKind.i64.wrap 1 = 1 := by decide
  have hwr2 : IntKind.i64.wrap 2 = 2 := by decide
  obtain ⟨sv, hsv⟩ : ∃ v, smT ⟨t0, t1, t2, t3⟩ = v := ⟨_, rfl⟩
  have HSV := Lib.hid hsv
  obtain ⟨su, hsu⟩ : ∃ v, smT ⟨u0, u1, u2, u3⟩ = v := ⟨_, rfl⟩
  have HSU := Lib.hid hsu
  have HY := Lib.hid (show (atSm [FNode.mk y0 y1 y2 y3, FNode.mk t0 t1 t2 t3, FNode.mk u0 u1 u2 u3, FNode.mk s0 s1 s2 s3] 1 || (atSm [FNode.mk y0 y1 y2 y3, FNode.mk t0 t1 t2 t3, FNode.mk u0 u1 u2 u3, FNode.mk s0 s1 s2 s3] (4 - 2) && 4 == 4)) = (sv || (su && true)) from by rw [← hsv, ← hsu]; rfl)
  rw [HY.out]
  clear HY hsv hsu
  cases sv with
  | true =>
    go_enter Try.func40, Try.ntmps40
    go_wp2_with fail
    refine wp_region_held_drew (S := (fun w_ => Below w.heap.size w w_ ∧ w.heap.size + 1 < w_.heap.size ∧ w_.cell? ⟨w.heap.size, 2, none⟩ = some (.string z2) ∧ w_.cell? ⟨w.heap.size, 3, none⟩ = some (.slice (some ⟨bcy, offcy, none⟩) 4 c3) ∧ w_.cell? ⟨w.heap.size + 1, 0, none⟩ = some (.int .i64 4) ∧ w_.cell? ⟨w.heap.size + 1, 1, none⟩ = some (.int .i64 0) ∧ w_.cell? ⟨w.heap.size + 1, 2, none⟩ = some (.string ⟨#[116, 104, 105, 115]⟩) ∧ w_.cell? ⟨w.heap.size + 1, 3, none⟩ = some (.slice none 0 0) ∧ w_.cell? ⟨bcy, offcy + 4, none⟩ = some (.int .i64 t0) ∧ w_.cell? ⟨bcy, offcy + 5, none⟩ = some (.int .i64 t1) ∧ w_.cell? ⟨bcy, offcy + 6, none⟩ = some (.string t2) ∧ w_.cell? ⟨bcy, offcy + 7, none⟩ = some (.slice Dt t3.length dt) ∧ w_.cell? ⟨bcy, offcy + 8, none⟩ = some (.int .i64 u0) ∧ w_.cell? ⟨bcy, offcy + 9, none⟩ = some (.int .i64 u1) ∧ w_.cell? ⟨bcy, offcy + 10, none⟩ = some (.string u2) ∧ w_.cell? ⟨bcy, offcy + 11, none⟩ = some (.slice Du u3.length du))) (by kernel_rfl) ?_ (fun hHeld => ?_)
    · (try dsimp only)
      (first | exact ⟨TX0.drew.1, TX0.drew.2.1, TX0.drew.2.2.1, TX0.drew.2.2.2.1, TX0.drew.2.2.2.2.1, TX0.drew.2.2.2.2.2.1, TX0.drew.2.2.2.2.2.2.1, TX0.drew.2.2.2.2.2.2.2, (TX0.drew.1.cell (p := ⟨bcy, offcy + 4, none⟩) hbl).trans ct_0, (TX0.drew.1.cell (p := ⟨bcy, offcy + 5, none⟩) hbl).trans ct_1, (TX0.drew.1.cell (p := ⟨bcy, offcy + 6, none⟩) hbl).trans ct_2, (TX0.drew.1.cell (p := ⟨bcy, offcy + 7, none⟩) hbl).trans ct_3, (TX0.drew.1.cell (p := ⟨bcy, offcy + 8, none⟩) hbl).trans cu_0, (TX0.drew.1.cell (p := ⟨bcy, offcy + 9, none⟩) hbl).trans cu_1, (TX0.drew.1.cell (p := ⟨bcy, offcy + 10, none⟩) hbl).trans cu_2, (TX0.drew.1.cell (p := ⟨bcy, offcy + 11, none⟩) hbl).trans cu_3⟩ | exact ⟨TX6.1, TX6.2.1, TX6.2.2.1, TX6.2.2.2.1, TX6.2.2.2.2.1, TX6.2.2.2.2.2.1, TX6.2.2.2.2.2.2.1, TX6.2.2.2.2.2.2.2, (TX6.1.cell (p := ⟨bcy, offcy + 4, none⟩) hbl).trans ct_0, (TX6.1.cell (p := ⟨bcy, offcy + 5, none⟩) hbl).trans ct_1, (TX6.1.cell (p := ⟨bcy, offcy + 6, none⟩) hbl).trans ct_2, (TX6.1.cell (p := ⟨bcy, offcy + 7, none⟩) hbl).trans ct_3, (TX6.1.cell (p := ⟨bcy, offcy + 8, none⟩) hbl).trans cu_0, (TX6.1.cell (p := ⟨bcy, offcy + 9, none⟩) hbl).trans cu_1, (TX6.1.cell (p := ⟨bcy, offcy + 10, none⟩) hbl).trans cu_2, (TX6.1.cell (p := ⟨bcy, offcy + 11, none⟩) hbl).trans cu_3⟩ | exact ⟨TX5.1, TX5.2.1, TX5.2.2.1, TX5.2.2.2.1, TX5.2.2.2.2.1, TX5.2.2.2.2.2.1, TX5.2.2.2.2.2.2.1, TX5.2.2.2.2.2.2.2, (TX5.1.cell (p := ⟨bcy, offcy + 4, none⟩) hbl).trans ct_0, (TX5.1.cell (p := ⟨bcy, offcy + 5, none⟩) hbl).trans ct_1, (TX5.1.cell (p := ⟨bcy, offcy + 6, none⟩) hbl).trans ct_2, (TX5.1.cell (p := ⟨bcy, offcy + 7, none⟩) hbl).trans ct_3, (TX5.1.cell (p := ⟨bcy, offcy + 8, none⟩) hbl).trans cu_0, (TX5.1.cell (p := ⟨bcy, offcy + 9, none⟩) hbl).trans cu_1, (TX5.1.cell (p := ⟨bcy, offcy + 10, none⟩) hbl).trans cu_2, (TX5.1.cell (p := ⟨bcy, offcy + 11, none⟩) hbl).trans cu_3⟩ | exact ⟨TX4.1, TX4.2.1, TX4.2.2.1, TX4.2.2.2.1, TX4.2.2.2.2.1, TX4.2.2.2.2.2.1, TX4.2.2.2.2.2.2.1, TX4.2.2.2.2.2.2.2, (TX4.1.cell (p := ⟨bcy, offcy + 4, none⟩) hbl).trans ct_0, (TX4.1.cell (p := ⟨bcy, offcy + 5, none⟩) hbl).trans ct_1, (TX4.1.cell (p := ⟨bcy, offcy + 6, none⟩) hbl).trans ct_2, (TX4.1.cell (p := ⟨bcy, offcy + 7, none⟩) hbl).trans ct_3, (TX4.1.cell (p := ⟨bcy, offcy + 8, none⟩) hbl).trans cu_0, (TX4.1.cell (p := ⟨bcy, offcy + 9, none⟩) hbl).trans cu_1, (TX4.1.cell (p := ⟨bcy, offcy + 10, none⟩) hbl).trans cu_2, (TX4.1.cell (p := ⟨bcy, offcy + 11, none⟩) hbl).trans cu_3⟩)
    refine regTake (i := 0) (v := ?_) rfl (by kernel_rfl) (by kernel_rfl) (by kernel_rfl) (fun _ _ _ h => h) (by rfl) ?_ (by assumption) ?_
    rotate_left
    · intro w_ hSw
      (try dsimp only at hSw)
      go_simp
      (try with_reducible rfl)
    try simp only [Act.put, List.setIfInBounds_toArray, List.set_cons_zero, List.set_cons_succ]
    refine regTake (i := 1) (v := ?_) rfl (by kernel_rfl) (by kernel_rfl) (by kernel_rfl) (fun _ _ _ h => h) (by rfl) ?_ (by assumption) ?_
    rotate_left
    · intro w_ hSw
      (try dsimp only at hSw)
      go_simp
      (try with_reducible rfl)
    try simp only [Act.put, List.setIfInBounds_toArray, List.set_cons_zero, List.set_cons_succ]
    refine regTake (i := 2) (v := ?_) rfl (by kernel_rfl) (by kernel_rfl) (by kernel_rfl) (fun _ _ _ h => h) (by rfl) ?_ (by assumption) ?_
    rotate_left
    · intro w_ hSw
      (try dsimp only at hSw)
      go_simp
      (try with_reducible rfl)
    try simp only [Act.put, List.setIfInBounds_toArray, List.set_cons_zero, List.set_cons_succ]
    refine regTake (i := 3) (v := ?_) rfl (by kernel_rfl) (by kernel_rfl) (by kernel_rfl) (fun _ _ _ h => h) (by rfl) ?_ (by assumption) ?_
    rotate_left
    · intro w_ hSw
      (try dsimp only at hSw)
      go_simp
      (try with_reducible rfl)
    try simp only [Act.put, List.setIfInBounds_toArray, List.set_cons_zero, List.set_cons_succ]
    refine regTake (i := 4) (v := ?_) rfl (by kernel_rfl) (by kernel_rfl) (by kernel_rfl) (fun _ _ _ h => h) (by rfl) ?_ (by assumption) ?_
    rotate_left
    · intro w_ hSw
      (try dsimp only at hSw)
      go_simp
      (try with_reducible rfl)
    try simp only [Act.put, List.setIfInBounds_toArray, List.set_cons_zero, List.set_cons_succ]
    refine regCall (i := 5) (by kernel_rfl) rfl (by rfl) (fun K hK => ?_)
    go_simp
    (go_at_call 72; have TH5 : TbS w z2 (some ⟨bcy, offcy, none⟩) 4 c3 _ := ⟨hHeld.1, hHeld.2.1, hHeld.2.2.1, hHeld.2.2.2.1, hHeld.2.2.2.2.1, hHeld.2.2.2.2.2.1, hHeld.2.2.2.2.2.2.1, hHeld.2.2.2.2.2.2.2.1⟩; refine (same_this ⟨t0, t1, t2, t3⟩ hyt [.int .i64 t0, .int .i64 t1, .string t2, .slice Dt t3.length dt] _ B (Nat.le_trans hB0 hHeld.1.size) (by rw [FNode.c_eq]; exact RdVs.cons (by unfold RdC; rfl) (RdVs.cons (by unfold RdC; rfl) (RdVs.cons (by unfold RdC; rfl) (RdVs.cons (Qt.out.below hHeld.1 hB0) (RdVs.nil _ _)))))).mono ?_; rw [HSV.out]; rintro e w5 ⟨rfl, hb5⟩; have TX5 := TH5.call hb5)
    refine hK.out _ _ ?_ (fun hHeld => ?_)
    · (try dsimp only)
      (first | exact ⟨TX0.drew.1, TX0.drew.2.1, TX0.drew.2.2.1, TX0.drew.2.2.2.1, TX0.drew.2.2.2.2.1, TX0.drew.2.2.2.2.2.1, TX0.drew.2.2.2.2.2.2.1, TX0.drew.2.2.2.2.2.2.2, (TX0.drew.1.cell (p := ⟨bcy, offcy + 4, none⟩) hbl).trans ct_0, (TX0.drew.1.cell (p := ⟨bcy, offcy + 5, none⟩) hbl).trans ct_1, (TX0.drew.1.cell (p := ⟨bcy, offcy + 6, none⟩) hbl).trans ct_2, (TX0.drew.1.cell (p := ⟨bcy, offcy + 7, none⟩) hbl).trans ct_3, (TX0.drew.1.cell (p := ⟨bcy, offcy + 8, none⟩) hbl).trans cu_0, (TX0.drew.1.cell (p := ⟨bcy, offcy + 9, none⟩) hbl).trans cu_1, (TX0.drew.1.cell (p := ⟨bcy, offcy + 10, none⟩) hbl).trans cu_2, (TX0.drew.1.cell (p := ⟨bcy, offcy + 11, none⟩) hbl).trans cu_3⟩ | exact ⟨TX6.1, TX6.2.1, TX6.2.2.1, TX6.2.2.2.1, TX6.2.2.2.2.1, TX6.2.2.2.2.2.1, TX6.2.2.2.2.2.2.1, TX6.2.2.2.2.2.2.2, (TX6.1.cell (p := ⟨bcy, offcy + 4, none⟩) hbl).trans ct_0, (TX6.1.cell (p := ⟨bcy, offcy + 5, none⟩) hbl).trans ct_1, (TX6.1.cell (p := ⟨bcy, offcy + 6, none⟩) hbl).trans ct_2, (TX6.1.cell (p := ⟨bcy, offcy + 7, none⟩) hbl).trans ct_3, (TX6.1.cell (p := ⟨bcy, offcy + 8, none⟩) hbl).trans cu_0, (TX6.1.cell (p := ⟨bcy, offcy + 9, none⟩) hbl).trans cu_1, (TX6.1.cell (p := ⟨bcy, offcy + 10, none⟩) hbl).trans cu_2, (TX6.1.cell (p := ⟨bcy, offcy + 11, none⟩) hbl).trans cu_3⟩ | exact ⟨TX5.1, TX5.2.1, TX5.2.2.1, TX5.2.2.2.1, TX5.2.2.2.2.1, TX5.2.2.2.2.2.1, TX5.2.2.2.2.2.2.1, TX5.2.2.2.2.2.2.2, (TX5.1.cell (p := ⟨bcy, offcy + 4, none⟩) hbl).trans ct_0, (TX5.1.cell (p := ⟨bcy, offcy + 5, none⟩) hbl).trans ct_1, (TX5.1.cell (p := ⟨bcy, offcy + 6, none⟩) hbl).trans ct_2, (TX5.1.cell (p := ⟨bcy, offcy + 7, none⟩) hbl).trans ct_3, (TX5.1.cell (p := ⟨bcy, offcy + 8, none⟩) hbl).trans cu_0, (TX5.1.cell (p := ⟨bcy, offcy + 9, none⟩) hbl).trans cu_1, (TX5.1.cell (p := ⟨bcy, offcy + 10, none⟩) hbl).trans cu_2, (TX5.1.cell (p := ⟨bcy, offcy + 11, none⟩) hbl).trans cu_3⟩ | exact ⟨TX4.1, TX4.2.1, TX4.2.2.1, TX4.2.2.2.1, TX4.2.2.2.2.1, TX4.2.2.2.2.2.1, TX4.2.2.2.2.2.2.1, TX4.2.2.2.2.2.2.2, (TX4.1.cell (p := ⟨bcy, offcy + 4, none⟩) hbl).trans ct_0, (TX4.1.cell (p := ⟨bcy, offcy + 5, none⟩) hbl).trans ct_1, (TX4.1.cell (p := ⟨bcy, offcy + 6, none⟩) hbl).trans ct_2, (TX4.1.cell (p := ⟨bcy, offcy + 7, none⟩) hbl).trans ct_3, (TX4.1.cell (p := ⟨bcy, offcy + 8, none⟩) hbl).trans cu_0, (TX4.1.cell (p := ⟨bcy, offcy + 9, none⟩) hbl).trans cu_1, (TX4.1.cell (p := ⟨bcy, offcy + 10, none⟩) hbl).trans cu_2, (TX4.1.cell (p := ⟨bcy, offcy + 11, none⟩) hbl).trans cu_3⟩)
    clear hK K
    try simp only [Act.put, List.setIfInBounds_toArray, List.set_cons_zero, List.set_cons_succ]
    refine regTake (i := 6) (v := ?_) rfl (by kernel_rfl) (by kernel_rfl) (by kernel_rfl) (fun _ _ _ h => h) (by rfl) ?_ (by assumption) ?_
    rotate_left
    · intro w_ hSw
      (try dsimp only at hSw)
      go_simp
      (try with_reducible rfl)
    try simp only [Act.put, List.setIfInBounds_toArray, List.set_cons_zero, List.set_cons_succ]
    refine regSkip (i := 7) rfl (by kernel_rfl) (by kernel_rfl) (by kernel_rfl) (fun _ _ _ h => h) (by rfl) (by assumption) ?_
    try simp only [Act.put, List.setIfInBounds_toArray, List.set_cons_zero, List.set_cons_succ]
    refine regSkip (i := 8) rfl (by kernel_rfl) (by kernel_rfl) (by kernel_rfl) (fun _ _ _ h => h) (by rfl) (by assumption) ?_
    try simp only [Act.put, List.setIfInBounds_toArray, List.set_cons_zero, List.set_cons_succ]
    refine regSkip (i := 9) rfl (by kernel_rfl) (by kernel_rfl) (by kernel_rfl) (fun _ _ _ h => h) (by rfl) (by assumption) ?_
    try simp only [Act.put, List.setIfInBounds_toArray, List.set_cons_zero, List.set_cons_succ]
    refine regSkip (i := 10) rfl (by kernel_rfl) (by kernel_rfl) (by kernel_rfl) (fun _ _ _ h => h) (by rfl) (by assumption) ?_
    try simp only [Act.put, List.setIfInBounds_toArray, List.set_cons_zero, List.set_cons_succ]
    refine regSkip (i := 11) rfl (by kernel_rfl) (by kernel_rfl) (by kernel_rfl) (fun _ _ _ h => h) (by rfl) (by assumption) ?_
    try simp only [Act.put, List.setIfInBounds_toArray, List.set_cons_zero, List.set_cons_succ]
    refine regSkip (i := 12) rfl (by kernel_rfl) (by kernel_rfl) (by kernel_rfl) (fun _ _ _ h => h) (by rfl) (by assumption) ?_
    try simp only [Act.put, List.setIfInBounds_toArray, List.set_cons_zero, List.set_cons_succ]
    refine regSkip (i := 13) rfl (by kernel_rfl) (by kernel_rfl) (by kernel_rfl) (fun _ _ _ h => h) (by rfl) (by assumption) ?_
    try simp only [Act.put, List.setIfInBounds_toArray, List.set_cons_zero, List.set_cons_succ]
    refine regSkip (i := 14) rfl (by kernel_rfl) (by kernel_rfl) (by kernel_rfl) (fun _ _ _ h => h) (by rfl) (by assumption) ?_
    try simp only [Act.put, List.setIfInBounds_toArray, List.set_cons_zero, List.set_cons_succ]
    refine regSkip (i := 15) rfl (by kernel_rfl) (by kernel_rfl) (by kernel_rfl) (fun _ _ _ h => h) (by rfl) (by assumption) ?_
    try simp only [Act.put, List.setIfInBounds_toArray, List.set_cons_zero, List.set_cons_succ]
    refine regSkip (i := 16) rfl (by kernel_rfl) (by kernel_rfl) (by kernel_rfl) (fun _ _ _ h => h) (by rfl) (by assumption) ?_
    try simp only [Act.put, List.setIfInBounds_toArray, List.set_cons_zero, List.set_cons_succ]
    refine regSkip (i := 17) rfl (by kernel_rfl) (by kernel_rfl) (by kernel_rfl) (fun _ _ _ h => h) (by rfl) (by assumption) ?_
    try simp only [Act.put, List.setIfInBounds_toArray, List.set_cons_zero, List.set_cons_succ]
    refine regSkip (i := 18) rfl (by kernel_rfl) (by kernel_rfl) (by kernel_rfl) (fun _ _ _ h => h) (by rfl) (by assumption) ?_
    try simp only [Act.put, List.setIfInBounds_toArray, List.set_cons_zero, List.set_cons_succ]
    refine regSkip (i := 19) rfl (by kernel_rfl) (by kernel_rfl) (by kernel_rfl) (fun _ _ _ h => h) (by rfl) (by assumption) ?_
    try simp only [Act.put, List.setIfInBounds_toArray, List.set_cons_zero, List.set_cons_succ]
    refine regSkip (i := 20) rfl (by kernel_rfl) (by kernel_rfl) (by kernel_rfl) (fun _ _ _ h => h) (by rfl) (by assumption) ?_
    try simp only [Act.put, List.setIfInBounds_toArray, List.set_cons_zero, List.set_cons_succ]
    refine regSkip (i := 21) rfl (by kernel_rfl) (by kernel_rfl) (by kernel_rfl) (fun _ _ _ h => h) (by rfl) (by assumption) ?_
    try simp only [Act.put, List.setIfInBounds_toArray, List.set_cons_zero, List.set_cons_succ]
    refine regSkip (i := 22) rfl (by kernel_rfl) (by kernel_rfl) (by kernel_rfl) (fun _ _ _ h => h) (by rfl) (by assumption) ?_
    try simp only [Act.put, List.setIfInBounds_toArray, List.set_cons_zero, List.set_cons_succ]
    refine regTake (i := 23) (v := ?_) rfl (by kernel_rfl) (by kernel_rfl) (by kernel_rfl) (fun _ _ _ h => h) (by rfl) ?_ (by assumption) ?_
    rotate_left
    · intro w_ hSw
      (try dsimp only at hSw)
      go_simp
      (try with_reducible rfl)
    try simp only [Act.put, List.setIfInBounds_toArray, List.set_cons_zero, List.set_cons_succ]
    refine regTake (i := 24) (v := ?_) rfl (by kernel_rfl) (by kernel_rfl) (by kernel_rfl) (fun _ _ _ h => h) (by rfl) ?_ (by assumption) ?_
    rotate_left
    · intro w_ hSw
      (try dsimp only at hSw)
      go_simp
      (try with_reducible rfl)
    try simp only [Act.put, List.setIfInBounds_toArray, List.set_cons_zero, List.set_cons_succ]
    refine wpAnyH_done (by kernel_rfl) ?_ _
    go_wp2_with fail
    go_ret
    exact ⟨ret_bool (rfl), TX5.1⟩
  | false =>
    cases su with
    | true =>
      go_enter Try.func40, Try.ntmps40
      go_wp2_with fail
      refine wp_region_held_drew (S := (fun w_ => Below w.heap.size w w_ ∧ w.heap.size + 1 < w_.heap.size ∧ w_.cell? ⟨w.heap.size, 2, none⟩ = some (.string z2) ∧ w_.cell? ⟨w.heap.size, 3, none⟩ = some (.slice (some ⟨bcy, offcy, none⟩) 4 c3) ∧ w_.cell? ⟨w.heap.size + 1, 0, none⟩ = some (.int .i64 4) ∧ w_.cell? ⟨w.heap.size + 1, 1, none⟩ = some (.int .i64 0) ∧ w_.cell? ⟨w.heap.size + 1, 2, none⟩ = some (.string ⟨#[116, 104, 105, 115]⟩) ∧ w_.cell? ⟨w.heap.size + 1, 3, none⟩ = some (.slice none 0 0) ∧ w_.cell? ⟨bcy, offcy + 4, none⟩ = some (.int .i64 t0) ∧ w_.cell? ⟨bcy, offcy + 5, none⟩ = some (.int .i64 t1) ∧ w_.cell? ⟨bcy, offcy + 6, none⟩ = some (.string t2) ∧ w_.cell? ⟨bcy, offcy + 7, none⟩ = some (.slice Dt t3.length dt) ∧ w_.cell? ⟨bcy, offcy + 8, none⟩ = some (.int .i64 u0) ∧ w_.cell? ⟨bcy, offcy + 9, none⟩ = some (.int .i64 u1) ∧ w_.cell? ⟨bcy, offcy + 10, none⟩ = some (.string u2) ∧ w_.cell? ⟨bcy, offcy + 11, none⟩ = some (.slice Du u3.length du))) (by kernel_rfl) ?_ (fun hHeld => ?_)
      · (try dsimp only)
        (first | exact ⟨TX0.drew.1, TX0.drew.2.1, TX0.drew.2.2.1, TX0.drew.2.2.2.1, TX0.drew.2.2.2.2.1, TX0.drew.2.2.2.2.2.1, TX0.drew.2.2.2.2.2.2.1, TX0.drew.2.2.2.2.2.2.2, (TX0.drew.1.cell (p := ⟨bcy, offcy + 4, none⟩) hbl).trans ct_0, (TX0.drew.1.cell (p := ⟨bcy, offcy + 5, none⟩) hbl).trans ct_1, (TX0.drew.1.cell (p := ⟨bcy, offcy + 6, none⟩) hbl).trans ct_2, (TX0.drew.1.cell (p := ⟨bcy, offcy + 7, none⟩) hbl).trans ct_3, (TX0.drew.1.cell (p := ⟨bcy, offcy + 8, none⟩) hbl).trans cu_0, (TX0.drew.1.cell (p := ⟨bcy, offcy + 9, none⟩) hbl).trans cu_1, (TX0.drew.1.cell (p := ⟨bcy, offcy + 10, none⟩) hbl).trans cu_2, (TX0.drew.1.cell (p := ⟨bcy, offcy + 11, none⟩) hbl).trans cu_3⟩ | exact ⟨TX6.1, TX6.2.1, TX6.2.2.1, TX6.2.2.2.1, TX6.2.2.2.2.1, TX6.2.2.2.2.2.1, TX6.2.2.2.2.2.2.1, TX6.2.2.2.2.2.2.2, (TX6.1.cell (p := ⟨bcy, offcy + 4, none⟩) hbl).trans ct_0, (TX6.1.cell (p := ⟨bcy, offcy + 5, none⟩) hbl).trans ct_1, (TX6.1.cell (p := ⟨bcy, offcy + 6, none⟩) hbl).trans ct_2, (TX6.1.cell (p := ⟨bcy, offcy + 7, none⟩) hbl).trans ct_3, (TX6.1.cell (p := ⟨bcy, offcy + 8, none⟩) hbl).trans cu_0, (TX6.1.cell (p := ⟨bcy, offcy + 9, none⟩) hbl).trans cu_1, (TX6.1.cell (p := ⟨bcy, offcy + 10, none⟩) hbl).trans cu_2, (TX6.1.cell (p := ⟨bcy, offcy + 11, none⟩) hbl).trans cu_3⟩ | exact ⟨TX5.1, TX5.2.1, TX5.2.2.1, TX5.2.2.2.1, TX5.2.2.2.2.1, TX5.2.2.2.2.2.1, TX5.2.2.2.2.2.2.1, TX5.2.2.2.2.2.2.2, (TX5.1.cell (p := ⟨bcy, offcy + 4, none⟩) hbl).trans ct_0, (TX5.1.cell (p := ⟨bcy, offcy + 5, none⟩) hbl).trans ct_1, (TX5.1.cell (p := ⟨bcy, offcy + 6, none⟩) hbl).trans ct_2, (TX5.1.cell (p := ⟨bcy, offcy + 7, none⟩) hbl).trans ct_3, (TX5.1.cell (p := ⟨bcy, offcy + 8, none⟩) hbl).trans cu_0, (TX5.1.cell (p := ⟨bcy, offcy + 9, none⟩) hbl).trans cu_1, (TX5.1.cell (p := ⟨bcy, offcy + 10, none⟩) hbl).trans cu_2, (TX5.1.cell (p := ⟨bcy, offcy + 11, none⟩) hbl).trans cu_3⟩ | exact ⟨TX4.1, TX4.2.1, TX4.2.2.1, TX4.2.2.2.1, TX4.2.2.2.2.1, TX4.2.2.2.2.2.1, TX4.2.2.2.2.2.2.1, TX4.2.2.2.2.2.2.2, (TX4.1.cell (p := ⟨bcy, offcy + 4, none⟩) hbl).trans ct_0, (TX4.1.cell (p := ⟨bcy, offcy + 5, none⟩) hbl).trans ct_1, (TX4.1.cell (p := ⟨bcy, offcy + 6, none⟩) hbl).trans ct_2, (TX4.1.cell (p := ⟨bcy, offcy + 7, none⟩) hbl).trans ct_3, (TX4.1.cell (p := ⟨bcy, offcy + 8, none⟩) hbl).trans cu_0, (TX4.1.cell (p := ⟨bcy, offcy + 9, none⟩) hbl).trans cu_1, (TX4.1.cell (p := ⟨bcy, offcy + 10, none⟩) hbl).trans cu_2, (TX4.1.cell (p := ⟨bcy, offcy + 11, none⟩) hbl).trans cu_3⟩)
      refine regTake (i := 0) (v := ?_) rfl (by kernel_rfl) (by kernel_rfl) (by kernel_rfl) (fun _ _ _ h => h) (by rfl) ?_ (by assumption) ?_
      rotate_left
      · intro w_ hSw
        (try dsimp only at hSw)
        go_simp
        (try with_reducible rfl)
      try simp only [Act.put, List.setIfInBounds_toArray, List.set_cons_zero, List.set_cons_succ]
      refine regTake (i := 1) (v := ?_) rfl (by kernel_rfl) (by kernel_rfl) (by kernel_rfl) (fun _ _ _ h => h) (by rfl) ?_ (by assumption) ?_
      rotate_left
      · intro w_ hSw
        (try dsimp only at hSw)
        go_simp
        (try with_reducible rfl)
      try simp only [Act.put, List.setIfInBounds_toArray, List.set_cons_zero, List.set_cons_succ]
      refine regTake (i := 2) (v := ?_) rfl (by kernel_rfl) (by kernel_rfl) (by kernel_rfl) (fun _ _ _ h => h) (by rfl) ?_ (by assumption) ?_
      rotate_left
      · intro w_ hSw
        (try dsimp only at hSw)
        go_simp
        (try with_reducible rfl)
      try simp only [Act.put, List.setIfInBounds_toArray, List.set_cons_zero, List.set_cons_succ]
      refine regTake (i := 3) (v := ?_) rfl (by kernel_rfl) (by kernel_rfl) (by kernel_rfl) (fun _ _ _ h => h) (by rfl) ?_ (by assumption) ?_
      rotate_left
      · intro w_ hSw
        (try dsimp only at hSw)
        go_simp
        (try with_reducible rfl)
      try simp only [Act.put, List.setIfInBounds_toArray, List.set_cons_zero, List.set_cons_succ]
      refine regTake (i := 4) (v := ?_) rfl (by kernel_rfl) (by kernel_rfl) (by kernel_rfl) (fun _ _ _ h => h) (by rfl) ?_ (by assumption) ?_
      rotate_left
      · intro w_ hSw
        (try dsimp only at hSw)
        go_simp
        (try with_reducible rfl)
      try simp only [Act.put, List.setIfInBounds_toArray, List.set_cons_zero, List.set_cons_succ]
      refine regCall (i := 5) (by kernel_rfl) rfl (by rfl) (fun K hK => ?_)
      go_simp
      (go_at_call 72; have TH5 : TbS w z2 (some ⟨bcy, offcy, none⟩) 4 c3 _ := ⟨hHeld.1, hHeld.2.1, hHeld.2.2.1, hHeld.2.2.2.1, hHeld.2.2.2.2.1, hHeld.2.2.2.2.2.1, hHeld.2.2.2.2.2.2.1, hHeld.2.2.2.2.2.2.2.1⟩; refine (same_this ⟨t0, t1, t2, t3⟩ hyt [.int .i64 t0, .int .i64 t1, .string t2, .slice Dt t3.length dt] _ B (Nat.le_trans hB0 hHeld.1.size) (by rw [FNode.c_eq]; exact RdVs.cons (by unfold RdC; rfl) (RdVs.cons (by unfold RdC; rfl) (RdVs.cons (by unfold RdC; rfl) (RdVs.cons (Qt.out.below hHeld.1 hB0) (RdVs.nil _ _)))))).mono ?_; rw [HSV.out]; rintro e w5 ⟨rfl, hb5⟩; have TX5 := TH5.call hb5)
      refine hK.out _ _ ?_ (fun hHeld => ?_)
      · (try dsimp only)
        (first | exact ⟨TX0.drew.1, TX0.drew.2.1, TX0.drew.2.2.1, TX0.drew.2.2.2.1, TX0.drew.2.2.2.2.1, TX0.drew.2.2.2.2.2.1, TX0.drew.2.2.2.2.2.2.1, TX0.drew.2.2.2.2.2.2.2, (TX0.drew.1.cell (p := ⟨bcy, offcy + 4, none⟩) hbl).trans ct_0, (TX0.drew.1.cell (p := ⟨bcy, offcy + 5, none⟩) hbl).trans ct_1, (TX0.drew.1.cell (p := ⟨bcy, offcy + 6, none⟩) hbl).trans ct_2, (TX0.drew.1.cell (p := ⟨bcy, offcy + 7, none⟩) hbl).trans ct_3, (TX0.drew.1.cell (p := ⟨bcy, offcy + 8, none⟩) hbl).trans cu_0, (TX0.drew.1.cell (p := ⟨bcy, offcy + 9, none⟩) hbl).trans cu_1, (TX0.drew.1.cell (p := ⟨bcy, offcy + 10, none⟩) hbl).trans cu_2, (TX0.drew.1.cell (p := ⟨bcy, offcy + 11, none⟩) hbl).trans cu_3⟩ | exact ⟨TX6.1, TX6.2.1, TX6.2.2.1, TX6.2.2.2.1, TX6.2.2.2.2.1, TX6.2.2.2.2.2.1, TX6.2.2.2.2.2.2.1, TX6.2.2.2.2.2.2.2, (TX6.1.cell (p := ⟨bcy, offcy + 4, none⟩) hbl).trans ct_0, (TX6.1.cell (p := ⟨bcy, offcy + 5, none⟩) hbl).trans ct_1, (TX6.1.cell (p := ⟨bcy, offcy + 6, none⟩) hbl).trans ct_2, (TX6.1.cell (p := ⟨bcy, offcy + 7, none⟩) hbl).trans ct_3, (TX6.1.cell (p := ⟨bcy, offcy + 8, none⟩) hbl).trans cu_0, (TX6.1.cell (p := ⟨bcy, offcy + 9, none⟩) hbl).trans cu_1, (TX6.1.cell (p := ⟨bcy, offcy + 10, none⟩) hbl).trans cu_2, (TX6.1.cell (p := ⟨bcy, offcy + 11, none⟩) hbl).trans cu_3⟩ | exact ⟨TX5.1, TX5.2.1, TX5.2.2.1, TX5.2.2.2.1, TX5.2.2.2.2.1, TX5.2.2.2.2.2.1, TX5.2.2.2.2.2.2.1, TX5.2.2.2.2.2.2.2, (TX5.1.cell (p := ⟨bcy, offcy + 4, none⟩) hbl).trans ct_0, (TX5.1.cell (p := ⟨bcy, offcy + 5, none⟩) hbl).trans ct_1, (TX5.1.cell (p := ⟨bcy, offcy + 6, none⟩) hbl).trans ct_2, (TX5.1.cell (p := ⟨bcy, offcy + 7, none⟩) hbl).trans ct_3, (TX5.1.cell (p := ⟨bcy, offcy + 8, none⟩) hbl).trans cu_0, (TX5.1.cell (p := ⟨bcy, offcy + 9, none⟩) hbl).trans cu_1, (TX5.1.cell (p := ⟨bcy, offcy + 10, none⟩) hbl).trans cu_2, (TX5.1.cell (p := ⟨bcy, offcy + 11, none⟩) hbl).trans cu_3⟩ | exact ⟨TX4.1, TX4.2.1, TX4.2.2.1, TX4.2.2.2.1, TX4.2.2.2.2.1, TX4.2.2.2.2.2.1, TX4.2.2.2.2.2.2.1, TX4.2.2.2.2.2.2.2, (TX4.1.cell (p := ⟨bcy, offcy + 4, none⟩) hbl).trans ct_0, (TX4.1.cell (p := ⟨bcy, offcy + 5, none⟩) hbl).trans ct_1, (TX4.1.cell (p := ⟨bcy, offcy + 6, none⟩) hbl).trans ct_2, (TX4.1.cell (p := ⟨bcy, offcy + 7, none⟩) hbl).trans ct_3, (TX4.1.cell (p := ⟨bcy, offcy + 8, none⟩) hbl).trans cu_0, (TX4.1.cell (p := ⟨bcy, offcy + 9, none⟩) hbl).trans cu_1, (TX4.1.cell (p := ⟨bcy, offcy + 10, none⟩) hbl).trans cu_2, (TX4.1.cell (p := ⟨bcy, offcy + 11, none⟩) hbl).trans cu_3⟩)
      clear hK K
      try simp only [Act.put, List.setIfInBounds_toArray, List.set_cons_zero, List.set_cons_succ]
      refine regTake (i := 6) (v := ?_) rfl (by kernel_rfl) (by kernel_rfl) (by kernel_rfl) (fun _ _ _ h => h) (by rfl) ?_ (by assumption) ?_
      rotate_left
      · intro w_ hSw
        (try dsimp only at hSw)
        go_simp
        (try with_reducible rfl)
      try simp only [Act.put, List.setIfInBounds_toArray, List.set_cons_zero, List.set_cons_succ]
      refine regTake (i := 7) (v := ?_) rfl (by kernel_rfl) (by kernel_rfl) (by kernel_rfl) (fun _ _ _ h => h) (by rfl) ?_ (by assumption) ?_
      rotate_left
      · intro w_ hSw
        (try dsimp only at hSw)
        go_simp
        (try with_reducible rfl)
      try simp only [Act.put, List.setIfInBounds_toArray, List.set_cons_zero, List.set_cons_succ]
      refine regTake (i := 8) (v := ?_) rfl (by kernel_rfl) (by kernel_rfl) (by kernel_rfl) (fun _ _ _ h => h) (by rfl) ?_ (by assumption) ?_
      rotate_left
      · intro w_ hSw
        (try dsimp only at hSw)
        go_simp
        (try with_reducible rfl)
      try simp only [Act.put, List.setIfInBounds_toArray, List.set_cons_zero, List.set_cons_succ]
      refine regTake (i := 9) (v := ?_) rfl (by kernel_rfl) (by kernel_rfl) (by kernel_rfl) (fun _ _ _ h => h) (by rfl) ?_ (by assumption) ?_
      rotate_left
      · intro w_ hSw
        (try dsimp only at hSw)
        go_simp
        (try with_reducible rfl)
      try simp only [Act.put, List.setIfInBounds_toArray, List.set_cons_zero, List.set_cons_succ]
      refine regTake (i := 10) (v := ?_) rfl (by kernel_rfl) (by kernel_rfl) (by kernel_rfl) (fun _ _ _ h => h) (by rfl) ?_ (by assumption) ?_
      rotate_left
      · intro w_ hSw
        (try dsimp only at hSw)
        go_simp
        (try with_reducible rfl)
      try simp only [Act.put, List.setIfInBounds_toArray, List.set_cons_zero, List.set_cons_succ]
      refine regTake (i := 11) (v := ?_) rfl (by kernel_rfl) (by kernel_rfl) (by kernel_rfl) (fun _ _ _ h => h) (by rfl) ?_ (by assumption) ?_
      rotate_left
      · intro w_ hSw
        (try dsimp only at hSw)
        go_simp
        (try with_reducible rfl)
      try simp only [Act.put, List.setIfInBounds_toArray, List.set_cons_zero, List.set_cons_succ]
      refine regTake (i := 12) (v := ?_) rfl (by kernel_rfl) (by kernel_rfl) (by kernel_rfl) (fun _ _ _ h => h) (by rfl) ?_ (by assumption) ?_
      rotate_left
      · intro w_ hSw
        (try dsimp only at hSw)
        go_simp
        (try with_reducible rfl)
      try simp only [Act.put, List.setIfInBounds_toArray, List.set_cons_zero, List.set_cons_succ]
      refine regTake (i := 13) (v := ?_) rfl (by kernel_rfl) (by kernel_rfl) (by kernel_rfl) (fun _ _ _ h => h) (by rfl) ?_ (by assumption) ?_
      rotate_left
      · intro w_ hSw
        (try dsimp only at hSw)
        go_simp
        (try with_reducible rfl)
      try simp only [Act.put, List.setIfInBounds_toArray, List.set_cons_zero, List.set_cons_succ]
      refine regTake (i := 14) (v := ?_) rfl (by kernel_rfl) (by kernel_rfl) (by kernel_rfl) (fun _ _ _ h => h) (by rfl) ?_ (by assumption) ?_
      rotate_left
      · intro w_ hSw
        (try dsimp only at hSw)
        go_simp
        (try with_reducible rfl)
      try simp only [Act.put, List.setIfInBounds_toArray, List.set_cons_zero, List.set_cons_succ]
      refine regTake (i := 15) (v := ?_) rfl (by kernel_rfl) (by kernel_rfl) (by kernel_rfl) (fun _ _ _ h => h) (by rfl) ?_ (by assumption) ?_
      rotate_left
      · intro w_ hSw
        (try dsimp only at hSw)
        go_simp
        (try with_reducible rfl)
      try simp only [Act.put, List.setIfInBounds_toArray, List.set_cons_zero, List.set_cons_succ]
      refine regCall (i := 16) (by kernel_rfl) rfl (by rfl) (fun K hK => ?_)
      go_simp
      (go_at_call 72; have TH6 : TbS w z2 (some ⟨bcy, offcy, none⟩) 4 c3 _ := ⟨hHeld.1, hHeld.2.1, hHeld.2.2.1, hHeld.2.2.2.1, hHeld.2.2.2.2.1, hHeld.2.2.2.2.2.1, hHeld.2.2.2.2.2.2.1, hHeld.2.2.2.2.2.2.2.1⟩; refine (same_this ⟨u0, u1, u2, u3⟩ hyu [.int .i64 u0, .int .i64 u1, .string u2, .slice Du u3.length du] _ B (Nat.le_trans hB0 hHeld.1.size) (by rw [FNode.c_eq]; exact RdVs.cons (by unfold RdC; rfl) (RdVs.cons (by unfold RdC; rfl) (RdVs.cons (by unfold RdC; rfl) (RdVs.cons (Qu.out.below hHeld.1 hB0) (RdVs.nil _ _)))))).mono ?_; rw [HSU.out]; rintro e w6 ⟨rfl, hb6⟩; have TX6 := TH6.call hb6)
      refine hK.out _ _ ?_ (fun hHeld => ?_)
      · (try dsimp only)
        (first | exact ⟨TX0.drew.1, TX0.drew.2.1, TX0.drew.2.2.1, TX0.drew.2.2.2.1, TX0.drew.2.2.2.2.1, TX0.drew.2.2.2.2.2.1, TX0.drew.2.2.2.2.2.2.1, TX0.drew.2.2.2.2.2.2.2, (TX0.drew.1.cell (p := ⟨bcy, offcy + 4, none⟩) hbl).trans ct_0, (TX0.drew.1.cell (p := ⟨bcy, offcy + 5, none⟩) hbl).trans ct_1, (TX0.drew.1.cell (p := ⟨bcy, offcy + 6, none⟩) hbl).trans ct_2, (TX0.drew.1.cell (p := ⟨bcy, offcy + 7, none⟩) hbl).trans ct_3, (TX0.drew.1.cell (p := ⟨bcy, offcy + 8, none⟩) hbl).trans cu_0, (TX0.drew.1.cell (p := ⟨bcy, offcy + 9, none⟩) hbl).trans cu_1, (TX0.drew.1.cell (p := ⟨bcy, offcy + 10, none⟩) hbl).trans cu_2, (TX0.drew.1.cell (p := ⟨bcy, offcy + 11, none⟩) hbl).trans cu_3⟩ | exact ⟨TX6.1, TX6.2.1, TX6.2.2.1, TX6.2.2.2.1, TX6.2.2.2.2.1, TX6.2.2.2.2.2.1, TX6.2.2.2.2.2.2.1, TX6.2.2.2.2.2.2.2, (TX6.1.cell (p := ⟨bcy, offcy + 4, none⟩) hbl).trans ct_0, (TX6.1.cell (p := ⟨bcy, offcy + 5, none⟩) hbl).trans ct_1, (TX6.1.cell (p := ⟨bcy, offcy + 6, none⟩) hbl).trans ct_2, (TX6.1.cell (p := ⟨bcy, offcy + 7, none⟩) hbl).trans ct_3, (TX6.1.cell (p := ⟨bcy, offcy + 8, none⟩) hbl).trans cu_0, (TX6.1.cell (p := ⟨bcy, offcy + 9, none⟩) hbl).trans cu_1, (TX6.1.cell (p := ⟨bcy, offcy + 10, none⟩) hbl).trans cu_2, (TX6.1.cell (p := ⟨bcy, offcy + 11, none⟩) hbl).trans cu_3⟩ | exact ⟨TX5.1, TX5.2.1, TX5.2.2.1, TX5.2.2.2.1, TX5.2.2.2.2.1, TX5.2.2.2.2.2.1, TX5.2.2.2.2.2.2.1, TX5.2.2.2.2.2.2.2, (TX5.1.cell (p := ⟨bcy, offcy + 4, none⟩) hbl).trans ct_0, (TX5.1.cell (p := ⟨bcy, offcy + 5, none⟩) hbl).trans ct_1, (TX5.1.cell (p := ⟨bcy, offcy + 6, none⟩) hbl).trans ct_2, (TX5.1.cell (p := ⟨bcy, offcy + 7, none⟩) hbl).trans ct_3, (TX5.1.cell (p := ⟨bcy, offcy + 8, none⟩) hbl).trans cu_0, (TX5.1.cell (p := ⟨bcy, offcy + 9, none⟩) hbl).trans cu_1, (TX5.1.cell (p := ⟨bcy, offcy + 10, none⟩) hbl).trans cu_2, (TX5.1.cell (p := ⟨bcy, offcy + 11, none⟩) hbl).trans cu_3⟩ | exact ⟨TX4.1, TX4.2.1, TX4.2.2.1, TX4.2.2.2.1, TX4.2.2.2.2.1, TX4.2.2.2.2.2.1, TX4.2.2.2.2.2.2.1, TX4.2.2.2.2.2.2.2, (TX4.1.cell (p := ⟨bcy, offcy + 4, none⟩) hbl).trans ct_0, (TX4.1.cell (p := ⟨bcy, offcy + 5, none⟩) hbl).trans ct_1, (TX4.1.cell (p := ⟨bcy, offcy + 6, none⟩) hbl).trans ct_2, (TX4.1.cell (p := ⟨bcy, offcy + 7, none⟩) hbl).trans ct_3, (TX4.1.cell (p := ⟨bcy, offcy + 8, none⟩) hbl).trans cu_0, (TX4.1.cell (p := ⟨bcy, offcy + 9, none⟩) hbl).trans cu_1, (TX4.1.cell (p := ⟨bcy, offcy + 10, none⟩) hbl).trans cu_2, (TX4.1.cell (p := ⟨bcy, offcy + 11, none⟩) hbl).trans cu_3⟩)
      clear hK K
      try simp only [Act.put, List.setIfInBounds_toArray, List.set_cons_zero, List.set_cons_succ]
      refine regTake (i := 17) (v := ?_) rfl (by kernel_rfl) (by kernel_rfl) (by kernel_rfl) (fun _ _ _ h => h) (by rfl) ?_ (by assumption) ?_
      rotate_left
      · intro w_ hSw
        (try dsimp only at hSw)
        go_simp
        (try with_reducible rfl)
      try simp only [Act.put, List.setIfInBounds_toArray, List.set_cons_zero, List.set_cons_succ]
      refine regTake (i := 18) (v := ?_) rfl (by kernel_rfl) (by kernel_rfl) (by kernel_rfl) (fun _ _ _ h => h) (by rfl) ?_ (by assumption) ?_
      rotate_left
      · intro w_ hSw
        (try dsimp only at hSw)
        go_simp
        (try with_reducible rfl)
      try simp only [Act.put, List.setIfInBounds_toArray, List.set_cons_zero, List.set_cons_succ]
      refine regTake (i := 19) (v := ?_) rfl (by kernel_rfl) (by kernel_rfl) (by kernel_rfl) (fun _ _ _ h => h) (by rfl) ?_ (by assumption) ?_
      rotate_left
      · intro w_ hSw
        (try dsimp only at hSw)
        go_simp
        (try with_reducible rfl)
      try simp only [Act.put, List.setIfInBounds_toArray, List.set_cons_zero, List.set_cons_succ]
      refine regTake (i := 20) (v := ?_) rfl (by kernel_rfl) (by kernel_rfl) (by kernel_rfl) (fun _ _ _ h => h) (by rfl) ?_ (by assumption) ?_
      rotate_left
      · intro w_ hSw
        (try dsimp only at hSw)
        go_simp
        (try with_reducible rfl)
      try simp only [Act.put, List.setIfInBounds_toArray, List.set_cons_zero, List.set_cons_succ]
      refine regTake (i := 21) (v := ?_) rfl (by kernel_rfl) (by kernel_rfl) (by kernel_rfl) (fun _ _ _ h => h) (by rfl) ?_ (by assumption) ?_
      rotate_left
      · intro w_ hSw
        (try dsimp only at hSw)
        go_simp
        (try with_reducible rfl)
      try simp only [Act.put, List.setIfInBounds_toArray, List.set_cons_zero, List.set_cons_succ]
      refine regTake (i := 22) (v := ?_) rfl (by kernel_rfl) (by kernel_rfl) (by kernel_rfl) (fun _ _ _ h => h) (by rfl) ?_ (by assumption) ?_
      rotate_left
      · intro w_ hSw
        (try dsimp only at hSw)
        go_simp
        (try with_reducible rfl)
      try simp only [Act.put, List.setIfInBounds_toArray, List.set_cons_zero, List.set_cons_succ]
      refine regTake (i := 23) (v := ?_) rfl (by kernel_rfl) (by kernel_rfl) (by kernel_rfl) (fun _ _ _ h => h) (by rfl) ?_ (by assumption) ?_
      rotate_left
      · intro w_ hSw
        (try dsimp only at hSw)
        go_simp
        (try with_reducible rfl)
      try simp only [Act.put, List.setIfInBounds_toArray, List.set_cons_zero, List.set_cons_succ]
      refine regTake (i := 24) (v := ?_) rfl (by kernel_rfl) (by kernel_rfl) (by kernel_rfl) (fun _ _ _ h => h) (by rfl) ?_ (by assumption) ?_
      rotate_left
      · intro w_ hSw
        (try dsimp only at hSw)
        go_simp
        (try with_reducible rfl)
      try simp only [Act.put, List.setIfInBounds_toArray, List.set_cons_zero, List.set_cons_succ]
      refine wpAnyH_done (by kernel_rfl) ?_ _
      go_wp2_with fail
      go_ret
      exact ⟨ret_bool (by first | rfl | (simp_all; done)), TX6.1⟩
    | false =>
      go_enter Try.func40, Try.ntmps40
      go_wp2_with fail
      refine wp_region_held_drew (S := (fun w_ => Below w.heap.size w w_ ∧ w.heap.size + 1 < w_.heap.size ∧ w_.cell? ⟨w.heap.size, 2, none⟩ = some (.string z2) ∧ w_.cell? ⟨w.heap.size, 3, none⟩ = some (.slice (some ⟨bcy, offcy, none⟩) 4 c3) ∧ w_.cell? ⟨w.heap.size + 1, 0, none⟩ = some (.int .i64 4) ∧ w_.cell? ⟨w.heap.size + 1, 1, none⟩ = some (.int .i64 0) ∧ w_.cell? ⟨w.heap.size + 1, 2, none⟩ = some (.string ⟨#[116, 104, 105, 115]⟩) ∧ w_.cell? ⟨w.heap.size + 1, 3, none⟩ = some (.slice none 0 0) ∧ w_.cell? ⟨bcy, offcy + 4, none⟩ = some (.int .i64 t0) ∧ w_.cell? ⟨bcy, offcy + 5, none⟩ = some (.int .i64 t1) ∧ w_.cell? ⟨bcy, offcy + 6, none⟩ = some (.string t2) ∧ w_.cell? ⟨bcy, offcy + 7, none⟩ = some (.slice Dt t3.length dt) ∧ w_.cell? ⟨bcy, offcy + 8, none⟩ = some (.int .i64 u0) ∧ w_.cell? ⟨bcy, offcy + 9, none⟩ = some (.int .i64 u1) ∧ w_.cell? ⟨bcy, offcy + 10, none⟩ = some (.string u2) ∧ w_.cell? ⟨bcy, offcy + 11, none⟩ = some (.slice Du u3.length du))) (by kernel_rfl) ?_ (fun hHeld => ?_)
      · (try dsimp only)
        (first | exact ⟨TX0.drew.1, TX0.drew.2.1, TX0.drew.2.2.1, TX0.drew.2.2.2.1, TX0.drew.2.2.2.2.1, TX0.drew.2.2.2.2.2.1, TX0.drew.2.2.2.2.2.2.1, TX0.drew.2.2.2.2.2.2.2, (TX0.drew.1.cell (p := ⟨bcy, offcy + 4, none⟩) hbl).trans ct_0, (TX0.drew.1.cell (p := ⟨bcy, offcy + 5, none⟩) hbl).trans ct_1, (TX0.drew.1.cell (p := ⟨bcy, offcy + 6, none⟩) hbl).trans ct_2, (TX0.drew.1.cell (p := ⟨bcy, offcy + 7, none⟩) hbl).trans ct_3, (TX0.drew.1.cell (p := ⟨bcy, offcy + 8, none⟩) hbl).trans cu_0, (TX0.drew.1.cell (p := ⟨bcy, offcy + 9, none⟩) hbl).trans cu_1, (TX0.drew.1.cell (p := ⟨bcy, offcy + 10, none⟩) hbl).trans cu_2, (TX0.drew.1.cell (p := ⟨bcy, offcy + 11, none⟩) hbl).trans cu_3⟩ | exact ⟨TX6.1, TX6.2.1, TX6.2.2.1, TX6.2.2.2.1, TX6.2.2.2.2.1, TX6.2.2.2.2.2.1, TX6.2.2.2.2.2.2.1, TX6.2.2.2.2.2.2.2, (TX6.1.cell (p := ⟨bcy, offcy + 4, none⟩) hbl).trans ct_0, (TX6.1.cell (p := ⟨bcy, offcy + 5, none⟩) hbl).trans ct_1, (TX6.1.cell (p := ⟨bcy, offcy + 6, none⟩) hbl).trans ct_2, (TX6.1.cell (p := ⟨bcy, offcy + 7, none⟩) hbl).trans ct_3, (TX6.1.cell (p := ⟨bcy, offcy + 8, none⟩) hbl).trans cu_0, (TX6.1.cell (p := ⟨bcy, offcy + 9, none⟩) hbl).trans cu_1, (TX6.1.cell (p := ⟨bcy, offcy + 10, none⟩) hbl).trans cu_2, (TX6.1.cell (p := ⟨bcy, offcy + 11, none⟩) hbl).trans cu_3⟩ | exact ⟨TX5.1, TX5.2.1, TX5.2.2.1, TX5.2.2.2.1, TX5.2.2.2.2.1, TX5.2.2.2.2.2.1, TX5.2.2.2.2.2.2.1, TX5.2.2.2.2.2.2.2, (TX5.1.cell (p := ⟨bcy, offcy + 4, none⟩) hbl).trans ct_0, (TX5.1.cell (p := ⟨bcy, offcy + 5, none⟩) hbl).trans ct_1, (TX5.1.cell (p := ⟨bcy, offcy + 6, none⟩) hbl).trans ct_2, (TX5.1.cell (p := ⟨bcy, offcy + 7, none⟩) hbl).trans ct_3, (TX5.1.cell (p := ⟨bcy, offcy + 8, none⟩) hbl).trans cu_0, (TX5.1.cell (p := ⟨bcy, offcy + 9, none⟩) hbl).trans cu_1, (TX5.1.cell (p := ⟨bcy, offcy + 10, none⟩) hbl).trans cu_2, (TX5.1.cell (p := ⟨bcy, offcy + 11, none⟩) hbl).trans cu_3⟩ | exact ⟨TX4.1, TX4.2.1, TX4.2.2.1, TX4.2.2.2.1, TX4.2.2.2.2.1, TX4.2.2.2.2.2.1, TX4.2.2.2.2.2.2.1, TX4.2.2.2.2.2.2.2, (TX4.1.cell (p := ⟨bcy, offcy + 4, none⟩) hbl).trans ct_0, (TX4.1.cell (p := ⟨bcy, offcy + 5, none⟩) hbl).trans ct_1, (TX4.1.cell (p := ⟨bcy, offcy + 6, none⟩) hbl).trans ct_2, (TX4.1.cell (p := ⟨bcy, offcy + 7, none⟩) hbl).trans ct_3, (TX4.1.cell (p := ⟨bcy, offcy + 8, none⟩) hbl).trans cu_0, (TX4.1.cell (p := ⟨bcy, offcy + 9, none⟩) hbl).trans cu_1, (TX4.1.cell (p := ⟨bcy, offcy + 10, none⟩) hbl).trans cu_2, (TX4.1.cell (p := ⟨bcy, offcy + 11, none⟩) hbl).trans cu_3⟩)
      refine regTake (i := 0) (v := ?_) rfl (by kernel_rfl) (by kernel_rfl) (by kernel_rfl) (fun _ _ _ h => h) (by rfl) ?_ (by assumption) ?_
      rotate_left
      · intro w_ hSw
        (try dsimp only at hSw)
        go_simp
        (try with_reducible rfl)
      try simp only [Act.put, List.setIfInBounds_toArray, List.set_cons_zero, List.set_cons_succ]
      refine regTake (i := 1) (v := ?_) rfl (by kernel_rfl) (by kernel_rfl) (by kernel_rfl) (fun _ _ _ h => h) (by rfl) ?_ (by assumption) ?_
      rotate_left
      · intro w_ hSw
        (try dsimp only at hSw)
        go_simp
        (try with_reducible rfl)
      try simp only [Act.put, List.setIfInBounds_toArray, List.set_cons_zero, List.set_cons_succ]
      refine regTake (i := 2) (v := ?_) rfl (by kernel_rfl) (by kernel_rfl) (by kernel_rfl) (fun _ _ _ h => h) (by rfl) ?_ (by assumption) ?_
      rotate_left
      · intro w_ hSw
        (try dsimp only at hSw)
        go_simp
        (try with_reducible rfl)
      try simp only [Act.put, List.setIfInBounds_toArray, List.set_cons_zero, List.set_cons_succ]
      refine regTake (i := 3) (v := ?_) rfl (by kernel_rfl) (by kernel_rfl) (by kernel_rfl) (fun _ _ _ h => h) (by rfl) ?_ (by assumption) ?_
      rotate_left
      · intro w_ hSw
        (try dsimp only at hSw)
        go_simp
        (try with_reducible rfl)
      try simp only [Act.put, List.setIfInBounds_toArray, List.set_cons_zero, List.set_cons_succ]
      refine regTake (i := 4) (v := ?_) rfl (by kernel_rfl) (by kernel_rfl) (by kernel_rfl) (fun _ _ _ h => h) (by rfl) ?_ (by assumption) ?_
      rotate_left
      · intro w_ hSw
        (try dsimp only at hSw)
        go_simp
        (try with_reducible rfl)
      try simp only [Act.put, List.setIfInBounds_toArray, List.set_cons_zero, List.set_cons_succ]
      refine regCall (i := 5) (by kernel_rfl) rfl (by rfl) (fun K hK => ?_)
      go_simp
      (go_at_call 72; have TH5 : TbS w z2 (some ⟨bcy, offcy, none⟩) 4 c3 _ := ⟨hHeld.1, hHeld.2.1, hHeld.2.2.1, hHeld.2.2.2.1, hHeld.2.2.2.2.1, hHeld.2.2.2.2.2.1, hHeld.2.2.2.2.2.2.1, hHeld.2.2.2.2.2.2.2.1⟩; refine (same_this ⟨t0, t1, t2, t3⟩ hyt [.int .i64 t0, .int .i64 t1, .string t2, .slice Dt t3.length dt] _ B (Nat.le_trans hB0 hHeld.1.size) (by rw [FNode.c_eq]; exact RdVs.cons (by unfold RdC; rfl) (RdVs.cons (by unfold RdC; rfl) (RdVs.cons (by unfold RdC; rfl) (RdVs.cons (Qt.out.below hHeld.1 hB0) (RdVs.nil _ _)))))).mono ?_; rw [HSV.out]; rintro e w5 ⟨rfl, hb5⟩; have TX5 := TH5.call hb5)
      refine hK.out _ _ ?_ (fun hHeld => ?_)
      · (try dsimp only)
        (first | exact ⟨TX0.drew.1, TX0.drew.2.1, TX0.drew.2.2.1, TX0.drew.2.2.2.1, TX0.drew.2.2.2.2.1, TX0.drew.2.2.2.2.2.1, TX0.drew.2.2.2.2.2.2.1, TX0.drew.2.2.2.2.2.2.2, (TX0.drew.1.cell (p := ⟨bcy, offcy + 4, none⟩) hbl).trans ct_0, (TX0.drew.1.cell (p := ⟨bcy, offcy + 5, none⟩) hbl).trans ct_1, (TX0.drew.1.cell (p := ⟨bcy, offcy + 6, none⟩) hbl).trans ct_2, (TX0.drew.1.cell (p := ⟨bcy, offcy + 7, none⟩) hbl).trans ct_3, (TX0.drew.1.cell (p := ⟨bcy, offcy + 8, none⟩) hbl).trans cu_0, (TX0.drew.1.cell (p := ⟨bcy, offcy + 9, none⟩) hbl).trans cu_1, (TX0.drew.1.cell (p := ⟨bcy, offcy + 10, none⟩) hbl).trans cu_2, (TX0.drew.1.cell (p := ⟨bcy, offcy + 11, none⟩) hbl).trans cu_3⟩ | exact ⟨TX6.1, TX6.2.1, TX6.2.2.1, TX6.2.2.2.1, TX6.2.2.2.2.1, TX6.2.2.2.2.2.1, TX6.2.2.2.2.2.2.1, TX6.2.2.2.2.2.2.2, (TX6.1.cell (p := ⟨bcy, offcy + 4, none⟩) hbl).trans ct_0, (TX6.1.cell (p := ⟨bcy, offcy + 5, none⟩) hbl).trans ct_1, (TX6.1.cell (p := ⟨bcy, offcy + 6, none⟩) hbl).trans ct_2, (TX6.1.cell (p := ⟨bcy, offcy + 7, none⟩) hbl).trans ct_3, (TX6.1.cell (p := ⟨bcy, offcy + 8, none⟩) hbl).trans cu_0, (TX6.1.cell (p := ⟨bcy, offcy + 9, none⟩) hbl).trans cu_1, (TX6.1.cell (p := ⟨bcy, offcy + 10, none⟩) hbl).trans cu_2, (TX6.1.cell (p := ⟨bcy, offcy + 11, none⟩) hbl).trans cu_3⟩ | exact ⟨TX5.1, TX5.2.1, TX5.2.2.1, TX5.2.2.2.1, TX5.2.2.2.2.1, TX5.2.2.2.2.2.1, TX5.2.2.2.2.2.2.1, TX5.2.2.2.2.2.2.2, (TX5.1.cell (p := ⟨bcy, offcy + 4, none⟩) hbl).trans ct_0, (TX5.1.cell (p := ⟨bcy, offcy + 5, none⟩) hbl).trans ct_1, (TX5.1.cell (p := ⟨bcy, offcy + 6, none⟩) hbl).trans ct_2, (TX5.1.cell (p := ⟨bcy, offcy + 7, none⟩) hbl).trans ct_3, (TX5.1.cell (p := ⟨bcy, offcy + 8, none⟩) hbl).trans cu_0, (TX5.1.cell (p := ⟨bcy, offcy + 9, none⟩) hbl).trans cu_1, (TX5.1.cell (p := ⟨bcy, offcy + 10, none⟩) hbl).trans cu_2, (TX5.1.cell (p := ⟨bcy, offcy + 11, none⟩) hbl).trans cu_3⟩ | exact ⟨TX4.1, TX4.2.1, TX4.2.2.1, TX4.2.2.2.1, TX4.2.2.2.2.1, TX4.2.2.2.2.2.1, TX4.2.2.2.2.2.2.1, TX4.2.2.2.2.2.2.2, (TX4.1.cell (p := ⟨bcy, offcy + 4, none⟩) hbl).trans ct_0, (TX4.1.cell (p := ⟨bcy, offcy + 5, none⟩) hbl).trans ct_1, (TX4.1.cell (p := ⟨bcy, offcy + 6, none⟩) hbl).trans ct_2, (TX4.1.cell (p := ⟨bcy, offcy + 7, none⟩) hbl).trans ct_3, (TX4.1.cell (p := ⟨bcy, offcy + 8, none⟩) hbl).trans cu_0, (TX4.1.cell (p := ⟨bcy, offcy + 9, none⟩) hbl).trans cu_1, (TX4.1.cell (p := ⟨bcy, offcy + 10, none⟩) hbl).trans cu_2, (TX4.1.cell (p := ⟨bcy, offcy + 11, none⟩) hbl).trans cu_3⟩)
      clear hK K
      try simp only [Act.put, List.setIfInBounds_toArray, List.set_cons_zero, List.set_cons_succ]
      refine regTake (i := 6) (v := ?_) rfl (by kernel_rfl) (by kernel_rfl) (by kernel_rfl) (fun _ _ _ h => h) (by rfl) ?_ (by assumption) ?_
      rotate_left
      · intro w_ hSw
        (try dsimp only at hSw)
        go_simp
        (try with_reducible rfl)
      try simp only [Act.put, List.setIfInBounds_toArray, List.set_cons_zero, List.set_cons_succ]
      refine regTake (i := 7) (v := ?_) rfl (by kernel_rfl) (by kernel_rfl) (by kernel_rfl) (fun _ _ _ h => h) (by rfl) ?_ (by assumption) ?_
      rotate_left
      · intro w_ hSw
        (try dsimp only at hSw)
        go_simp
        (try with_reducible rfl)
      try simp only [Act.put, List.setIfInBounds_toArray, List.set_cons_zero, List.set_cons_succ]
      refine regTake (i := 8) (v := ?_) rfl (by kernel_rfl) (by kernel_rfl) (by kernel_rfl) (fun _ _ _ h => h) (by rfl) ?_ (by assumption) ?_
      rotate_left
      · intro w_ hSw
        (try dsimp only at hSw)
        go_simp
        (try with_reducible rfl)
      try simp only [Act.put, List.setIfInBounds_toArray, List.set_cons_zero, List.set_cons_succ]
      refine regTake (i := 9) (v := ?_) rfl (by kernel_rfl) (by kernel_rfl) (by kernel_rfl) (fun _ _ _ h => h) (by rfl) ?_ (by assumption) ?_
      rotate_left
      · intro w_ hSw
        (try dsimp only at hSw)
        go_simp
        (try with_reducible rfl)
      try simp only [Act.put, List.setIfInBounds_toArray, List.set_cons_zero, List.set_cons_succ]
      refine regTake (i := 10) (v := ?_) rfl (by kernel_rfl) (by kernel_rfl) (by kernel_rfl) (fun _ _ _ h => h) (by rfl) ?_ (by assumption) ?_
      rotate_left
      · intro w_ hSw
        (try dsimp only at hSw)
        go_simp
        (try with_reducible rfl)
      try simp only [Act.put, List.setIfInBounds_toArray, List.set_cons_zero, List.set_cons_succ]
      refine regTake (i := 11) (v := ?_) rfl (by kernel_rfl) (by kernel_rfl) (by kernel_rfl) (fun _ _ _ h => h) (by rfl) ?_ (by assumption) ?_
      rotate_left
      · intro w_ hSw
        (try dsimp only at hSw)
        go_simp
        (try with_reducible rfl)
      try simp only [Act.put, List.setIfInBounds_toArray, List.set_cons_zero, List.set_cons_succ]
      refine regTake (i := 12) (v := ?_) rfl (by kernel_rfl) (by kernel_rfl) (by kernel_rfl) (fun _ _ _ h => h) (by rfl) ?_ (by assumption) ?_
      rotate_left
      · intro w_ hSw
        (try dsimp only at hSw)
        go_simp
        (try with_reducible rfl)
      try simp only [Act.put, List.setIfInBounds_toArray, List.set_cons_zero, List.set_cons_succ]
      refine regTake (i := 13) (v := ?_) rfl (by kernel_rfl) (by kernel_rfl) (by kernel_rfl) (fun _ _ _ h => h) (by rfl) ?_ (by assumption) ?_
      rotate_left
      · intro w_ hSw
        (try dsimp only at hSw)
        go_simp
        (try with_reducible rfl)
      try simp only [Act.put, List.setIfInBounds_toArray, List.set_cons_zero, List.set_cons_succ]
      refine regTake (i := 14) (v := ?_) rfl (by kernel_rfl) (by kernel_rfl) (by kernel_rfl) (fun _ _ _ h => h) (by rfl) ?_ (by assumption) ?_
      rotate_left
      · intro w_ hSw
        (try dsimp only at hSw)
        go_simp
        (try with_reducible rfl)
      try simp only [Act.put, List.setIfInBounds_toArray, List.set_cons_zero, List.set_cons_succ]
      refine regTake (i := 15) (v := ?_) rfl (by kernel_rfl) (by kernel_rfl) (by kernel_rfl) (fun _ _ _ h => h) (by rfl) ?_ (by assumption) ?_
      rotate_left
      · intro w_ hSw
        (try dsimp only at hSw)
        go_simp
        (try with_reducible rfl)
      try simp only [Act.put, List.setIfInBounds_toArray, List.set_cons_zero, List.set_cons_succ]
      refine regCall (i := 16) (by kernel_rfl) rfl (by rfl) (fun K hK => ?_)
      go_simp
      (go_at_call 72; have TH6 : TbS w z2 (some ⟨bcy, offcy, none⟩) 4 c3 _ := ⟨hHeld.1, hHeld.2.1, hHeld.2.2.1, hHeld.2.2.2.1, hHeld.2.2.2.2.1, hHeld.2.2.2.2.2.1, hHeld.2.2.2.2.2.2.1, hHeld.2.2.2.2.2.2.2.1⟩; refine (same_this ⟨u0, u1, u2, u3⟩ hyu [.int .i64 u0, .int .i64 u1, .string u2, .slice Du u3.length du] _ B (Nat.le_trans hB0 hHeld.1.size) (by rw [FNode.c_eq]; exact RdVs.cons (by unfold RdC; rfl) (RdVs.cons (by unfold RdC; rfl) (RdVs.cons (by unfold RdC; rfl) (RdVs.cons (Qu.out.below hHeld.1 hB0) (RdVs.nil _ _)))))).mono ?_; rw [HSU.out]; rintro e w6 ⟨rfl, hb6⟩; have TX6 := TH6.call hb6)
      refine hK.out _ _ ?_ (fun hHeld => ?_)
      · (try dsimp only)
        (first | exact ⟨TX0.drew.1, TX0.drew.2.1, TX0.drew.2.2.1, TX0.drew.2.2.2.1, TX0.drew.2.2.2.2.1, TX0.drew.2.2.2.2.2.1, TX0.drew.2.2.2.2.2.2.1, TX0.drew.2.2.2.2.2.2.2, (TX0.drew.1.cell (p := ⟨bcy, offcy + 4, none⟩) hbl).trans ct_0, (TX0.drew.1.cell (p := ⟨bcy, offcy + 5, none⟩) hbl).trans ct_1, (TX0.drew.1.cell (p := ⟨bcy, offcy + 6, none⟩) hbl).trans ct_2, (TX0.drew.1.cell (p := ⟨bcy, offcy + 7, none⟩) hbl).trans ct_3, (TX0.drew.1.cell (p := ⟨bcy, offcy + 8, none⟩) hbl).trans cu_0, (TX0.drew.1.cell (p := ⟨bcy, offcy + 9, none⟩) hbl).trans cu_1, (TX0.drew.1.cell (p := ⟨bcy, offcy + 10, none⟩) hbl).trans cu_2, (TX0.drew.1.cell (p := ⟨bcy, offcy + 11, none⟩) hbl).trans cu_3⟩ | exact ⟨TX6.1, TX6.2.1, TX6.2.2.1, TX6.2.2.2.1, TX6.2.2.2.2.1, TX6.2.2.2.2.2.1, TX6.2.2.2.2.2.2.1, TX6.2.2.2.2.2.2.2, (TX6.1.cell (p := ⟨bcy, offcy + 4, none⟩) hbl).trans ct_0, (TX6.1.cell (p := ⟨bcy, offcy + 5, none⟩) hbl).trans ct_1, (TX6.1.cell (p := ⟨bcy, offcy + 6, none⟩) hbl).trans ct_2, (TX6.1.cell (p := ⟨bcy, offcy + 7, none⟩) hbl).trans ct_3, (TX6.1.cell (p := ⟨bcy, offcy + 8, none⟩) hbl).trans cu_0, (TX6.1.cell (p := ⟨bcy, offcy + 9, none⟩) hbl).trans cu_1, (TX6.1.cell (p := ⟨bcy, offcy + 10, none⟩) hbl).trans cu_2, (TX6.1.cell (p := ⟨bcy, offcy + 11, none⟩) hbl).trans cu_3⟩ | exact ⟨TX5.1, TX5.2.1, TX5.2.2.1, TX5.2.2.2.1, TX5.2.2.2.2.1, TX5.2.2.2.2.2.1, TX5.2.2.2.2.2.2.1, TX5.2.2.2.2.2.2.2, (TX5.1.cell (p := ⟨bcy, offcy + 4, none⟩) hbl).trans ct_0, (TX5.1.cell (p := ⟨bcy, offcy + 5, none⟩) hbl).trans ct_1, (TX5.1.cell (p := ⟨bcy, offcy + 6, none⟩) hbl).trans ct_2, (TX5.1.cell (p := ⟨bcy, offcy + 7, none⟩) hbl).trans ct_3, (TX5.1.cell (p := ⟨bcy, offcy + 8, none⟩) hbl).trans cu_0, (TX5.1.cell (p := ⟨bcy, offcy + 9, none⟩) hbl).trans cu_1, (TX5.1.cell (p := ⟨bcy, offcy + 10, none⟩) hbl).trans cu_2, (TX5.1.cell (p := ⟨bcy, offcy + 11, none⟩) hbl).trans cu_3⟩ | exact ⟨TX4.1, TX4.2.1, TX4.2.2.1, TX4.2.2.2.1, TX4.2.2.2.2.1, TX4.2.2.2.2.2.1, TX4.2.2.2.2.2.2.1, TX4.2.2.2.2.2.2.2, (TX4.1.cell (p := ⟨bcy, offcy + 4, none⟩) hbl).trans ct_0, (TX4.1.cell (p := ⟨bcy, offcy + 5, none⟩) hbl).trans ct_1, (TX4.1.cell (p := ⟨bcy, offcy + 6, none⟩) hbl).trans ct_2, (TX4.1.cell (p := ⟨bcy, offcy + 7, none⟩) hbl).trans ct_3, (TX4.1.cell (p := ⟨bcy, offcy + 8, none⟩) hbl).trans cu_0, (TX4.1.cell (p := ⟨bcy, offcy + 9, none⟩) hbl).trans cu_1, (TX4.1.cell (p := ⟨bcy, offcy + 10, none⟩) hbl).trans cu_2, (TX4.1.cell (p := ⟨bcy, offcy + 11, none⟩) hbl).trans cu_3⟩)
      clear hK K
      try simp only [Act.put, List.setIfInBounds_toArray, List.set_cons_zero, List.set_cons_succ]
      refine regTake (i := 17) (v := ?_) rfl (by kernel_rfl) (by kernel_rfl) (by kernel_rfl) (fun _ _ _ h => h) (by rfl) ?_ (by assumption) ?_
      rotate_left
      · intro w_ hSw
        (try dsimp only at hSw)
        go_simp
        (try with_reducible rfl)
      try simp only [Act.put, List.setIfInBounds_toArray, List.set_cons_zero, List.set_cons_succ]
      refine regSkip (i := 18) rfl (by kernel_rfl) (by kernel_rfl) (by kernel_rfl) (fun _ _ _ h => h) (by rfl) (by assumption) ?_
      try simp only [Act.put, List.setIfInBounds_toArray, List.set_cons_zero, List.set_cons_succ]
      refine regSkip (i := 19) rfl (by kernel_rfl) (by kernel_rfl) (by kernel_rfl) (fun _ _ _ h => h) (by rfl) (by assumption) ?_
      try simp only [Act.put, List.setIfInBounds_toArray, List.set_cons_zero, List.set_cons_succ]
      refine regSkip (i := 20) rfl (by kernel_rfl) (by kernel_rfl) (by kernel_rfl) (fun _ _ _ h => h) (by rfl) (by assumption) ?_
      try simp only [Act.put, List.setIfInBounds_toArray, List.set_cons_zero, List.set_cons_succ]
      refine regSkip (i := 21) rfl (by kernel_rfl) (by kernel_rfl) (by kernel_rfl) (fun _ _ _ h => h) (by rfl) (by assumption) ?_
      try simp only [Act.put, List.setIfInBounds_toArray, List.set_cons_zero, List.set_cons_succ]
      refine regTake (i := 22) (v := ?_) rfl (by kernel_rfl) (by kernel_rfl) (by kernel_rfl) (fun _ _ _ h => h) (by rfl) ?_ (by assumption) ?_
      rotate_left
      · intro w_ hSw
        (try dsimp only at hSw)
        go_simp
        (try with_reducible rfl)
      try simp only [Act.put, List.setIfInBounds_toArray, List.set_cons_zero, List.set_cons_succ]
      refine regTake (i := 23) (v := ?_) rfl (by kernel_rfl) (by kernel_rfl) (by kernel_rfl) (fun _ _ _ h => h) (by rfl) ?_ (by assumption) ?_
      rotate_left
      · intro w_ hSw
        (try dsimp only at hSw)
        go_simp
        (try with_reducible rfl)
      try simp only [Act.put, List.setIfInBounds_toArray, List.set_cons_zero, List.set_cons_succ]
      refine regTake (i := 24) (v := ?_) rfl (by kernel_rfl) (by kernel_rfl) (by kernel_rfl) (fun _ _ _ h => h) (by rfl) ?_ (by assumption) ?_
      rotate_left
      · intro w_ hSw
        (try dsimp only at hSw)
        go_simp
        (try with_reducible rfl)
      try simp only [Act.put, List.setIfInBounds_toArray, List.set_cons_zero, List.set_cons_succ]
      refine wpAnyH_done (by kernel_rfl) ?_ _
      go_wp2_with fail
      go_ret
      exact ⟨ret_bool (by first | rfl | (simp_all; done)), TX6.1⟩
end Go.Proofs.Ytgejkfcemlkclaa
