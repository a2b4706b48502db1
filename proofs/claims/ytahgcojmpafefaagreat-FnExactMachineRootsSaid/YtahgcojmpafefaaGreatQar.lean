/-
  The law of MachineRoots: in every input the program answers as the reference. Conditions: none.
-/
import Derived.Test.YtahgcojmpafefaaGreatQai
import Derived.Test.YtahgcojmpafefaaGreatQam
import Derived.Test.YtahgcojmpafefaaGreatQan
import Derived.Test.YtahgcojmpafefaaGreatQao
import Derived.Test.YtahgcojmpafefaaGreatQap
import Derived.Test.YtahgcojmpafefaaGreatQaq
set_option linter.unusedVariables false
set_option linter.unusedSimpArgs false
namespace Go.Proofs.YtahgcojmpafefaaGreat
set_option maxHeartbeats 40000000
open Lib (hid)
open Go.ChangeShapes Go.WideShapes Go.ChangeAt Go.RowKit Go.Deep Go.Joins
open Go.ChangeMaps (open_string shut_string)
set_option maxRecDepth 100000

theorem fnExactMachineRoots_walk {H : Type} {enc : TypeId × Value → H} (W : World) (base : Nat) (v0 : Value) {d0 : DataW H} {p0 : List MemPlace}
    (k0 : Value.okWide Tryz.prog W .any base 36 v0)
    (h0 : DataW.Trod enc Tryz.prog W 0 (fun _ => true) true 36 v0 d0 p0) :
    Calls Tryz.prog 3 #[v0] W fun e w' => e = .returned (.bool true) ∧ Below W.heap.size W w' := by
  obtain ⟨cs0, rfl, hcs0⟩ := okWide_struct (fs := flds Tryz.prog 36) (by kernel_rfl) k0
  obtain ⟨fu, hfu⟩ := h0
  obtain ⟨x, r, ok⟩ := read_Machine fu _ _ hfu
  obtain ⟨z0, z1, z2, z3, z4, z5, ⟨z6⟩, z7, z8, z9, z10, ⟨z11, z12, z13⟩⟩ := x
  have RV0 := r
  rw [FMachine.c_eq] at r
  obtain ⟨us, hus⟩ : ∃ us, us = cs0.toList := ⟨_, rfl⟩
  have hus2 : cs0 = us.toArray := by rw [hus]
  subst hus2
  clear hus
  have r_ : RdVs W W.heap.size [.v (.int .i64 z0), .v (.string z1), .v (.int .i64 z2), .v (.int .i64 z3), .s 82 5 z4.length (FValue.flat z4), .s 140 2 z5.length (FPlace.flat z5), .s 201 6 z6.length (FBlock.flat z6), .s 79 3 z7.length (FObject.flat z7), .s 144 5 z8.length (FClosure.flat z8), .s 93 19 z9.length (FGen.flat z9), .s 91 13 z10.length (FFrame.flat z10), .v (.string z11), .s 208 2 z12.length (FHeader.flat z12), .s 210 2 z13.length (FBuffer.flat z13)] us := by simpa [Value.cells] using r
  have RV1 : RdVs W W.heap.size (FMachine.c ⟨z0, z1, z2, z3, z4, z5, ⟨z6⟩, z7, z8, z9, z10, ⟨z11, z12, z13⟩⟩) us := by simpa [Value.cells] using RV0
  clear r RV0 hfu k0 hcs0
  obtain ⟨us0, rfl, r_0⟩ := r_.unv
  obtain ⟨us1, rfl, r_1⟩ := r_0.unv
  obtain ⟨us2, rfl, r_2⟩ := r_1.unv
  obtain ⟨us3, rfl, r_3⟩ := r_2.unv
  obtain ⟨A4, c4, us4, rfl, _, r_4⟩ := r_3.uns
  obtain ⟨A5, c5, us5, rfl, _, r_5⟩ := r_4.uns
  obtain ⟨A6, c6, us6, rfl, _, r_6⟩ := r_5.uns
  obtain ⟨A7, c7, us7, rfl, _, r_7⟩ := r_6.uns
  obtain ⟨A8, c8, us8, rfl, _, r_8⟩ := r_7.uns
  obtain ⟨A9, c9, us9, rfl, _, r_9⟩ := r_8.uns
  obtain ⟨A10, c10, us10, rfl, _, r_10⟩ := r_9.uns
  obtain ⟨us11, rfl, r_11⟩ := r_10.unv
  obtain ⟨A12, c12, us12, rfl, _, r_12⟩ := r_11.uns
  obtain ⟨A13, c13, us13, rfl, _, r_13⟩ := r_12.uns
  obtain rfl := r_13.un0
  clear r_ r_0 r_1 r_2 r_3 r_4 r_5 r_6 r_7 r_8 r_9 r_10 r_11 r_12 r_13
  have RV := hid RV1
  have OK := hid ok
  clear RV1 ok
  by_cases hn : (((FMachine.wt ⟨z0, z1, z2, z3, z4, z5, ⟨z6⟩, z7, z8, z9, z10, ⟨z11, z12, z13⟩⟩) : Nat) : Int) ≤ 1048576
  case neg =>
    have HP := hid (bud_neg hn)
    have hp : bud 1048576 (FMachine.wt ⟨z0, z1, z2, z3, z4, z5, ⟨z6⟩, z7, z8, z9, z10, ⟨z11, z12, z13⟩⟩) < 0 := by rw [HP.out]; omega
    go_enter Tryz.func3, Tryz.ntmps3
    go_wp2_with fail
    refine calls_worldD _ (fun X => Blk X W.heap.size 36 #[.int .i64 z0, .string z1, .int .i64 z2, .int .i64 z3, .slice A4 z4.length c4, .slice A5 z5.length c5, .slice A6 z6.length c6, .slice A7 z7.length c7, .slice A8 z8.length c8, .slice A9 z9.length c9, .slice A10 z10.length c10, .string z11, .slice A12 z12.length c12, .slice A13 z13.length c13] ∧ Below W.heap.size W X ∧ W.heap.size < X.heap.size) ⟨Blk.new _ _ _, (Below.refl _ _).alloc (Nat.le_refl _) _, by simp⟩ ?_
    rintro w0 ⟨bA, hB0, s0⟩
    refine (szMachine_any ⟨z0, z1, z2, z3, z4, z5, ⟨z6⟩, z7, z8, z9, z10, ⟨z11, z12, z13⟩⟩ OK.out [.int .i64 z0, .string z1, .int .i64 z2, .int .i64 z3, .slice A4 z4.length c4, .slice A5 z5.length c5, .slice A6 z6.length c6, .slice A7 z7.length c7, .slice A8 z8.length c8, .slice A9 z9.length c9, .slice A10 z10.length c10, .string z11, .slice A12 z12.length c12, .slice A13 z13.length c13] _ _ W.heap.size (by omega) (by omega) (by omega) (RV.out.on hB0 (Nat.le_refl _) (Nat.le_refl _))).mono ?_
    rintro e w1 ⟨rfl, hb⟩
    have hB := hB0.trans (hb.mono (by omega))
    replace bA := bA.below hb (Nat.le_refl _)
    have bA_0 : w1.cell? ⟨W.heap.size, 0, none⟩ = some (.int .i64 z0) := bA.cell 0
    have bA_1 : w1.cell? ⟨W.heap.size, 1, none⟩ = some (.string z1) := bA.cell 1
    have bA_2 : w1.cell? ⟨W.heap.size, 2, none⟩ = some (.int .i64 z2) := bA.cell 2
    have bA_3 : w1.cell? ⟨W.heap.size, 3, none⟩ = some (.int .i64 z3) := bA.cell 3
    have bA_4 : w1.cell? ⟨W.heap.size, 4, none⟩ = some (.slice A4 z4.length c4) := bA.cell 4
    have bA_5 : w1.cell? ⟨W.heap.size, 5, none⟩ = some (.slice A5 z5.length c5) := bA.cell 5
    have bA_6 : w1.cell? ⟨W.heap.size, 6, none⟩ = some (.slice A6 z6.length c6) := bA.cell 6
    have bA_7 : w1.cell? ⟨W.heap.size, 7, none⟩ = some (.slice A7 z7.length c7) := bA.cell 7
    have bA_8 : w1.cell? ⟨W.heap.size, 8, none⟩ = some (.slice A8 z8.length c8) := bA.cell 8
    have bA_9 : w1.cell? ⟨W.heap.size, 9, none⟩ = some (.slice A9 z9.length c9) := bA.cell 9
    have bA_10 : w1.cell? ⟨W.heap.size, 10, none⟩ = some (.slice A10 z10.length c10) := bA.cell 10
    have bA_11 : w1.cell? ⟨W.heap.size, 11, none⟩ = some (.string z11) := bA.cell 11
    have bA_12 : w1.cell? ⟨W.heap.size, 12, none⟩ = some (.slice A12 z12.length c12) := bA.cell 12
    have bA_13 : w1.cell? ⟨W.heap.size, 13, none⟩ = some (.slice A13 z13.length c13) := bA.cell 13
    go_wp2_with fail
    go_ret
    exact ⟨rfl, hB⟩
  have hw : (FMachine.wt ⟨z0, z1, z2, z3, z4, z5, ⟨z6⟩, z7, z8, z9, z10, ⟨z11, z12, z13⟩⟩) ≤ 1048576 := by omega
  have HWx := hid (show (FMachine.wt ⟨z0, z1, z2, z3, z4, z5, ⟨z6⟩, z7, z8, z9, z10, ⟨z11, z12, z13⟩⟩) ≤ 1000000000 by omega)
  have HP := hid (bud_pos hn)
  have hp : 0 ≤ bud 1048576 (FMachine.wt ⟨z0, z1, z2, z3, z4, z5, ⟨z6⟩, z7, z8, z9, z10, ⟨z11, z12, z13⟩⟩) := by rw [HP.out]; omega
  clear HP
  have hqw0 : (mVals ⟨z0, z1, z2, z3, z4, z5, ⟨z6⟩, z7, z8, z9, z10, ⟨z11, z12, z13⟩⟩).length + FValue.wts (mVals ⟨z0, z1, z2, z3, z4, z5, ⟨z6⟩, z7, z8, z9, z10, ⟨z11, z12, z13⟩⟩) ≤ 1000000000 := (by have h := lw_m ⟨z0, z1, z2, z3, z4, z5, ⟨z6⟩, z7, z8, z9, z10, ⟨z11, z12, z13⟩⟩; unfold lw at h; omega)
  have hqc0 := cntb_ValueS (mVals ⟨z0, z1, z2, z3, z4, z5, ⟨z6⟩, z7, z8, z9, z10, ⟨z11, z12, z13⟩⟩)
  generalize hq0 : mVals ⟨z0, z1, z2, z3, z4, z5, ⟨z6⟩, z7, z8, z9, z10, ⟨z11, z12, z13⟩⟩ = q0 at *
  have HQ0 := hid hq0
  clear hq0
  have HW0 := hid hqw0
  have hxc := cntb_Machine ⟨z0, z1, z2, z3, z4, z5, ⟨z6⟩, z7, z8, z9, z10, ⟨z11, z12, z13⟩⟩
  obtain ⟨kx, hskx⟩ : ∃ k : Int, k = 1 + (scnt (FMachine.c ⟨z0, z1, z2, z3, z4, z5, ⟨z6⟩, z7, z8, z9, z10, ⟨z11, z12, z13⟩⟩) : Int) := ⟨_, rfl⟩
  have hkkx : kx = 1 + (scnt (FMachine.c ⟨z0, z1, z2, z3, z4, z5, ⟨z6⟩, z7, z8, z9, z10, ⟨z11, z12, z13⟩⟩) : Int) := hskx
  have npkx : 1 ≤ kx := by omega
  have nkkx : ¬ kx < 0 := by omega
  have dkkx : decide (kx < 0) = false := by simpa using nkkx
  have nbkx : kx ≤ 1000000000000 := by omega
  have HSkx := hid hskx
  have HKkx := hid hkkx
  clear hskx hkkx
  obtain ⟨m0, hsm0⟩ : ∃ k : Int, k = 1 + (cntL (FValue.flat q0) : Int) := ⟨_, rfl⟩
  have hkm0 : m0 = 1 + (cntL (FValue.flat q0) : Int) := hsm0
  have npm0 : 1 ≤ m0 := by omega
  have nkm0 : ¬ m0 < 0 := by omega
  have dkm0 : decide (m0 < 0) = false := by simpa using nkm0
  have nbm0 : m0 ≤ 1000000000000 := by omega
  have HSm0 := hid hsm0
  have HKm0 := hid hkm0
  clear hsm0 hkm0
  go_enter Tryz.func3, Tryz.ntmps3
  go_wp2_with fail
  refine calls_worldD _ (fun X => Blk X W.heap.size 36 #[.int .i64 z0, .string z1, .int .i64 z2, .int .i64 z3, .slice A4 z4.length c4, .slice A5 z5.length c5, .slice A6 z6.length c6, .slice A7 z7.length c7, .slice A8 z8.length c8, .slice A9 z9.length c9, .slice A10 z10.length c10, .string z11, .slice A12 z12.length c12, .slice A13 z13.length c13] ∧ Below W.heap.size W X ∧ W.heap.size < X.heap.size) ⟨Blk.new _ _ _, (Below.refl _ _).alloc (Nat.le_refl _) _, by simp⟩ ?_
  rintro w0 ⟨bA, hB0, s0⟩
  refine (szMachine_any ⟨z0, z1, z2, z3, z4, z5, ⟨z6⟩, z7, z8, z9, z10, ⟨z11, z12, z13⟩⟩ OK.out [.int .i64 z0, .string z1, .int .i64 z2, .int .i64 z3, .slice A4 z4.length c4, .slice A5 z5.length c5, .slice A6 z6.length c6, .slice A7 z7.length c7, .slice A8 z8.length c8, .slice A9 z9.length c9, .slice A10 z10.length c10, .string z11, .slice A12 z12.length c12, .slice A13 z13.length c13] _ _ W.heap.size (by omega) (by omega) (by omega) (RV.out.on hB0 (Nat.le_refl _) (Nat.le_refl _))).mono ?_
  have hB := hB0
  clear hB0
  rintro e w1 ⟨rfl, hb⟩
  replace bA := bA.below hb (Nat.le_refl _)
  replace hB := hB.trans (hb.mono (by omega))
  have s1 : w0.heap.size ≤ w1.heap.size := hb.size
  clear hb
  have bA_0 : w1.cell? ⟨W.heap.size, 0, none⟩ = some (.int .i64 z0) := bA.cell 0
  have bA_1 : w1.cell? ⟨W.heap.size, 1, none⟩ = some (.string z1) := bA.cell 1
  have bA_2 : w1.cell? ⟨W.heap.size, 2, none⟩ = some (.int .i64 z2) := bA.cell 2
  have bA_3 : w1.cell? ⟨W.heap.size, 3, none⟩ = some (.int .i64 z3) := bA.cell 3
  have bA_4 : w1.cell? ⟨W.heap.size, 4, none⟩ = some (.slice A4 z4.length c4) := bA.cell 4
  have bA_5 : w1.cell? ⟨W.heap.size, 5, none⟩ = some (.slice A5 z5.length c5) := bA.cell 5
  have bA_6 : w1.cell? ⟨W.heap.size, 6, none⟩ = some (.slice A6 z6.length c6) := bA.cell 6
  have bA_7 : w1.cell? ⟨W.heap.size, 7, none⟩ = some (.slice A7 z7.length c7) := bA.cell 7
  have bA_8 : w1.cell? ⟨W.heap.size, 8, none⟩ = some (.slice A8 z8.length c8) := bA.cell 8
  have bA_9 : w1.cell? ⟨W.heap.size, 9, none⟩ = some (.slice A9 z9.length c9) := bA.cell 9
  have bA_10 : w1.cell? ⟨W.heap.size, 10, none⟩ = some (.slice A10 z10.length c10) := bA.cell 10
  have bA_11 : w1.cell? ⟨W.heap.size, 11, none⟩ = some (.string z11) := bA.cell 11
  have bA_12 : w1.cell? ⟨W.heap.size, 12, none⟩ = some (.slice A12 z12.length c12) := bA.cell 12
  have bA_13 : w1.cell? ⟨W.heap.size, 13, none⟩ = some (.slice A13 z13.length c13) := bA.cell 13
  have bA_l := bA.lt
  go_wp2_with fail
  clear bA_0 bA_1 bA_2 bA_3 bA_4 bA_5 bA_6 bA_7 bA_8 bA_9 bA_10 bA_11 bA_12 bA_13 bA_l
  refine (toMachine_any ⟨z0, z1, z2, z3, z4, z5, ⟨z6⟩, z7, z8, z9, z10, ⟨z11, z12, z13⟩⟩ hw [.int .i64 z0, .string z1, .int .i64 z2, .int .i64 z3, .slice A4 z4.length c4, .slice A5 z5.length c5, .slice A6 z6.length c6, .slice A7 z7.length c7, .slice A8 z8.length c8, .slice A9 z9.length c9, .slice A10 z10.length c10, .string z11, .slice A12 z12.length c12, .slice A13 z13.length c13] _ W.heap.size (by omega) (RV.out.on hB (Nat.le_refl _) (Nat.le_refl _))).mono ?_
  rw [FMachine.c_eq]
  rintro e w2 ⟨us, rfl, own, hb⟩
  replace bA := bA.below hb (Nat.le_refl _)
  replace hB := hB.trans (hb.mono (by omega))
  have s2 : w1.heap.size ≤ w2.heap.size := hb.size
  clear hb
  have hv := own.vs
  obtain ⟨us_0, rfl, hv_0⟩ := hv.unv
  obtain ⟨us_1, rfl, hv_1⟩ := hv_0.unv
  obtain ⟨us_2, rfl, hv_2⟩ := hv_1.unv
  obtain ⟨us_3, rfl, hv_3⟩ := hv_2.unv
  obtain ⟨U4, Uc4, us_4, rfl, _, hv_4⟩ := hv_3.uns
  obtain ⟨U5, Uc5, us_5, rfl, _, hv_5⟩ := hv_4.uns
  obtain ⟨U6, Uc6, us_6, rfl, _, hv_6⟩ := hv_5.uns
  obtain ⟨U7, Uc7, us_7, rfl, _, hv_7⟩ := hv_6.uns
  obtain ⟨U8, Uc8, us_8, rfl, _, hv_8⟩ := hv_7.uns
  obtain ⟨U9, Uc9, us_9, rfl, _, hv_9⟩ := hv_8.uns
  obtain ⟨U10, Uc10, us_10, rfl, _, hv_10⟩ := hv_9.uns
  obtain ⟨us_11, rfl, hv_11⟩ := hv_10.unv
  obtain ⟨U12, Uc12, us_12, rfl, _, hv_12⟩ := hv_11.uns
  obtain ⟨U13, Uc13, us_13, rfl, _, hv_13⟩ := hv_12.uns
  obtain rfl := hv_13.un0
  clear hv hv_0 hv_1 hv_2 hv_3 hv_4 hv_5 hv_6 hv_7 hv_8 hv_9 hv_10 hv_11 hv_12 hv_13
  have iu := own
  clear own
  have bA_0 : w2.cell? ⟨W.heap.size, 0, none⟩ = some (.int .i64 z0) := bA.cell 0
  have bA_1 : w2.cell? ⟨W.heap.size, 1, none⟩ = some (.string z1) := bA.cell 1
  have bA_2 : w2.cell? ⟨W.heap.size, 2, none⟩ = some (.int .i64 z2) := bA.cell 2
  have bA_3 : w2.cell? ⟨W.heap.size, 3, none⟩ = some (.int .i64 z3) := bA.cell 3
  have bA_4 : w2.cell? ⟨W.heap.size, 4, none⟩ = some (.slice A4 z4.length c4) := bA.cell 4
  have bA_5 : w2.cell? ⟨W.heap.size, 5, none⟩ = some (.slice A5 z5.length c5) := bA.cell 5
  have bA_6 : w2.cell? ⟨W.heap.size, 6, none⟩ = some (.slice A6 z6.length c6) := bA.cell 6
  have bA_7 : w2.cell? ⟨W.heap.size, 7, none⟩ = some (.slice A7 z7.length c7) := bA.cell 7
  have bA_8 : w2.cell? ⟨W.heap.size, 8, none⟩ = some (.slice A8 z8.length c8) := bA.cell 8
  have bA_9 : w2.cell? ⟨W.heap.size, 9, none⟩ = some (.slice A9 z9.length c9) := bA.cell 9
  have bA_10 : w2.cell? ⟨W.heap.size, 10, none⟩ = some (.slice A10 z10.length c10) := bA.cell 10
  have bA_11 : w2.cell? ⟨W.heap.size, 11, none⟩ = some (.string z11) := bA.cell 11
  have bA_12 : w2.cell? ⟨W.heap.size, 12, none⟩ = some (.slice A12 z12.length c12) := bA.cell 12
  have bA_13 : w2.cell? ⟨W.heap.size, 13, none⟩ = some (.slice A13 z13.length c13) := bA.cell 13
  have bA_l := bA.lt
  go_wp2_with fail
  clear bA_0 bA_1 bA_2 bA_3 bA_4 bA_5 bA_6 bA_7 bA_8 bA_9 bA_10 bA_11 bA_12 bA_13 bA_l
  refine (maRo_spec ⟨z0, z1, z2, z3, z4, z5, ⟨z6⟩, z7, z8, z9, z10, ⟨z11, z12, z13⟩⟩ hw _ _ w2.heap.size (Nat.le_refl _) (by rw [FMachine.c_eq]; exact iu.vs)).mono ?_
  rw [HQ0.out]
  rintro e w3 ⟨G0_0, Gc0_0, rfl, own0, hb⟩
  replace bA := bA.below hb (Nat.le_refl _)
  replace iu := iu.below hb (Nat.le_refl _)
  replace hB := hB.trans (hb.mono (by omega))
  have s3 : w2.heap.size ≤ w3.heap.size := hb.size
  clear hb
  have iw0 := own0
  clear own0
  clear iu
  have bA_0 : w3.cell? ⟨W.heap.size, 0, none⟩ = some (.int .i64 z0) := bA.cell 0
  have bA_1 : w3.cell? ⟨W.heap.size, 1, none⟩ = some (.string z1) := bA.cell 1
  have bA_2 : w3.cell? ⟨W.heap.size, 2, none⟩ = some (.int .i64 z2) := bA.cell 2
  have bA_3 : w3.cell? ⟨W.heap.size, 3, none⟩ = some (.int .i64 z3) := bA.cell 3
  have bA_4 : w3.cell? ⟨W.heap.size, 4, none⟩ = some (.slice A4 z4.length c4) := bA.cell 4
  have bA_5 : w3.cell? ⟨W.heap.size, 5, none⟩ = some (.slice A5 z5.length c5) := bA.cell 5
  have bA_6 : w3.cell? ⟨W.heap.size, 6, none⟩ = some (.slice A6 z6.length c6) := bA.cell 6
  have bA_7 : w3.cell? ⟨W.heap.size, 7, none⟩ = some (.slice A7 z7.length c7) := bA.cell 7
  have bA_8 : w3.cell? ⟨W.heap.size, 8, none⟩ = some (.slice A8 z8.length c8) := bA.cell 8
  have bA_9 : w3.cell? ⟨W.heap.size, 9, none⟩ = some (.slice A9 z9.length c9) := bA.cell 9
  have bA_10 : w3.cell? ⟨W.heap.size, 10, none⟩ = some (.slice A10 z10.length c10) := bA.cell 10
  have bA_11 : w3.cell? ⟨W.heap.size, 11, none⟩ = some (.string z11) := bA.cell 11
  have bA_12 : w3.cell? ⟨W.heap.size, 12, none⟩ = some (.slice A12 z12.length c12) := bA.cell 12
  have bA_13 : w3.cell? ⟨W.heap.size, 13, none⟩ = some (.slice A13 z13.length c13) := bA.cell 13
  have bA_l := bA.lt
  go_wp2_with fail
  clear bA_0 bA_1 bA_2 bA_3 bA_4 bA_5 bA_6 bA_7 bA_8 bA_9 bA_10 bA_11 bA_12 bA_13 bA_l
  refine (toMachine_any ⟨z0, z1, z2, z3, z4, z5, ⟨z6⟩, z7, z8, z9, z10, ⟨z11, z12, z13⟩⟩ hw [.int .i64 z0, .string z1, .int .i64 z2, .int .i64 z3, .slice A4 z4.length c4, .slice A5 z5.length c5, .slice A6 z6.length c6, .slice A7 z7.length c7, .slice A8 z8.length c8, .slice A9 z9.length c9, .slice A10 z10.length c10, .string z11, .slice A12 z12.length c12, .slice A13 z13.length c13] _ W.heap.size (by omega) (RV.out.on hB (Nat.le_refl _) (Nat.le_refl _))).mono ?_
  rw [FMachine.c_eq]
  rintro e w4 ⟨us, rfl, own, hb⟩
  replace bA := bA.below hb (Nat.le_refl _)
  replace iw0 := iw0.below hb (Nat.le_refl _)
  replace hB := hB.trans (hb.mono (by omega))
  have s4 : w3.heap.size ≤ w4.heap.size := hb.size
  clear hb
  have hv := own.vs
  obtain ⟨us_0, rfl, hv_0⟩ := hv.unv
  obtain ⟨us_1, rfl, hv_1⟩ := hv_0.unv
  obtain ⟨us_2, rfl, hv_2⟩ := hv_1.unv
  obtain ⟨us_3, rfl, hv_3⟩ := hv_2.unv
  obtain ⟨X4, Xc4, us_4, rfl, _, hv_4⟩ := hv_3.uns
  obtain ⟨X5, Xc5, us_5, rfl, _, hv_5⟩ := hv_4.uns
  obtain ⟨X6, Xc6, us_6, rfl, _, hv_6⟩ := hv_5.uns
  obtain ⟨X7, Xc7, us_7, rfl, _, hv_7⟩ := hv_6.uns
  obtain ⟨X8, Xc8, us_8, rfl, _, hv_8⟩ := hv_7.uns
  obtain ⟨X9, Xc9, us_9, rfl, _, hv_9⟩ := hv_8.uns
  obtain ⟨X10, Xc10, us_10, rfl, _, hv_10⟩ := hv_9.uns
  obtain ⟨us_11, rfl, hv_11⟩ := hv_10.unv
  obtain ⟨X12, Xc12, us_12, rfl, _, hv_12⟩ := hv_11.uns
  obtain ⟨X13, Xc13, us_13, rfl, _, hv_13⟩ := hv_12.uns
  obtain rfl := hv_13.un0
  clear hv hv_0 hv_1 hv_2 hv_3 hv_4 hv_5 hv_6 hv_7 hv_8 hv_9 hv_10 hv_11 hv_12 hv_13
  have ix := own
  clear own
  have bA_0 : w4.cell? ⟨W.heap.size, 0, none⟩ = some (.int .i64 z0) := bA.cell 0
  have bA_1 : w4.cell? ⟨W.heap.size, 1, none⟩ = some (.string z1) := bA.cell 1
  have bA_2 : w4.cell? ⟨W.heap.size, 2, none⟩ = some (.int .i64 z2) := bA.cell 2
  have bA_3 : w4.cell? ⟨W.heap.size, 3, none⟩ = some (.int .i64 z3) := bA.cell 3
  have bA_4 : w4.cell? ⟨W.heap.size, 4, none⟩ = some (.slice A4 z4.length c4) := bA.cell 4
  have bA_5 : w4.cell? ⟨W.heap.size, 5, none⟩ = some (.slice A5 z5.length c5) := bA.cell 5
  have bA_6 : w4.cell? ⟨W.heap.size, 6, none⟩ = some (.slice A6 z6.length c6) := bA.cell 6
  have bA_7 : w4.cell? ⟨W.heap.size, 7, none⟩ = some (.slice A7 z7.length c7) := bA.cell 7
  have bA_8 : w4.cell? ⟨W.heap.size, 8, none⟩ = some (.slice A8 z8.length c8) := bA.cell 8
  have bA_9 : w4.cell? ⟨W.heap.size, 9, none⟩ = some (.slice A9 z9.length c9) := bA.cell 9
  have bA_10 : w4.cell? ⟨W.heap.size, 10, none⟩ = some (.slice A10 z10.length c10) := bA.cell 10
  have bA_11 : w4.cell? ⟨W.heap.size, 11, none⟩ = some (.string z11) := bA.cell 11
  have bA_12 : w4.cell? ⟨W.heap.size, 12, none⟩ = some (.slice A12 z12.length c12) := bA.cell 12
  have bA_13 : w4.cell? ⟨W.heap.size, 13, none⟩ = some (.slice A13 z13.length c13) := bA.cell 13
  have bA_l := bA.lt
  go_wp2_with fail
  clear bA_0 bA_1 bA_2 bA_3 bA_4 bA_5 bA_6 bA_7 bA_8 bA_9 bA_10 bA_11 bA_12 bA_13 bA_l
  refine calls_worldD _ (fun X => Blk X (W.heap.size) 36 #[.int .i64 z0, .string z1, .int .i64 z2, .int .i64 z3, .slice A4 z4.length c4, .slice A5 z5.length c5, .slice A6 z6.length c6, .slice A7 z7.length c7, .slice A8 z8.length c8, .slice A9 z9.length c9, .slice A10 z10.length c10, .string z11, .slice A12 z12.length c12, .slice A13 z13.length c13] ∧ Blk X (w4.heap.size) 53 #[.int .i64 z0, .string z1, .int .i64 z2, .int .i64 z3, .slice X4 z4.length Xc4, .slice X5 z5.length Xc5, .slice X6 z6.length Xc6, .slice X7 z7.length Xc7, .slice X8 z8.length Xc8, .slice X9 z9.length Xc9, .slice X10 z10.length Xc10, .string z11, .slice X12 z12.length Xc12, .slice X13 z13.length Xc13] ∧ OwnI X (w2.heap.size) (w3.heap.size) [.s 82 5 q0.length (FValue.flat q0)] [.slice G0_0 q0.length Gc0_0] ∧ OwnI X (w3.heap.size) (w4.heap.size) [.v (.int .i64 z0), .v (.string z1), .v (.int .i64 z2), .v (.int .i64 z3), .s 82 5 z4.length (FValue.flat z4), .s 140 2 z5.length (FPlace.flat z5), .s 201 6 z6.length (FBlock.flat z6), .s 79 3 z7.length (FObject.flat z7), .s 144 5 z8.length (FClosure.flat z8), .s 93 19 z9.length (FGen.flat z9), .s 91 13 z10.length (FFrame.flat z10), .v (.string z11), .s 208 2 z12.length (FHeader.flat z12), .s 210 2 z13.length (FBuffer.flat z13)] [.int .i64 z0, .string z1, .int .i64 z2, .int .i64 z3, .slice X4 z4.length Xc4, .slice X5 z5.length Xc5, .slice X6 z6.length Xc6, .slice X7 z7.length Xc7, .slice X8 z8.length Xc8, .slice X9 z9.length Xc9, .slice X10 z10.length Xc10, .string z11, .slice X12 z12.length Xc12, .slice X13 z13.length Xc13] ∧ Below W.heap.size W X ∧ w4.heap.size < X.heap.size) ⟨bA.alloc _, Blk.new _ _ _, iw0.alloc _, ix.alloc _, (hB).alloc (by omega) _, by simp⟩ ?_
  clear bA iw0 ix hB
  rintro w5 ⟨bA, bx, iw0, ix, hB, s5⟩
  refine (maRo_any ⟨z0, z1, z2, z3, z4, z5, ⟨z6⟩, z7, z8, z9, z10, ⟨z11, z12, z13⟩⟩ hw _ _ w5.heap.size (Nat.le_refl _) (by rw [FMachine.c_eq]; exact ix.vs)).mono ?_
  rw [HQ0.out]
  rintro e w6 ⟨Y0_0, Yc0_0, rfl, own0, hb⟩
  replace bA := bA.below hb (Nat.le_refl _)
  replace bx := bx.below hb (Nat.le_refl _)
  replace iw0 := iw0.below hb (Nat.le_refl _)
  replace ix := ix.below hb (Nat.le_refl _)
  replace hB := hB.trans (hb.mono (by omega))
  have s6 : w5.heap.size ≤ w6.heap.size := hb.size
  clear hb
  have ig0 := own0
  clear own0
  have bA_0 : w6.cell? ⟨W.heap.size, 0, none⟩ = some (.int .i64 z0) := bA.cell 0
  have bA_1 : w6.cell? ⟨W.heap.size, 1, none⟩ = some (.string z1) := bA.cell 1
  have bA_2 : w6.cell? ⟨W.heap.size, 2, none⟩ = some (.int .i64 z2) := bA.cell 2
  have bA_3 : w6.cell? ⟨W.heap.size, 3, none⟩ = some (.int .i64 z3) := bA.cell 3
  have bA_4 : w6.cell? ⟨W.heap.size, 4, none⟩ = some (.slice A4 z4.length c4) := bA.cell 4
  have bA_5 : w6.cell? ⟨W.heap.size, 5, none⟩ = some (.slice A5 z5.length c5) := bA.cell 5
  have bA_6 : w6.cell? ⟨W.heap.size, 6, none⟩ = some (.slice A6 z6.length c6) := bA.cell 6
  have bA_7 : w6.cell? ⟨W.heap.size, 7, none⟩ = some (.slice A7 z7.length c7) := bA.cell 7
  have bA_8 : w6.cell? ⟨W.heap.size, 8, none⟩ = some (.slice A8 z8.length c8) := bA.cell 8
  have bA_9 : w6.cell? ⟨W.heap.size, 9, none⟩ = some (.slice A9 z9.length c9) := bA.cell 9
  have bA_10 : w6.cell? ⟨W.heap.size, 10, none⟩ = some (.slice A10 z10.length c10) := bA.cell 10
  have bA_11 : w6.cell? ⟨W.heap.size, 11, none⟩ = some (.string z11) := bA.cell 11
  have bA_12 : w6.cell? ⟨W.heap.size, 12, none⟩ = some (.slice A12 z12.length c12) := bA.cell 12
  have bA_13 : w6.cell? ⟨W.heap.size, 13, none⟩ = some (.slice A13 z13.length c13) := bA.cell 13
  have bA_l := bA.lt
  have bx_0 : w6.cell? ⟨w4.heap.size, 0, none⟩ = some (.int .i64 z0) := bx.cell 0
  have bx_1 : w6.cell? ⟨w4.heap.size, 1, none⟩ = some (.string z1) := bx.cell 1
  have bx_2 : w6.cell? ⟨w4.heap.size, 2, none⟩ = some (.int .i64 z2) := bx.cell 2
  have bx_3 : w6.cell? ⟨w4.heap.size, 3, none⟩ = some (.int .i64 z3) := bx.cell 3
  have bx_4 : w6.cell? ⟨w4.heap.size, 4, none⟩ = some (.slice X4 z4.length Xc4) := bx.cell 4
  have bx_5 : w6.cell? ⟨w4.heap.size, 5, none⟩ = some (.slice X5 z5.length Xc5) := bx.cell 5
  have bx_6 : w6.cell? ⟨w4.heap.size, 6, none⟩ = some (.slice X6 z6.length Xc6) := bx.cell 6
  have bx_7 : w6.cell? ⟨w4.heap.size, 7, none⟩ = some (.slice X7 z7.length Xc7) := bx.cell 7
  have bx_8 : w6.cell? ⟨w4.heap.size, 8, none⟩ = some (.slice X8 z8.length Xc8) := bx.cell 8
  have bx_9 : w6.cell? ⟨w4.heap.size, 9, none⟩ = some (.slice X9 z9.length Xc9) := bx.cell 9
  have bx_10 : w6.cell? ⟨w4.heap.size, 10, none⟩ = some (.slice X10 z10.length Xc10) := bx.cell 10
  have bx_11 : w6.cell? ⟨w4.heap.size, 11, none⟩ = some (.string z11) := bx.cell 11
  have bx_12 : w6.cell? ⟨w4.heap.size, 12, none⟩ = some (.slice X12 z12.length Xc12) := bx.cell 12
  have bx_13 : w6.cell? ⟨w4.heap.size, 13, none⟩ = some (.slice X13 z13.length Xc13) := bx.cell 13
  have bx_l := bx.lt
  go_wp2_with fail
  clear bA_0 bA_1 bA_2 bA_3 bA_4 bA_5 bA_6 bA_7 bA_8 bA_9 bA_10 bA_11 bA_12 bA_13 bA_l
  clear bx_0 bx_1 bx_2 bx_3 bx_4 bx_5 bx_6 bx_7 bx_8 bx_9 bx_10 bx_11 bx_12 bx_13 bx_l
  refine (eqValueS_any q0 HW0.out _ _ _ ig0.read iw0.read).mono ?_
  rintro e w7 ⟨rfl, hb⟩
  replace bA := bA.below hb (Nat.le_refl _)
  replace bx := bx.below hb (Nat.le_refl _)
  replace iw0 := iw0.below hb (Nat.le_refl _)
  replace ix := ix.below hb (Nat.le_refl _)
  replace ig0 := ig0.below hb (Nat.le_refl _)
  replace hB := hB.trans (hb.mono (by omega))
  have s7 : w6.heap.size ≤ w7.heap.size := hb.size
  clear hb
  have bA_0 : w7.cell? ⟨W.heap.size, 0, none⟩ = some (.int .i64 z0) := bA.cell 0
  have bA_1 : w7.cell? ⟨W.heap.size, 1, none⟩ = some (.string z1) := bA.cell 1
  have bA_2 : w7.cell? ⟨W.heap.size, 2, none⟩ = some (.int .i64 z2) := bA.cell 2
  have bA_3 : w7.cell? ⟨W.heap.size, 3, none⟩ = some (.int .i64 z3) := bA.cell 3
  have bA_4 : w7.cell? ⟨W.heap.size, 4, none⟩ = some (.slice A4 z4.length c4) := bA.cell 4
  have bA_5 : w7.cell? ⟨W.heap.size, 5, none⟩ = some (.slice A5 z5.length c5) := bA.cell 5
  have bA_6 : w7.cell? ⟨W.heap.size, 6, none⟩ = some (.slice A6 z6.length c6) := bA.cell 6
  have bA_7 : w7.cell? ⟨W.heap.size, 7, none⟩ = some (.slice A7 z7.length c7) := bA.cell 7
  have bA_8 : w7.cell? ⟨W.heap.size, 8, none⟩ = some (.slice A8 z8.length c8) := bA.cell 8
  have bA_9 : w7.cell? ⟨W.heap.size, 9, none⟩ = some (.slice A9 z9.length c9) := bA.cell 9
  have bA_10 : w7.cell? ⟨W.heap.size, 10, none⟩ = some (.slice A10 z10.length c10) := bA.cell 10
  have bA_11 : w7.cell? ⟨W.heap.size, 11, none⟩ = some (.string z11) := bA.cell 11
  have bA_12 : w7.cell? ⟨W.heap.size, 12, none⟩ = some (.slice A12 z12.length c12) := bA.cell 12
  have bA_13 : w7.cell? ⟨W.heap.size, 13, none⟩ = some (.slice A13 z13.length c13) := bA.cell 13
  have bA_l := bA.lt
  have bx_0 : w7.cell? ⟨w4.heap.size, 0, none⟩ = some (.int .i64 z0) := bx.cell 0
  have bx_1 : w7.cell? ⟨w4.heap.size, 1, none⟩ = some (.string z1) := bx.cell 1
  have bx_2 : w7.cell? ⟨w4.heap.size, 2, none⟩ = some (.int .i64 z2) := bx.cell 2
  have bx_3 : w7.cell? ⟨w4.heap.size, 3, none⟩ = some (.int .i64 z3) := bx.cell 3
  have bx_4 : w7.cell? ⟨w4.heap.size, 4, none⟩ = some (.slice X4 z4.length Xc4) := bx.cell 4
  have bx_5 : w7.cell? ⟨w4.heap.size, 5, none⟩ = some (.slice X5 z5.length Xc5) := bx.cell 5
  have bx_6 : w7.cell? ⟨w4.heap.size, 6, none⟩ = some (.slice X6 z6.length Xc6) := bx.cell 6
  have bx_7 : w7.cell? ⟨w4.heap.size, 7, none⟩ = some (.slice X7 z7.length Xc7) := bx.cell 7
  have bx_8 : w7.cell? ⟨w4.heap.size, 8, none⟩ = some (.slice X8 z8.length Xc8) := bx.cell 8
  have bx_9 : w7.cell? ⟨w4.heap.size, 9, none⟩ = some (.slice X9 z9.length Xc9) := bx.cell 9
  have bx_10 : w7.cell? ⟨w4.heap.size, 10, none⟩ = some (.slice X10 z10.length Xc10) := bx.cell 10
  have bx_11 : w7.cell? ⟨w4.heap.size, 11, none⟩ = some (.string z11) := bx.cell 11
  have bx_12 : w7.cell? ⟨w4.heap.size, 12, none⟩ = some (.slice X12 z12.length Xc12) := bx.cell 12
  have bx_13 : w7.cell? ⟨w4.heap.size, 13, none⟩ = some (.slice X13 z13.length Xc13) := bx.cell 13
  have bx_l := bx.lt
  go_wp2_with fail
  clear bA_0 bA_1 bA_2 bA_3 bA_4 bA_5 bA_6 bA_7 bA_8 bA_9 bA_10 bA_11 bA_12 bA_13 bA_l
  clear bx_0 bx_1 bx_2 bx_3 bx_4 bx_5 bx_6 bx_7 bx_8 bx_9 bx_10 bx_11 bx_12 bx_13 bx_l
  have y0 : w7.cell? ⟨w4.heap.size, 0, none⟩ = some (.int .i64 z0) := bx.cell 0
  have y1 : w7.cell? ⟨w4.heap.size, 1, none⟩ = some (.string z1) := bx.cell 1
  have y2 : w7.cell? ⟨w4.heap.size, 2, none⟩ = some (.int .i64 z2) := bx.cell 2
  have y3 : w7.cell? ⟨w4.heap.size, 3, none⟩ = some (.int .i64 z3) := bx.cell 3
  have y4 : w7.cell? ⟨w4.heap.size, 4, none⟩ = some (.slice X4 z4.length Xc4) := bx.cell 4
  have y5 : w7.cell? ⟨w4.heap.size, 5, none⟩ = some (.slice X5 z5.length Xc5) := bx.cell 5
  have y6 : w7.cell? ⟨w4.heap.size, 6, none⟩ = some (.slice X6 z6.length Xc6) := bx.cell 6
  have y7 : w7.cell? ⟨w4.heap.size, 7, none⟩ = some (.slice X7 z7.length Xc7) := bx.cell 7
  have y8 : w7.cell? ⟨w4.heap.size, 8, none⟩ = some (.slice X8 z8.length Xc8) := bx.cell 8
  have y9 : w7.cell? ⟨w4.heap.size, 9, none⟩ = some (.slice X9 z9.length Xc9) := bx.cell 9
  have y10 : w7.cell? ⟨w4.heap.size, 10, none⟩ = some (.slice X10 z10.length Xc10) := bx.cell 10
  have y11 : w7.cell? ⟨w4.heap.size, 11, none⟩ = some (.string z11) := bx.cell 11
  have y12 : w7.cell? ⟨w4.heap.size, 12, none⟩ = some (.slice X12 z12.length Xc12) := bx.cell 12
  have y13 : w7.cell? ⟨w4.heap.size, 13, none⟩ = some (.slice X13 z13.length Xc13) := bx.cell 13
  have y14 : w7.cell? ⟨W.heap.size, 0, none⟩ = some (.int .i64 z0) := bA.cell 0
  have y15 : w7.cell? ⟨W.heap.size, 1, none⟩ = some (.string z1) := bA.cell 1
  have y16 : w7.cell? ⟨W.heap.size, 2, none⟩ = some (.int .i64 z2) := bA.cell 2
  have y17 : w7.cell? ⟨W.heap.size, 3, none⟩ = some (.int .i64 z3) := bA.cell 3
  have y18 : w7.cell? ⟨W.heap.size, 4, none⟩ = some (.slice A4 z4.length c4) := bA.cell 4
  have y19 : w7.cell? ⟨W.heap.size, 5, none⟩ = some (.slice A5 z5.length c5) := bA.cell 5
  have y20 : w7.cell? ⟨W.heap.size, 6, none⟩ = some (.slice A6 z6.length c6) := bA.cell 6
  have y21 : w7.cell? ⟨W.heap.size, 7, none⟩ = some (.slice A7 z7.length c7) := bA.cell 7
  have y22 : w7.cell? ⟨W.heap.size, 8, none⟩ = some (.slice A8 z8.length c8) := bA.cell 8
  have y23 : w7.cell? ⟨W.heap.size, 9, none⟩ = some (.slice A9 z9.length c9) := bA.cell 9
  have y24 : w7.cell? ⟨W.heap.size, 10, none⟩ = some (.slice A10 z10.length c10) := bA.cell 10
  have y25 : w7.cell? ⟨W.heap.size, 11, none⟩ = some (.string z11) := bA.cell 11
  have y26 : w7.cell? ⟨W.heap.size, 12, none⟩ = some (.slice A12 z12.length c12) := bA.cell 12
  have y27 : w7.cell? ⟨W.heap.size, 13, none⟩ = some (.slice A13 z13.length c13) := bA.cell 13
  have t1 : W.heap.size ≤ w7.drew.heap.size := hB.size
  have TV := hid (show RdVs w7.drew W.heap.size (FMachine.c ⟨z0, z1, z2, z3, z4, z5, ⟨z6⟩, z7, z8, z9, z10, ⟨z11, z12, z13⟩⟩) [.int .i64 z0, .string z1, .int .i64 z2, .int .i64 z3, .slice A4 z4.length c4, .slice A5 z5.length c5, .slice A6 z6.length c6, .slice A7 z7.length c7, .slice A8 z8.length c8, .slice A9 z9.length c9, .slice A10 z10.length c10, .string z11, .slice A12 z12.length c12, .slice A13 z13.length c13] from RV.out.on hB.drew (Nat.le_refl _) (Nat.le_refl _))
  have lA := bA.lt
  have lX := bx.lt
  go_region_held3 (fun w_ => w_.cell? ⟨w4.heap.size, 0, none⟩ = some (.int .i64 z0) ∧ w_.cell? ⟨w4.heap.size, 1, none⟩ = some (.string z1) ∧ w_.cell? ⟨w4.heap.size, 2, none⟩ = some (.int .i64 z2) ∧ w_.cell? ⟨w4.heap.size, 3, none⟩ = some (.int .i64 z3) ∧ w_.cell? ⟨w4.heap.size, 4, none⟩ = some (.slice X4 z4.length Xc4) ∧ w_.cell? ⟨w4.heap.size, 5, none⟩ = some (.slice X5 z5.length Xc5) ∧ w_.cell? ⟨w4.heap.size, 6, none⟩ = some (.slice X6 z6.length Xc6) ∧ w_.cell? ⟨w4.heap.size, 7, none⟩ = some (.slice X7 z7.length Xc7) ∧ w_.cell? ⟨w4.heap.size, 8, none⟩ = some (.slice X8 z8.length Xc8) ∧ w_.cell? ⟨w4.heap.size, 9, none⟩ = some (.slice X9 z9.length Xc9) ∧ w_.cell? ⟨w4.heap.size, 10, none⟩ = some (.slice X10 z10.length Xc10) ∧ w_.cell? ⟨w4.heap.size, 11, none⟩ = some (.string z11) ∧ w_.cell? ⟨w4.heap.size, 12, none⟩ = some (.slice X12 z12.length Xc12) ∧ w_.cell? ⟨w4.heap.size, 13, none⟩ = some (.slice X13 z13.length Xc13) ∧ w_.cell? ⟨W.heap.size, 0, none⟩ = some (.int .i64 z0) ∧ w_.cell? ⟨W.heap.size, 1, none⟩ = some (.string z1) ∧ w_.cell? ⟨W.heap.size, 2, none⟩ = some (.int .i64 z2) ∧ w_.cell? ⟨W.heap.size, 3, none⟩ = some (.int .i64 z3) ∧ w_.cell? ⟨W.heap.size, 4, none⟩ = some (.slice A4 z4.length c4) ∧ w_.cell? ⟨W.heap.size, 5, none⟩ = some (.slice A5 z5.length c5) ∧ w_.cell? ⟨W.heap.size, 6, none⟩ = some (.slice A6 z6.length c6) ∧ w_.cell? ⟨W.heap.size, 7, none⟩ = some (.slice A7 z7.length c7) ∧ w_.cell? ⟨W.heap.size, 8, none⟩ = some (.slice A8 z8.length c8) ∧ w_.cell? ⟨W.heap.size, 9, none⟩ = some (.slice A9 z9.length c9) ∧ w_.cell? ⟨W.heap.size, 10, none⟩ = some (.slice A10 z10.length c10) ∧ w_.cell? ⟨W.heap.size, 11, none⟩ = some (.string z11) ∧ w_.cell? ⟨W.heap.size, 12, none⟩ = some (.slice A12 z12.length c12) ∧ w_.cell? ⟨W.heap.size, 13, none⟩ = some (.slice A13 z13.length c13))
    (first
      | exact ⟨y0, y1, y2, y3, y4, y5, y6, y7, y8, y9, y10, y11, y12, y13, y14, y15, y16, y17, y18, y19, y20, y21, y22, y23, y24, y25, y26, y27⟩
      | exact ⟨((bcell hb1).1 _ _ (by simp; omega)).trans y0, ((bcell hb1).1 _ _ (by simp; omega)).trans y1, ((bcell hb1).1 _ _ (by simp; omega)).trans y2, ((bcell hb1).1 _ _ (by simp; omega)).trans y3, ((bcell hb1).1 _ _ (by simp; omega)).trans y4, ((bcell hb1).1 _ _ (by simp; omega)).trans y5, ((bcell hb1).1 _ _ (by simp; omega)).trans y6, ((bcell hb1).1 _ _ (by simp; omega)).trans y7, ((bcell hb1).1 _ _ (by simp; omega)).trans y8, ((bcell hb1).1 _ _ (by simp; omega)).trans y9, ((bcell hb1).1 _ _ (by simp; omega)).trans y10, ((bcell hb1).1 _ _ (by simp; omega)).trans y11, ((bcell hb1).1 _ _ (by simp; omega)).trans y12, ((bcell hb1).1 _ _ (by simp; omega)).trans y13, ((bcell hb1).1 _ _ (by simp; omega)).trans y14, ((bcell hb1).1 _ _ (by simp; omega)).trans y15, ((bcell hb1).1 _ _ (by simp; omega)).trans y16, ((bcell hb1).1 _ _ (by simp; omega)).trans y17, ((bcell hb1).1 _ _ (by simp; omega)).trans y18, ((bcell hb1).1 _ _ (by simp; omega)).trans y19, ((bcell hb1).1 _ _ (by simp; omega)).trans y20, ((bcell hb1).1 _ _ (by simp; omega)).trans y21, ((bcell hb1).1 _ _ (by simp; omega)).trans y22, ((bcell hb1).1 _ _ (by simp; omega)).trans y23, ((bcell hb1).1 _ _ (by simp; omega)).trans y24, ((bcell hb1).1 _ _ (by simp; omega)).trans y25, ((bcell hb1).1 _ _ (by simp; omega)).trans y26, ((bcell hb1).1 _ _ (by simp; omega)).trans y27⟩
      | exact ⟨((bcell hb2).1 _ _ (by omega)).trans (((bcell zb).1 _ _ (by omega)).trans y0), ((bcell hb2).1 _ _ (by omega)).trans (((bcell zb).1 _ _ (by omega)).trans y1), ((bcell hb2).1 _ _ (by omega)).trans (((bcell zb).1 _ _ (by omega)).trans y2), ((bcell hb2).1 _ _ (by omega)).trans (((bcell zb).1 _ _ (by omega)).trans y3), ((bcell hb2).1 _ _ (by omega)).trans (((bcell zb).1 _ _ (by omega)).trans y4), ((bcell hb2).1 _ _ (by omega)).trans (((bcell zb).1 _ _ (by omega)).trans y5), ((bcell hb2).1 _ _ (by omega)).trans (((bcell zb).1 _ _ (by omega)).trans y6), ((bcell hb2).1 _ _ (by omega)).trans (((bcell zb).1 _ _ (by omega)).trans y7), ((bcell hb2).1 _ _ (by omega)).trans (((bcell zb).1 _ _ (by omega)).trans y8), ((bcell hb2).1 _ _ (by omega)).trans (((bcell zb).1 _ _ (by omega)).trans y9), ((bcell hb2).1 _ _ (by omega)).trans (((bcell zb).1 _ _ (by omega)).trans y10), ((bcell hb2).1 _ _ (by omega)).trans (((bcell zb).1 _ _ (by omega)).trans y11), ((bcell hb2).1 _ _ (by omega)).trans (((bcell zb).1 _ _ (by omega)).trans y12), ((bcell hb2).1 _ _ (by omega)).trans (((bcell zb).1 _ _ (by omega)).trans y13), ((bcell hb2).1 _ _ (by omega)).trans (((bcell zb).1 _ _ (by omega)).trans y14), ((bcell hb2).1 _ _ (by omega)).trans (((bcell zb).1 _ _ (by omega)).trans y15), ((bcell hb2).1 _ _ (by omega)).trans (((bcell zb).1 _ _ (by omega)).trans y16), ((bcell hb2).1 _ _ (by omega)).trans (((bcell zb).1 _ _ (by omega)).trans y17), ((bcell hb2).1 _ _ (by omega)).trans (((bcell zb).1 _ _ (by omega)).trans y18), ((bcell hb2).1 _ _ (by omega)).trans (((bcell zb).1 _ _ (by omega)).trans y19), ((bcell hb2).1 _ _ (by omega)).trans (((bcell zb).1 _ _ (by omega)).trans y20), ((bcell hb2).1 _ _ (by omega)).trans (((bcell zb).1 _ _ (by omega)).trans y21), ((bcell hb2).1 _ _ (by omega)).trans (((bcell zb).1 _ _ (by omega)).trans y22), ((bcell hb2).1 _ _ (by omega)).trans (((bcell zb).1 _ _ (by omega)).trans y23), ((bcell hb2).1 _ _ (by omega)).trans (((bcell zb).1 _ _ (by omega)).trans y24), ((bcell hb2).1 _ _ (by omega)).trans (((bcell zb).1 _ _ (by omega)).trans y25), ((bcell hb2).1 _ _ (by omega)).trans (((bcell zb).1 _ _ (by omega)).trans y26), ((bcell hb2).1 _ _ (by omega)).trans (((bcell zb).1 _ _ (by omega)).trans y27)⟩)
    ((first
      | (go_at_call 6
         refine (toMachine_any ⟨z0, z1, z2, z3, z4, z5, ⟨z6⟩, z7, z8, z9, z10, ⟨z11, z12, z13⟩⟩ hw [.int .i64 z0, .string z1, .int .i64 z2, .int .i64 z3, .slice A4 z4.length c4, .slice A5 z5.length c5, .slice A6 z6.length c6, .slice A7 z7.length c7, .slice A8 z8.length c8, .slice A9 z9.length c9, .slice A10 z10.length c10, .string z11, .slice A12 z12.length c12, .slice A13 z13.length c13] _ W.heap.size t1 TV.out).mono ?_
         rw [FMachine.c_eq]
         rintro e wa ⟨us, rfl, own, hb1⟩
         have hv := own.vs
         obtain ⟨us_0, rfl, hv_0⟩ := hv.unv
         obtain ⟨us_1, rfl, hv_1⟩ := hv_0.unv
         obtain ⟨us_2, rfl, hv_2⟩ := hv_1.unv
         obtain ⟨us_3, rfl, hv_3⟩ := hv_2.unv
         obtain ⟨Z4, Zc4, us_4, rfl, _, hv_4⟩ := hv_3.uns
         obtain ⟨Z5, Zc5, us_5, rfl, _, hv_5⟩ := hv_4.uns
         obtain ⟨Z6, Zc6, us_6, rfl, _, hv_6⟩ := hv_5.uns
         obtain ⟨Z7, Zc7, us_7, rfl, _, hv_7⟩ := hv_6.uns
         obtain ⟨Z8, Zc8, us_8, rfl, _, hv_8⟩ := hv_7.uns
         obtain ⟨Z9, Zc9, us_9, rfl, _, hv_9⟩ := hv_8.uns
         obtain ⟨Z10, Zc10, us_10, rfl, _, hv_10⟩ := hv_9.uns
         obtain ⟨us_11, rfl, hv_11⟩ := hv_10.unv
         obtain ⟨Z12, Zc12, us_12, rfl, _, hv_12⟩ := hv_11.uns
         obtain ⟨Z13, Zc13, us_13, rfl, _, hv_13⟩ := hv_12.uns
         obtain rfl := hv_13.un0
         clear hv hv_0 hv_1 hv_2 hv_3 hv_4 hv_5 hv_6 hv_7 hv_8 hv_9 hv_10 hv_11 hv_12 hv_13
         have O6 := hid own
         clear own)
      | (go_at_call 9
         have zb : Below w7.heap.size w7 wa := (Below.refl w7.heap.size w7).drew.trans (hb1.mono (by simp))
         have zs := zb.size
         have E1 := hid (ix.below zb (Nat.le_refl _)).vs
         have E2 := hid O6.out.vs
         refine (eqMachine_any ⟨z0, z1, z2, z3, z4, z5, ⟨z6⟩, z7, z8, z9, z10, ⟨z11, z12, z13⟩⟩ HWx.out [.int .i64 z0, .string z1, .int .i64 z2, .int .i64 z3, .slice X4 z4.length Xc4, .slice X5 z5.length Xc5, .slice X6 z6.length Xc6, .slice X7 z7.length Xc7, .slice X8 z8.length Xc8, .slice X9 z9.length Xc9, .slice X10 z10.length Xc10, .string z11, .slice X12 z12.length Xc12, .slice X13 z13.length Xc13] [.int .i64 z0, .string z1, .int .i64 z2, .int .i64 z3, .slice Z4 z4.length Zc4, .slice Z5 z5.length Zc5, .slice Z6 z6.length Zc6, .slice Z7 z7.length Zc7, .slice Z8 z8.length Zc8, .slice Z9 z9.length Zc9, .slice Z10 z10.length Zc10, .string z11, .slice Z12 z12.length Zc12, .slice Z13 z13.length Zc13] _ (by rw [FMachine.c_eq]; exact E1.out) (by rw [FMachine.c_eq]; exact E2.out)).mono ?_
         rintro e wb ⟨rfl, hb2⟩)))
  have hb := zb.trans (hb2.mono zb.size)
  clear hb1 hb2 O6 TV t1 y0 y1 y2 y3 y4 y5 y6 y7 y8 y9 y10 y11 y12 y13 y14 y15 y16 y17 y18 y19 y20 y21 y22 y23 y24 y25 y26 y27
  replace bA := bA.below hb (Nat.le_refl _)
  replace bx := bx.below hb (Nat.le_refl _)
  replace iw0 := iw0.below hb (Nat.le_refl _)
  replace ix := ix.below hb (Nat.le_refl _)
  replace ig0 := ig0.below hb (Nat.le_refl _)
  replace hB := hB.trans (hb.mono (by omega))
  have s8 : w7.heap.size ≤ wb.heap.size := hb.size
  clear hb zb zs E1 E2
  have bA_0 : wb.cell? ⟨W.heap.size, 0, none⟩ = some (.int .i64 z0) := bA.cell 0
  have bA_1 : wb.cell? ⟨W.heap.size, 1, none⟩ = some (.string z1) := bA.cell 1
  have bA_2 : wb.cell? ⟨W.heap.size, 2, none⟩ = some (.int .i64 z2) := bA.cell 2
  have bA_3 : wb.cell? ⟨W.heap.size, 3, none⟩ = some (.int .i64 z3) := bA.cell 3
  have bA_4 : wb.cell? ⟨W.heap.size, 4, none⟩ = some (.slice A4 z4.length c4) := bA.cell 4
  have bA_5 : wb.cell? ⟨W.heap.size, 5, none⟩ = some (.slice A5 z5.length c5) := bA.cell 5
  have bA_6 : wb.cell? ⟨W.heap.size, 6, none⟩ = some (.slice A6 z6.length c6) := bA.cell 6
  have bA_7 : wb.cell? ⟨W.heap.size, 7, none⟩ = some (.slice A7 z7.length c7) := bA.cell 7
  have bA_8 : wb.cell? ⟨W.heap.size, 8, none⟩ = some (.slice A8 z8.length c8) := bA.cell 8
  have bA_9 : wb.cell? ⟨W.heap.size, 9, none⟩ = some (.slice A9 z9.length c9) := bA.cell 9
  have bA_10 : wb.cell? ⟨W.heap.size, 10, none⟩ = some (.slice A10 z10.length c10) := bA.cell 10
  have bA_11 : wb.cell? ⟨W.heap.size, 11, none⟩ = some (.string z11) := bA.cell 11
  have bA_12 : wb.cell? ⟨W.heap.size, 12, none⟩ = some (.slice A12 z12.length c12) := bA.cell 12
  have bA_13 : wb.cell? ⟨W.heap.size, 13, none⟩ = some (.slice A13 z13.length c13) := bA.cell 13
  have bA_l := bA.lt
  have bx_0 : wb.cell? ⟨w4.heap.size, 0, none⟩ = some (.int .i64 z0) := bx.cell 0
  have bx_1 : wb.cell? ⟨w4.heap.size, 1, none⟩ = some (.string z1) := bx.cell 1
  have bx_2 : wb.cell? ⟨w4.heap.size, 2, none⟩ = some (.int .i64 z2) := bx.cell 2
  have bx_3 : wb.cell? ⟨w4.heap.size, 3, none⟩ = some (.int .i64 z3) := bx.cell 3
  have bx_4 : wb.cell? ⟨w4.heap.size, 4, none⟩ = some (.slice X4 z4.length Xc4) := bx.cell 4
  have bx_5 : wb.cell? ⟨w4.heap.size, 5, none⟩ = some (.slice X5 z5.length Xc5) := bx.cell 5
  have bx_6 : wb.cell? ⟨w4.heap.size, 6, none⟩ = some (.slice X6 z6.length Xc6) := bx.cell 6
  have bx_7 : wb.cell? ⟨w4.heap.size, 7, none⟩ = some (.slice X7 z7.length Xc7) := bx.cell 7
  have bx_8 : wb.cell? ⟨w4.heap.size, 8, none⟩ = some (.slice X8 z8.length Xc8) := bx.cell 8
  have bx_9 : wb.cell? ⟨w4.heap.size, 9, none⟩ = some (.slice X9 z9.length Xc9) := bx.cell 9
  have bx_10 : wb.cell? ⟨w4.heap.size, 10, none⟩ = some (.slice X10 z10.length Xc10) := bx.cell 10
  have bx_11 : wb.cell? ⟨w4.heap.size, 11, none⟩ = some (.string z11) := bx.cell 11
  have bx_12 : wb.cell? ⟨w4.heap.size, 12, none⟩ = some (.slice X12 z12.length Xc12) := bx.cell 12
  have bx_13 : wb.cell? ⟨w4.heap.size, 13, none⟩ = some (.slice X13 z13.length Xc13) := bx.cell 13
  have bx_l := bx.lt
  go_wp2_with fail
  clear bA_0 bA_1 bA_2 bA_3 bA_4 bA_5 bA_6 bA_7 bA_8 bA_9 bA_10 bA_11 bA_12 bA_13 bA_l
  clear bx_0 bx_1 bx_2 bx_3 bx_4 bx_5 bx_6 bx_7 bx_8 bx_9 bx_10 bx_11 bx_12 bx_13 bx_l
  have hcall := markMachine_I ⟨z0, z1, z2, z3, z4, z5, ⟨z6⟩, z7, z8, z9, z10, ⟨z11, z12, z13⟩⟩ [.int .i64 z0, .string z1, .int .i64 z2, .int .i64 z3, .slice X4 z4.length Xc4, .slice X5 z5.length Xc5, .slice X6 z6.length Xc6, .slice X7 z7.length Xc7, .slice X8 z8.length Xc8, .slice X9 z9.length Xc9, .slice X10 z10.length Xc10, .string z11, .slice X12 z12.length Xc12, .slice X13 z13.length Xc13] 1 _ _ wb (by omega) (by rw [← HKkx.out]; omega) (by rw [FMachine.c_eq]; exact ix)
  rw [← HSkx.out] at hcall
  refine hcall.mono ?_
  clear hcall
  rintro e w9 ⟨rfl, im, hb⟩
  replace bA := bA.only hb (Nat.le_refl _) (by omega)
  replace bx := bx.only hb (Nat.le_refl _) (by omega)
  replace iw0 := iw0.only hb (Nat.le_refl _) (by omega)
  replace ig0 := ig0.only hb (Nat.le_refl _) (by omega)
  replace hB := hB.trans (hb.below (by omega) (by omega))
  have s9 : wb.heap.size ≤ w9.heap.size := hb.size
  clear hb
  clear ix
  have ix := im
  clear im
  have bA_0 : w9.cell? ⟨W.heap.size, 0, none⟩ = some (.int .i64 z0) := bA.cell 0
  have bA_1 : w9.cell? ⟨W.heap.size, 1, none⟩ = some (.string z1) := bA.cell 1
  have bA_2 : w9.cell? ⟨W.heap.size, 2, none⟩ = some (.int .i64 z2) := bA.cell 2
  have bA_3 : w9.cell? ⟨W.heap.size, 3, none⟩ = some (.int .i64 z3) := bA.cell 3
  have bA_4 : w9.cell? ⟨W.heap.size, 4, none⟩ = some (.slice A4 z4.length c4) := bA.cell 4
  have bA_5 : w9.cell? ⟨W.heap.size, 5, none⟩ = some (.slice A5 z5.length c5) := bA.cell 5
  have bA_6 : w9.cell? ⟨W.heap.size, 6, none⟩ = some (.slice A6 z6.length c6) := bA.cell 6
  have bA_7 : w9.cell? ⟨W.heap.size, 7, none⟩ = some (.slice A7 z7.length c7) := bA.cell 7
  have bA_8 : w9.cell? ⟨W.heap.size, 8, none⟩ = some (.slice A8 z8.length c8) := bA.cell 8
  have bA_9 : w9.cell? ⟨W.heap.size, 9, none⟩ = some (.slice A9 z9.length c9) := bA.cell 9
  have bA_10 : w9.cell? ⟨W.heap.size, 10, none⟩ = some (.slice A10 z10.length c10) := bA.cell 10
  have bA_11 : w9.cell? ⟨W.heap.size, 11, none⟩ = some (.string z11) := bA.cell 11
  have bA_12 : w9.cell? ⟨W.heap.size, 12, none⟩ = some (.slice A12 z12.length c12) := bA.cell 12
  have bA_13 : w9.cell? ⟨W.heap.size, 13, none⟩ = some (.slice A13 z13.length c13) := bA.cell 13
  have bA_l := bA.lt
  have bx_0 : w9.cell? ⟨w4.heap.size, 0, none⟩ = some (.int .i64 z0) := bx.cell 0
  have bx_1 : w9.cell? ⟨w4.heap.size, 1, none⟩ = some (.string z1) := bx.cell 1
  have bx_2 : w9.cell? ⟨w4.heap.size, 2, none⟩ = some (.int .i64 z2) := bx.cell 2
  have bx_3 : w9.cell? ⟨w4.heap.size, 3, none⟩ = some (.int .i64 z3) := bx.cell 3
  have bx_4 : w9.cell? ⟨w4.heap.size, 4, none⟩ = some (.slice X4 z4.length Xc4) := bx.cell 4
  have bx_5 : w9.cell? ⟨w4.heap.size, 5, none⟩ = some (.slice X5 z5.length Xc5) := bx.cell 5
  have bx_6 : w9.cell? ⟨w4.heap.size, 6, none⟩ = some (.slice X6 z6.length Xc6) := bx.cell 6
  have bx_7 : w9.cell? ⟨w4.heap.size, 7, none⟩ = some (.slice X7 z7.length Xc7) := bx.cell 7
  have bx_8 : w9.cell? ⟨w4.heap.size, 8, none⟩ = some (.slice X8 z8.length Xc8) := bx.cell 8
  have bx_9 : w9.cell? ⟨w4.heap.size, 9, none⟩ = some (.slice X9 z9.length Xc9) := bx.cell 9
  have bx_10 : w9.cell? ⟨w4.heap.size, 10, none⟩ = some (.slice X10 z10.length Xc10) := bx.cell 10
  have bx_11 : w9.cell? ⟨w4.heap.size, 11, none⟩ = some (.string z11) := bx.cell 11
  have bx_12 : w9.cell? ⟨w4.heap.size, 12, none⟩ = some (.slice X12 z12.length Xc12) := bx.cell 12
  have bx_13 : w9.cell? ⟨w4.heap.size, 13, none⟩ = some (.slice X13 z13.length Xc13) := bx.cell 13
  have bx_l := bx.lt
  go_wp2_with fail
  clear bA_0 bA_1 bA_2 bA_3 bA_4 bA_5 bA_6 bA_7 bA_8 bA_9 bA_10 bA_11 bA_12 bA_13 bA_l
  clear bx_0 bx_1 bx_2 bx_3 bx_4 bx_5 bx_6 bx_7 bx_8 bx_9 bx_10 bx_11 bx_12 bx_13 bx_l
  refine (eqValueS_any q0 HW0.out _ _ _ ig0.read iw0.read).mono ?_
  rintro e w10 ⟨rfl, hb⟩
  replace bA := bA.below hb (Nat.le_refl _)
  replace bx := bx.below hb (Nat.le_refl _)
  replace iw0 := iw0.below hb (Nat.le_refl _)
  replace ix := ix.below hb (Nat.le_refl _)
  replace ig0 := ig0.below hb (Nat.le_refl _)
  replace hB := hB.trans (hb.mono (by omega))
  have s10 : w9.heap.size ≤ w10.heap.size := hb.size
  clear hb
  have bA_0 : w10.cell? ⟨W.heap.size, 0, none⟩ = some (.int .i64 z0) := bA.cell 0
  have bA_1 : w10.cell? ⟨W.heap.size, 1, none⟩ = some (.string z1) := bA.cell 1
  have bA_2 : w10.cell? ⟨W.heap.size, 2, none⟩ = some (.int .i64 z2) := bA.cell 2
  have bA_3 : w10.cell? ⟨W.heap.size, 3, none⟩ = some (.int .i64 z3) := bA.cell 3
  have bA_4 : w10.cell? ⟨W.heap.size, 4, none⟩ = some (.slice A4 z4.length c4) := bA.cell 4
  have bA_5 : w10.cell? ⟨W.heap.size, 5, none⟩ = some (.slice A5 z5.length c5) := bA.cell 5
  have bA_6 : w10.cell? ⟨W.heap.size, 6, none⟩ = some (.slice A6 z6.length c6) := bA.cell 6
  have bA_7 : w10.cell? ⟨W.heap.size, 7, none⟩ = some (.slice A7 z7.length c7) := bA.cell 7
  have bA_8 : w10.cell? ⟨W.heap.size, 8, none⟩ = some (.slice A8 z8.length c8) := bA.cell 8
  have bA_9 : w10.cell? ⟨W.heap.size, 9, none⟩ = some (.slice A9 z9.length c9) := bA.cell 9
  have bA_10 : w10.cell? ⟨W.heap.size, 10, none⟩ = some (.slice A10 z10.length c10) := bA.cell 10
  have bA_11 : w10.cell? ⟨W.heap.size, 11, none⟩ = some (.string z11) := bA.cell 11
  have bA_12 : w10.cell? ⟨W.heap.size, 12, none⟩ = some (.slice A12 z12.length c12) := bA.cell 12
  have bA_13 : w10.cell? ⟨W.heap.size, 13, none⟩ = some (.slice A13 z13.length c13) := bA.cell 13
  have bA_l := bA.lt
  have bx_0 : w10.cell? ⟨w4.heap.size, 0, none⟩ = some (.int .i64 z0) := bx.cell 0
  have bx_1 : w10.cell? ⟨w4.heap.size, 1, none⟩ = some (.string z1) := bx.cell 1
  have bx_2 : w10.cell? ⟨w4.heap.size, 2, none⟩ = some (.int .i64 z2) := bx.cell 2
  have bx_3 : w10.cell? ⟨w4.heap.size, 3, none⟩ = some (.int .i64 z3) := bx.cell 3
  have bx_4 : w10.cell? ⟨w4.heap.size, 4, none⟩ = some (.slice X4 z4.length Xc4) := bx.cell 4
  have bx_5 : w10.cell? ⟨w4.heap.size, 5, none⟩ = some (.slice X5 z5.length Xc5) := bx.cell 5
  have bx_6 : w10.cell? ⟨w4.heap.size, 6, none⟩ = some (.slice X6 z6.length Xc6) := bx.cell 6
  have bx_7 : w10.cell? ⟨w4.heap.size, 7, none⟩ = some (.slice X7 z7.length Xc7) := bx.cell 7
  have bx_8 : w10.cell? ⟨w4.heap.size, 8, none⟩ = some (.slice X8 z8.length Xc8) := bx.cell 8
  have bx_9 : w10.cell? ⟨w4.heap.size, 9, none⟩ = some (.slice X9 z9.length Xc9) := bx.cell 9
  have bx_10 : w10.cell? ⟨w4.heap.size, 10, none⟩ = some (.slice X10 z10.length Xc10) := bx.cell 10
  have bx_11 : w10.cell? ⟨w4.heap.size, 11, none⟩ = some (.string z11) := bx.cell 11
  have bx_12 : w10.cell? ⟨w4.heap.size, 12, none⟩ = some (.slice X12 z12.length Xc12) := bx.cell 12
  have bx_13 : w10.cell? ⟨w4.heap.size, 13, none⟩ = some (.slice X13 z13.length Xc13) := bx.cell 13
  have bx_l := bx.lt
  go_wp2_with fail
  clear bA_0 bA_1 bA_2 bA_3 bA_4 bA_5 bA_6 bA_7 bA_8 bA_9 bA_10 bA_11 bA_12 bA_13 bA_l
  clear bx_0 bx_1 bx_2 bx_3 bx_4 bx_5 bx_6 bx_7 bx_8 bx_9 bx_10 bx_11 bx_12 bx_13 bx_l
  have hcall := markValueS_I q0 _ 1 _ _ w10 (by omega) (by rw [← HKm0.out]; omega) ig0
  rw [← HSm0.out] at hcall
  refine hcall.mono ?_
  clear hcall
  rintro e w11 ⟨rfl, im, hb⟩
  replace bA := bA.only hb (Nat.le_refl _) (by omega)
  replace bx := bx.only hb (Nat.le_refl _) (by omega)
  replace iw0 := iw0.only hb (Nat.le_refl _) (by omega)
  replace ix := ix.only hb (Nat.le_refl _) (by omega)
  replace hB := hB.trans (hb.below (by omega) (by omega))
  have s11 : w10.heap.size ≤ w11.heap.size := hb.size
  clear hb
  clear ig0
  have ig0 := im
  clear im
  have bA_0 : w11.cell? ⟨W.heap.size, 0, none⟩ = some (.int .i64 z0) := bA.cell 0
  have bA_1 : w11.cell? ⟨W.heap.size, 1, none⟩ = some (.string z1) := bA.cell 1
  have bA_2 : w11.cell? ⟨W.heap.size, 2, none⟩ = some (.int .i64 z2) := bA.cell 2
  have bA_3 : w11.cell? ⟨W.heap.size, 3, none⟩ = some (.int .i64 z3) := bA.cell 3
  have bA_4 : w11.cell? ⟨W.heap.size, 4, none⟩ = some (.slice A4 z4.length c4) := bA.cell 4
  have bA_5 : w11.cell? ⟨W.heap.size, 5, none⟩ = some (.slice A5 z5.length c5) := bA.cell 5
  have bA_6 : w11.cell? ⟨W.heap.size, 6, none⟩ = some (.slice A6 z6.length c6) := bA.cell 6
  have bA_7 : w11.cell? ⟨W.heap.size, 7, none⟩ = some (.slice A7 z7.length c7) := bA.cell 7
  have bA_8 : w11.cell? ⟨W.heap.size, 8, none⟩ = some (.slice A8 z8.length c8) := bA.cell 8
  have bA_9 : w11.cell? ⟨W.heap.size, 9, none⟩ = some (.slice A9 z9.length c9) := bA.cell 9
  have bA_10 : w11.cell? ⟨W.heap.size, 10, none⟩ = some (.slice A10 z10.length c10) := bA.cell 10
  have bA_11 : w11.cell? ⟨W.heap.size, 11, none⟩ = some (.string z11) := bA.cell 11
  have bA_12 : w11.cell? ⟨W.heap.size, 12, none⟩ = some (.slice A12 z12.length c12) := bA.cell 12
  have bA_13 : w11.cell? ⟨W.heap.size, 13, none⟩ = some (.slice A13 z13.length c13) := bA.cell 13
  have bA_l := bA.lt
  have bx_0 : w11.cell? ⟨w4.heap.size, 0, none⟩ = some (.int .i64 z0) := bx.cell 0
  have bx_1 : w11.cell? ⟨w4.heap.size, 1, none⟩ = some (.string z1) := bx.cell 1
  have bx_2 : w11.cell? ⟨w4.heap.size, 2, none⟩ = some (.int .i64 z2) := bx.cell 2
  have bx_3 : w11.cell? ⟨w4.heap.size, 3, none⟩ = some (.int .i64 z3) := bx.cell 3
  have bx_4 : w11.cell? ⟨w4.heap.size, 4, none⟩ = some (.slice X4 z4.length Xc4) := bx.cell 4
  have bx_5 : w11.cell? ⟨w4.heap.size, 5, none⟩ = some (.slice X5 z5.length Xc5) := bx.cell 5
  have bx_6 : w11.cell? ⟨w4.heap.size, 6, none⟩ = some (.slice X6 z6.length Xc6) := bx.cell 6
  have bx_7 : w11.cell? ⟨w4.heap.size, 7, none⟩ = some (.slice X7 z7.length Xc7) := bx.cell 7
  have bx_8 : w11.cell? ⟨w4.heap.size, 8, none⟩ = some (.slice X8 z8.length Xc8) := bx.cell 8
  have bx_9 : w11.cell? ⟨w4.heap.size, 9, none⟩ = some (.slice X9 z9.length Xc9) := bx.cell 9
  have bx_10 : w11.cell? ⟨w4.heap.size, 10, none⟩ = some (.slice X10 z10.length Xc10) := bx.cell 10
  have bx_11 : w11.cell? ⟨w4.heap.size, 11, none⟩ = some (.string z11) := bx.cell 11
  have bx_12 : w11.cell? ⟨w4.heap.size, 12, none⟩ = some (.slice X12 z12.length Xc12) := bx.cell 12
  have bx_13 : w11.cell? ⟨w4.heap.size, 13, none⟩ = some (.slice X13 z13.length Xc13) := bx.cell 13
  have bx_l := bx.lt
  go_wp2_with fail
  clear bA_0 bA_1 bA_2 bA_3 bA_4 bA_5 bA_6 bA_7 bA_8 bA_9 bA_10 bA_11 bA_12 bA_13 bA_l
  clear bx_0 bx_1 bx_2 bx_3 bx_4 bx_5 bx_6 bx_7 bx_8 bx_9 bx_10 bx_11 bx_12 bx_13 bx_l
  have hcall := heldValueS_any q0 _ 1 w11 (by omega) (by rw [← HKm0.out]; omega) ig0.read
  rw [← HSm0.out] at hcall
  refine hcall.mono ?_
  clear hcall
  rintro e w12 ⟨rfl, hb⟩
  replace bA := bA.below hb (Nat.le_refl _)
  replace bx := bx.below hb (Nat.le_refl _)
  replace iw0 := iw0.below hb (Nat.le_refl _)
  replace ix := ix.below hb (Nat.le_refl _)
  replace ig0 := ig0.below hb (Nat.le_refl _)
  replace hB := hB.trans (hb.mono (by omega))
  have s12 : w11.heap.size ≤ w12.heap.size := hb.size
  clear hb
  have bA_0 : w12.cell? ⟨W.heap.size, 0, none⟩ = some (.int .i64 z0) := bA.cell 0
  have bA_1 : w12.cell? ⟨W.heap.size, 1, none⟩ = some (.string z1) := bA.cell 1
  have bA_2 : w12.cell? ⟨W.heap.size, 2, none⟩ = some (.int .i64 z2) := bA.cell 2
  have bA_3 : w12.cell? ⟨W.heap.size, 3, none⟩ = some (.int .i64 z3) := bA.cell 3
  have bA_4 : w12.cell? ⟨W.heap.size, 4, none⟩ = some (.slice A4 z4.length c4) := bA.cell 4
  have bA_5 : w12.cell? ⟨W.heap.size, 5, none⟩ = some (.slice A5 z5.length c5) := bA.cell 5
  have bA_6 : w12.cell? ⟨W.heap.size, 6, none⟩ = some (.slice A6 z6.length c6) := bA.cell 6
  have bA_7 : w12.cell? ⟨W.heap.size, 7, none⟩ = some (.slice A7 z7.length c7) := bA.cell 7
  have bA_8 : w12.cell? ⟨W.heap.size, 8, none⟩ = some (.slice A8 z8.length c8) := bA.cell 8
  have bA_9 : w12.cell? ⟨W.heap.size, 9, none⟩ = some (.slice A9 z9.length c9) := bA.cell 9
  have bA_10 : w12.cell? ⟨W.heap.size, 10, none⟩ = some (.slice A10 z10.length c10) := bA.cell 10
  have bA_11 : w12.cell? ⟨W.heap.size, 11, none⟩ = some (.string z11) := bA.cell 11
  have bA_12 : w12.cell? ⟨W.heap.size, 12, none⟩ = some (.slice A12 z12.length c12) := bA.cell 12
  have bA_13 : w12.cell? ⟨W.heap.size, 13, none⟩ = some (.slice A13 z13.length c13) := bA.cell 13
  have bA_l := bA.lt
  have bx_0 : w12.cell? ⟨w4.heap.size, 0, none⟩ = some (.int .i64 z0) := bx.cell 0
  have bx_1 : w12.cell? ⟨w4.heap.size, 1, none⟩ = some (.string z1) := bx.cell 1
  have bx_2 : w12.cell? ⟨w4.heap.size, 2, none⟩ = some (.int .i64 z2) := bx.cell 2
  have bx_3 : w12.cell? ⟨w4.heap.size, 3, none⟩ = some (.int .i64 z3) := bx.cell 3
  have bx_4 : w12.cell? ⟨w4.heap.size, 4, none⟩ = some (.slice X4 z4.length Xc4) := bx.cell 4
  have bx_5 : w12.cell? ⟨w4.heap.size, 5, none⟩ = some (.slice X5 z5.length Xc5) := bx.cell 5
  have bx_6 : w12.cell? ⟨w4.heap.size, 6, none⟩ = some (.slice X6 z6.length Xc6) := bx.cell 6
  have bx_7 : w12.cell? ⟨w4.heap.size, 7, none⟩ = some (.slice X7 z7.length Xc7) := bx.cell 7
  have bx_8 : w12.cell? ⟨w4.heap.size, 8, none⟩ = some (.slice X8 z8.length Xc8) := bx.cell 8
  have bx_9 : w12.cell? ⟨w4.heap.size, 9, none⟩ = some (.slice X9 z9.length Xc9) := bx.cell 9
  have bx_10 : w12.cell? ⟨w4.heap.size, 10, none⟩ = some (.slice X10 z10.length Xc10) := bx.cell 10
  have bx_11 : w12.cell? ⟨w4.heap.size, 11, none⟩ = some (.string z11) := bx.cell 11
  have bx_12 : w12.cell? ⟨w4.heap.size, 12, none⟩ = some (.slice X12 z12.length Xc12) := bx.cell 12
  have bx_13 : w12.cell? ⟨w4.heap.size, 13, none⟩ = some (.slice X13 z13.length Xc13) := bx.cell 13
  have bx_l := bx.lt
  go_wp2_with fail
  clear bA_0 bA_1 bA_2 bA_3 bA_4 bA_5 bA_6 bA_7 bA_8 bA_9 bA_10 bA_11 bA_12 bA_13 bA_l
  clear bx_0 bx_1 bx_2 bx_3 bx_4 bx_5 bx_6 bx_7 bx_8 bx_9 bx_10 bx_11 bx_12 bx_13 bx_l
  refine (toMachine_any ⟨z0, z1, z2, z3, z4, z5, ⟨z6⟩, z7, z8, z9, z10, ⟨z11, z12, z13⟩⟩ hw [.int .i64 z0, .string z1, .int .i64 z2, .int .i64 z3, .slice A4 z4.length c4, .slice A5 z5.length c5, .slice A6 z6.length c6, .slice A7 z7.length c7, .slice A8 z8.length c8, .slice A9 z9.length c9, .slice A10 z10.length c10, .string z11, .slice A12 z12.length c12, .slice A13 z13.length c13] _ W.heap.size (by omega) (RV.out.on hB (Nat.le_refl _) (Nat.le_refl _))).mono ?_
  rw [FMachine.c_eq]
  rintro e w13 ⟨us, rfl, own, hb⟩
  replace bA := bA.below hb (Nat.le_refl _)
  replace bx := bx.below hb (Nat.le_refl _)
  replace iw0 := iw0.below hb (Nat.le_refl _)
  replace ix := ix.below hb (Nat.le_refl _)
  replace ig0 := ig0.below hb (Nat.le_refl _)
  replace hB := hB.trans (hb.mono (by omega))
  have s13 : w12.heap.size ≤ w13.heap.size := hb.size
  clear hb
  have hv := own.vs
  obtain ⟨us_0, rfl, hv_0⟩ := hv.unv
  obtain ⟨us_1, rfl, hv_1⟩ := hv_0.unv
  obtain ⟨us_2, rfl, hv_2⟩ := hv_1.unv
  obtain ⟨us_3, rfl, hv_3⟩ := hv_2.unv
  obtain ⟨V4, Vc4, us_4, rfl, _, hv_4⟩ := hv_3.uns
  obtain ⟨V5, Vc5, us_5, rfl, _, hv_5⟩ := hv_4.uns
  obtain ⟨V6, Vc6, us_6, rfl, _, hv_6⟩ := hv_5.uns
  obtain ⟨V7, Vc7, us_7, rfl, _, hv_7⟩ := hv_6.uns
  obtain ⟨V8, Vc8, us_8, rfl, _, hv_8⟩ := hv_7.uns
  obtain ⟨V9, Vc9, us_9, rfl, _, hv_9⟩ := hv_8.uns
  obtain ⟨V10, Vc10, us_10, rfl, _, hv_10⟩ := hv_9.uns
  obtain ⟨us_11, rfl, hv_11⟩ := hv_10.unv
  obtain ⟨V12, Vc12, us_12, rfl, _, hv_12⟩ := hv_11.uns
  obtain ⟨V13, Vc13, us_13, rfl, _, hv_13⟩ := hv_12.uns
  obtain rfl := hv_13.un0
  clear hv hv_0 hv_1 hv_2 hv_3 hv_4 hv_5 hv_6 hv_7 hv_8 hv_9 hv_10 hv_11 hv_12 hv_13
  have iv := own
  clear own
  have bA_0 : w13.cell? ⟨W.heap.size, 0, none⟩ = some (.int .i64 z0) := bA.cell 0
  have bA_1 : w13.cell? ⟨W.heap.size, 1, none⟩ = some (.string z1) := bA.cell 1
  have bA_2 : w13.cell? ⟨W.heap.size, 2, none⟩ = some (.int .i64 z2) := bA.cell 2
  have bA_3 : w13.cell? ⟨W.heap.size, 3, none⟩ = some (.int .i64 z3) := bA.cell 3
  have bA_4 : w13.cell? ⟨W.heap.size, 4, none⟩ = some (.slice A4 z4.length c4) := bA.cell 4
  have bA_5 : w13.cell? ⟨W.heap.size, 5, none⟩ = some (.slice A5 z5.length c5) := bA.cell 5
  have bA_6 : w13.cell? ⟨W.heap.size, 6, none⟩ = some (.slice A6 z6.length c6) := bA.cell 6
  have bA_7 : w13.cell? ⟨W.heap.size, 7, none⟩ = some (.slice A7 z7.length c7) := bA.cell 7
  have bA_8 : w13.cell? ⟨W.heap.size, 8, none⟩ = some (.slice A8 z8.length c8) := bA.cell 8
  have bA_9 : w13.cell? ⟨W.heap.size, 9, none⟩ = some (.slice A9 z9.length c9) := bA.cell 9
  have bA_10 : w13.cell? ⟨W.heap.size, 10, none⟩ = some (.slice A10 z10.length c10) := bA.cell 10
  have bA_11 : w13.cell? ⟨W.heap.size, 11, none⟩ = some (.string z11) := bA.cell 11
  have bA_12 : w13.cell? ⟨W.heap.size, 12, none⟩ = some (.slice A12 z12.length c12) := bA.cell 12
  have bA_13 : w13.cell? ⟨W.heap.size, 13, none⟩ = some (.slice A13 z13.length c13) := bA.cell 13
  have bA_l := bA.lt
  have bx_0 : w13.cell? ⟨w4.heap.size, 0, none⟩ = some (.int .i64 z0) := bx.cell 0
  have bx_1 : w13.cell? ⟨w4.heap.size, 1, none⟩ = some (.string z1) := bx.cell 1
  have bx_2 : w13.cell? ⟨w4.heap.size, 2, none⟩ = some (.int .i64 z2) := bx.cell 2
  have bx_3 : w13.cell? ⟨w4.heap.size, 3, none⟩ = some (.int .i64 z3) := bx.cell 3
  have bx_4 : w13.cell? ⟨w4.heap.size, 4, none⟩ = some (.slice X4 z4.length Xc4) := bx.cell 4
  have bx_5 : w13.cell? ⟨w4.heap.size, 5, none⟩ = some (.slice X5 z5.length Xc5) := bx.cell 5
  have bx_6 : w13.cell? ⟨w4.heap.size, 6, none⟩ = some (.slice X6 z6.length Xc6) := bx.cell 6
  have bx_7 : w13.cell? ⟨w4.heap.size, 7, none⟩ = some (.slice X7 z7.length Xc7) := bx.cell 7
  have bx_8 : w13.cell? ⟨w4.heap.size, 8, none⟩ = some (.slice X8 z8.length Xc8) := bx.cell 8
  have bx_9 : w13.cell? ⟨w4.heap.size, 9, none⟩ = some (.slice X9 z9.length Xc9) := bx.cell 9
  have bx_10 : w13.cell? ⟨w4.heap.size, 10, none⟩ = some (.slice X10 z10.length Xc10) := bx.cell 10
  have bx_11 : w13.cell? ⟨w4.heap.size, 11, none⟩ = some (.string z11) := bx.cell 11
  have bx_12 : w13.cell? ⟨w4.heap.size, 12, none⟩ = some (.slice X12 z12.length Xc12) := bx.cell 12
  have bx_13 : w13.cell? ⟨w4.heap.size, 13, none⟩ = some (.slice X13 z13.length Xc13) := bx.cell 13
  have bx_l := bx.lt
  go_wp2_with fail
  clear bA_0 bA_1 bA_2 bA_3 bA_4 bA_5 bA_6 bA_7 bA_8 bA_9 bA_10 bA_11 bA_12 bA_13 bA_l
  clear bx_0 bx_1 bx_2 bx_3 bx_4 bx_5 bx_6 bx_7 bx_8 bx_9 bx_10 bx_11 bx_12 bx_13 bx_l
  refine (maRo_any ⟨z0, z1, z2, z3, z4, z5, ⟨z6⟩, z7, z8, z9, z10, ⟨z11, z12, z13⟩⟩ hw _ _ w13.heap.size (Nat.le_refl _) (by rw [FMachine.c_eq]; exact iv.vs)).mono ?_
  rw [HQ0.out]
  rintro e w14 ⟨K0_0, Kc0_0, rfl, own0, hb⟩
  replace bA := bA.below hb (Nat.le_refl _)
  replace bx := bx.below hb (Nat.le_refl _)
  replace iw0 := iw0.below hb (Nat.le_refl _)
  replace ix := ix.below hb (Nat.le_refl _)
  replace ig0 := ig0.below hb (Nat.le_refl _)
  replace iv := iv.below hb (Nat.le_refl _)
  replace hB := hB.trans (hb.mono (by omega))
  have s14 : w13.heap.size ≤ w14.heap.size := hb.size
  clear hb
  have ih0 := own0
  clear own0
  clear iv
  have bA_0 : w14.cell? ⟨W.heap.size, 0, none⟩ = some (.int .i64 z0) := bA.cell 0
  have bA_1 : w14.cell? ⟨W.heap.size, 1, none⟩ = some (.string z1) := bA.cell 1
  have bA_2 : w14.cell? ⟨W.heap.size, 2, none⟩ = some (.int .i64 z2) := bA.cell 2
  have bA_3 : w14.cell? ⟨W.heap.size, 3, none⟩ = some (.int .i64 z3) := bA.cell 3
  have bA_4 : w14.cell? ⟨W.heap.size, 4, none⟩ = some (.slice A4 z4.length c4) := bA.cell 4
  have bA_5 : w14.cell? ⟨W.heap.size, 5, none⟩ = some (.slice A5 z5.length c5) := bA.cell 5
  have bA_6 : w14.cell? ⟨W.heap.size, 6, none⟩ = some (.slice A6 z6.length c6) := bA.cell 6
  have bA_7 : w14.cell? ⟨W.heap.size, 7, none⟩ = some (.slice A7 z7.length c7) := bA.cell 7
  have bA_8 : w14.cell? ⟨W.heap.size, 8, none⟩ = some (.slice A8 z8.length c8) := bA.cell 8
  have bA_9 : w14.cell? ⟨W.heap.size, 9, none⟩ = some (.slice A9 z9.length c9) := bA.cell 9
  have bA_10 : w14.cell? ⟨W.heap.size, 10, none⟩ = some (.slice A10 z10.length c10) := bA.cell 10
  have bA_11 : w14.cell? ⟨W.heap.size, 11, none⟩ = some (.string z11) := bA.cell 11
  have bA_12 : w14.cell? ⟨W.heap.size, 12, none⟩ = some (.slice A12 z12.length c12) := bA.cell 12
  have bA_13 : w14.cell? ⟨W.heap.size, 13, none⟩ = some (.slice A13 z13.length c13) := bA.cell 13
  have bA_l := bA.lt
  have bx_0 : w14.cell? ⟨w4.heap.size, 0, none⟩ = some (.int .i64 z0) := bx.cell 0
  have bx_1 : w14.cell? ⟨w4.heap.size, 1, none⟩ = some (.string z1) := bx.cell 1
  have bx_2 : w14.cell? ⟨w4.heap.size, 2, none⟩ = some (.int .i64 z2) := bx.cell 2
  have bx_3 : w14.cell? ⟨w4.heap.size, 3, none⟩ = some (.int .i64 z3) := bx.cell 3
  have bx_4 : w14.cell? ⟨w4.heap.size, 4, none⟩ = some (.slice X4 z4.length Xc4) := bx.cell 4
  have bx_5 : w14.cell? ⟨w4.heap.size, 5, none⟩ = some (.slice X5 z5.length Xc5) := bx.cell 5
  have bx_6 : w14.cell? ⟨w4.heap.size, 6, none⟩ = some (.slice X6 z6.length Xc6) := bx.cell 6
  have bx_7 : w14.cell? ⟨w4.heap.size, 7, none⟩ = some (.slice X7 z7.length Xc7) := bx.cell 7
  have bx_8 : w14.cell? ⟨w4.heap.size, 8, none⟩ = some (.slice X8 z8.length Xc8) := bx.cell 8
  have bx_9 : w14.cell? ⟨w4.heap.size, 9, none⟩ = some (.slice X9 z9.length Xc9) := bx.cell 9
  have bx_10 : w14.cell? ⟨w4.heap.size, 10, none⟩ = some (.slice X10 z10.length Xc10) := bx.cell 10
  have bx_11 : w14.cell? ⟨w4.heap.size, 11, none⟩ = some (.string z11) := bx.cell 11
  have bx_12 : w14.cell? ⟨w4.heap.size, 12, none⟩ = some (.slice X12 z12.length Xc12) := bx.cell 12
  have bx_13 : w14.cell? ⟨w4.heap.size, 13, none⟩ = some (.slice X13 z13.length Xc13) := bx.cell 13
  have bx_l := bx.lt
  go_wp2_with fail
  clear bA_0 bA_1 bA_2 bA_3 bA_4 bA_5 bA_6 bA_7 bA_8 bA_9 bA_10 bA_11 bA_12 bA_13 bA_l
  clear bx_0 bx_1 bx_2 bx_3 bx_4 bx_5 bx_6 bx_7 bx_8 bx_9 bx_10 bx_11 bx_12 bx_13 bx_l
  refine (eqValueS_any q0 HW0.out _ _ _ ih0.read iw0.read).mono ?_
  rintro e w15 ⟨rfl, hb⟩
  replace bA := bA.below hb (Nat.le_refl _)
  replace bx := bx.below hb (Nat.le_refl _)
  replace iw0 := iw0.below hb (Nat.le_refl _)
  replace ix := ix.below hb (Nat.le_refl _)
  replace ig0 := ig0.below hb (Nat.le_refl _)
  replace ih0 := ih0.below hb (Nat.le_refl _)
  replace hB := hB.trans (hb.mono (by omega))
  have s15 : w14.heap.size ≤ w15.heap.size := hb.size
  clear hb
  have bA_0 : w15.cell? ⟨W.heap.size, 0, none⟩ = some (.int .i64 z0) := bA.cell 0
  have bA_1 : w15.cell? ⟨W.heap.size, 1, none⟩ = some (.string z1) := bA.cell 1
  have bA_2 : w15.cell? ⟨W.heap.size, 2, none⟩ = some (.int .i64 z2) := bA.cell 2
  have bA_3 : w15.cell? ⟨W.heap.size, 3, none⟩ = some (.int .i64 z3) := bA.cell 3
  have bA_4 : w15.cell? ⟨W.heap.size, 4, none⟩ = some (.slice A4 z4.length c4) := bA.cell 4
  have bA_5 : w15.cell? ⟨W.heap.size, 5, none⟩ = some (.slice A5 z5.length c5) := bA.cell 5
  have bA_6 : w15.cell? ⟨W.heap.size, 6, none⟩ = some (.slice A6 z6.length c6) := bA.cell 6
  have bA_7 : w15.cell? ⟨W.heap.size, 7, none⟩ = some (.slice A7 z7.length c7) := bA.cell 7
  have bA_8 : w15.cell? ⟨W.heap.size, 8, none⟩ = some (.slice A8 z8.length c8) := bA.cell 8
  have bA_9 : w15.cell? ⟨W.heap.size, 9, none⟩ = some (.slice A9 z9.length c9) := bA.cell 9
  have bA_10 : w15.cell? ⟨W.heap.size, 10, none⟩ = some (.slice A10 z10.length c10) := bA.cell 10
  have bA_11 : w15.cell? ⟨W.heap.size, 11, none⟩ = some (.string z11) := bA.cell 11
  have bA_12 : w15.cell? ⟨W.heap.size, 12, none⟩ = some (.slice A12 z12.length c12) := bA.cell 12
  have bA_13 : w15.cell? ⟨W.heap.size, 13, none⟩ = some (.slice A13 z13.length c13) := bA.cell 13
  have bA_l := bA.lt
  have bx_0 : w15.cell? ⟨w4.heap.size, 0, none⟩ = some (.int .i64 z0) := bx.cell 0
  have bx_1 : w15.cell? ⟨w4.heap.size, 1, none⟩ = some (.string z1) := bx.cell 1
  have bx_2 : w15.cell? ⟨w4.heap.size, 2, none⟩ = some (.int .i64 z2) := bx.cell 2
  have bx_3 : w15.cell? ⟨w4.heap.size, 3, none⟩ = some (.int .i64 z3) := bx.cell 3
  have bx_4 : w15.cell? ⟨w4.heap.size, 4, none⟩ = some (.slice X4 z4.length Xc4) := bx.cell 4
  have bx_5 : w15.cell? ⟨w4.heap.size, 5, none⟩ = some (.slice X5 z5.length Xc5) := bx.cell 5
  have bx_6 : w15.cell? ⟨w4.heap.size, 6, none⟩ = some (.slice X6 z6.length Xc6) := bx.cell 6
  have bx_7 : w15.cell? ⟨w4.heap.size, 7, none⟩ = some (.slice X7 z7.length Xc7) := bx.cell 7
  have bx_8 : w15.cell? ⟨w4.heap.size, 8, none⟩ = some (.slice X8 z8.length Xc8) := bx.cell 8
  have bx_9 : w15.cell? ⟨w4.heap.size, 9, none⟩ = some (.slice X9 z9.length Xc9) := bx.cell 9
  have bx_10 : w15.cell? ⟨w4.heap.size, 10, none⟩ = some (.slice X10 z10.length Xc10) := bx.cell 10
  have bx_11 : w15.cell? ⟨w4.heap.size, 11, none⟩ = some (.string z11) := bx.cell 11
  have bx_12 : w15.cell? ⟨w4.heap.size, 12, none⟩ = some (.slice X12 z12.length Xc12) := bx.cell 12
  have bx_13 : w15.cell? ⟨w4.heap.size, 13, none⟩ = some (.slice X13 z13.length Xc13) := bx.cell 13
  have bx_l := bx.lt
  go_wp2_with fail
  clear bA_0 bA_1 bA_2 bA_3 bA_4 bA_5 bA_6 bA_7 bA_8 bA_9 bA_10 bA_11 bA_12 bA_13 bA_l
  clear bx_0 bx_1 bx_2 bx_3 bx_4 bx_5 bx_6 bx_7 bx_8 bx_9 bx_10 bx_11 bx_12 bx_13 bx_l
  have hcall := heldValueS_any q0 _ 1 w15 (by omega) (by rw [← HKm0.out]; omega) ig0.read
  rw [← HSm0.out] at hcall
  refine hcall.mono ?_
  clear hcall
  rintro e w16 ⟨rfl, hb⟩
  replace bA := bA.below hb (Nat.le_refl _)
  replace bx := bx.below hb (Nat.le_refl _)
  replace iw0 := iw0.below hb (Nat.le_refl _)
  replace ix := ix.below hb (Nat.le_refl _)
  replace ig0 := ig0.below hb (Nat.le_refl _)
  replace ih0 := ih0.below hb (Nat.le_refl _)
  replace hB := hB.trans (hb.mono (by omega))
  have s16 : w15.heap.size ≤ w16.heap.size := hb.size
  clear hb
  have bA_0 : w16.cell? ⟨W.heap.size, 0, none⟩ = some (.int .i64 z0) := bA.cell 0
  have bA_1 : w16.cell? ⟨W.heap.size, 1, none⟩ = some (.string z1) := bA.cell 1
  have bA_2 : w16.cell? ⟨W.heap.size, 2, none⟩ = some (.int .i64 z2) := bA.cell 2
  have bA_3 : w16.cell? ⟨W.heap.size, 3, none⟩ = some (.int .i64 z3) := bA.cell 3
  have bA_4 : w16.cell? ⟨W.heap.size, 4, none⟩ = some (.slice A4 z4.length c4) := bA.cell 4
  have bA_5 : w16.cell? ⟨W.heap.size, 5, none⟩ = some (.slice A5 z5.length c5) := bA.cell 5
  have bA_6 : w16.cell? ⟨W.heap.size, 6, none⟩ = some (.slice A6 z6.length c6) := bA.cell 6
  have bA_7 : w16.cell? ⟨W.heap.size, 7, none⟩ = some (.slice A7 z7.length c7) := bA.cell 7
  have bA_8 : w16.cell? ⟨W.heap.size, 8, none⟩ = some (.slice A8 z8.length c8) := bA.cell 8
  have bA_9 : w16.cell? ⟨W.heap.size, 9, none⟩ = some (.slice A9 z9.length c9) := bA.cell 9
  have bA_10 : w16.cell? ⟨W.heap.size, 10, none⟩ = some (.slice A10 z10.length c10) := bA.cell 10
  have bA_11 : w16.cell? ⟨W.heap.size, 11, none⟩ = some (.string z11) := bA.cell 11
  have bA_12 : w16.cell? ⟨W.heap.size, 12, none⟩ = some (.slice A12 z12.length c12) := bA.cell 12
  have bA_13 : w16.cell? ⟨W.heap.size, 13, none⟩ = some (.slice A13 z13.length c13) := bA.cell 13
  have bA_l := bA.lt
  have bx_0 : w16.cell? ⟨w4.heap.size, 0, none⟩ = some (.int .i64 z0) := bx.cell 0
  have bx_1 : w16.cell? ⟨w4.heap.size, 1, none⟩ = some (.string z1) := bx.cell 1
  have bx_2 : w16.cell? ⟨w4.heap.size, 2, none⟩ = some (.int .i64 z2) := bx.cell 2
  have bx_3 : w16.cell? ⟨w4.heap.size, 3, none⟩ = some (.int .i64 z3) := bx.cell 3
  have bx_4 : w16.cell? ⟨w4.heap.size, 4, none⟩ = some (.slice X4 z4.length Xc4) := bx.cell 4
  have bx_5 : w16.cell? ⟨w4.heap.size, 5, none⟩ = some (.slice X5 z5.length Xc5) := bx.cell 5
  have bx_6 : w16.cell? ⟨w4.heap.size, 6, none⟩ = some (.slice X6 z6.length Xc6) := bx.cell 6
  have bx_7 : w16.cell? ⟨w4.heap.size, 7, none⟩ = some (.slice X7 z7.length Xc7) := bx.cell 7
  have bx_8 : w16.cell? ⟨w4.heap.size, 8, none⟩ = some (.slice X8 z8.length Xc8) := bx.cell 8
  have bx_9 : w16.cell? ⟨w4.heap.size, 9, none⟩ = some (.slice X9 z9.length Xc9) := bx.cell 9
  have bx_10 : w16.cell? ⟨w4.heap.size, 10, none⟩ = some (.slice X10 z10.length Xc10) := bx.cell 10
  have bx_11 : w16.cell? ⟨w4.heap.size, 11, none⟩ = some (.string z11) := bx.cell 11
  have bx_12 : w16.cell? ⟨w4.heap.size, 12, none⟩ = some (.slice X12 z12.length Xc12) := bx.cell 12
  have bx_13 : w16.cell? ⟨w4.heap.size, 13, none⟩ = some (.slice X13 z13.length Xc13) := bx.cell 13
  have bx_l := bx.lt
  go_wp2_with fail
  clear bA_0 bA_1 bA_2 bA_3 bA_4 bA_5 bA_6 bA_7 bA_8 bA_9 bA_10 bA_11 bA_12 bA_13 bA_l
  clear bx_0 bx_1 bx_2 bx_3 bx_4 bx_5 bx_6 bx_7 bx_8 bx_9 bx_10 bx_11 bx_12 bx_13 bx_l
  go_ret
  exact ⟨rfl, hB⟩
theorem fnExactMachineRoots_lifted (os : Os) (started : os.Started) (H : Type) (enc : TypeId × Value → H) :
    ReturnsInHanded {} Tryz.checked os 3 .any (Rows.fnExactMachineRootsSpec.pre6 enc Tryz.prog Tryz.f3 Rows.fnExactMachineRootsRow.domain false) (Rows.fnExactMachineRootsSpec.post enc Tryz.prog Tryz.f3 false true false false) := by
  refine returnsInHanded_of_change (C := Tryz.checked) own started (by kernel_rfl) Tryz.func3
    (ChangeSpec.witness6 (enc := enc) (C := Tryz.checked) false ⟨#[], #[.agg #[.int .i64 0, .string ByteArray.empty, .int .i64 0, .int .i64 0, .slice none 0 0, .slice none 0 0, .slice none 0 0, .slice none 0 0, .slice none 0 0, .slice none 0 0, .slice none 0 0, .string ByteArray.empty, .slice none 0 0, .slice none 0 0]], []⟩ 8 (by kernel_rfl) (by kernel_rfl) (by kernel_rfl) (by kernel_rfl)) ?_
  intro W base args ds gs before hval0 hW hcnd _
  have hval : ∀ (j : Nat) t v, Tryz.f3.params[j]? = some t → args[j]? = some v → Value.okWide Tryz.prog W .any base t v := hval0
  have hW' := hW
  obtain ⟨p, q, hA0, hV, rfl, hfz, hnd⟩ := hW
  have hA : DataW.TrodAll enc Tryz.prog W 0 (fun _ => true) true Tryz.f3.params.toList args.toList ds p := hA0
  rw [Tryz.params3] at hA hval
  obtain ⟨v0, vs0, d0, ds0, p0, q0, hargs, rfl, rfl, h0, r0⟩ := trodAll_cons hA
  obtain ⟨rfl, rfl, rfl⟩ := trodAll_nil r0
  obtain rfl : args = #[v0] := by cases args; simp_all
  obtain ⟨rfl, rfl⟩ := trodVars_none hV
  have lt0 : ∀ x ∈ p0, x.block < W.heap.size := by obtain ⟨m, hm⟩ := h0; exact DataW.trod_lt m _ _ _ hm
  have k0 := hval 0 36 v0 rfl rfl
  clear hA0 hval0
  refine (fnExactMachineRoots_walk W base v0 k0 h0).mono fun e W' ⟨he, bel⟩ => ?_
  subst he
  exact ⟨_, rfl, _, _, _, [], _, [], hW', trodAll_mk1 (shut_bool Tryz.underlying4 _), (trodAll_cons_mk (Below.trod laidOut (by kernel_rfl) (of_decide_eq_true (by kernel_rfl)) h0 bel lt0) trodAll_mk0), rfl, bel.frame _, fun h => by cases h⟩

theorem fnExactMachineRoots_holds : Rows.FnExactMachineRootsSaid :=
  OpenClaim.holds_of_wide 3 Tryz.f3 rfl rfl rfl rfl rfl rfl rfl ⟨rfl, rfl, rfl, rfl, rfl⟩ rfl rfl rfl rfl rfl (by kernel_rfl) Tryz.func3 (by kernel_rfl)
    (of_decide_eq_true (by kernel_rfl)) (by unfold Func.isWrapper; rw [if_neg (of_decide_eq_false (by kernel_rfl))]; exact ⟨rfl, rfl⟩)
    (fun os started H enc _ => fnExactMachineRoots_lifted os started H enc)
#print axioms fnExactMachineRoots_holds

end Go.Proofs.YtahgcojmpafefaaGreat
