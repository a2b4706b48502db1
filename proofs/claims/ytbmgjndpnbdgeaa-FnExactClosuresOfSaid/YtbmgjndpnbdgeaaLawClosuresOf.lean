/-
  The law 'FnExactClosuresOf' returns true for every input and leaves its arguments as they read. Conditions: none.
-/
import Derived.Test.YtbmgjndpnbdgeaaClS
import Derived.Test.YtbmgjndpnbdgeaaSzU
import Derived.Test.YtbmgjndpnbdgeaaEqU
namespace Go.Proofs.Ytbmgjndpnbdgeaa
open Go.ChangeShapes Go.WideShapes Go.ChangeAt Go.RowKit Go.Deep Go.Joins
open Go.ChangeMaps (open_string shut_string)
set_option linter.unusedVariables false
set_option linter.unusedSimpArgs false
set_option maxRecDepth 100000

set_option maxHeartbeats 4000000 in
theorem fnExactClosuresOf_walk {H : Type} {enc : TypeId × Value → H} (W : World) (base : Nat) (v0 : Value) {d0 : DataW H} {p0 : List MemPlace}
    (k0 : Value.okWide Try.prog W .any base 34 v0)
    (h0 : DataW.Trod enc Try.prog W 0 (fun _ => true) true 34 v0 d0 p0) :
    Calls Try.prog 4 #[v0] W fun e w' => e = .returned (.bool true) ∧ Below W.heap.size W w' := by
  obtain ⟨cs0, rfl, hcs0⟩ := okWide_struct (fs := flds Try.prog 34) (by kernel_rfl) k0
  obtain ⟨fu, hfu⟩ := h0
  obtain ⟨x, r, ok⟩ := read_Node fu _ _ hfu
  obtain ⟨z0, z1, z2, z3⟩ := x
  have RV0 := r
  rw [FNode.c_eq] at r
  obtain ⟨us, hus⟩ : ∃ us, us = cs0.toList := ⟨_, rfl⟩
  have hus2 : cs0 = us.toArray := by rw [hus]
  subst hus2
  clear hus
  have r_ : RdVs W W.heap.size [.v (.int .i64 z0), .v (.int .i64 z1), .v (.string z2), .s 38 4 z3.length (FNode.flat z3)] us := by simpa [Value.cells] using r
  have RV1 : RdVs W W.heap.size (FNode.c ⟨z0, z1, z2, z3⟩) us := by simpa [Value.cells] using RV0
  clear r RV0 hfu k0 hcs0
  obtain ⟨us0, rfl, r_0⟩ := r_.unv
  obtain ⟨us1, rfl, r_1⟩ := r_0.unv
  obtain ⟨us2, rfl, r_2⟩ := r_1.unv
  obtain ⟨A3, c3, us3, rfl, _, r_3⟩ := r_2.uns
  obtain rfl := r_3.un0
  clear r_ r_0 r_1 r_2 r_3
  have RV := Lib.hid RV1
  have OK := Lib.hid ok
  clear RV1 ok
  by_cases hn : (((FNode.wt ⟨z0, z1, z2, z3⟩) : Nat) : Int) ≤ 1048576
  case neg =>
    have HP := Lib.hid (bud_neg hn)
    have hp : bud 1048576 (FNode.wt ⟨z0, z1, z2, z3⟩) < 0 := by rw [HP.out]; omega
    go_enter Try.func4, Try.ntmps4
    go_wp2_with fail
    refine calls_worldD _ (fun X => Blk X W.heap.size 34 #[.int .i64 z0, .int .i64 z1, .string z2, .slice A3 z3.length c3] ∧ Below W.heap.size W X ∧ W.heap.size < X.heap.size) ⟨Blk.new _ _ _, (Below.refl _ _).alloc (Nat.le_refl _) _, by simp⟩ ?_
    rintro w0 ⟨bA, hB0, s0⟩
    refine (szNode_any ⟨z0, z1, z2, z3⟩ OK.out [.int .i64 z0, .int .i64 z1, .string z2, .slice A3 z3.length c3] _ _ W.heap.size (by omega) (by omega) (by omega) (RV.out.on hB0 (Nat.le_refl _) (Nat.le_refl _))).mono ?_
    rintro e w1 ⟨rfl, hb⟩
    have hB := hB0.trans (hb.mono (by omega))
    replace bA := bA.below hb (Nat.le_refl _)
    have bA_0 : w1.cell? ⟨W.heap.size, 0, none⟩ = some (.int .i64 z0) := bA.cell 0
    have bA_1 : w1.cell? ⟨W.heap.size, 1, none⟩ = some (.int .i64 z1) := bA.cell 1
    have bA_2 : w1.cell? ⟨W.heap.size, 2, none⟩ = some (.string z2) := bA.cell 2
    have bA_3 : w1.cell? ⟨W.heap.size, 3, none⟩ = some (.slice A3 z3.length c3) := bA.cell 3
    go_wp2_with fail
    go_ret
    exact ⟨rfl, hB⟩
  have hw : (FNode.wt ⟨z0, z1, z2, z3⟩) ≤ 1048576 := by omega
  have HWx := Lib.hid (show (FNode.wt ⟨z0, z1, z2, z3⟩) ≤ 1000000000 by omega)
  have HP := Lib.hid (bud_pos hn)
  have hp : 0 ≤ bud 1048576 (FNode.wt ⟨z0, z1, z2, z3⟩) := by rw [HP.out]; omega
  clear HP
  have HWl := Lib.hid hw
  have hqw0 : (clN ⟨z0, z1, z2, z3⟩).length ≤ 1000000000 ∧ ∀ y, y ∈ (clN ⟨z0, z1, z2, z3⟩) → y.wt ≤ 1000000000 := ⟨by have := (clQ_wt _ hw).1; omega, fun y hy => by have := (clQ_wt _ hw).2.1 y hy; omega⟩
  have hqs0 : (clN ⟨z0, z1, z2, z3⟩).length + FNode.wts (clN ⟨z0, z1, z2, z3⟩) ≤ 1100000000000 := (clQ_wt _ hw).2.2
  have hqc0 := cntb_NodeS (clN ⟨z0, z1, z2, z3⟩)
  generalize hq0 : clN ⟨z0, z1, z2, z3⟩ = q0 at *
  have HQ0 := Lib.hid hq0
  clear hq0
  have HW0 := Lib.hid hqw0
  clear hqw0
  have hxc := cntb_Node ⟨z0, z1, z2, z3⟩
  obtain ⟨kx, hskx⟩ : ∃ k : Int, k = 1 + (scnt (FNode.c ⟨z0, z1, z2, z3⟩) : Int) := ⟨_, rfl⟩
  have hkkx : kx = 1 + (scnt (FNode.c ⟨z0, z1, z2, z3⟩) : Int) := hskx
  have npkx : 1 ≤ kx := by omega
  have nkkx : ¬ kx < 0 := by omega
  have dkkx : decide (kx < 0) = false := by simpa using nkkx
  have nbkx : kx ≤ 1000000000000 := by omega
  have HSkx := Lib.hid hskx
  have HKkx := Lib.hid hkkx
  clear hskx hkkx
  obtain ⟨m0, hsm0⟩ : ∃ k : Int, k = 1 + (cntL (FNode.flat q0) : Int) := ⟨_, rfl⟩
  have hkm0 : m0 = 1 + (cntL (FNode.flat q0) : Int) := hsm0
  have npm0 : 1 ≤ m0 := by omega
  have nkm0 : ¬ m0 < 0 := by omega
  have dkm0 : decide (m0 < 0) = false := by simpa using nkm0
  have nbm0 : m0 ≤ 100000000000000 := by omega
  have HSm0 := Lib.hid hsm0
  have HKm0 := Lib.hid hkm0
  clear hsm0 hkm0
  go_enter Try.func4, Try.ntmps4
  go_wp2_with fail
  refine calls_worldD _ (fun X => Blk X W.heap.size 34 #[.int .i64 z0, .int .i64 z1, .string z2, .slice A3 z3.length c3] ∧ Below W.heap.size W X ∧ W.heap.size < X.heap.size) ⟨Blk.new _ _ _, (Below.refl _ _).alloc (Nat.le_refl _) _, by simp⟩ ?_
  rintro w0 ⟨bA, hB0, s0⟩
  refine (szNode_any ⟨z0, z1, z2, z3⟩ OK.out [.int .i64 z0, .int .i64 z1, .string z2, .slice A3 z3.length c3] _ _ W.heap.size (by omega) (by omega) (by omega) (RV.out.on hB0 (Nat.le_refl _) (Nat.le_refl _))).mono ?_
  have hB := hB0
  clear hB0
  rintro e w1 ⟨rfl, hb⟩
  replace bA := bA.below hb (Nat.le_refl _)
  replace hB := hB.trans (hb.mono (by omega))
  have s1 : w0.heap.size ≤ w1.heap.size := hb.size
  clear hb
  have bA_0 : w1.cell? ⟨W.heap.size, 0, none⟩ = some (.int .i64 z0) := bA.cell 0
  have bA_1 : w1.cell? ⟨W.heap.size, 1, none⟩ = some (.int .i64 z1) := bA.cell 1
  have bA_2 : w1.cell? ⟨W.heap.size, 2, none⟩ = some (.string z2) := bA.cell 2
  have bA_3 : w1.cell? ⟨W.heap.size, 3, none⟩ = some (.slice A3 z3.length c3) := bA.cell 3
  have bA_l := bA.lt
  go_wp2_with fail
  clear bA_0 bA_1 bA_2 bA_3 bA_l
  refine (toNode_any ⟨z0, z1, z2, z3⟩ hw [.int .i64 z0, .int .i64 z1, .string z2, .slice A3 z3.length c3] _ W.heap.size (by omega) (RV.out.on hB (Nat.le_refl _) (Nat.le_refl _))).mono ?_
  rw [FNode.c_eq]
  rintro e w2 ⟨us, rfl, own, hb⟩
  replace bA := bA.below hb (Nat.le_refl _)
  replace hB := hB.trans (hb.mono (by omega))
  have s2 : w1.heap.size ≤ w2.heap.size := hb.size
  clear hb
  have hv := own.vs
  obtain ⟨us_0, rfl, hv_0⟩ := hv.unv
  obtain ⟨us_1, rfl, hv_1⟩ := hv_0.unv
  obtain ⟨us_2, rfl, hv_2⟩ := hv_1.unv
  obtain ⟨U3, Uc3, us_3, rfl, _, hv_3⟩ := hv_2.uns
  obtain rfl := hv_3.un0
  clear hv hv_0 hv_1 hv_2 hv_3
  have iu := own
  clear own
  have bA_0 : w2.cell? ⟨W.heap.size, 0, none⟩ = some (.int .i64 z0) := bA.cell 0
  have bA_1 : w2.cell? ⟨W.heap.size, 1, none⟩ = some (.int .i64 z1) := bA.cell 1
  have bA_2 : w2.cell? ⟨W.heap.size, 2, none⟩ = some (.string z2) := bA.cell 2
  have bA_3 : w2.cell? ⟨W.heap.size, 3, none⟩ = some (.slice A3 z3.length c3) := bA.cell 3
  have bA_l := bA.lt
  go_wp2_with fail
  clear bA_0 bA_1 bA_2 bA_3 bA_l
  refine (Clos_spec ⟨z0, z1, z2, z3⟩ _ _ HWl.out (B := w2.heap.size) (Nat.le_refl _) (by rw [FNode.c_eq]; exact iu.vs)).mono ?_
  rw [HQ0.out]
  rintro e w3 ⟨G0_0, Gc0_0, rfl, own0, hb⟩
  replace bA := bA.below hb (Nat.le_refl _)
  replace iu := iu.below hb (Nat.le_refl _)
  replace hB := hB.trans (hb.mono (by omega))
  have s3 : w2.heap.size ≤ w3.heap.size := hb.size
  clear hb
  have iw0 := own0
  clear own0
  clear iu
  have bA_0 : w3.cell? ⟨W.heap.size, 0, none⟩ = some (.int .i64 z0) := bA.cell 0
  have bA_1 : w3.cell? ⟨W.heap.size, 1, none⟩ = some (.int .i64 z1) := bA.cell 1
  have bA_2 : w3.cell? ⟨W.heap.size, 2, none⟩ = some (.string z2) := bA.cell 2
  have bA_3 : w3.cell? ⟨W.heap.size, 3, none⟩ = some (.slice A3 z3.length c3) := bA.cell 3
  have bA_l := bA.lt
  go_wp2_with fail
  clear bA_0 bA_1 bA_2 bA_3 bA_l
  refine (toNode_any ⟨z0, z1, z2, z3⟩ hw [.int .i64 z0, .int .i64 z1, .string z2, .slice A3 z3.length c3] _ W.heap.size (by omega) (RV.out.on hB (Nat.le_refl _) (Nat.le_refl _))).mono ?_
  rw [FNode.c_eq]
  rintro e w4 ⟨us, rfl, own, hb⟩
  replace bA := bA.below hb (Nat.le_refl _)
  replace iw0 := iw0.below hb (Nat.le_refl _)
  replace hB := hB.trans (hb.mono (by omega))
  have s4 : w3.heap.size ≤ w4.heap.size := hb.size
  clear hb
  have hv := own.vs
  obtain ⟨us_0, rfl, hv_0⟩ := hv.unv
  obtain ⟨us_1, rfl, hv_1⟩ := hv_0.unv
  obtain ⟨us_2, rfl, hv_2⟩ := hv_1.unv
  obtain ⟨X3, Xc3, us_3, rfl, _, hv_3⟩ := hv_2.uns
  obtain rfl := hv_3.un0
  clear hv hv_0 hv_1 hv_2 hv_3
  have ix := own
  clear own
  have bA_0 : w4.cell? ⟨W.heap.size, 0, none⟩ = some (.int .i64 z0) := bA.cell 0
  have bA_1 : w4.cell? ⟨W.heap.size, 1, none⟩ = some (.int .i64 z1) := bA.cell 1
  have bA_2 : w4.cell? ⟨W.heap.size, 2, none⟩ = some (.string z2) := bA.cell 2
  have bA_3 : w4.cell? ⟨W.heap.size, 3, none⟩ = some (.slice A3 z3.length c3) := bA.cell 3
  have bA_l := bA.lt
  go_wp2_with fail
  clear bA_0 bA_1 bA_2 bA_3 bA_l
  refine calls_worldD _ (fun X => Blk X (W.heap.size) 34 #[.int .i64 z0, .int .i64 z1, .string z2, .slice A3 z3.length c3] ∧ Blk X (w4.heap.size) 38 #[.int .i64 z0, .int .i64 z1, .string z2, .slice X3 z3.length Xc3] ∧ OwnI X (w2.heap.size) (w3.heap.size) [.s 38 4 q0.length (FNode.flat q0)] [.slice G0_0 q0.length Gc0_0] ∧ OwnI X (w3.heap.size) (w4.heap.size) [.v (.int .i64 z0), .v (.int .i64 z1), .v (.string z2), .s 38 4 z3.length (FNode.flat z3)] [.int .i64 z0, .int .i64 z1, .string z2, .slice X3 z3.length Xc3] ∧ Below W.heap.size W X ∧ w4.heap.size < X.heap.size) ⟨bA.alloc _, Blk.new _ _ _, iw0.alloc _, ix.alloc _, (hB).alloc (by omega) _, by simp⟩ ?_
  clear bA iw0 ix hB
  rintro w5 ⟨bA, bx, iw0, ix, hB, s5⟩
  refine (Clos_impl ⟨z0, z1, z2, z3⟩ _ _ HWl.out (B := w5.heap.size) (Nat.le_refl _) (by rw [FNode.c_eq]; exact ix.vs)).mono ?_
  rw [HQ0.out]
  rintro e w6 ⟨Y0_0, Yc0_0, rfl, own0, hb⟩
  replace bA := bA.below hb (Nat.le_refl _)
  replace bx := bx.below hb (Nat.le_refl _)
  replace iw0 := iw0.below hb (Nat.le_refl _)
  replace ix := ix.below hb (Nat.le_refl _)
  replace hB := hB.trans (hb.mono (by omega))
  have s6 : w5.heap.size ≤ w6.heap.size := hb.size
  clear hb
  have ig0 := own0
  clear own0
  have bA_0 : w6.cell? ⟨W.heap.size, 0, none⟩ = some (.int .i64 z0) := bA.cell 0
  have bA_1 : w6.cell? ⟨W.heap.size, 1, none⟩ = some (.int .i64 z1) := bA.cell 1
  have bA_2 : w6.cell? ⟨W.heap.size, 2, none⟩ = some (.string z2) := bA.cell 2
  have bA_3 : w6.cell? ⟨W.heap.size, 3, none⟩ = some (.slice A3 z3.length c3) := bA.cell 3
  have bA_l := bA.lt
  have bx_0 : w6.cell? ⟨w4.heap.size, 0, none⟩ = some (.int .i64 z0) := bx.cell 0
  have bx_1 : w6.cell? ⟨w4.heap.size, 1, none⟩ = some (.int .i64 z1) := bx.cell 1
  have bx_2 : w6.cell? ⟨w4.heap.size, 2, none⟩ = some (.string z2) := bx.cell 2
  have bx_3 : w6.cell? ⟨w4.heap.size, 3, none⟩ = some (.slice X3 z3.length Xc3) := bx.cell 3
  have bx_l := bx.lt
  go_wp2_with fail
  clear bA_0 bA_1 bA_2 bA_3 bA_l
  clear bx_0 bx_1 bx_2 bx_3 bx_l
  refine (eqNodeS_of q0 HW0.out.1 (fun x hx => eqNode_any x (HW0.out.2 x hx)) _ _ _ ig0.read iw0.read).mono ?_
  rintro e w7 ⟨rfl, hb⟩
  replace bA := bA.below hb (Nat.le_refl _)
  replace bx := bx.below hb (Nat.le_refl _)
  replace iw0 := iw0.below hb (Nat.le_refl _)
  replace ix := ix.below hb (Nat.le_refl _)
  replace ig0 := ig0.below hb (Nat.le_refl _)
  replace hB := hB.trans (hb.mono (by omega))
  have s7 : w6.heap.size ≤ w7.heap.size := hb.size
  clear hb
  have bA_0 : w7.cell? ⟨W.heap.size, 0, none⟩ = some (.int .i64 z0) := bA.cell 0
  have bA_1 : w7.cell? ⟨W.heap.size, 1, none⟩ = some (.int .i64 z1) := bA.cell 1
  have bA_2 : w7.cell? ⟨W.heap.size, 2, none⟩ = some (.string z2) := bA.cell 2
  have bA_3 : w7.cell? ⟨W.heap.size, 3, none⟩ = some (.slice A3 z3.length c3) := bA.cell 3
  have bA_l := bA.lt
  have bx_0 : w7.cell? ⟨w4.heap.size, 0, none⟩ = some (.int .i64 z0) := bx.cell 0
  have bx_1 : w7.cell? ⟨w4.heap.size, 1, none⟩ = some (.int .i64 z1) := bx.cell 1
  have bx_2 : w7.cell? ⟨w4.heap.size, 2, none⟩ = some (.string z2) := bx.cell 2
  have bx_3 : w7.cell? ⟨w4.heap.size, 3, none⟩ = some (.slice X3 z3.length Xc3) := bx.cell 3
  have bx_l := bx.lt
  go_wp2_with fail
  clear bA_0 bA_1 bA_2 bA_3 bA_l
  clear bx_0 bx_1 bx_2 bx_3 bx_l
  have y0 : w7.cell? ⟨w4.heap.size, 0, none⟩ = some (.int .i64 z0) := bx.cell 0
  have y1 : w7.cell? ⟨w4.heap.size, 1, none⟩ = some (.int .i64 z1) := bx.cell 1
  have y2 : w7.cell? ⟨w4.heap.size, 2, none⟩ = some (.string z2) := bx.cell 2
  have y3 : w7.cell? ⟨w4.heap.size, 3, none⟩ = some (.slice X3 z3.length Xc3) := bx.cell 3
  have y4 : w7.cell? ⟨W.heap.size, 0, none⟩ = some (.int .i64 z0) := bA.cell 0
  have y5 : w7.cell? ⟨W.heap.size, 1, none⟩ = some (.int .i64 z1) := bA.cell 1
  have y6 : w7.cell? ⟨W.heap.size, 2, none⟩ = some (.string z2) := bA.cell 2
  have y7 : w7.cell? ⟨W.heap.size, 3, none⟩ = some (.slice A3 z3.length c3) := bA.cell 3
  have t1 : W.heap.size ≤ w7.drew.heap.size := hB.size
  have TV := Lib.hid (show RdVs w7.drew W.heap.size (FNode.c ⟨z0, z1, z2, z3⟩) [.int .i64 z0, .int .i64 z1, .string z2, .slice A3 z3.length c3] from RV.out.on hB.drew (Nat.le_refl _) (Nat.le_refl _))
  have lA := bA.lt
  have lX := bx.lt
  go_region_held3 (fun w_ => w_.cell? ⟨w4.heap.size, 0, none⟩ = some (.int .i64 z0) ∧ w_.cell? ⟨w4.heap.size, 1, none⟩ = some (.int .i64 z1) ∧ w_.cell? ⟨w4.heap.size, 2, none⟩ = some (.string z2) ∧ w_.cell? ⟨w4.heap.size, 3, none⟩ = some (.slice X3 z3.length Xc3) ∧ w_.cell? ⟨W.heap.size, 0, none⟩ = some (.int .i64 z0) ∧ w_.cell? ⟨W.heap.size, 1, none⟩ = some (.int .i64 z1) ∧ w_.cell? ⟨W.heap.size, 2, none⟩ = some (.string z2) ∧ w_.cell? ⟨W.heap.size, 3, none⟩ = some (.slice A3 z3.length c3))
    (first
      | exact ⟨y0, y1, y2, y3, y4, y5, y6, y7⟩
      | exact ⟨((bcell hb1).1 _ _ (by simp; omega)).trans y0, ((bcell hb1).1 _ _ (by simp; omega)).trans y1, ((bcell hb1).1 _ _ (by simp; omega)).trans y2, ((bcell hb1).1 _ _ (by simp; omega)).trans y3, ((bcell hb1).1 _ _ (by simp; omega)).trans y4, ((bcell hb1).1 _ _ (by simp; omega)).trans y5, ((bcell hb1).1 _ _ (by simp; omega)).trans y6, ((bcell hb1).1 _ _ (by simp; omega)).trans y7⟩
      | exact ⟨((bcell hb2).1 _ _ (by omega)).trans (((bcell zb).1 _ _ (by omega)).trans y0), ((bcell hb2).1 _ _ (by omega)).trans (((bcell zb).1 _ _ (by omega)).trans y1), ((bcell hb2).1 _ _ (by omega)).trans (((bcell zb).1 _ _ (by omega)).trans y2), ((bcell hb2).1 _ _ (by omega)).trans (((bcell zb).1 _ _ (by omega)).trans y3), ((bcell hb2).1 _ _ (by omega)).trans (((bcell zb).1 _ _ (by omega)).trans y4), ((bcell hb2).1 _ _ (by omega)).trans (((bcell zb).1 _ _ (by omega)).trans y5), ((bcell hb2).1 _ _ (by omega)).trans (((bcell zb).1 _ _ (by omega)).trans y6), ((bcell hb2).1 _ _ (by omega)).trans (((bcell zb).1 _ _ (by omega)).trans y7)⟩)
    ((first
      | (go_at_call 16
         refine (toNode_any ⟨z0, z1, z2, z3⟩ hw [.int .i64 z0, .int .i64 z1, .string z2, .slice A3 z3.length c3] _ W.heap.size t1 TV.out).mono ?_
         rw [FNode.c_eq]
         rintro e wa ⟨us, rfl, own, hb1⟩
         have hv := own.vs
         obtain ⟨us_0, rfl, hv_0⟩ := hv.unv
         obtain ⟨us_1, rfl, hv_1⟩ := hv_0.unv
         obtain ⟨us_2, rfl, hv_2⟩ := hv_1.unv
         obtain ⟨Z3, Zc3, us_3, rfl, _, hv_3⟩ := hv_2.uns
         obtain rfl := hv_3.un0
         clear hv hv_0 hv_1 hv_2 hv_3
         have O6 := Lib.hid own
         clear own)
      | (go_at_call 18
         have zb : Below w7.heap.size w7 wa := (Below.refl w7.heap.size w7).drew.trans (hb1.mono (by simp))
         have zs := zb.size
         have E1 := Lib.hid (ix.below zb (Nat.le_refl _)).vs
         have E2 := Lib.hid O6.out.vs
         refine (eqNode_any ⟨z0, z1, z2, z3⟩ HWx.out [.int .i64 z0, .int .i64 z1, .string z2, .slice X3 z3.length Xc3] [.int .i64 z0, .int .i64 z1, .string z2, .slice Z3 z3.length Zc3] _ (by rw [FNode.c_eq]; exact E1.out) (by rw [FNode.c_eq]; exact E2.out)).mono ?_
         rintro e wb ⟨rfl, hb2⟩)))
  have hb := zb.trans (hb2.mono zb.size)
  clear hb1 hb2 O6 TV t1 y0 y1 y2 y3 y4 y5 y6 y7
  replace bA := bA.below hb (Nat.le_refl _)
  replace bx := bx.below hb (Nat.le_refl _)
  replace iw0 := iw0.below hb (Nat.le_refl _)
  replace ix := ix.below hb (Nat.le_refl _)
  replace ig0 := ig0.below hb (Nat.le_refl _)
  replace hB := hB.trans (hb.mono (by omega))
  have s8 : w7.heap.size ≤ wb.heap.size := hb.size
  clear hb zb zs E1 E2
  have bA_0 : wb.cell? ⟨W.heap.size, 0, none⟩ = some (.int .i64 z0) := bA.cell 0
  have bA_1 : wb.cell? ⟨W.heap.size, 1, none⟩ = some (.int .i64 z1) := bA.cell 1
  have bA_2 : wb.cell? ⟨W.heap.size, 2, none⟩ = some (.string z2) := bA.cell 2
  have bA_3 : wb.cell? ⟨W.heap.size, 3, none⟩ = some (.slice A3 z3.length c3) := bA.cell 3
  have bA_l := bA.lt
  have bx_0 : wb.cell? ⟨w4.heap.size, 0, none⟩ = some (.int .i64 z0) := bx.cell 0
  have bx_1 : wb.cell? ⟨w4.heap.size, 1, none⟩ = some (.int .i64 z1) := bx.cell 1
  have bx_2 : wb.cell? ⟨w4.heap.size, 2, none⟩ = some (.string z2) := bx.cell 2
  have bx_3 : wb.cell? ⟨w4.heap.size, 3, none⟩ = some (.slice X3 z3.length Xc3) := bx.cell 3
  have bx_l := bx.lt
  go_wp2_with fail
  clear bA_0 bA_1 bA_2 bA_3 bA_l
  clear bx_0 bx_1 bx_2 bx_3 bx_l
  have hcall := markNode_I ⟨z0, z1, z2, z3⟩ [.int .i64 z0, .int .i64 z1, .string z2, .slice X3 z3.length Xc3] 1 _ _ wb (by omega) (by rw [← HKkx.out]; omega) (by rw [FNode.c_eq]; exact ix)
  rw [← HSkx.out] at hcall
  refine hcall.mono ?_
  clear hcall
  rintro e w9 ⟨rfl, im, hb⟩
  replace bA := bA.only hb (Nat.le_refl _) (by omega)
  replace bx := bx.only hb (Nat.le_refl _) (by omega)
  replace iw0 := iw0.only hb (Nat.le_refl _) (by omega)
  replace ig0 := ig0.only hb (Nat.le_refl _) (by omega)
  replace hB := hB.trans (hb.below (by omega) (by omega))
  have s9 : wb.heap.size ≤ w9.heap.size := hb.size
  clear hb
  clear ix
  have ix := im
  clear im
  have bA_0 : w9.cell? ⟨W.heap.size, 0, none⟩ = some (.int .i64 z0) := bA.cell 0
  have bA_1 : w9.cell? ⟨W.heap.size, 1, none⟩ = some (.int .i64 z1) := bA.cell 1
  have bA_2 : w9.cell? ⟨W.heap.size, 2, none⟩ = some (.string z2) := bA.cell 2
  have bA_3 : w9.cell? ⟨W.heap.size, 3, none⟩ = some (.slice A3 z3.length c3) := bA.cell 3
  have bA_l := bA.lt
  have bx_0 : w9.cell? ⟨w4.heap.size, 0, none⟩ = some (.int .i64 z0) := bx.cell 0
  have bx_1 : w9.cell? ⟨w4.heap.size, 1, none⟩ = some (.int .i64 z1) := bx.cell 1
  have bx_2 : w9.cell? ⟨w4.heap.size, 2, none⟩ = some (.string z2) := bx.cell 2
  have bx_3 : w9.cell? ⟨w4.heap.size, 3, none⟩ = some (.slice X3 z3.length Xc3) := bx.cell 3
  have bx_l := bx.lt
  go_wp2_with fail
  clear bA_0 bA_1 bA_2 bA_3 bA_l
  clear bx_0 bx_1 bx_2 bx_3 bx_l
  refine (eqNodeS_of q0 HW0.out.1 (fun x hx => eqNode_any x (HW0.out.2 x hx)) _ _ _ ig0.read iw0.read).mono ?_
  rintro e w10 ⟨rfl, hb⟩
  replace bA := bA.below hb (Nat.le_refl _)
  replace bx := bx.below hb (Nat.le_refl _)
  replace iw0 := iw0.below hb (Nat.le_refl _)
  replace ix := ix.below hb (Nat.le_refl _)
  replace ig0 := ig0.below hb (Nat.le_refl _)
  replace hB := hB.trans (hb.mono (by omega))
  have s10 : w9.heap.size ≤ w10.heap.size := hb.size
  clear hb
  have bA_0 : w10.cell? ⟨W.heap.size, 0, none⟩ = some (.int .i64 z0) := bA.cell 0
  have bA_1 : w10.cell? ⟨W.heap.size, 1, none⟩ = some (.int .i64 z1) := bA.cell 1
  have bA_2 : w10.cell? ⟨W.heap.size, 2, none⟩ = some (.string z2) := bA.cell 2
  have bA_3 : w10.cell? ⟨W.heap.size, 3, none⟩ = some (.slice A3 z3.length c3) := bA.cell 3
  have bA_l := bA.lt
  have bx_0 : w10.cell? ⟨w4.heap.size, 0, none⟩ = some (.int .i64 z0) := bx.cell 0
  have bx_1 : w10.cell? ⟨w4.heap.size, 1, none⟩ = some (.int .i64 z1) := bx.cell 1
  have bx_2 : w10.cell? ⟨w4.heap.size, 2, none⟩ = some (.string z2) := bx.cell 2
  have bx_3 : w10.cell? ⟨w4.heap.size, 3, none⟩ = some (.slice X3 z3.length Xc3) := bx.cell 3
  have bx_l := bx.lt
  go_wp2_with fail
  clear bA_0 bA_1 bA_2 bA_3 bA_l
  clear bx_0 bx_1 bx_2 bx_3 bx_l
  have hcall := markNodeS_I q0 _ 1 _ _ w10 (by omega) (by rw [← HKm0.out]; omega) ig0
  rw [← HSm0.out] at hcall
  refine hcall.mono ?_
  clear hcall
  rintro e w11 ⟨rfl, im, hb⟩
  replace bA := bA.only hb (Nat.le_refl _) (by omega)
  replace bx := bx.only hb (Nat.le_refl _) (by omega)
  replace iw0 := iw0.only hb (Nat.le_refl _) (by omega)
  replace ix := ix.only hb (Nat.le_refl _) (by omega)
  replace hB := hB.trans (hb.below (by omega) (by omega))
  have s11 : w10.heap.size ≤ w11.heap.size := hb.size
  clear hb
  clear ig0
  have ig0 := im
  clear im
  have bA_0 : w11.cell? ⟨W.heap.size, 0, none⟩ = some (.int .i64 z0) := bA.cell 0
  have bA_1 : w11.cell? ⟨W.heap.size, 1, none⟩ = some (.int .i64 z1) := bA.cell 1
  have bA_2 : w11.cell? ⟨W.heap.size, 2, none⟩ = some (.string z2) := bA.cell 2
  have bA_3 : w11.cell? ⟨W.heap.size, 3, none⟩ = some (.slice A3 z3.length c3) := bA.cell 3
  have bA_l := bA.lt
  have bx_0 : w11.cell? ⟨w4.heap.size, 0, none⟩ = some (.int .i64 z0) := bx.cell 0
  have bx_1 : w11.cell? ⟨w4.heap.size, 1, none⟩ = some (.int .i64 z1) := bx.cell 1
  have bx_2 : w11.cell? ⟨w4.heap.size, 2, none⟩ = some (.string z2) := bx.cell 2
  have bx_3 : w11.cell? ⟨w4.heap.size, 3, none⟩ = some (.slice X3 z3.length Xc3) := bx.cell 3
  have bx_l := bx.lt
  go_wp2_with fail
  clear bA_0 bA_1 bA_2 bA_3 bA_l
  clear bx_0 bx_1 bx_2 bx_3 bx_l
  have hcall := heldNodeS_any q0 _ 1 w11 (by omega) (by rw [← HKm0.out]; omega) ig0.read
  rw [← HSm0.out] at hcall
  refine hcall.mono ?_
  clear hcall
  rintro e w12 ⟨rfl, hb⟩
  replace bA := bA.below hb (Nat.le_refl _)
  replace bx := bx.below hb (Nat.le_refl _)
  replace iw0 := iw0.below hb (Nat.le_refl _)
  replace ix := ix.below hb (Nat.le_refl _)
  replace ig0 := ig0.below hb (Nat.le_refl _)
  replace hB := hB.trans (hb.mono (by omega))
  have s12 : w11.heap.size ≤ w12.heap.size := hb.size
  clear hb
  have bA_0 : w12.cell? ⟨W.heap.size, 0, none⟩ = some (.int .i64 z0) := bA.cell 0
  have bA_1 : w12.cell? ⟨W.heap.size, 1, none⟩ = some (.int .i64 z1) := bA.cell 1
  have bA_2 : w12.cell? ⟨W.heap.size, 2, none⟩ = some (.string z2) := bA.cell 2
  have bA_3 : w12.cell? ⟨W.heap.size, 3, none⟩ = some (.slice A3 z3.length c3) := bA.cell 3
  have bA_l := bA.lt
  have bx_0 : w12.cell? ⟨w4.heap.size, 0, none⟩ = some (.int .i64 z0) := bx.cell 0
  have bx_1 : w12.cell? ⟨w4.heap.size, 1, none⟩ = some (.int .i64 z1) := bx.cell 1
  have bx_2 : w12.cell? ⟨w4.heap.size, 2, none⟩ = some (.string z2) := bx.cell 2
  have bx_3 : w12.cell? ⟨w4.heap.size, 3, none⟩ = some (.slice X3 z3.length Xc3) := bx.cell 3
  have bx_l := bx.lt
  go_wp2_with fail
  clear bA_0 bA_1 bA_2 bA_3 bA_l
  clear bx_0 bx_1 bx_2 bx_3 bx_l
  refine (toNode_any ⟨z0, z1, z2, z3⟩ hw [.int .i64 z0, .int .i64 z1, .string z2, .slice A3 z3.length c3] _ W.heap.size (by omega) (RV.out.on hB (Nat.le_refl _) (Nat.le_refl _))).mono ?_
  rw [FNode.c_eq]
  rintro e w13 ⟨us, rfl, own, hb⟩
  replace bA := bA.below hb (Nat.le_refl _)
  replace bx := bx.below hb (Nat.le_refl _)
  replace iw0 := iw0.below hb (Nat.le_refl _)
  replace ix := ix.below hb (Nat.le_refl _)
  replace ig0 := ig0.below hb (Nat.le_refl _)
  replace hB := hB.trans (hb.mono (by omega))
  have s13 : w12.heap.size ≤ w13.heap.size := hb.size
  clear hb
  have hv := own.vs
  obtain ⟨us_0, rfl, hv_0⟩ := hv.unv
  obtain ⟨us_1, rfl, hv_1⟩ := hv_0.unv
  obtain ⟨us_2, rfl, hv_2⟩ := hv_1.unv
  obtain ⟨V3, Vc3, us_3, rfl, _, hv_3⟩ := hv_2.uns
  obtain rfl := hv_3.un0
  clear hv hv_0 hv_1 hv_2 hv_3
  have iv := own
  clear own
  have bA_0 : w13.cell? ⟨W.heap.size, 0, none⟩ = some (.int .i64 z0) := bA.cell 0
  have bA_1 : w13.cell? ⟨W.heap.size, 1, none⟩ = some (.int .i64 z1) := bA.cell 1
  have bA_2 : w13.cell? ⟨W.heap.size, 2, none⟩ = some (.string z2) := bA.cell 2
  have bA_3 : w13.cell? ⟨W.heap.size, 3, none⟩ = some (.slice A3 z3.length c3) := bA.cell 3
  have bA_l := bA.lt
  have bx_0 : w13.cell? ⟨w4.heap.size, 0, none⟩ = some (.int .i64 z0) := bx.cell 0
  have bx_1 : w13.cell? ⟨w4.heap.size, 1, none⟩ = some (.int .i64 z1) := bx.cell 1
  have bx_2 : w13.cell? ⟨w4.heap.size, 2, none⟩ = some (.string z2) := bx.cell 2
  have bx_3 : w13.cell? ⟨w4.heap.size, 3, none⟩ = some (.slice X3 z3.length Xc3) := bx.cell 3
  have bx_l := bx.lt
  go_wp2_with fail
  clear bA_0 bA_1 bA_2 bA_3 bA_l
  clear bx_0 bx_1 bx_2 bx_3 bx_l
  refine (Clos_impl ⟨z0, z1, z2, z3⟩ _ _ HWl.out (B := w13.heap.size) (Nat.le_refl _) (by rw [FNode.c_eq]; exact iv.vs)).mono ?_
  rw [HQ0.out]
  rintro e w14 ⟨K0_0, Kc0_0, rfl, own0, hb⟩
  replace bA := bA.below hb (Nat.le_refl _)
  replace bx := bx.below hb (Nat.le_refl _)
  replace iw0 := iw0.below hb (Nat.le_refl _)
  replace ix := ix.below hb (Nat.le_refl _)
  replace ig0 := ig0.below hb (Nat.le_refl _)
  replace iv := iv.below hb (Nat.le_refl _)
  replace hB := hB.trans (hb.mono (by omega))
  have s14 : w13.heap.size ≤ w14.heap.size := hb.size
  clear hb
  have ih0 := own0
  clear own0
  clear iv
  have bA_0 : w14.cell? ⟨W.heap.size, 0, none⟩ = some (.int .i64 z0) := bA.cell 0
  have bA_1 : w14.cell? ⟨W.heap.size, 1, none⟩ = some (.int .i64 z1) := bA.cell 1
  have bA_2 : w14.cell? ⟨W.heap.size, 2, none⟩ = some (.string z2) := bA.cell 2
  have bA_3 : w14.cell? ⟨W.heap.size, 3, none⟩ = some (.slice A3 z3.length c3) := bA.cell 3
  have bA_l := bA.lt
  have bx_0 : w14.cell? ⟨w4.heap.size, 0, none⟩ = some (.int .i64 z0) := bx.cell 0
  have bx_1 : w14.cell? ⟨w4.heap.size, 1, none⟩ = some (.int .i64 z1) := bx.cell 1
  have bx_2 : w14.cell? ⟨w4.heap.size, 2, none⟩ = some (.string z2) := bx.cell 2
  have bx_3 : w14.cell? ⟨w4.heap.size, 3, none⟩ = some (.slice X3 z3.length Xc3) := bx.cell 3
  have bx_l := bx.lt
  go_wp2_with fail
  clear bA_0 bA_1 bA_2 bA_3 bA_l
  clear bx_0 bx_1 bx_2 bx_3 bx_l
  refine (eqNodeS_of q0 HW0.out.1 (fun x hx => eqNode_any x (HW0.out.2 x hx)) _ _ _ ih0.read iw0.read).mono ?_
  rintro e w15 ⟨rfl, hb⟩
  replace bA := bA.below hb (Nat.le_refl _)
  replace bx := bx.below hb (Nat.le_refl _)
  replace iw0 := iw0.below hb (Nat.le_refl _)
  replace ix := ix.below hb (Nat.le_refl _)
  replace ig0 := ig0.below hb (Nat.le_refl _)
  replace ih0 := ih0.below hb (Nat.le_refl _)
  replace hB := hB.trans (hb.mono (by omega))
  have s15 : w14.heap.size ≤ w15.heap.size := hb.size
  clear hb
  have bA_0 : w15.cell? ⟨W.heap.size, 0, none⟩ = some (.int .i64 z0) := bA.cell 0
  have bA_1 : w15.cell? ⟨W.heap.size, 1, none⟩ = some (.int .i64 z1) := bA.cell 1
  have bA_2 : w15.cell? ⟨W.heap.size, 2, none⟩ = some (.string z2) := bA.cell 2
  have bA_3 : w15.cell? ⟨W.heap.size, 3, none⟩ = some (.slice A3 z3.length c3) := bA.cell 3
  have bA_l := bA.lt
  have bx_0 : w15.cell? ⟨w4.heap.size, 0, none⟩ = some (.int .i64 z0) := bx.cell 0
  have bx_1 : w15.cell? ⟨w4.heap.size, 1, none⟩ = some (.int .i64 z1) := bx.cell 1
  have bx_2 : w15.cell? ⟨w4.heap.size, 2, none⟩ = some (.string z2) := bx.cell 2
  have bx_3 : w15.cell? ⟨w4.heap.size, 3, none⟩ = some (.slice X3 z3.length Xc3) := bx.cell 3
  have bx_l := bx.lt
  go_wp2_with fail
  clear bA_0 bA_1 bA_2 bA_3 bA_l
  clear bx_0 bx_1 bx_2 bx_3 bx_l
  have hcall := heldNodeS_any q0 _ 1 w15 (by omega) (by rw [← HKm0.out]; omega) ig0.read
  rw [← HSm0.out] at hcall
  refine hcall.mono ?_
  clear hcall
  rintro e w16 ⟨rfl, hb⟩
  replace bA := bA.below hb (Nat.le_refl _)
  replace bx := bx.below hb (Nat.le_refl _)
  replace iw0 := iw0.below hb (Nat.le_refl _)
  replace ix := ix.below hb (Nat.le_refl _)
  replace ig0 := ig0.below hb (Nat.le_refl _)
  replace ih0 := ih0.below hb (Nat.le_refl _)
  replace hB := hB.trans (hb.mono (by omega))
  have s16 : w15.heap.size ≤ w16.heap.size := hb.size
  clear hb
  have bA_0 : w16.cell? ⟨W.heap.size, 0, none⟩ = some (.int .i64 z0) := bA.cell 0
  have bA_1 : w16.cell? ⟨W.heap.size, 1, none⟩ = some (.int .i64 z1) := bA.cell 1
  have bA_2 : w16.cell? ⟨W.heap.size, 2, none⟩ = some (.string z2) := bA.cell 2
  have bA_3 : w16.cell? ⟨W.heap.size, 3, none⟩ = some (.slice A3 z3.length c3) := bA.cell 3
  have bA_l := bA.lt
  have bx_0 : w16.cell? ⟨w4.heap.size, 0, none⟩ = some (.int .i64 z0) := bx.cell 0
  have bx_1 : w16.cell? ⟨w4.heap.size, 1, none⟩ = some (.int .i64 z1) := bx.cell 1
  have bx_2 : w16.cell? ⟨w4.heap.size, 2, none⟩ = some (.string z2) := bx.cell 2
  have bx_3 : w16.cell? ⟨w4.heap.size, 3, none⟩ = some (.slice X3 z3.length Xc3) := bx.cell 3
  have bx_l := bx.lt
  go_wp2_with fail
  clear bA_0 bA_1 bA_2 bA_3 bA_l
  clear bx_0 bx_1 bx_2 bx_3 bx_l
  go_ret
  exact ⟨rfl, hB⟩
set_option maxRecDepth 100000 in
theorem fnExactClosuresOf_lifted (os : Os) (started : os.Started) (H : Type) (enc : TypeId × Value → H) :
    ReturnsInHanded {} Try.checked os 4 .any (Rows.fnExactClosuresOfSpec.pre6 enc Try.prog Try.f4 Rows.fnExactClosuresOfRow.domain false) (Rows.fnExactClosuresOfSpec.post enc Try.prog Try.f4 false true false false) := by
  refine returnsInHanded_of_change (C := Try.checked) own started (by kernel_rfl) Try.func4
    (ChangeSpec.witness6 (enc := enc) (C := Try.checked) false ⟨#[], #[.agg #[.int .i64 0, .int .i64 0, .string ByteArray.empty, .slice none 0 0]], []⟩ 8 (by kernel_rfl) (by kernel_rfl) (by kernel_rfl) (by kernel_rfl)) ?_
  intro W base args ds gs before hval0 hW hcnd _
  have hval : ∀ (j : Nat) t v, Try.f4.params[j]? = some t → args[j]? = some v → Value.okWide Try.prog W .any base t v := hval0
  have hW' := hW
  obtain ⟨p, q, hA0, hV, rfl, hfz, hnd⟩ := hW
  have hA : DataW.TrodAll enc Try.prog W 0 (fun _ => true) true Try.f4.params.toList args.toList ds p := hA0
  rw [Try.params4] at hA hval
  obtain ⟨v0, vs0, d0, ds0, p0, q0, hargs, rfl, rfl, h0, r0⟩ := trodAll_cons hA
  obtain ⟨rfl, rfl, rfl⟩ := trodAll_nil r0
  obtain rfl : args = #[v0] := by cases args; simp_all
  obtain ⟨rfl, rfl⟩ := trodVars_none hV
  have lt0 : ∀ x ∈ p0, x.block < W.heap.size := by obtain ⟨m, hm⟩ := h0; exact DataW.trod_lt m _ _ _ hm
  have k0 := hval 0 34 v0 rfl rfl
  clear hA0 hval0
  refine (fnExactClosuresOf_walk W base v0 k0 h0).mono fun e W' ⟨he, bel⟩ => ?_
  subst he
  exact ⟨_, rfl, _, _, _, [], _, [], hW', trodAll_mk1 (shut_bool Try.underlying4 _), (trodAll_cons_mk (Below.trod laidOut (by kernel_rfl) (of_decide_eq_true (by kernel_rfl)) h0 bel lt0) trodAll_mk0), rfl, bel.frame _, fun h => by cases h⟩

theorem fnExactClosuresOf_holds : Rows.FnExactClosuresOfSaid :=
  OpenClaim.holds_of_wide 4 Try.f4 rfl rfl rfl rfl rfl rfl rfl ⟨rfl, rfl, rfl, rfl, rfl⟩ rfl rfl rfl rfl rfl (by kernel_rfl) Try.func4 (by kernel_rfl)
    (of_decide_eq_true (by kernel_rfl)) (by unfold Func.isWrapper; rw [if_neg (of_decide_eq_false (by kernel_rfl))]; exact ⟨rfl, rfl⟩)
    (fun os started H enc _ => fnExactClosuresOf_lifted os started H enc)
#print axioms fnExactClosuresOf_holds

end Go.Proofs.Ytbmgjndpnbdgeaa
