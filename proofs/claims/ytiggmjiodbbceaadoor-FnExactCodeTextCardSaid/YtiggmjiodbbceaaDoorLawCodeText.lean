/-
  The law 'FnExactCodeText' returns true for every input and leaves its arguments as they read. Conditions: none.
-/
import Derived.Test.YtiggmjiodbbceaaDoorTab
import Derived.Test.YtiggmjiodbbceaaDoorCdI
import Derived.Test.YtiggmjiodbbceaaDoorCdS
import Derived.Test.YtiggmjiodbbceaaDoorToR
import Derived.Test.YtiggmjiodbbceaaDoorSzR
import Derived.Test.YtiggmjiodbbceaaDoorEqR
namespace Go.Proofs.YtiggmjiodbbceaaDoor
open Go.ChangeShapes Go.WideShapes Go.ChangeAt Go.RowKit Go.Deep Go.Joins
open Go.ChangeMaps (open_string shut_string)
set_option linter.unusedVariables false
set_option linter.unusedSimpArgs false
set_option maxRecDepth 100000

set_option maxHeartbeats 4000000 in
theorem fnExactCodeText_walk {H : Type} {enc : TypeId × Value → H} (W : World) (base : Nat) (v0 : Value) {d0 : DataW H} {p0 : List MemPlace}
    (k0 : Value.okWide Tryd.prog W .any base 42 v0)
    (h0 : DataW.Trod enc Tryd.prog W 0 (fun _ => true) true 42 v0 d0 p0) (hsh : W.ShapedOpen Tryd.prog) (hY : TabA W ∧ TabP W) :
    Calls Tryd.prog 6 #[v0] W fun e w' => e = .returned (.bool true) ∧ Below W.heap.size W w' := by
  clear hsh
  obtain ⟨hYA, hYP⟩ := hY
  have TA := Lib.hid hYA
  clear hYA
  have TP := Lib.hid hYP
  clear hYP
  obtain ⟨cs0, rfl, hcs0⟩ := okWide_struct (fs := flds Tryd.prog 42) (by kernel_rfl) k0
  obtain ⟨fu, hfu⟩ := h0
  obtain ⟨x, r, ok⟩ := read_Func fu _ _ hfu
  obtain ⟨z0, z1, z2, z3, z4, z5⟩ := x
  have RV0 := r
  rw [FFunc.c_eq] at r
  obtain ⟨us, hus⟩ : ∃ us, us = cs0.toList := ⟨_, rfl⟩
  have hus2 : cs0 = us.toArray := by rw [hus]
  subst hus2
  clear hus
  have r_ : RdVs W W.heap.size [.v (.string z0), .s 90 2 z1.length (FParam.flat z1), .s 90 2 z2.length (FParam.flat z2), .s 9 1 z3.length (FStr.flat z3), .v (.bool z4), .s 28 5 z5.length (FIns.flat z5)] us := by simpa [Value.cells] using r
  have RV1 : RdVs W W.heap.size (FFunc.c ⟨z0, z1, z2, z3, z4, z5⟩) us := by simpa [Value.cells] using RV0
  clear r RV0 hfu k0 hcs0
  obtain ⟨us0, rfl, r_0⟩ := r_.unv
  obtain ⟨A1, c1, us1, rfl, _, r_1⟩ := r_0.uns
  obtain ⟨A2, c2, us2, rfl, _, r_2⟩ := r_1.uns
  obtain ⟨A3, c3, us3, rfl, _, r_3⟩ := r_2.uns
  obtain ⟨us4, rfl, r_4⟩ := r_3.unv
  obtain ⟨A5, c5, us5, rfl, _, r_5⟩ := r_4.uns
  obtain rfl := r_5.un0
  clear r_ r_0 r_1 r_2 r_3 r_4 r_5
  have RV := Lib.hid RV1
  have OK := Lib.hid ok
  clear RV1 ok
  by_cases hn : (((FFunc.wt ⟨z0, z1, z2, z3, z4, z5⟩) : Nat) : Int) ≤ 1048576
  case neg =>
    have HP := Lib.hid (bud_neg hn)
    have hp : bud 1048576 (FFunc.wt ⟨z0, z1, z2, z3, z4, z5⟩) < 0 := by rw [HP.out]; omega
    go_enter Tryd.func6, Tryd.ntmps6
    go_wp2_with fail
    refine calls_worldD _ (fun X => Blk X W.heap.size 42 #[.string z0, .slice A1 z1.length c1, .slice A2 z2.length c2, .slice A3 z3.length c3, .bool z4, .slice A5 z5.length c5] ∧ Below W.heap.size W X ∧ W.heap.size < X.heap.size) ⟨Blk.new _ _ _, (Below.refl _ _).alloc (Nat.le_refl _) _, by simp⟩ ?_
    rintro w0 ⟨bA, hB0, s0⟩
    refine (szFunc_any ⟨z0, z1, z2, z3, z4, z5⟩ OK.out [.string z0, .slice A1 z1.length c1, .slice A2 z2.length c2, .slice A3 z3.length c3, .bool z4, .slice A5 z5.length c5] _ _ W.heap.size (by omega) (by omega) (by omega) (RV.out.on hB0 (Nat.le_refl _) (Nat.le_refl _))).mono ?_
    rintro e w1 ⟨rfl, hb⟩
    have hB := hB0.trans (hb.mono (by omega))
    replace bA := bA.below hb (Nat.le_refl _)
    have bA_0 : w1.cell? ⟨W.heap.size, 0, none⟩ = some (.string z0) := bA.cell 0
    have bA_1 : w1.cell? ⟨W.heap.size, 1, none⟩ = some (.slice A1 z1.length c1) := bA.cell 1
    have bA_2 : w1.cell? ⟨W.heap.size, 2, none⟩ = some (.slice A2 z2.length c2) := bA.cell 2
    have bA_3 : w1.cell? ⟨W.heap.size, 3, none⟩ = some (.slice A3 z3.length c3) := bA.cell 3
    have bA_4 : w1.cell? ⟨W.heap.size, 4, none⟩ = some (.bool z4) := bA.cell 4
    have bA_5 : w1.cell? ⟨W.heap.size, 5, none⟩ = some (.slice A5 z5.length c5) := bA.cell 5
    go_wp2_with fail
    go_ret
    exact ⟨rfl, hB⟩
  have hw : (FFunc.wt ⟨z0, z1, z2, z3, z4, z5⟩) ≤ 1048576 := by omega
  have HWx := Lib.hid (show (FFunc.wt ⟨z0, z1, z2, z3, z4, z5⟩) ≤ 1000000000 by omega)
  have HP := Lib.hid (bud_pos hn)
  have hp : 0 ≤ bud 1048576 (FFunc.wt ⟨z0, z1, z2, z3, z4, z5⟩) := by rw [HP.out]; omega
  clear HP
  have HWW := Lib.hid hw
  generalize hg0 : ctS z5 z5.length = gt at *
  have HG0 := Lib.hid hg0
  clear hg0
  go_enter Tryd.func6, Tryd.ntmps6
  go_wp2_with fail
  refine calls_worldD _ (fun X => Blk X W.heap.size 42 #[.string z0, .slice A1 z1.length c1, .slice A2 z2.length c2, .slice A3 z3.length c3, .bool z4, .slice A5 z5.length c5] ∧ Below W.heap.size W X ∧ W.heap.size < X.heap.size) ⟨Blk.new _ _ _, (Below.refl _ _).alloc (Nat.le_refl _) _, by simp⟩ ?_
  rintro w0 ⟨bA, hB0, s0⟩
  refine (szFunc_any ⟨z0, z1, z2, z3, z4, z5⟩ OK.out [.string z0, .slice A1 z1.length c1, .slice A2 z2.length c2, .slice A3 z3.length c3, .bool z4, .slice A5 z5.length c5] _ _ W.heap.size (by omega) (by omega) (by omega) (RV.out.on hB0 (Nat.le_refl _) (Nat.le_refl _))).mono ?_
  have hB := hB0
  clear hB0
  rintro e w1 ⟨rfl, hb⟩
  replace bA := bA.below hb (Nat.le_refl _)
  replace hB := hB.trans (hb.mono (by omega))
  have s1 : w0.heap.size ≤ w1.heap.size := hb.size
  clear hb
  have bA_0 : w1.cell? ⟨W.heap.size, 0, none⟩ = some (.string z0) := bA.cell 0
  have bA_1 : w1.cell? ⟨W.heap.size, 1, none⟩ = some (.slice A1 z1.length c1) := bA.cell 1
  have bA_2 : w1.cell? ⟨W.heap.size, 2, none⟩ = some (.slice A2 z2.length c2) := bA.cell 2
  have bA_3 : w1.cell? ⟨W.heap.size, 3, none⟩ = some (.slice A3 z3.length c3) := bA.cell 3
  have bA_4 : w1.cell? ⟨W.heap.size, 4, none⟩ = some (.bool z4) := bA.cell 4
  have bA_5 : w1.cell? ⟨W.heap.size, 5, none⟩ = some (.slice A5 z5.length c5) := bA.cell 5
  have bA_l := bA.lt
  go_wp2_with fail
  clear bA_0 bA_1 bA_2 bA_3 bA_4 bA_5 bA_l
  refine (toFunc_any ⟨z0, z1, z2, z3, z4, z5⟩ hw [.string z0, .slice A1 z1.length c1, .slice A2 z2.length c2, .slice A3 z3.length c3, .bool z4, .slice A5 z5.length c5] _ W.heap.size (by omega) (RV.out.on hB (Nat.le_refl _) (Nat.le_refl _))).mono ?_
  rw [FFunc.c_eq]
  rintro e w2 ⟨us, rfl, own, hb⟩
  replace bA := bA.below hb (Nat.le_refl _)
  replace hB := hB.trans (hb.mono (by omega))
  have s2 : w1.heap.size ≤ w2.heap.size := hb.size
  clear hb
  have hv := own.vs
  obtain ⟨us_0, rfl, hv_0⟩ := hv.unv
  obtain ⟨U1, Uc1, us_1, rfl, _, hv_1⟩ := hv_0.uns
  obtain ⟨U2, Uc2, us_2, rfl, _, hv_2⟩ := hv_1.uns
  obtain ⟨U3, Uc3, us_3, rfl, _, hv_3⟩ := hv_2.uns
  obtain ⟨us_4, rfl, hv_4⟩ := hv_3.unv
  obtain ⟨U5, Uc5, us_5, rfl, _, hv_5⟩ := hv_4.uns
  obtain rfl := hv_5.un0
  clear hv hv_0 hv_1 hv_2 hv_3 hv_4 hv_5
  have iu := own
  clear own
  have bA_0 : w2.cell? ⟨W.heap.size, 0, none⟩ = some (.string z0) := bA.cell 0
  have bA_1 : w2.cell? ⟨W.heap.size, 1, none⟩ = some (.slice A1 z1.length c1) := bA.cell 1
  have bA_2 : w2.cell? ⟨W.heap.size, 2, none⟩ = some (.slice A2 z2.length c2) := bA.cell 2
  have bA_3 : w2.cell? ⟨W.heap.size, 3, none⟩ = some (.slice A3 z3.length c3) := bA.cell 3
  have bA_4 : w2.cell? ⟨W.heap.size, 4, none⟩ = some (.bool z4) := bA.cell 4
  have bA_5 : w2.cell? ⟨W.heap.size, 5, none⟩ = some (.slice A5 z5.length c5) := bA.cell 5
  have bA_l := bA.lt
  go_wp2_with fail
  clear bA_0 bA_1 bA_2 bA_3 bA_4 bA_5 bA_l
  refine (CodeText_spec z0 z1 z2 z3 z4 z5 _ _ HWW.out OK.out (B := w2.heap.size) (Nat.le_refl _) (by rw [FFunc.c_eq]; exact iu.vs)).mono ?_
  rw [HG0.out]
  rintro e w3 ⟨rfl, hb⟩
  replace bA := bA.below hb (Nat.le_refl _)
  replace iu := iu.below hb (Nat.le_refl _)
  replace hB := hB.trans (hb.mono (by omega))
  have s3 : w2.heap.size ≤ w3.heap.size := hb.size
  clear hb
  clear iu
  have bA_0 : w3.cell? ⟨W.heap.size, 0, none⟩ = some (.string z0) := bA.cell 0
  have bA_1 : w3.cell? ⟨W.heap.size, 1, none⟩ = some (.slice A1 z1.length c1) := bA.cell 1
  have bA_2 : w3.cell? ⟨W.heap.size, 2, none⟩ = some (.slice A2 z2.length c2) := bA.cell 2
  have bA_3 : w3.cell? ⟨W.heap.size, 3, none⟩ = some (.slice A3 z3.length c3) := bA.cell 3
  have bA_4 : w3.cell? ⟨W.heap.size, 4, none⟩ = some (.bool z4) := bA.cell 4
  have bA_5 : w3.cell? ⟨W.heap.size, 5, none⟩ = some (.slice A5 z5.length c5) := bA.cell 5
  have bA_l := bA.lt
  go_wp2_with fail
  clear bA_0 bA_1 bA_2 bA_3 bA_4 bA_5 bA_l
  refine (toFunc_any ⟨z0, z1, z2, z3, z4, z5⟩ hw [.string z0, .slice A1 z1.length c1, .slice A2 z2.length c2, .slice A3 z3.length c3, .bool z4, .slice A5 z5.length c5] _ W.heap.size (by omega) (RV.out.on hB (Nat.le_refl _) (Nat.le_refl _))).mono ?_
  rw [FFunc.c_eq]
  rintro e w4 ⟨us, rfl, own, hb⟩
  replace bA := bA.below hb (Nat.le_refl _)
  replace hB := hB.trans (hb.mono (by omega))
  have s4 : w3.heap.size ≤ w4.heap.size := hb.size
  clear hb
  have hv := own.vs
  obtain ⟨us_0, rfl, hv_0⟩ := hv.unv
  obtain ⟨X1, Xc1, us_1, rfl, _, hv_1⟩ := hv_0.uns
  obtain ⟨X2, Xc2, us_2, rfl, _, hv_2⟩ := hv_1.uns
  obtain ⟨X3, Xc3, us_3, rfl, _, hv_3⟩ := hv_2.uns
  obtain ⟨us_4, rfl, hv_4⟩ := hv_3.unv
  obtain ⟨X5, Xc5, us_5, rfl, _, hv_5⟩ := hv_4.uns
  obtain rfl := hv_5.un0
  clear hv hv_0 hv_1 hv_2 hv_3 hv_4 hv_5
  have ix := own
  clear own
  have bA_0 : w4.cell? ⟨W.heap.size, 0, none⟩ = some (.string z0) := bA.cell 0
  have bA_1 : w4.cell? ⟨W.heap.size, 1, none⟩ = some (.slice A1 z1.length c1) := bA.cell 1
  have bA_2 : w4.cell? ⟨W.heap.size, 2, none⟩ = some (.slice A2 z2.length c2) := bA.cell 2
  have bA_3 : w4.cell? ⟨W.heap.size, 3, none⟩ = some (.slice A3 z3.length c3) := bA.cell 3
  have bA_4 : w4.cell? ⟨W.heap.size, 4, none⟩ = some (.bool z4) := bA.cell 4
  have bA_5 : w4.cell? ⟨W.heap.size, 5, none⟩ = some (.slice A5 z5.length c5) := bA.cell 5
  have bA_l := bA.lt
  go_wp2_with fail
  clear bA_0 bA_1 bA_2 bA_3 bA_4 bA_5 bA_l
  refine calls_worldD _ (fun X => Blk X (W.heap.size) 42 #[.string z0, .slice A1 z1.length c1, .slice A2 z2.length c2, .slice A3 z3.length c3, .bool z4, .slice A5 z5.length c5] ∧ Blk X (w4.heap.size) 48 #[.string z0, .slice X1 z1.length Xc1, .slice X2 z2.length Xc2, .slice X3 z3.length Xc3, .bool z4, .slice X5 z5.length Xc5] ∧ OwnI X (w3.heap.size) (w4.heap.size) [.v (.string z0), .s 90 2 z1.length (FParam.flat z1), .s 90 2 z2.length (FParam.flat z2), .s 9 1 z3.length (FStr.flat z3), .v (.bool z4), .s 28 5 z5.length (FIns.flat z5)] [.string z0, .slice X1 z1.length Xc1, .slice X2 z2.length Xc2, .slice X3 z3.length Xc3, .bool z4, .slice X5 z5.length Xc5] ∧ Below W.heap.size W X ∧ w4.heap.size < X.heap.size) ⟨bA.alloc _, Blk.new _ _ _, ix.alloc _, (hB).alloc (by omega) _, by simp⟩ ?_
  clear bA ix hB
  rintro w5 ⟨bA, bx, ix, hB, s5⟩
  refine (CodeText_impl z0 z1 z2 z3 z4 z5 _ _ HWW.out OK.out (TA.out.below hB) (TP.out.below hB) (B := w5.heap.size) (Nat.le_refl _) (by rw [FFunc.c_eq]; exact ix.vs)).mono ?_
  rw [HG0.out]
  rintro e w6 ⟨rfl, hb⟩
  replace bA := bA.below hb (Nat.le_refl _)
  replace bx := bx.below hb (Nat.le_refl _)
  replace ix := ix.below hb (Nat.le_refl _)
  replace hB := hB.trans (hb.mono (by omega))
  have s6 : w5.heap.size ≤ w6.heap.size := hb.size
  clear hb
  have bA_0 : w6.cell? ⟨W.heap.size, 0, none⟩ = some (.string z0) := bA.cell 0
  have bA_1 : w6.cell? ⟨W.heap.size, 1, none⟩ = some (.slice A1 z1.length c1) := bA.cell 1
  have bA_2 : w6.cell? ⟨W.heap.size, 2, none⟩ = some (.slice A2 z2.length c2) := bA.cell 2
  have bA_3 : w6.cell? ⟨W.heap.size, 3, none⟩ = some (.slice A3 z3.length c3) := bA.cell 3
  have bA_4 : w6.cell? ⟨W.heap.size, 4, none⟩ = some (.bool z4) := bA.cell 4
  have bA_5 : w6.cell? ⟨W.heap.size, 5, none⟩ = some (.slice A5 z5.length c5) := bA.cell 5
  have bA_l := bA.lt
  have bx_0 : w6.cell? ⟨w4.heap.size, 0, none⟩ = some (.string z0) := bx.cell 0
  have bx_1 : w6.cell? ⟨w4.heap.size, 1, none⟩ = some (.slice X1 z1.length Xc1) := bx.cell 1
  have bx_2 : w6.cell? ⟨w4.heap.size, 2, none⟩ = some (.slice X2 z2.length Xc2) := bx.cell 2
  have bx_3 : w6.cell? ⟨w4.heap.size, 3, none⟩ = some (.slice X3 z3.length Xc3) := bx.cell 3
  have bx_4 : w6.cell? ⟨w4.heap.size, 4, none⟩ = some (.bool z4) := bx.cell 4
  have bx_5 : w6.cell? ⟨w4.heap.size, 5, none⟩ = some (.slice X5 z5.length Xc5) := bx.cell 5
  have bx_l := bx.lt
  go_wp2_with fail
  clear bA_0 bA_1 bA_2 bA_3 bA_4 bA_5 bA_l
  clear bx_0 bx_1 bx_2 bx_3 bx_4 bx_5 bx_l
  have y0 : w6.cell? ⟨w4.heap.size, 0, none⟩ = some (.string z0) := bx.cell 0
  have y1 : w6.cell? ⟨w4.heap.size, 1, none⟩ = some (.slice X1 z1.length Xc1) := bx.cell 1
  have y2 : w6.cell? ⟨w4.heap.size, 2, none⟩ = some (.slice X2 z2.length Xc2) := bx.cell 2
  have y3 : w6.cell? ⟨w4.heap.size, 3, none⟩ = some (.slice X3 z3.length Xc3) := bx.cell 3
  have y4 : w6.cell? ⟨w4.heap.size, 4, none⟩ = some (.bool z4) := bx.cell 4
  have y5 : w6.cell? ⟨w4.heap.size, 5, none⟩ = some (.slice X5 z5.length Xc5) := bx.cell 5
  have y6 : w6.cell? ⟨W.heap.size, 0, none⟩ = some (.string z0) := bA.cell 0
  have y7 : w6.cell? ⟨W.heap.size, 1, none⟩ = some (.slice A1 z1.length c1) := bA.cell 1
  have y8 : w6.cell? ⟨W.heap.size, 2, none⟩ = some (.slice A2 z2.length c2) := bA.cell 2
  have y9 : w6.cell? ⟨W.heap.size, 3, none⟩ = some (.slice A3 z3.length c3) := bA.cell 3
  have y10 : w6.cell? ⟨W.heap.size, 4, none⟩ = some (.bool z4) := bA.cell 4
  have y11 : w6.cell? ⟨W.heap.size, 5, none⟩ = some (.slice A5 z5.length c5) := bA.cell 5
  have t1 : W.heap.size ≤ w6.drew.heap.size := hB.size
  have TV := Lib.hid (show RdVs w6.drew W.heap.size (FFunc.c ⟨z0, z1, z2, z3, z4, z5⟩) [.string z0, .slice A1 z1.length c1, .slice A2 z2.length c2, .slice A3 z3.length c3, .bool z4, .slice A5 z5.length c5] from RV.out.on hB.drew (Nat.le_refl _) (Nat.le_refl _))
  have lA := bA.lt
  have lX := bx.lt
  go_region_held3 (fun w_ => w_.cell? ⟨w4.heap.size, 0, none⟩ = some (.string z0) ∧ w_.cell? ⟨w4.heap.size, 1, none⟩ = some (.slice X1 z1.length Xc1) ∧ w_.cell? ⟨w4.heap.size, 2, none⟩ = some (.slice X2 z2.length Xc2) ∧ w_.cell? ⟨w4.heap.size, 3, none⟩ = some (.slice X3 z3.length Xc3) ∧ w_.cell? ⟨w4.heap.size, 4, none⟩ = some (.bool z4) ∧ w_.cell? ⟨w4.heap.size, 5, none⟩ = some (.slice X5 z5.length Xc5) ∧ w_.cell? ⟨W.heap.size, 0, none⟩ = some (.string z0) ∧ w_.cell? ⟨W.heap.size, 1, none⟩ = some (.slice A1 z1.length c1) ∧ w_.cell? ⟨W.heap.size, 2, none⟩ = some (.slice A2 z2.length c2) ∧ w_.cell? ⟨W.heap.size, 3, none⟩ = some (.slice A3 z3.length c3) ∧ w_.cell? ⟨W.heap.size, 4, none⟩ = some (.bool z4) ∧ w_.cell? ⟨W.heap.size, 5, none⟩ = some (.slice A5 z5.length c5))
    (first
      | exact ⟨y0, y1, y2, y3, y4, y5, y6, y7, y8, y9, y10, y11⟩
      | exact ⟨((bcell hb1).1 _ _ (by simp; omega)).trans y0, ((bcell hb1).1 _ _ (by simp; omega)).trans y1, ((bcell hb1).1 _ _ (by simp; omega)).trans y2, ((bcell hb1).1 _ _ (by simp; omega)).trans y3, ((bcell hb1).1 _ _ (by simp; omega)).trans y4, ((bcell hb1).1 _ _ (by simp; omega)).trans y5, ((bcell hb1).1 _ _ (by simp; omega)).trans y6, ((bcell hb1).1 _ _ (by simp; omega)).trans y7, ((bcell hb1).1 _ _ (by simp; omega)).trans y8, ((bcell hb1).1 _ _ (by simp; omega)).trans y9, ((bcell hb1).1 _ _ (by simp; omega)).trans y10, ((bcell hb1).1 _ _ (by simp; omega)).trans y11⟩
      | exact ⟨((bcell hb2).1 _ _ (by omega)).trans (((bcell zb).1 _ _ (by omega)).trans y0), ((bcell hb2).1 _ _ (by omega)).trans (((bcell zb).1 _ _ (by omega)).trans y1), ((bcell hb2).1 _ _ (by omega)).trans (((bcell zb).1 _ _ (by omega)).trans y2), ((bcell hb2).1 _ _ (by omega)).trans (((bcell zb).1 _ _ (by omega)).trans y3), ((bcell hb2).1 _ _ (by omega)).trans (((bcell zb).1 _ _ (by omega)).trans y4), ((bcell hb2).1 _ _ (by omega)).trans (((bcell zb).1 _ _ (by omega)).trans y5), ((bcell hb2).1 _ _ (by omega)).trans (((bcell zb).1 _ _ (by omega)).trans y6), ((bcell hb2).1 _ _ (by omega)).trans (((bcell zb).1 _ _ (by omega)).trans y7), ((bcell hb2).1 _ _ (by omega)).trans (((bcell zb).1 _ _ (by omega)).trans y8), ((bcell hb2).1 _ _ (by omega)).trans (((bcell zb).1 _ _ (by omega)).trans y9), ((bcell hb2).1 _ _ (by omega)).trans (((bcell zb).1 _ _ (by omega)).trans y10), ((bcell hb2).1 _ _ (by omega)).trans (((bcell zb).1 _ _ (by omega)).trans y11)⟩)
    ((first
      | (go_at_call 24
         refine (toFunc_any ⟨z0, z1, z2, z3, z4, z5⟩ hw [.string z0, .slice A1 z1.length c1, .slice A2 z2.length c2, .slice A3 z3.length c3, .bool z4, .slice A5 z5.length c5] _ W.heap.size t1 TV.out).mono ?_
         rw [FFunc.c_eq]
         rintro e wa ⟨us, rfl, own, hb1⟩
         have hv := own.vs
         obtain ⟨us_0, rfl, hv_0⟩ := hv.unv
         obtain ⟨Z1, Zc1, us_1, rfl, _, hv_1⟩ := hv_0.uns
         obtain ⟨Z2, Zc2, us_2, rfl, _, hv_2⟩ := hv_1.uns
         obtain ⟨Z3, Zc3, us_3, rfl, _, hv_3⟩ := hv_2.uns
         obtain ⟨us_4, rfl, hv_4⟩ := hv_3.unv
         obtain ⟨Z5, Zc5, us_5, rfl, _, hv_5⟩ := hv_4.uns
         obtain rfl := hv_5.un0
         clear hv hv_0 hv_1 hv_2 hv_3 hv_4 hv_5
         have O6 := Lib.hid own
         clear own)
      | (go_at_call 26
         have zb : Below w6.heap.size w6 wa := (Below.refl w6.heap.size w6).drew.trans (hb1.mono (by simp))
         have zs := zb.size
         have E1 := Lib.hid (ix.below zb (Nat.le_refl _)).vs
         have E2 := Lib.hid O6.out.vs
         refine (eqFunc_any ⟨z0, z1, z2, z3, z4, z5⟩ HWx.out [.string z0, .slice X1 z1.length Xc1, .slice X2 z2.length Xc2, .slice X3 z3.length Xc3, .bool z4, .slice X5 z5.length Xc5] [.string z0, .slice Z1 z1.length Zc1, .slice Z2 z2.length Zc2, .slice Z3 z3.length Zc3, .bool z4, .slice Z5 z5.length Zc5] _ (by rw [FFunc.c_eq]; exact E1.out) (by rw [FFunc.c_eq]; exact E2.out)).mono ?_
         rintro e wb ⟨rfl, hb2⟩)))
  have hb := zb.trans (hb2.mono zb.size)
  clear hb1 hb2 O6 TV t1 y0 y1 y2 y3 y4 y5 y6 y7 y8 y9 y10 y11
  replace bA := bA.below hb (Nat.le_refl _)
  replace bx := bx.below hb (Nat.le_refl _)
  replace ix := ix.below hb (Nat.le_refl _)
  replace hB := hB.trans (hb.mono (by omega))
  have s7 : w6.heap.size ≤ wb.heap.size := hb.size
  clear hb zb zs E1 E2
  have bA_0 : wb.cell? ⟨W.heap.size, 0, none⟩ = some (.string z0) := bA.cell 0
  have bA_1 : wb.cell? ⟨W.heap.size, 1, none⟩ = some (.slice A1 z1.length c1) := bA.cell 1
  have bA_2 : wb.cell? ⟨W.heap.size, 2, none⟩ = some (.slice A2 z2.length c2) := bA.cell 2
  have bA_3 : wb.cell? ⟨W.heap.size, 3, none⟩ = some (.slice A3 z3.length c3) := bA.cell 3
  have bA_4 : wb.cell? ⟨W.heap.size, 4, none⟩ = some (.bool z4) := bA.cell 4
  have bA_5 : wb.cell? ⟨W.heap.size, 5, none⟩ = some (.slice A5 z5.length c5) := bA.cell 5
  have bA_l := bA.lt
  have bx_0 : wb.cell? ⟨w4.heap.size, 0, none⟩ = some (.string z0) := bx.cell 0
  have bx_1 : wb.cell? ⟨w4.heap.size, 1, none⟩ = some (.slice X1 z1.length Xc1) := bx.cell 1
  have bx_2 : wb.cell? ⟨w4.heap.size, 2, none⟩ = some (.slice X2 z2.length Xc2) := bx.cell 2
  have bx_3 : wb.cell? ⟨w4.heap.size, 3, none⟩ = some (.slice X3 z3.length Xc3) := bx.cell 3
  have bx_4 : wb.cell? ⟨w4.heap.size, 4, none⟩ = some (.bool z4) := bx.cell 4
  have bx_5 : wb.cell? ⟨w4.heap.size, 5, none⟩ = some (.slice X5 z5.length Xc5) := bx.cell 5
  have bx_l := bx.lt
  go_wp2_with fail
  clear bA_0 bA_1 bA_2 bA_3 bA_4 bA_5 bA_l
  clear bx_0 bx_1 bx_2 bx_3 bx_4 bx_5 bx_l
  go_ret
  exact ⟨rfl, hB⟩
noncomputable abbrev laidHere : List (String × DataW Unit) := [("math/bits.deBruijn32tab", Rows.laid_math_bits_deBruijn32tab), ("math/bits.deBruijn64tab", Rows.laid_math_bits_deBruijn64tab), ("internal/strconv.uint64pow10", Rows.laid_internal_strconv_uint64pow10), ("unicode.White_Space", Rows.laid_unicode_White_Space), ("strings.asciiSpace", Rows.laid_strings_asciiSpace)]
set_option maxRecDepth 100000 in
theorem fnExactCodeText_lifted (os : Os) (started : os.Started) (H : Type) (enc : TypeId × Value → H) :
    ReturnsInHanded {} Tryd.checked os 6 .any (fun w args => (Rows.fnExactCodeTextSpec.pre enc Tryd.prog Tryd.f6 Rows.fnExactCodeTextRow.domain false w args ∧ laidMetH Tryd.prog laidHere w) ∧ sizedMet enc Tryd.prog Tryd.f6 (OpenSpec.ofChange Rows.fnExactCodeTextSpec) false w args) (Rows.fnExactCodeTextSpec.post enc Tryd.prog Tryd.f6 false true false false) := by
  refine handed_tabs (C := Tryd.checked) (X := fun w _ => laidMetH Tryd.prog laidHere w) (Y := fun w => TabA w ∧ TabP w) own started (by kernel_rfl) Tryd.func6 (fun w w' _ e h => ⟨TabA.of_heap e ((laid_one "strings.asciiSpace" (k := .u8) (zs := Lib.asciiSpaceTab) (g := 0) (t := 79) (e := 5) (n := 256) (by kernel_rfl) (by kernel_rfl) (by kernel_rfl) (by kernel_rfl) (by kernel_rfl) (by kernel_rfl) (by kernel_rfl) (by kernel_rfl) h)), TabP.of_heap e ((laid_one "internal/strconv.uint64pow10" (k := .u64) (zs := Lib.pow10Tab) (g := 2) (t := 130) (e := 124) (n := 20) (by kernel_rfl) (by kernel_rfl) (by kernel_rfl) (by kernel_rfl) (by kernel_rfl) (by kernel_rfl) (by kernel_rfl) (by kernel_rfl) h))⟩)
    (ChangeSpec.witness_shaped (enc := enc) (C := Tryd.checked) (os := os) (X := fun w _ => laidMetH Tryd.prog laidHere w) false (World.laidAll Tryd.prog os laidHere) #[.agg #[.string ByteArray.empty, .slice none 0 0, .slice none 0 0, .slice none 0 0, .bool false, .slice none 0 0]] 8 (World.laidAll_os _ _ _)
      (World.shaped_of_ZipB (by kernel_rfl) (by kernel_rfl)) (by kernel_rfl) (by kernel_rfl) (by kernel_rfl)
      (by rw [MakeChecks.laidMetH_plain _ _ _ (by kernel_rfl)]; exact laidMet_laidAll _ (by kernel_rfl) (by kernel_rfl))) ?_
  intro W base args ds gs before hval0 hW hsh hY
  have hval : ∀ (j : Nat) t v, Tryd.f6.params[j]? = some t → args[j]? = some v → Value.okWide Tryd.prog W .any base t v := hval0
  have hW' := hW
  obtain ⟨p, q, hA0, hV, rfl, hfz, hnd⟩ := hW
  have hA : DataW.TrodAll enc Tryd.prog W 0 (fun _ => true) true Tryd.f6.params.toList args.toList ds p := hA0
  rw [Tryd.params6] at hA hval
  obtain ⟨v0, vs0, d0, ds0, p0, q0, hargs, rfl, rfl, h0, r0⟩ := trodAll_cons hA
  obtain ⟨rfl, rfl, rfl⟩ := trodAll_nil r0
  obtain rfl : args = #[v0] := by cases args; simp_all
  obtain ⟨rfl, rfl⟩ := trodVars_none hV
  have lt0 : ∀ x ∈ p0, x.block < W.heap.size := by obtain ⟨m, hm⟩ := h0; exact DataW.trod_lt m _ _ _ hm
  have k0 := hval 0 42 v0 rfl rfl
  clear hA0 hval0
  refine (fnExactCodeText_walk W base v0 k0 h0 hsh hY).mono fun e W' ⟨he, bel⟩ => ?_
  subst he
  exact ⟨_, rfl, _, _, _, [], _, [], hW', trodAll_mk1 (shut_bool Tryd.underlying4 _), (trodAll_cons_mk (Below.trod laidOut (by kernel_rfl) (of_decide_eq_true (by kernel_rfl)) h0 bel lt0) trodAll_mk0), rfl, bel.frame _, fun h => by cases h⟩

theorem fnExactCodeText_holds : Rows.FnExactCodeTextSaid :=
  OpenClaim.holds_of_wide 6 Tryd.f6 rfl rfl rfl rfl rfl rfl rfl ⟨rfl, rfl, rfl, rfl, rfl⟩ rfl rfl rfl rfl rfl (by kernel_rfl) Tryd.func6 (by kernel_rfl)
    (of_decide_eq_true (by kernel_rfl)) (by unfold Func.isWrapper; rw [if_neg (of_decide_eq_false (by kernel_rfl))]; exact ⟨rfl, rfl⟩)
    (fun os started H enc _ => fnExactCodeText_lifted os started H enc)
theorem fnExactCodeText_card_holds : Rows.FnExactCodeTextCardSaid :=
  Claim7.holds_tied_plain_at .later [] [.data, .data, .data, .listed, .data] true (true, "a88a26dc5ba837cc723deeb28d8407dc4e19141f3428d57305b97b914c0e3569") false fnExactCodeText_holds (fun _ h => by cases h) (by kernel_rfl) (fun _ h => by cases h) fnExactCodeText_row_tie rfl ⟨rfl, rfl⟩ (by kernel_rfl) rfl
    (fun f fn hf hfn => by
      obtain rfl : f = 6 := Option.some.inj ((show Tryd.prog.funcNamed "loop.example/g03011/laws.FnExactCodeText" = some 6 by kernel_rfl).symm.trans hf) |>.symm
      obtain rfl : fn = Tryd.f6 := (Option.some.inj (Tryd.func6.symm.trans hfn)).symm
      exact ⟨by kernel_rfl, fun j t ht => by
        rw [Tryd.params6] at ht
        have hm : t ∈ [42] := by simpa using Array.mem_of_getElem? ht
        have hall : ([42].all fun u => !Tryd.prog.wantsStandIn u) = true := by kernel_rfl
        exact (show Tryd.prog.wantsStandIn t = false by simpa using List.all_eq_true.1 hall t hm)⟩)
    (by kernel_rfl)
#print axioms fnExactCodeText_card_holds

end Go.Proofs.YtiggmjiodbbceaaDoor
