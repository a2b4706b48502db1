/-
  The law 'FnExactIndexValue' returns true for every input and leaves its arguments as they read. Conditions: none.
-/
import Derived.Test.YtgbeenieacnanaaDoorPsV
import Derived.Test.YtgbeenieacnanaaDoorIxB
import Derived.Test.YtgbeenieacnanaaDoorIxT
import Derived.Test.YtgbeenieacnanaaDoorToB
import Derived.Test.YtgbeenieacnanaaDoorSzB
import Derived.Test.YtgbeenieacnanaaDoorEqB
import Derived.Test.YtgbeenieacnanaaDoorMkB
import Derived.Test.YtgbeenieacnanaaDoorRegL
import Derived.Deep.CutRange
import Derived.Deep.CutBlock
namespace Go.Proofs.YtgbeenieacnanaaDoor
open Go.ChangeShapes Go.WideShapes Go.ChangeAt Go.RowKit Go.Deep Go.Joins
open Go.ChangeMaps (open_string shut_string)
set_option linter.unusedVariables false
set_option linter.unusedSimpArgs false
set_option maxRecDepth 100000

theorem put5 {X wd : World} {g lo : Nat} {a b c d e u0 u1 u2 u3 u4 : Value} {xs : List Cel} {us : List Value} (hb : Below X.heap.size X wd) (hg : X.heap.size ≤ g) (hgl : g < lo) (bk : Blk wd g 28 #[a, b, c, d, e]) (own : OwnI wd lo wd.heap.size xs us) (hlo : X.heap.size ≤ lo) :
    Blk (((((wd.setCell ⟨g, 0, none⟩ u0).setCell ⟨g, 1, none⟩ u1).setCell ⟨g, 2, none⟩ u2).setCell ⟨g, 3, none⟩ u3).setCell ⟨g, 4, none⟩ u4) g 28 #[u0, u1, u2, u3, u4] ∧ OwnI (((((wd.setCell ⟨g, 0, none⟩ u0).setCell ⟨g, 1, none⟩ u1).setCell ⟨g, 2, none⟩ u2).setCell ⟨g, 3, none⟩ u3).setCell ⟨g, 4, none⟩ u4) X.heap.size (((((wd.setCell ⟨g, 0, none⟩ u0).setCell ⟨g, 1, none⟩ u1).setCell ⟨g, 2, none⟩ u2).setCell ⟨g, 3, none⟩ u3).setCell ⟨g, 4, none⟩ u4).heap.size xs us ∧ Below X.heap.size X (((((wd.setCell ⟨g, 0, none⟩ u0).setCell ⟨g, 1, none⟩ u1).setCell ⟨g, 2, none⟩ u2).setCell ⟨g, 3, none⟩ u3).setCell ⟨g, 4, none⟩ u4) := by
  refine ⟨by simpa using ((((bk.set_ 0 u0).set_ 1 u1).set_ 2 u2).set_ 3 u3).set_ 4 u4, ?_, ?_⟩
  · refine OwnI.wide (lo := lo) (hi := wd.heap.size) ?_ hlo (by simp)
    iterate 5 (refine OwnI.set ?_ (.inl hgl) _)
    exact own
  · iterate 5 (refine Below.setCell ?_ hg _)
    exact hb
theorem new5 {X wd : World} {lo : Nat} {cs : Array Value} {xs : List Cel} {us : List Value} (hb : Below X.heap.size X wd) (own : OwnI wd lo wd.heap.size xs us) (hlo : X.heap.size ≤ lo) :
    Blk (wd.alloc (.cells cs 28)) wd.heap.size 28 cs ∧ OwnI (wd.alloc (.cells cs 28)) X.heap.size (wd.alloc (.cells cs 28)).heap.size xs us ∧ Below X.heap.size X (wd.alloc (.cells cs 28)) :=
  ⟨Blk.new _ _ _, (own.alloc _).wide hlo (by simp), hb.alloc hb.size _⟩
set_option maxHeartbeats 3000000 in
theorem fnExactIndexValue_walk {H : Type} {enc : TypeId × Value → H} (W : World) (base : Nat) (v0 v1 : Value) {d0 : DataW H} {p0 : List MemPlace} {d1 : DataW H} {p1 : List MemPlace}
    (k0 : Value.okWide Tryd.prog W .any base 24 v0) (k1 : Value.okWide Tryd.prog W .any base 24 v1)
    (h0 : DataW.Trod enc Tryd.prog W 0 (fun _ => true) true 24 v0 d0 p0) (h1 : DataW.Trod enc Tryd.prog W 0 (fun _ => true) true 24 v1 d1 p1) (hsh : W.ShapedOpen Tryd.prog) (hY : TabV W) :
    Calls Tryd.prog 3 #[v0, v1] W fun e w' => e = .returned (.bool true) ∧ Below W.heap.size W w' := by
  have TV := Lib.hid hY
  clear hsh hY
  obtain ⟨cs0, rfl, hcs0⟩ := okWide_struct (fs := flds Tryd.prog 24) (by kernel_rfl) k0
  obtain ⟨fu, hfu⟩ := h0
  obtain ⟨x, r, ok⟩ := read_Value fu _ _ hfu
  obtain ⟨z0, z1, z2, z3, z4⟩ := x
  have RV0 := r
  rw [FValue.c_eq] at r
  obtain ⟨us, hus⟩ : ∃ us, us = cs0.toList := ⟨_, rfl⟩
  have hus2 : cs0 = us.toArray := by rw [hus]
  subst hus2
  clear hus
  have r_ : RdVs W W.heap.size [.v (.int .i64 z0), .v (.int .i64 z1), .v (.string z2), .v (.int .i64 z3), .s 73 8 z4.length (FEntry.flat z4)] us := by simpa [Value.cells] using r
  have RV1 : RdVs W W.heap.size (FValue.c ⟨z0, z1, z2, z3, z4⟩) us := by simpa [Value.cells] using RV0
  clear r RV0 hfu k0 hcs0
  obtain ⟨us0, rfl, r_0⟩ := r_.unv
  obtain ⟨us1, rfl, r_1⟩ := r_0.unv
  obtain ⟨us2, rfl, r_2⟩ := r_1.unv
  obtain ⟨us3, rfl, r_3⟩ := r_2.unv
  obtain ⟨A4, c4, us4, rfl, _, r_4⟩ := r_3.uns
  obtain rfl := r_4.un0
  clear r_ r_0 r_1 r_2 r_3 r_4
  have RV := Lib.hid RV1
  have OK := Lib.hid ok
  clear RV1 ok
  obtain ⟨cs1, rfl, hcs1⟩ := okWide_struct (fs := flds Tryd.prog 24) (by kernel_rfl) k1
  obtain ⟨fu, hfu⟩ := h1
  obtain ⟨x, r, ok⟩ := read_Value fu _ _ hfu
  obtain ⟨t0, t1, t2, t3, t4⟩ := x
  have RV0 := r
  rw [FValue.c_eq] at r
  obtain ⟨us, hus⟩ : ∃ us, us = cs1.toList := ⟨_, rfl⟩
  have hus2 : cs1 = us.toArray := by rw [hus]
  subst hus2
  clear hus
  have r_ : RdVs W W.heap.size [.v (.int .i64 t0), .v (.int .i64 t1), .v (.string t2), .v (.int .i64 t3), .s 73 8 t4.length (FEntry.flat t4)] us := by simpa [Value.cells] using r
  have RV1 : RdVs W W.heap.size (FValue.c ⟨t0, t1, t2, t3, t4⟩) us := by simpa [Value.cells] using RV0
  clear r RV0 hfu k1 hcs1
  obtain ⟨us0, rfl, r_0⟩ := r_.unv
  obtain ⟨us1, rfl, r_1⟩ := r_0.unv
  obtain ⟨us2, rfl, r_2⟩ := r_1.unv
  obtain ⟨us3, rfl, r_3⟩ := r_2.unv
  obtain ⟨E4, e4, us4, rfl, _, r_4⟩ := r_3.uns
  obtain rfl := r_4.un0
  clear r_ r_0 r_1 r_2 r_3 r_4
  have RV2 := Lib.hid RV1
  have OK2 := Lib.hid ok
  clear RV1 ok
  obtain ⟨L1, hL1⟩ : ∃ L, L = bud 1048576 (FValue.wt ⟨z0, z1, z2, z3, z4⟩) := ⟨_, rfl⟩
  obtain ⟨L2, hL2⟩ : ∃ L, L = bud L1 (FValue.wt ⟨t0, t1, t2, t3, t4⟩) := ⟨_, rfl⟩
  by_cases hn1 : ((FValue.wt ⟨z0, z1, z2, z3, z4⟩ : Nat) : Int) ≤ 1048576
  case neg =>
    have hz : L1 < 0 := by rw [hL1, bud_neg hn1]; decide
    have HL1 := Lib.hid hL1
    clear hL2 hL1
    go_enter Tryd.func3, Tryd.ntmps3
    go_wp2_with fail
    refine calls_worldD _ (fun X => Blk X W.heap.size 24 #[.int .i64 z0, .int .i64 z1, .string z2, .int .i64 z3, .slice A4 z4.length c4] ∧ Blk X (W.heap.size + 1) 24 #[.int .i64 t0, .int .i64 t1, .string t2, .int .i64 t3, .slice E4 t4.length e4] ∧ Below W.heap.size W X ∧ W.heap.size + 1 < X.heap.size) ⟨(Blk.new _ _ _).alloc _, Blk.new' (W.alloc _) _ _ _ (by simp), ((Below.refl _ _).alloc (Nat.le_refl _) _).alloc (by simp) _, by simp⟩ ?_
    rintro w0 ⟨bA, bB, hB, s0⟩
    refine (szValue_any ⟨z0, z1, z2, z3, z4⟩ OK.out [.int .i64 z0, .int .i64 z1, .string z2, .int .i64 z3, .slice A4 z4.length c4] 1048576 _ W.heap.size (by omega) (by omega) (by omega) (RV.out.on hB (Nat.le_refl _) (Nat.le_refl _))).mono ?_
    rintro e w1 ⟨rfl, hb⟩
    replace bA := bA.below hb (Nat.le_refl _)
    replace bB := bB.below hb (Nat.le_refl _)
    replace hB := hB.trans (hb.mono (by omega))
    have s1 : w0.heap.size ≤ w1.heap.size := hb.size
    clear hb
    rw [← HL1.out]
    have bA_0 : w1.cell? ⟨W.heap.size, 0, none⟩ = some (.int .i64 z0) := bA.cell 0
    have bA_1 : w1.cell? ⟨W.heap.size, 1, none⟩ = some (.int .i64 z1) := bA.cell 1
    have bA_2 : w1.cell? ⟨W.heap.size, 2, none⟩ = some (.string z2) := bA.cell 2
    have bA_3 : w1.cell? ⟨W.heap.size, 3, none⟩ = some (.int .i64 z3) := bA.cell 3
    have bA_4 : w1.cell? ⟨W.heap.size, 4, none⟩ = some (.slice A4 z4.length c4) := bA.cell 4
    have bA_l := bA.lt
    have bB_0 : w1.cell? ⟨W.heap.size + 1, 0, none⟩ = some (.int .i64 t0) := bB.cell 0
    have bB_1 : w1.cell? ⟨W.heap.size + 1, 1, none⟩ = some (.int .i64 t1) := bB.cell 1
    have bB_2 : w1.cell? ⟨W.heap.size + 1, 2, none⟩ = some (.string t2) := bB.cell 2
    have bB_3 : w1.cell? ⟨W.heap.size + 1, 3, none⟩ = some (.int .i64 t3) := bB.cell 3
    have bB_4 : w1.cell? ⟨W.heap.size + 1, 4, none⟩ = some (.slice E4 t4.length e4) := bB.cell 4
    have bB_l := bB.lt
    go_wp2_with fail
    clear bA_0 bA_1 bA_2 bA_3 bA_4 bA_l
    clear bB_0 bB_1 bB_2 bB_3 bB_4 bB_l
    go_ret
    exact ⟨rfl, hB⟩
  have hL1p : L1 = 1048576 - (FValue.wt ⟨z0, z1, z2, z3, z4⟩ : Int) := by rw [hL1, bud_pos hn1]
  have hw1 : FValue.wt ⟨z0, z1, z2, z3, z4⟩ ≤ 1048576 := by omega
  have hp1 : ¬ L1 < 0 := by omega
  have hp1b : L1 ≤ 1048576 := by omega
  by_cases hn2 : ((FValue.wt ⟨t0, t1, t2, t3, t4⟩ : Nat) : Int) ≤ L1
  case neg =>
    have hz : L2 < 0 := by rw [hL2, bud_neg hn2]; decide
    have HL1 := Lib.hid hL1
    have HL2 := Lib.hid hL2
    clear hL2 hL1 hL1p
    go_enter Tryd.func3, Tryd.ntmps3
    go_wp2_with fail
    refine calls_worldD _ (fun X => Blk X W.heap.size 24 #[.int .i64 z0, .int .i64 z1, .string z2, .int .i64 z3, .slice A4 z4.length c4] ∧ Blk X (W.heap.size + 1) 24 #[.int .i64 t0, .int .i64 t1, .string t2, .int .i64 t3, .slice E4 t4.length e4] ∧ Below W.heap.size W X ∧ W.heap.size + 1 < X.heap.size) ⟨(Blk.new _ _ _).alloc _, Blk.new' (W.alloc _) _ _ _ (by simp), ((Below.refl _ _).alloc (Nat.le_refl _) _).alloc (by simp) _, by simp⟩ ?_
    rintro w0 ⟨bA, bB, hB, s0⟩
    refine (szValue_any ⟨z0, z1, z2, z3, z4⟩ OK.out [.int .i64 z0, .int .i64 z1, .string z2, .int .i64 z3, .slice A4 z4.length c4] 1048576 _ W.heap.size (by omega) (by omega) (by omega) (RV.out.on hB (Nat.le_refl _) (Nat.le_refl _))).mono ?_
    rintro e w1 ⟨rfl, hb⟩
    replace bA := bA.below hb (Nat.le_refl _)
    replace bB := bB.below hb (Nat.le_refl _)
    replace hB := hB.trans (hb.mono (by omega))
    have s1 : w0.heap.size ≤ w1.heap.size := hb.size
    clear hb
    rw [← HL1.out]
    have bA_0 : w1.cell? ⟨W.heap.size, 0, none⟩ = some (.int .i64 z0) := bA.cell 0
    have bA_1 : w1.cell? ⟨W.heap.size, 1, none⟩ = some (.int .i64 z1) := bA.cell 1
    have bA_2 : w1.cell? ⟨W.heap.size, 2, none⟩ = some (.string z2) := bA.cell 2
    have bA_3 : w1.cell? ⟨W.heap.size, 3, none⟩ = some (.int .i64 z3) := bA.cell 3
    have bA_4 : w1.cell? ⟨W.heap.size, 4, none⟩ = some (.slice A4 z4.length c4) := bA.cell 4
    have bA_l := bA.lt
    have bB_0 : w1.cell? ⟨W.heap.size + 1, 0, none⟩ = some (.int .i64 t0) := bB.cell 0
    have bB_1 : w1.cell? ⟨W.heap.size + 1, 1, none⟩ = some (.int .i64 t1) := bB.cell 1
    have bB_2 : w1.cell? ⟨W.heap.size + 1, 2, none⟩ = some (.string t2) := bB.cell 2
    have bB_3 : w1.cell? ⟨W.heap.size + 1, 3, none⟩ = some (.int .i64 t3) := bB.cell 3
    have bB_4 : w1.cell? ⟨W.heap.size + 1, 4, none⟩ = some (.slice E4 t4.length e4) := bB.cell 4
    have bB_l := bB.lt
    go_wp2_with fail
    clear bA_0 bA_1 bA_2 bA_3 bA_4 bA_l
    clear bB_0 bB_1 bB_2 bB_3 bB_4 bB_l
    refine (szValue_any ⟨t0, t1, t2, t3, t4⟩ OK2.out [.int .i64 t0, .int .i64 t1, .string t2, .int .i64 t3, .slice E4 t4.length e4] L1 _ W.heap.size (by omega) (by omega) (by omega) (RV2.out.on hB (Nat.le_refl _) (Nat.le_refl _))).mono ?_
    rintro e w2 ⟨rfl, hb⟩
    replace bA := bA.below hb (Nat.le_refl _)
    replace bB := bB.below hb (Nat.le_refl _)
    replace hB := hB.trans (hb.mono (by omega))
    have s2 : w1.heap.size ≤ w2.heap.size := hb.size
    clear hb
    rw [← HL2.out]
    have bA_0 : w2.cell? ⟨W.heap.size, 0, none⟩ = some (.int .i64 z0) := bA.cell 0
    have bA_1 : w2.cell? ⟨W.heap.size, 1, none⟩ = some (.int .i64 z1) := bA.cell 1
    have bA_2 : w2.cell? ⟨W.heap.size, 2, none⟩ = some (.string z2) := bA.cell 2
    have bA_3 : w2.cell? ⟨W.heap.size, 3, none⟩ = some (.int .i64 z3) := bA.cell 3
    have bA_4 : w2.cell? ⟨W.heap.size, 4, none⟩ = some (.slice A4 z4.length c4) := bA.cell 4
    have bA_l := bA.lt
    have bB_0 : w2.cell? ⟨W.heap.size + 1, 0, none⟩ = some (.int .i64 t0) := bB.cell 0
    have bB_1 : w2.cell? ⟨W.heap.size + 1, 1, none⟩ = some (.int .i64 t1) := bB.cell 1
    have bB_2 : w2.cell? ⟨W.heap.size + 1, 2, none⟩ = some (.string t2) := bB.cell 2
    have bB_3 : w2.cell? ⟨W.heap.size + 1, 3, none⟩ = some (.int .i64 t3) := bB.cell 3
    have bB_4 : w2.cell? ⟨W.heap.size + 1, 4, none⟩ = some (.slice E4 t4.length e4) := bB.cell 4
    have bB_l := bB.lt
    go_wp2_with fail
    clear bA_0 bA_1 bA_2 bA_3 bA_4 bA_l
    clear bB_0 bB_1 bB_2 bB_3 bB_4 bB_l
    go_ret
    exact ⟨rfl, hB⟩
  have hw2 : FValue.wt ⟨t0, t1, t2, t3, t4⟩ ≤ 1048576 := by omega
  have hp2 : ¬ L2 < 0 := by rw [hL2, bud_pos hn2]; omega
  have HL1 := Lib.hid hL1
  have HL2 := Lib.hid hL2
  clear hL1 hL2 hL1p
  have HW1 := Lib.hid (show FValue.wt ⟨z0, z1, z2, z3, z4⟩ ≤ 1000000000 by omega)
  have HW2 := Lib.hid (show FValue.wt ⟨t0, t1, t2, t3, t4⟩ ≤ 1000000000 by omega)
  have hqw := ixQ_wt ⟨z0, z1, z2, z3, z4⟩ ⟨t0, t1, t2, t3, t4⟩ hw1
  have hqc := cntb_Value (ixQ ⟨z0, z1, z2, z3, z4⟩ ⟨t0, t1, t2, t3, t4⟩)
  obtain ⟨q, hq⟩ : ∃ q, ixQ ⟨z0, z1, z2, z3, z4⟩ ⟨t0, t1, t2, t3, t4⟩ = q := ⟨_, rfl⟩
  rw [hq] at hqw hqc
  obtain ⟨y0, y1, y2, y3, y4⟩ := q
  have HQ := Lib.hid hq
  clear hq
  obtain ⟨cc, hcc⟩ : ∃ c, ixC ⟨z0, z1, z2, z3, z4⟩ ⟨t0, t1, t2, t3, t4⟩ = c := ⟨_, rfl⟩
  have HCC := Lib.hid hcc
  clear hcc
  have HWQ := Lib.hid hqw
  have hxc := cntb_Value ⟨z0, z1, z2, z3, z4⟩
  have hyc := cntb_Value ⟨t0, t1, t2, t3, t4⟩
  obtain ⟨kx, hskx⟩ : ∃ k : Int, k = 1 + (scnt (FValue.c ⟨z0, z1, z2, z3, z4⟩) : Int) := ⟨_, rfl⟩
  have hkkx : kx = 1 + (scnt (FValue.c ⟨z0, z1, z2, z3, z4⟩) : Int) := hskx
  have npkx : 1 ≤ kx := by omega
  have nkkx : ¬ kx < 0 := by omega
  have dkkx : decide (kx < 0) = false := by simpa using nkkx
  have nbkx : kx ≤ 1000000000000 := by omega
  obtain ⟨ky, hsky⟩ : ∃ k : Int, k = kx + (scnt (FValue.c ⟨t0, t1, t2, t3, t4⟩) : Int) := ⟨_, rfl⟩
  have hkky : ky = kx + (scnt (FValue.c ⟨t0, t1, t2, t3, t4⟩) : Int) := hsky
  have npky : 1 ≤ ky := by omega
  have nkky : ¬ ky < 0 := by omega
  have dkky : decide (ky < 0) = false := by simpa using nkky
  have nbky : ky ≤ 1000000000000 := by omega
  obtain ⟨m0, hsm0⟩ : ∃ k : Int, k = 1 + (scnt (FValue.c ⟨y0, y1, y2, y3, y4⟩) : Int) := ⟨_, rfl⟩
  have hkm0 : m0 = 1 + (scnt (FValue.c ⟨y0, y1, y2, y3, y4⟩) : Int) := hsm0
  have npm0 : 1 ≤ m0 := by omega
  have nkm0 : ¬ m0 < 0 := by omega
  have dkm0 : decide (m0 < 0) = false := by simpa using nkm0
  have nbm0 : m0 ≤ 1000000000000 := by omega
  have HSkx := Lib.hid hskx
  have HKkx := Lib.hid hkkx
  clear hskx hkkx
  have HSky := Lib.hid hsky
  have HKky := Lib.hid hkky
  clear hsky hkky
  have HSm0 := Lib.hid hsm0
  have HKm0 := Lib.hid hkm0
  clear hsm0 hkm0
  go_enter Tryd.func3, Tryd.ntmps3
  go_wp2_with fail
  refine calls_worldD _ (fun X => Blk X W.heap.size 24 #[.int .i64 z0, .int .i64 z1, .string z2, .int .i64 z3, .slice A4 z4.length c4] ∧ Blk X (W.heap.size + 1) 24 #[.int .i64 t0, .int .i64 t1, .string t2, .int .i64 t3, .slice E4 t4.length e4] ∧ Below W.heap.size W X ∧ W.heap.size + 1 < X.heap.size) ⟨(Blk.new _ _ _).alloc _, Blk.new' (W.alloc _) _ _ _ (by simp), ((Below.refl _ _).alloc (Nat.le_refl _) _).alloc (by simp) _, by simp⟩ ?_
  rintro w0 ⟨bA, bB, hB, s0⟩
  refine (szValue_any ⟨z0, z1, z2, z3, z4⟩ OK.out [.int .i64 z0, .int .i64 z1, .string z2, .int .i64 z3, .slice A4 z4.length c4] 1048576 _ W.heap.size (by omega) (by omega) (by omega) (RV.out.on hB (Nat.le_refl _) (Nat.le_refl _))).mono ?_
  rintro e w1 ⟨rfl, hb⟩
  replace bA := bA.below hb (Nat.le_refl _)
  replace bB := bB.below hb (Nat.le_refl _)
  replace hB := hB.trans (hb.mono (by omega))
  have s1 : w0.heap.size ≤ w1.heap.size := hb.size
  clear hb
  rw [← HL1.out]
  have bA_0 : w1.cell? ⟨W.heap.size, 0, none⟩ = some (.int .i64 z0) := bA.cell 0
  have bA_1 : w1.cell? ⟨W.heap.size, 1, none⟩ = some (.int .i64 z1) := bA.cell 1
  have bA_2 : w1.cell? ⟨W.heap.size, 2, none⟩ = some (.string z2) := bA.cell 2
  have bA_3 : w1.cell? ⟨W.heap.size, 3, none⟩ = some (.int .i64 z3) := bA.cell 3
  have bA_4 : w1.cell? ⟨W.heap.size, 4, none⟩ = some (.slice A4 z4.length c4) := bA.cell 4
  have bA_l := bA.lt
  have bB_0 : w1.cell? ⟨W.heap.size + 1, 0, none⟩ = some (.int .i64 t0) := bB.cell 0
  have bB_1 : w1.cell? ⟨W.heap.size + 1, 1, none⟩ = some (.int .i64 t1) := bB.cell 1
  have bB_2 : w1.cell? ⟨W.heap.size + 1, 2, none⟩ = some (.string t2) := bB.cell 2
  have bB_3 : w1.cell? ⟨W.heap.size + 1, 3, none⟩ = some (.int .i64 t3) := bB.cell 3
  have bB_4 : w1.cell? ⟨W.heap.size + 1, 4, none⟩ = some (.slice E4 t4.length e4) := bB.cell 4
  have bB_l := bB.lt
  go_wp2_with fail
  clear bA_0 bA_1 bA_2 bA_3 bA_4 bA_l
  clear bB_0 bB_1 bB_2 bB_3 bB_4 bB_l
  refine (szValue_any ⟨t0, t1, t2, t3, t4⟩ OK2.out [.int .i64 t0, .int .i64 t1, .string t2, .int .i64 t3, .slice E4 t4.length e4] L1 _ W.heap.size (by omega) (by omega) (by omega) (RV2.out.on hB (Nat.le_refl _) (Nat.le_refl _))).mono ?_
  rintro e w2 ⟨rfl, hb⟩
  replace bA := bA.below hb (Nat.le_refl _)
  replace bB := bB.below hb (Nat.le_refl _)
  replace hB := hB.trans (hb.mono (by omega))
  have s2 : w1.heap.size ≤ w2.heap.size := hb.size
  clear hb
  rw [← HL2.out]
  have bA_0 : w2.cell? ⟨W.heap.size, 0, none⟩ = some (.int .i64 z0) := bA.cell 0
  have bA_1 : w2.cell? ⟨W.heap.size, 1, none⟩ = some (.int .i64 z1) := bA.cell 1
  have bA_2 : w2.cell? ⟨W.heap.size, 2, none⟩ = some (.string z2) := bA.cell 2
  have bA_3 : w2.cell? ⟨W.heap.size, 3, none⟩ = some (.int .i64 z3) := bA.cell 3
  have bA_4 : w2.cell? ⟨W.heap.size, 4, none⟩ = some (.slice A4 z4.length c4) := bA.cell 4
  have bA_l := bA.lt
  have bB_0 : w2.cell? ⟨W.heap.size + 1, 0, none⟩ = some (.int .i64 t0) := bB.cell 0
  have bB_1 : w2.cell? ⟨W.heap.size + 1, 1, none⟩ = some (.int .i64 t1) := bB.cell 1
  have bB_2 : w2.cell? ⟨W.heap.size + 1, 2, none⟩ = some (.string t2) := bB.cell 2
  have bB_3 : w2.cell? ⟨W.heap.size + 1, 3, none⟩ = some (.int .i64 t3) := bB.cell 3
  have bB_4 : w2.cell? ⟨W.heap.size + 1, 4, none⟩ = some (.slice E4 t4.length e4) := bB.cell 4
  have bB_l := bB.lt
  go_wp2_with fail
  clear bA_0 bA_1 bA_2 bA_3 bA_4 bA_l
  clear bB_0 bB_1 bB_2 bB_3 bB_4 bB_l
  have HBX := Lib.hid (fun Y (h : Below w2.heap.size w2 Y) => hB.trans (h.mono hB.size))
  go_upto_region 8 with fail
  go_cut [6, 7] from 27 to 34 (fun s1 s2 wx => ∃ g Gw gw_, s1 = .pointer (some ⟨g, 0, none⟩) ∧ s2 = .int .i64 cc ∧ w2.heap.size ≤ g ∧ Blk wx g 28 #[.int .i64 y0, .int .i64 y1, .string y2, .int .i64 y3, .slice Gw y4.length gw_] ∧ OwnI wx w2.heap.size wx.heap.size [.v (.int .i64 y0), .v (.int .i64 y1), .v (.string y2), .v (.int .i64 y3), .s 73 8 y4.length (FEntry.flat y4)] [.int .i64 y0, .int .i64 y1, .string y2, .int .i64 y3, .slice Gw y4.length gw_] ∧ Below w2.heap.size w2 wx)
  case first =>
    have BA := Lib.hid bA
    have BB := Lib.hid bB
    refine lateStart (S := (fun w_ => Below w2.heap.size w2 w_)) [9, 10] (by kernel_rfl) ?_ (fun hHeld => ?_)
    · (try dsimp only)
      (exact (Below.refl _ _).drew)
    refine lateTake (i := 0) (v := ?_) rfl (by kernel_rfl) (by decide) (by kernel_rfl) (by kernel_rfl) (by kernel_rfl) (by kernel_rfl) (fun _ _ _ h => h) (by rfl) ?_ hHeld ?_
    rotate_left
    · intro w_ hSw
      (try dsimp only at hSw)
      have q0 : w_.cell? ⟨W.heap.size, 0, none⟩ = some (.int .i64 z0) := (BA.out.below hSw (Nat.le_refl _)).cell 0; have q1 : w_.cell? ⟨W.heap.size, 1, none⟩ = some (.int .i64 z1) := (BA.out.below hSw (Nat.le_refl _)).cell 1; have q2 : w_.cell? ⟨W.heap.size, 2, none⟩ = some (.string z2) := (BA.out.below hSw (Nat.le_refl _)).cell 2; have q3 : w_.cell? ⟨W.heap.size, 3, none⟩ = some (.int .i64 z3) := (BA.out.below hSw (Nat.le_refl _)).cell 3; have q4 : w_.cell? ⟨W.heap.size, 4, none⟩ = some (.slice A4 z4.length c4) := (BA.out.below hSw (Nat.le_refl _)).cell 4
      go_simp
      (try with_reducible rfl)
    try simp only [Act.put, List.setIfInBounds_toArray, List.set_cons_zero, List.set_cons_succ]
    refine lateTake (i := 2) (v := ?_) rfl (by kernel_rfl) (by decide) (by kernel_rfl) (by kernel_rfl) (by kernel_rfl) (by kernel_rfl) (fun _ _ _ h => h) (by rfl) ?_ hHeld ?_
    rotate_left
    · intro w_ hSw
      (try dsimp only at hSw)
      have q0 : w_.cell? ⟨W.heap.size + 1, 0, none⟩ = some (.int .i64 t0) := (BB.out.below hSw (Nat.le_refl _)).cell 0; have q1 : w_.cell? ⟨W.heap.size + 1, 1, none⟩ = some (.int .i64 t1) := (BB.out.below hSw (Nat.le_refl _)).cell 1; have q2 : w_.cell? ⟨W.heap.size + 1, 2, none⟩ = some (.string t2) := (BB.out.below hSw (Nat.le_refl _)).cell 2; have q3 : w_.cell? ⟨W.heap.size + 1, 3, none⟩ = some (.int .i64 t3) := (BB.out.below hSw (Nat.le_refl _)).cell 3; have q4 : w_.cell? ⟨W.heap.size + 1, 4, none⟩ = some (.slice E4 t4.length e4) := (BB.out.below hSw (Nat.le_refl _)).cell 4
      go_simp
      (try with_reducible rfl)
    try simp only [Act.put, List.setIfInBounds_toArray, List.set_cons_zero, List.set_cons_succ]
    refine lateTwo (i := 1) (j := 8) (by kernel_rfl) ?_ ?_
    · skip
      refine lateOp (i := 1) rfl (by rfl) (fun K hK => ?_)
      go_simp
      (go_at_call 7; refine (toValue_any ⟨z0, z1, z2, z3, z4⟩ hw1 [.int .i64 z0, .int .i64 z1, .string z2, .int .i64 z3, .slice A4 z4.length c4] _ W.heap.size (HBX.out _ hHeld).size (RV.out.on (HBX.out _ hHeld) (Nat.le_refl _) (Nat.le_refl _))).mono ?_; rw [FValue.c_eq]; rintro e wa ⟨us, rfl, own, hb⟩; have hv := own.vs; obtain ⟨us_0, rfl, hv_0⟩ := hv.unv; obtain ⟨us_1, rfl, hv_1⟩ := hv_0.unv; obtain ⟨us_2, rfl, hv_2⟩ := hv_1.unv; obtain ⟨us_3, rfl, hv_3⟩ := hv_2.unv; obtain ⟨P4, p4, us_4, rfl, _, hv_4⟩ := hv_3.uns; obtain rfl := hv_4.un0; clear hv hv_0 hv_1 hv_2 hv_3 hv_4; have O1 := Lib.hid own; have hS_ := hHeld.trans (hb.mono hHeld.size); clear own hb)
      clear hHeld
      refine hK.out _ _ hS_ (fun hHeld => ?_)
      clear hK K hS_
      try simp only [Act.put, List.setIfInBounds_toArray, List.set_cons_zero, List.set_cons_succ]
      refine lateTwo (i := 3) (j := 8) (by kernel_rfl) ?_ ?_
      · skip
        refine lateOp (i := 3) rfl (by rfl) (fun K hK => ?_)
        go_simp
        (go_at_call 7; refine (toValue_any ⟨t0, t1, t2, t3, t4⟩ hw2 [.int .i64 t0, .int .i64 t1, .string t2, .int .i64 t3, .slice E4 t4.length e4] _ W.heap.size (HBX.out _ hHeld).size (RV2.out.on (HBX.out _ hHeld) (Nat.le_refl _) (Nat.le_refl _))).mono ?_; rw [FValue.c_eq]; rintro e wb ⟨us, rfl, own, hb⟩; have hv := own.vs; obtain ⟨us_0, rfl, hv_0⟩ := hv.unv; obtain ⟨us_1, rfl, hv_1⟩ := hv_0.unv; obtain ⟨us_2, rfl, hv_2⟩ := hv_1.unv; obtain ⟨us_3, rfl, hv_3⟩ := hv_2.unv; obtain ⟨R4, r4, us_4, rfl, _, hv_4⟩ := hv_3.uns; obtain rfl := hv_4.un0; clear hv hv_0 hv_1 hv_2 hv_3 hv_4; have O2 := Lib.hid own; replace O1 := Lib.hid (O1.out.below hb (Nat.le_refl _)); have hS_ := hHeld.trans (hb.mono hHeld.size); clear own hb)
        clear hHeld
        refine hK.out _ _ hS_ (fun hHeld => ?_)
        clear hK K hS_
        try simp only [Act.put, List.setIfInBounds_toArray, List.set_cons_zero, List.set_cons_succ]
        refine lateTwo (i := 4) (j := 8) (by kernel_rfl) ?_ ?_
        · skip
          refine lateOp (i := 4) rfl (by rfl) (fun K hK => ?_)
          go_simp
          (go_at_call 6; have hlo := hHeld.size; refine (ix_spec ⟨z0, z1, z2, z3, z4⟩ ⟨t0, t1, t2, t3, t4⟩ hw1 hw2 [.int .i64 z0, .int .i64 z1, .string z2, .int .i64 z3, .slice P4 z4.length p4] [.int .i64 t0, .int .i64 t1, .string t2, .int .i64 t3, .slice R4 t4.length r4] _ _ (Nat.le_refl _) (by rw [FValue.c_eq]; exact O1.out.vs) (by rw [FValue.c_eq]; exact O2.out.vs)).mono ?_; rw [HQ.out, HCC.out, FValue.c_eq]; rintro e wd ⟨us, rfl, own, hb⟩; have hv := own.vs; obtain ⟨us_0, rfl, hv_0⟩ := hv.unv; obtain ⟨us_1, rfl, hv_1⟩ := hv_0.unv; obtain ⟨us_2, rfl, hv_2⟩ := hv_1.unv; obtain ⟨us_3, rfl, hv_3⟩ := hv_2.unv; obtain ⟨G4, g4, us_4, rfl, _, hv_4⟩ := hv_3.uns; obtain rfl := hv_4.un0; clear hv hv_0 hv_1 hv_2 hv_3 hv_4; have OWN := Lib.hid own; have hS_ := hHeld.trans (hb.mono hHeld.size); clear own hb)
          clear hHeld
          refine hK.out _ _ hS_ (fun hHeld => ?_)
          clear hK K hS_
          try simp only [Act.put, List.setIfInBounds_toArray, List.set_cons_zero, List.set_cons_succ]
          refine lateTake (i := 5) (v := ?_) rfl (by kernel_rfl) (by decide) (by kernel_rfl) (by kernel_rfl) (by kernel_rfl) (by kernel_rfl) (fun _ _ _ h => h) (by rfl) ?_ hHeld ?_
          rotate_left
          · intro w_ hSw
            (try dsimp only at hSw)
            have q0 : w_.cell? ⟨W.heap.size + 1, 0, none⟩ = some (.int .i64 t0) := (BB.out.below hSw (Nat.le_refl _)).cell 0; have q1 : w_.cell? ⟨W.heap.size + 1, 1, none⟩ = some (.int .i64 t1) := (BB.out.below hSw (Nat.le_refl _)).cell 1; have q2 : w_.cell? ⟨W.heap.size + 1, 2, none⟩ = some (.string t2) := (BB.out.below hSw (Nat.le_refl _)).cell 2; have q3 : w_.cell? ⟨W.heap.size + 1, 3, none⟩ = some (.int .i64 t3) := (BB.out.below hSw (Nat.le_refl _)).cell 3; have q4 : w_.cell? ⟨W.heap.size + 1, 4, none⟩ = some (.slice E4 t4.length e4) := (BB.out.below hSw (Nat.le_refl _)).cell 4
            go_simp
            (try with_reducible rfl)
          try simp only [Act.put, List.setIfInBounds_toArray, List.set_cons_zero, List.set_cons_succ]
          refine lateTake (i := 6) (v := ?_) rfl (by kernel_rfl) (by decide) (by kernel_rfl) (by kernel_rfl) (by kernel_rfl) (by kernel_rfl) (fun _ _ _ h => h) (by rfl) ?_ hHeld ?_
          rotate_left
          · intro w_ hSw
            (try dsimp only at hSw)
            have q0 : w_.cell? ⟨W.heap.size + 1, 0, none⟩ = some (.int .i64 t0) := (BB.out.below hSw (Nat.le_refl _)).cell 0; have q1 : w_.cell? ⟨W.heap.size + 1, 1, none⟩ = some (.int .i64 t1) := (BB.out.below hSw (Nat.le_refl _)).cell 1; have q2 : w_.cell? ⟨W.heap.size + 1, 2, none⟩ = some (.string t2) := (BB.out.below hSw (Nat.le_refl _)).cell 2; have q3 : w_.cell? ⟨W.heap.size + 1, 3, none⟩ = some (.int .i64 t3) := (BB.out.below hSw (Nat.le_refl _)).cell 3; have q4 : w_.cell? ⟨W.heap.size + 1, 4, none⟩ = some (.slice E4 t4.length e4) := (BB.out.below hSw (Nat.le_refl _)).cell 4
            go_simp
            (try with_reducible rfl)
          try simp only [Act.put, List.setIfInBounds_toArray, List.set_cons_zero, List.set_cons_succ]
          refine lateTakeW (i := 7) (v := ?_) rfl (by kernel_rfl) (by decide) (by kernel_rfl) (by kernel_rfl) (fun _ _ _ h => h) (by rfl) ?_ hHeld ?_
          rotate_left
          · intro w_
            go_simp
            (try with_reducible rfl)
          try simp only [Act.put, List.setIfInBounds_toArray, List.set_cons_zero, List.set_cons_succ]
          refine lateOne (i := 8) (by kernel_rfl) ?_
          refine lateOp (i := 8) rfl (by rfl) (fun K hK => ?_)
          go_simp
          (have BK := Lib.hid (Blk.new' wd 28 #[.int .i64 0, .int .i64 0, .string ⟨#[]⟩, .int .i64 0, .slice none 0 0] wd.heap.size rfl); have hgB : w2.heap.size ≤ wd.heap.size := hHeld.size; have hW8 := hHeld; replace O1 := Lib.hid (O1.out.alloc (.cells #[.int .i64 0, .int .i64 0, .string ⟨#[]⟩, .int .i64 0, .slice none 0 0] 28)); replace O2 := Lib.hid (O2.out.alloc (.cells #[.int .i64 0, .int .i64 0, .string ⟨#[]⟩, .int .i64 0, .slice none 0 0] 28)); have hS_ := hHeld.alloc hHeld.size (.cells #[.int .i64 0, .int .i64 0, .string ⟨#[]⟩, .int .i64 0, .slice none 0 0] 28))
          clear hHeld
          refine hK.out _ _ hS_ (fun hHeld => ?_)
          clear hK K hS_
          try simp only [Act.put, List.setIfInBounds_toArray, List.set_cons_zero, List.set_cons_succ]
          refine lateOne (i := 9) (by kernel_rfl) ?_
          refine lateLast (i := 9) rfl (by kernel_rfl) (by rfl) (fun K hK => ?_)
          skip
          go_simp
          refine hK.out _ _ ?_
          clear hK K
          try simp only [Act.put, List.setIfInBounds_toArray, List.set_cons_zero, List.set_cons_succ]
          refine lateOne (i := 10) (by kernel_rfl) ?_
          refine lateLast (i := 10) rfl (by kernel_rfl) (by rfl) (fun K hK => ?_)
          skip
          go_simp
          refine hK.out _ _ ?_
          clear hK K
          try simp only [Act.put, List.setIfInBounds_toArray, List.set_cons_zero, List.set_cons_succ]
          refine lateDone (by kernel_rfl) ?_ _
          (try go_wp2_with fail)
          go_meet
          exact ⟨_, G4, g4, rfl, rfl, hW8.size, new5 hW8 OWN.out hlo⟩
        · skip
          refine lateOp (i := 8) rfl (by rfl) (fun K hK => ?_)
          go_simp
          (have BK := Lib.hid (Blk.new' wb 28 #[.int .i64 0, .int .i64 0, .string ⟨#[]⟩, .int .i64 0, .slice none 0 0] wb.heap.size rfl); have hgB : w2.heap.size ≤ wb.heap.size := hHeld.size; have hW8 := hHeld; replace O1 := Lib.hid (O1.out.alloc (.cells #[.int .i64 0, .int .i64 0, .string ⟨#[]⟩, .int .i64 0, .slice none 0 0] 28)); replace O2 := Lib.hid (O2.out.alloc (.cells #[.int .i64 0, .int .i64 0, .string ⟨#[]⟩, .int .i64 0, .slice none 0 0] 28)); have hS_ := hHeld.alloc hHeld.size (.cells #[.int .i64 0, .int .i64 0, .string ⟨#[]⟩, .int .i64 0, .slice none 0 0] 28))
          clear hHeld
          refine hK.out _ _ hS_ (fun hHeld => ?_)
          clear hK K hS_
          try simp only [Act.put, List.setIfInBounds_toArray, List.set_cons_zero, List.set_cons_succ]
          refine lateOne (i := 4) (by kernel_rfl) ?_
          refine lateOp (i := 4) rfl (by rfl) (fun K hK => ?_)
          go_simp
          (go_at_call 6; have hlo := hHeld.size; have hgl := BK.out.lt; refine (ix_spec ⟨z0, z1, z2, z3, z4⟩ ⟨t0, t1, t2, t3, t4⟩ hw1 hw2 [.int .i64 z0, .int .i64 z1, .string z2, .int .i64 z3, .slice P4 z4.length p4] [.int .i64 t0, .int .i64 t1, .string t2, .int .i64 t3, .slice R4 t4.length r4] _ _ (Nat.le_refl _) (by rw [FValue.c_eq]; exact O1.out.vs) (by rw [FValue.c_eq]; exact O2.out.vs)).mono ?_; rw [HQ.out, HCC.out, FValue.c_eq]; rintro e wd ⟨us, rfl, own, hb⟩; have hv := own.vs; obtain ⟨us_0, rfl, hv_0⟩ := hv.unv; obtain ⟨us_1, rfl, hv_1⟩ := hv_0.unv; obtain ⟨us_2, rfl, hv_2⟩ := hv_1.unv; obtain ⟨us_3, rfl, hv_3⟩ := hv_2.unv; obtain ⟨G4, g4, us_4, rfl, _, hv_4⟩ := hv_3.uns; obtain rfl := hv_4.un0; clear hv hv_0 hv_1 hv_2 hv_3 hv_4; have OWN := Lib.hid own; have hS_ := hHeld.trans (hb.mono hHeld.size); replace BK := Lib.hid (BK.out.below hb (Nat.le_refl _)); clear own hb)
          clear hHeld
          refine hK.out _ _ hS_ (fun hHeld => ?_)
          clear hK K hS_
          try simp only [Act.put, List.setIfInBounds_toArray, List.set_cons_zero, List.set_cons_succ]
          refine lateTake (i := 5) (v := ?_) rfl (by kernel_rfl) (by decide) (by kernel_rfl) (by kernel_rfl) (by kernel_rfl) (by kernel_rfl) (fun _ _ _ h => h) (by rfl) ?_ hHeld ?_
          rotate_left
          · intro w_ hSw
            (try dsimp only at hSw)
            have q0 : w_.cell? ⟨W.heap.size + 1, 0, none⟩ = some (.int .i64 t0) := (BB.out.below hSw (Nat.le_refl _)).cell 0; have q1 : w_.cell? ⟨W.heap.size + 1, 1, none⟩ = some (.int .i64 t1) := (BB.out.below hSw (Nat.le_refl _)).cell 1; have q2 : w_.cell? ⟨W.heap.size + 1, 2, none⟩ = some (.string t2) := (BB.out.below hSw (Nat.le_refl _)).cell 2; have q3 : w_.cell? ⟨W.heap.size + 1, 3, none⟩ = some (.int .i64 t3) := (BB.out.below hSw (Nat.le_refl _)).cell 3; have q4 : w_.cell? ⟨W.heap.size + 1, 4, none⟩ = some (.slice E4 t4.length e4) := (BB.out.below hSw (Nat.le_refl _)).cell 4
            go_simp
            (try with_reducible rfl)
          try simp only [Act.put, List.setIfInBounds_toArray, List.set_cons_zero, List.set_cons_succ]
          refine lateTake (i := 6) (v := ?_) rfl (by kernel_rfl) (by decide) (by kernel_rfl) (by kernel_rfl) (by kernel_rfl) (by kernel_rfl) (fun _ _ _ h => h) (by rfl) ?_ hHeld ?_
          rotate_left
          · intro w_ hSw
            (try dsimp only at hSw)
            have q0 : w_.cell? ⟨W.heap.size + 1, 0, none⟩ = some (.int .i64 t0) := (BB.out.below hSw (Nat.le_refl _)).cell 0; have q1 : w_.cell? ⟨W.heap.size + 1, 1, none⟩ = some (.int .i64 t1) := (BB.out.below hSw (Nat.le_refl _)).cell 1; have q2 : w_.cell? ⟨W.heap.size + 1, 2, none⟩ = some (.string t2) := (BB.out.below hSw (Nat.le_refl _)).cell 2; have q3 : w_.cell? ⟨W.heap.size + 1, 3, none⟩ = some (.int .i64 t3) := (BB.out.below hSw (Nat.le_refl _)).cell 3; have q4 : w_.cell? ⟨W.heap.size + 1, 4, none⟩ = some (.slice E4 t4.length e4) := (BB.out.below hSw (Nat.le_refl _)).cell 4
            go_simp
            (try with_reducible rfl)
          try simp only [Act.put, List.setIfInBounds_toArray, List.set_cons_zero, List.set_cons_succ]
          refine lateTakeW (i := 7) (v := ?_) rfl (by kernel_rfl) (by decide) (by kernel_rfl) (by kernel_rfl) (fun _ _ _ h => h) (by rfl) ?_ hHeld ?_
          rotate_left
          · intro w_
            go_simp
            (try with_reducible rfl)
          try simp only [Act.put, List.setIfInBounds_toArray, List.set_cons_zero, List.set_cons_succ]
          refine lateOne (i := 9) (by kernel_rfl) ?_
          refine lateLast (i := 9) rfl (by kernel_rfl) (by rfl) (fun K hK => ?_)
          have BKl := BK.out.lt; have BKf := fun i => BK.out.frozen i; have BK0 := BK.out.cell 0; have BK1 := BK.out.cell 1; have BK2 := BK.out.cell 2; have BK3 := BK.out.cell 3; have BK4 := BK.out.cell 4
          go_simp
          refine hK.out _ _ ?_
          clear hK K
          try simp only [Act.put, List.setIfInBounds_toArray, List.set_cons_zero, List.set_cons_succ]
          refine lateOne (i := 10) (by kernel_rfl) ?_
          refine lateLast (i := 10) rfl (by kernel_rfl) (by rfl) (fun K hK => ?_)
          skip
          go_simp
          refine hK.out _ _ ?_
          clear hK K
          try simp only [Act.put, List.setIfInBounds_toArray, List.set_cons_zero, List.set_cons_succ]
          refine lateDone (by kernel_rfl) ?_ _
          (try go_wp2_with fail)
          go_meet
          exact ⟨_, G4, g4, rfl, rfl, hgB, put5 hHeld hgB hgl BK.out OWN.out hlo⟩
      · skip
        refine lateOp (i := 8) rfl (by rfl) (fun K hK => ?_)
        go_simp
        (have BK := Lib.hid (Blk.new' wa 28 #[.int .i64 0, .int .i64 0, .string ⟨#[]⟩, .int .i64 0, .slice none 0 0] wa.heap.size rfl); have hgB : w2.heap.size ≤ wa.heap.size := hHeld.size; have hW8 := hHeld; replace O1 := Lib.hid (O1.out.alloc (.cells #[.int .i64 0, .int .i64 0, .string ⟨#[]⟩, .int .i64 0, .slice none 0 0] 28)); have hS_ := hHeld.alloc hHeld.size (.cells #[.int .i64 0, .int .i64 0, .string ⟨#[]⟩, .int .i64 0, .slice none 0 0] 28))
        clear hHeld
        refine hK.out _ _ hS_ (fun hHeld => ?_)
        clear hK K hS_
        try simp only [Act.put, List.setIfInBounds_toArray, List.set_cons_zero, List.set_cons_succ]
        refine lateOne (i := 3) (by kernel_rfl) ?_
        refine lateOp (i := 3) rfl (by rfl) (fun K hK => ?_)
        go_simp
        (go_at_call 7; refine (toValue_any ⟨t0, t1, t2, t3, t4⟩ hw2 [.int .i64 t0, .int .i64 t1, .string t2, .int .i64 t3, .slice E4 t4.length e4] _ W.heap.size (HBX.out _ hHeld).size (RV2.out.on (HBX.out _ hHeld) (Nat.le_refl _) (Nat.le_refl _))).mono ?_; rw [FValue.c_eq]; rintro e wb ⟨us, rfl, own, hb⟩; have hv := own.vs; obtain ⟨us_0, rfl, hv_0⟩ := hv.unv; obtain ⟨us_1, rfl, hv_1⟩ := hv_0.unv; obtain ⟨us_2, rfl, hv_2⟩ := hv_1.unv; obtain ⟨us_3, rfl, hv_3⟩ := hv_2.unv; obtain ⟨R4, r4, us_4, rfl, _, hv_4⟩ := hv_3.uns; obtain rfl := hv_4.un0; clear hv hv_0 hv_1 hv_2 hv_3 hv_4; have O2 := Lib.hid own; replace O1 := Lib.hid (O1.out.below hb (Nat.le_refl _)); have hS_ := hHeld.trans (hb.mono hHeld.size); replace BK := Lib.hid (BK.out.below hb (Nat.le_refl _)); clear own hb)
        clear hHeld
        refine hK.out _ _ hS_ (fun hHeld => ?_)
        clear hK K hS_
        try simp only [Act.put, List.setIfInBounds_toArray, List.set_cons_zero, List.set_cons_succ]
        refine lateOne (i := 4) (by kernel_rfl) ?_
        refine lateOp (i := 4) rfl (by rfl) (fun K hK => ?_)
        go_simp
        (go_at_call 6; have hlo := hHeld.size; have hgl := BK.out.lt; refine (ix_spec ⟨z0, z1, z2, z3, z4⟩ ⟨t0, t1, t2, t3, t4⟩ hw1 hw2 [.int .i64 z0, .int .i64 z1, .string z2, .int .i64 z3, .slice P4 z4.length p4] [.int .i64 t0, .int .i64 t1, .string t2, .int .i64 t3, .slice R4 t4.length r4] _ _ (Nat.le_refl _) (by rw [FValue.c_eq]; exact O1.out.vs) (by rw [FValue.c_eq]; exact O2.out.vs)).mono ?_; rw [HQ.out, HCC.out, FValue.c_eq]; rintro e wd ⟨us, rfl, own, hb⟩; have hv := own.vs; obtain ⟨us_0, rfl, hv_0⟩ := hv.unv; obtain ⟨us_1, rfl, hv_1⟩ := hv_0.unv; obtain ⟨us_2, rfl, hv_2⟩ := hv_1.unv; obtain ⟨us_3, rfl, hv_3⟩ := hv_2.unv; obtain ⟨G4, g4, us_4, rfl, _, hv_4⟩ := hv_3.uns; obtain rfl := hv_4.un0; clear hv hv_0 hv_1 hv_2 hv_3 hv_4; have OWN := Lib.hid own; have hS_ := hHeld.trans (hb.mono hHeld.size); replace BK := Lib.hid (BK.out.below hb (Nat.le_refl _)); clear own hb)
        clear hHeld
        refine hK.out _ _ hS_ (fun hHeld => ?_)
        clear hK K hS_
        try simp only [Act.put, List.setIfInBounds_toArray, List.set_cons_zero, List.set_cons_succ]
        refine lateTake (i := 5) (v := ?_) rfl (by kernel_rfl) (by decide) (by kernel_rfl) (by kernel_rfl) (by kernel_rfl) (by kernel_rfl) (fun _ _ _ h => h) (by rfl) ?_ hHeld ?_
        rotate_left
        · intro w_ hSw
          (try dsimp only at hSw)
          have q0 : w_.cell? ⟨W.heap.size + 1, 0, none⟩ = some (.int .i64 t0) := (BB.out.below hSw (Nat.le_refl _)).cell 0; have q1 : w_.cell? ⟨W.heap.size + 1, 1, none⟩ = some (.int .i64 t1) := (BB.out.below hSw (Nat.le_refl _)).cell 1; have q2 : w_.cell? ⟨W.heap.size + 1, 2, none⟩ = some (.string t2) := (BB.out.below hSw (Nat.le_refl _)).cell 2; have q3 : w_.cell? ⟨W.heap.size + 1, 3, none⟩ = some (.int .i64 t3) := (BB.out.below hSw (Nat.le_refl _)).cell 3; have q4 : w_.cell? ⟨W.heap.size + 1, 4, none⟩ = some (.slice E4 t4.length e4) := (BB.out.below hSw (Nat.le_refl _)).cell 4
          go_simp
          (try with_reducible rfl)
        try simp only [Act.put, List.setIfInBounds_toArray, List.set_cons_zero, List.set_cons_succ]
        refine lateTake (i := 6) (v := ?_) rfl (by kernel_rfl) (by decide) (by kernel_rfl) (by kernel_rfl) (by kernel_rfl) (by kernel_rfl) (fun _ _ _ h => h) (by rfl) ?_ hHeld ?_
        rotate_left
        · intro w_ hSw
          (try dsimp only at hSw)
          have q0 : w_.cell? ⟨W.heap.size + 1, 0, none⟩ = some (.int .i64 t0) := (BB.out.below hSw (Nat.le_refl _)).cell 0; have q1 : w_.cell? ⟨W.heap.size + 1, 1, none⟩ = some (.int .i64 t1) := (BB.out.below hSw (Nat.le_refl _)).cell 1; have q2 : w_.cell? ⟨W.heap.size + 1, 2, none⟩ = some (.string t2) := (BB.out.below hSw (Nat.le_refl _)).cell 2; have q3 : w_.cell? ⟨W.heap.size + 1, 3, none⟩ = some (.int .i64 t3) := (BB.out.below hSw (Nat.le_refl _)).cell 3; have q4 : w_.cell? ⟨W.heap.size + 1, 4, none⟩ = some (.slice E4 t4.length e4) := (BB.out.below hSw (Nat.le_refl _)).cell 4
          go_simp
          (try with_reducible rfl)
        try simp only [Act.put, List.setIfInBounds_toArray, List.set_cons_zero, List.set_cons_succ]
        refine lateTakeW (i := 7) (v := ?_) rfl (by kernel_rfl) (by decide) (by kernel_rfl) (by kernel_rfl) (fun _ _ _ h => h) (by rfl) ?_ hHeld ?_
        rotate_left
        · intro w_
          go_simp
          (try with_reducible rfl)
        try simp only [Act.put, List.setIfInBounds_toArray, List.set_cons_zero, List.set_cons_succ]
        refine lateOne (i := 9) (by kernel_rfl) ?_
        refine lateLast (i := 9) rfl (by kernel_rfl) (by rfl) (fun K hK => ?_)
        have BKl := BK.out.lt; have BKf := fun i => BK.out.frozen i; have BK0 := BK.out.cell 0; have BK1 := BK.out.cell 1; have BK2 := BK.out.cell 2; have BK3 := BK.out.cell 3; have BK4 := BK.out.cell 4
        go_simp
        refine hK.out _ _ ?_
        clear hK K
        try simp only [Act.put, List.setIfInBounds_toArray, List.set_cons_zero, List.set_cons_succ]
        refine lateOne (i := 10) (by kernel_rfl) ?_
        refine lateLast (i := 10) rfl (by kernel_rfl) (by rfl) (fun K hK => ?_)
        skip
        go_simp
        refine hK.out _ _ ?_
        clear hK K
        try simp only [Act.put, List.setIfInBounds_toArray, List.set_cons_zero, List.set_cons_succ]
        refine lateDone (by kernel_rfl) ?_ _
        (try go_wp2_with fail)
        go_meet
        exact ⟨_, G4, g4, rfl, rfl, hgB, put5 hHeld hgB hgl BK.out OWN.out hlo⟩
    · skip
      refine lateOp (i := 8) rfl (by rfl) (fun K hK => ?_)
      go_simp
      (have BK := Lib.hid (Blk.new' (World.drew w2) 28 #[.int .i64 0, .int .i64 0, .string ⟨#[]⟩, .int .i64 0, .slice none 0 0] w2.heap.size rfl); have hgB : w2.heap.size ≤ (World.drew w2).heap.size := hHeld.size; have hW8 := hHeld; have hS_ := hHeld.alloc hHeld.size (.cells #[.int .i64 0, .int .i64 0, .string ⟨#[]⟩, .int .i64 0, .slice none 0 0] 28))
      clear hHeld
      refine hK.out _ _ hS_ (fun hHeld => ?_)
      clear hK K hS_
      try simp only [Act.put, List.setIfInBounds_toArray, List.set_cons_zero, List.set_cons_succ]
      refine lateOne (i := 1) (by kernel_rfl) ?_
      refine lateOp (i := 1) rfl (by rfl) (fun K hK => ?_)
      go_simp
      (go_at_call 7; refine (toValue_any ⟨z0, z1, z2, z3, z4⟩ hw1 [.int .i64 z0, .int .i64 z1, .string z2, .int .i64 z3, .slice A4 z4.length c4] _ W.heap.size (HBX.out _ hHeld).size (RV.out.on (HBX.out _ hHeld) (Nat.le_refl _) (Nat.le_refl _))).mono ?_; rw [FValue.c_eq]; rintro e wa ⟨us, rfl, own, hb⟩; have hv := own.vs; obtain ⟨us_0, rfl, hv_0⟩ := hv.unv; obtain ⟨us_1, rfl, hv_1⟩ := hv_0.unv; obtain ⟨us_2, rfl, hv_2⟩ := hv_1.unv; obtain ⟨us_3, rfl, hv_3⟩ := hv_2.unv; obtain ⟨P4, p4, us_4, rfl, _, hv_4⟩ := hv_3.uns; obtain rfl := hv_4.un0; clear hv hv_0 hv_1 hv_2 hv_3 hv_4; have O1 := Lib.hid own; have hS_ := hHeld.trans (hb.mono hHeld.size); replace BK := Lib.hid (BK.out.below hb (Nat.le_refl _)); clear own hb)
      clear hHeld
      refine hK.out _ _ hS_ (fun hHeld => ?_)
      clear hK K hS_
      try simp only [Act.put, List.setIfInBounds_toArray, List.set_cons_zero, List.set_cons_succ]
      refine lateOne (i := 3) (by kernel_rfl) ?_
      refine lateOp (i := 3) rfl (by rfl) (fun K hK => ?_)
      go_simp
      (go_at_call 7; refine (toValue_any ⟨t0, t1, t2, t3, t4⟩ hw2 [.int .i64 t0, .int .i64 t1, .string t2, .int .i64 t3, .slice E4 t4.length e4] _ W.heap.size (HBX.out _ hHeld).size (RV2.out.on (HBX.out _ hHeld) (Nat.le_refl _) (Nat.le_refl _))).mono ?_; rw [FValue.c_eq]; rintro e wb ⟨us, rfl, own, hb⟩; have hv := own.vs; obtain ⟨us_0, rfl, hv_0⟩ := hv.unv; obtain ⟨us_1, rfl, hv_1⟩ := hv_0.unv; obtain ⟨us_2, rfl, hv_2⟩ := hv_1.unv; obtain ⟨us_3, rfl, hv_3⟩ := hv_2.unv; obtain ⟨R4, r4, us_4, rfl, _, hv_4⟩ := hv_3.uns; obtain rfl := hv_4.un0; clear hv hv_0 hv_1 hv_2 hv_3 hv_4; have O2 := Lib.hid own; replace O1 := Lib.hid (O1.out.below hb (Nat.le_refl _)); have hS_ := hHeld.trans (hb.mono hHeld.size); replace BK := Lib.hid (BK.out.below hb (Nat.le_refl _)); clear own hb)
      clear hHeld
      refine hK.out _ _ hS_ (fun hHeld => ?_)
      clear hK K hS_
      try simp only [Act.put, List.setIfInBounds_toArray, List.set_cons_zero, List.set_cons_succ]
      refine lateOne (i := 4) (by kernel_rfl) ?_
      refine lateOp (i := 4) rfl (by rfl) (fun K hK => ?_)
      go_simp
      (go_at_call 6; have hlo := hHeld.size; have hgl := BK.out.lt; refine (ix_spec ⟨z0, z1, z2, z3, z4⟩ ⟨t0, t1, t2, t3, t4⟩ hw1 hw2 [.int .i64 z0, .int .i64 z1, .string z2, .int .i64 z3, .slice P4 z4.length p4] [.int .i64 t0, .int .i64 t1, .string t2, .int .i64 t3, .slice R4 t4.length r4] _ _ (Nat.le_refl _) (by rw [FValue.c_eq]; exact O1.out.vs) (by rw [FValue.c_eq]; exact O2.out.vs)).mono ?_; rw [HQ.out, HCC.out, FValue.c_eq]; rintro e wd ⟨us, rfl, own, hb⟩; have hv := own.vs; obtain ⟨us_0, rfl, hv_0⟩ := hv.unv; obtain ⟨us_1, rfl, hv_1⟩ := hv_0.unv; obtain ⟨us_2, rfl, hv_2⟩ := hv_1.unv; obtain ⟨us_3, rfl, hv_3⟩ := hv_2.unv; obtain ⟨G4, g4, us_4, rfl, _, hv_4⟩ := hv_3.uns; obtain rfl := hv_4.un0; clear hv hv_0 hv_1 hv_2 hv_3 hv_4; have OWN := Lib.hid own; have hS_ := hHeld.trans (hb.mono hHeld.size); replace BK := Lib.hid (BK.out.below hb (Nat.le_refl _)); clear own hb)
      clear hHeld
      refine hK.out _ _ hS_ (fun hHeld => ?_)
      clear hK K hS_
      try simp only [Act.put, List.setIfInBounds_toArray, List.set_cons_zero, List.set_cons_succ]
      refine lateTake (i := 5) (v := ?_) rfl (by kernel_rfl) (by decide) (by kernel_rfl) (by kernel_rfl) (by kernel_rfl) (by kernel_rfl) (fun _ _ _ h => h) (by rfl) ?_ hHeld ?_
      rotate_left
      · intro w_ hSw
        (try dsimp only at hSw)
        have q0 : w_.cell? ⟨W.heap.size + 1, 0, none⟩ = some (.int .i64 t0) := (BB.out.below hSw (Nat.le_refl _)).cell 0; have q1 : w_.cell? ⟨W.heap.size + 1, 1, none⟩ = some (.int .i64 t1) := (BB.out.below hSw (Nat.le_refl _)).cell 1; have q2 : w_.cell? ⟨W.heap.size + 1, 2, none⟩ = some (.string t2) := (BB.out.below hSw (Nat.le_refl _)).cell 2; have q3 : w_.cell? ⟨W.heap.size + 1, 3, none⟩ = some (.int .i64 t3) := (BB.out.below hSw (Nat.le_refl _)).cell 3; have q4 : w_.cell? ⟨W.heap.size + 1, 4, none⟩ = some (.slice E4 t4.length e4) := (BB.out.below hSw (Nat.le_refl _)).cell 4
        go_simp
        (try with_reducible rfl)
      try simp only [Act.put, List.setIfInBounds_toArray, List.set_cons_zero, List.set_cons_succ]
      refine lateTake (i := 6) (v := ?_) rfl (by kernel_rfl) (by decide) (by kernel_rfl) (by kernel_rfl) (by kernel_rfl) (by kernel_rfl) (fun _ _ _ h => h) (by rfl) ?_ hHeld ?_
      rotate_left
      · intro w_ hSw
        (try dsimp only at hSw)
        have q0 : w_.cell? ⟨W.heap.size + 1, 0, none⟩ = some (.int .i64 t0) := (BB.out.below hSw (Nat.le_refl _)).cell 0; have q1 : w_.cell? ⟨W.heap.size + 1, 1, none⟩ = some (.int .i64 t1) := (BB.out.below hSw (Nat.le_refl _)).cell 1; have q2 : w_.cell? ⟨W.heap.size + 1, 2, none⟩ = some (.string t2) := (BB.out.below hSw (Nat.le_refl _)).cell 2; have q3 : w_.cell? ⟨W.heap.size + 1, 3, none⟩ = some (.int .i64 t3) := (BB.out.below hSw (Nat.le_refl _)).cell 3; have q4 : w_.cell? ⟨W.heap.size + 1, 4, none⟩ = some (.slice E4 t4.length e4) := (BB.out.below hSw (Nat.le_refl _)).cell 4
        go_simp
        (try with_reducible rfl)
      try simp only [Act.put, List.setIfInBounds_toArray, List.set_cons_zero, List.set_cons_succ]
      refine lateTakeW (i := 7) (v := ?_) rfl (by kernel_rfl) (by decide) (by kernel_rfl) (by kernel_rfl) (fun _ _ _ h => h) (by rfl) ?_ hHeld ?_
      rotate_left
      · intro w_
        go_simp
        (try with_reducible rfl)
      try simp only [Act.put, List.setIfInBounds_toArray, List.set_cons_zero, List.set_cons_succ]
      refine lateOne (i := 9) (by kernel_rfl) ?_
      refine lateLast (i := 9) rfl (by kernel_rfl) (by rfl) (fun K hK => ?_)
      have BKl := BK.out.lt; have BKf := fun i => BK.out.frozen i; have BK0 := BK.out.cell 0; have BK1 := BK.out.cell 1; have BK2 := BK.out.cell 2; have BK3 := BK.out.cell 3; have BK4 := BK.out.cell 4
      go_simp
      refine hK.out _ _ ?_
      clear hK K
      try simp only [Act.put, List.setIfInBounds_toArray, List.set_cons_zero, List.set_cons_succ]
      refine lateOne (i := 10) (by kernel_rfl) ?_
      refine lateLast (i := 10) rfl (by kernel_rfl) (by rfl) (fun K hK => ?_)
      skip
      go_simp
      refine hK.out _ _ ?_
      clear hK K
      try simp only [Act.put, List.setIfInBounds_toArray, List.set_cons_zero, List.set_cons_succ]
      refine lateDone (by kernel_rfl) ?_ _
      (try go_wp2_with fail)
      go_meet
      exact ⟨_, G4, g4, rfl, rfl, hgB, put5 hHeld hgB hgl BK.out OWN.out hlo⟩
  case rest =>
    obtain ⟨gbw, Gw, gw_, rfl, rfl, hgg, bw_, iw_, hb⟩ := hcut
    generalize wc = w3 at *
    replace bA := bA.below hb (Nat.le_refl _)
    replace bB := bB.below hb (Nat.le_refl _)
    replace hB := hB.trans (hb.mono (by omega))
    have s3 : w2.heap.size ≤ w3.heap.size := hb.size
    clear hb HBX
    have bw := bw_
    have iw := iw_
    clear bw_ iw_
    have ltbw := bw.lt
    have bA_0 : w3.cell? ⟨W.heap.size, 0, none⟩ = some (.int .i64 z0) := bA.cell 0
    have bA_1 : w3.cell? ⟨W.heap.size, 1, none⟩ = some (.int .i64 z1) := bA.cell 1
    have bA_2 : w3.cell? ⟨W.heap.size, 2, none⟩ = some (.string z2) := bA.cell 2
    have bA_3 : w3.cell? ⟨W.heap.size, 3, none⟩ = some (.int .i64 z3) := bA.cell 3
    have bA_4 : w3.cell? ⟨W.heap.size, 4, none⟩ = some (.slice A4 z4.length c4) := bA.cell 4
    have bA_l := bA.lt
    have bB_0 : w3.cell? ⟨W.heap.size + 1, 0, none⟩ = some (.int .i64 t0) := bB.cell 0
    have bB_1 : w3.cell? ⟨W.heap.size + 1, 1, none⟩ = some (.int .i64 t1) := bB.cell 1
    have bB_2 : w3.cell? ⟨W.heap.size + 1, 2, none⟩ = some (.string t2) := bB.cell 2
    have bB_3 : w3.cell? ⟨W.heap.size + 1, 3, none⟩ = some (.int .i64 t3) := bB.cell 3
    have bB_4 : w3.cell? ⟨W.heap.size + 1, 4, none⟩ = some (.slice E4 t4.length e4) := bB.cell 4
    have bB_l := bB.lt
    have bw_0 : w3.cell? ⟨gbw, 0, none⟩ = some (.int .i64 y0) := bw.cell 0
    have bw_1 : w3.cell? ⟨gbw, 1, none⟩ = some (.int .i64 y1) := bw.cell 1
    have bw_2 : w3.cell? ⟨gbw, 2, none⟩ = some (.string y2) := bw.cell 2
    have bw_3 : w3.cell? ⟨gbw, 3, none⟩ = some (.int .i64 y3) := bw.cell 3
    have bw_4 : w3.cell? ⟨gbw, 4, none⟩ = some (.slice Gw y4.length gw_) := bw.cell 4
    have bw_l := bw.lt
    go_wp2_with fail
    clear bA_0 bA_1 bA_2 bA_3 bA_4 bA_l
    clear bB_0 bB_1 bB_2 bB_3 bB_4 bB_l
    clear bw_0 bw_1 bw_2 bw_3 bw_4 bw_l
    refine (toValue_any ⟨z0, z1, z2, z3, z4⟩ hw1 [.int .i64 z0, .int .i64 z1, .string z2, .int .i64 z3, .slice A4 z4.length c4] _ W.heap.size (by omega) (RV.out.on hB (Nat.le_refl _) (Nat.le_refl _))).mono ?_
    rw [FValue.c_eq]
    rintro e w4 ⟨us, rfl, own, hb⟩
    replace bA := bA.below hb (Nat.le_refl _)
    replace bB := bB.below hb (Nat.le_refl _)
    replace bw := bw.below hb (Nat.le_refl _)
    replace iw := iw.below hb (Nat.le_refl _)
    replace hB := hB.trans (hb.mono (by omega))
    have s4 : w3.heap.size ≤ w4.heap.size := hb.size
    clear hb
    have hv := own.vs
    obtain ⟨us_0, rfl, hv_0⟩ := hv.unv
    obtain ⟨us_1, rfl, hv_1⟩ := hv_0.unv
    obtain ⟨us_2, rfl, hv_2⟩ := hv_1.unv
    obtain ⟨us_3, rfl, hv_3⟩ := hv_2.unv
    obtain ⟨Xx, xx, us_4, rfl, _, hv_4⟩ := hv_3.uns
    obtain rfl := hv_4.un0
    clear hv hv_0 hv_1 hv_2 hv_3 hv_4
    have ix := own
    clear own
    have bA_0 : w4.cell? ⟨W.heap.size, 0, none⟩ = some (.int .i64 z0) := bA.cell 0
    have bA_1 : w4.cell? ⟨W.heap.size, 1, none⟩ = some (.int .i64 z1) := bA.cell 1
    have bA_2 : w4.cell? ⟨W.heap.size, 2, none⟩ = some (.string z2) := bA.cell 2
    have bA_3 : w4.cell? ⟨W.heap.size, 3, none⟩ = some (.int .i64 z3) := bA.cell 3
    have bA_4 : w4.cell? ⟨W.heap.size, 4, none⟩ = some (.slice A4 z4.length c4) := bA.cell 4
    have bA_l := bA.lt
    have bB_0 : w4.cell? ⟨W.heap.size + 1, 0, none⟩ = some (.int .i64 t0) := bB.cell 0
    have bB_1 : w4.cell? ⟨W.heap.size + 1, 1, none⟩ = some (.int .i64 t1) := bB.cell 1
    have bB_2 : w4.cell? ⟨W.heap.size + 1, 2, none⟩ = some (.string t2) := bB.cell 2
    have bB_3 : w4.cell? ⟨W.heap.size + 1, 3, none⟩ = some (.int .i64 t3) := bB.cell 3
    have bB_4 : w4.cell? ⟨W.heap.size + 1, 4, none⟩ = some (.slice E4 t4.length e4) := bB.cell 4
    have bB_l := bB.lt
    have bw_0 : w4.cell? ⟨gbw, 0, none⟩ = some (.int .i64 y0) := bw.cell 0
    have bw_1 : w4.cell? ⟨gbw, 1, none⟩ = some (.int .i64 y1) := bw.cell 1
    have bw_2 : w4.cell? ⟨gbw, 2, none⟩ = some (.string y2) := bw.cell 2
    have bw_3 : w4.cell? ⟨gbw, 3, none⟩ = some (.int .i64 y3) := bw.cell 3
    have bw_4 : w4.cell? ⟨gbw, 4, none⟩ = some (.slice Gw y4.length gw_) := bw.cell 4
    have bw_l := bw.lt
    go_wp2_with fail
    clear bA_0 bA_1 bA_2 bA_3 bA_4 bA_l
    clear bB_0 bB_1 bB_2 bB_3 bB_4 bB_l
    clear bw_0 bw_1 bw_2 bw_3 bw_4 bw_l
    refine calls_worldD _ (fun X => Blk X (W.heap.size) 24 #[.int .i64 z0, .int .i64 z1, .string z2, .int .i64 z3, .slice A4 z4.length c4] ∧ Blk X (W.heap.size + 1) 24 #[.int .i64 t0, .int .i64 t1, .string t2, .int .i64 t3, .slice E4 t4.length e4] ∧ Blk X (gbw) 28 #[.int .i64 y0, .int .i64 y1, .string y2, .int .i64 y3, .slice Gw y4.length gw_] ∧ Blk X (w4.heap.size) 28 #[.int .i64 z0, .int .i64 z1, .string z2, .int .i64 z3, .slice Xx z4.length xx] ∧ OwnI X (w2.heap.size) (w3.heap.size) [.v (.int .i64 y0), .v (.int .i64 y1), .v (.string y2), .v (.int .i64 y3), .s 73 8 y4.length (FEntry.flat y4)] [.int .i64 y0, .int .i64 y1, .string y2, .int .i64 y3, .slice Gw y4.length gw_] ∧ OwnI X (w3.heap.size) (w4.heap.size) [.v (.int .i64 z0), .v (.int .i64 z1), .v (.string z2), .v (.int .i64 z3), .s 73 8 z4.length (FEntry.flat z4)] [.int .i64 z0, .int .i64 z1, .string z2, .int .i64 z3, .slice Xx z4.length xx] ∧ Below W.heap.size W X ∧ w4.heap.size < X.heap.size) ⟨bA.alloc _, bB.alloc _, bw.alloc _, Blk.new _ _ _, iw.alloc _, ix.alloc _, (hB).alloc (by omega) _, by simp⟩ ?_
    clear bA bB bw iw ix hB
    rintro w5 ⟨bA, bB, bw, bx, iw, ix, hB, s5⟩
    refine (toValue_any ⟨t0, t1, t2, t3, t4⟩ hw2 [.int .i64 t0, .int .i64 t1, .string t2, .int .i64 t3, .slice E4 t4.length e4] _ W.heap.size (by omega) (RV2.out.on hB (Nat.le_refl _) (Nat.le_refl _))).mono ?_
    rw [FValue.c_eq]
    rintro e w6 ⟨us, rfl, own, hb⟩
    replace bA := bA.below hb (Nat.le_refl _)
    replace bB := bB.below hb (Nat.le_refl _)
    replace bw := bw.below hb (Nat.le_refl _)
    replace bx := bx.below hb (Nat.le_refl _)
    replace iw := iw.below hb (Nat.le_refl _)
    replace ix := ix.below hb (Nat.le_refl _)
    replace hB := hB.trans (hb.mono (by omega))
    have s6 : w5.heap.size ≤ w6.heap.size := hb.size
    clear hb
    have hv := own.vs
    obtain ⟨us_0, rfl, hv_0⟩ := hv.unv
    obtain ⟨us_1, rfl, hv_1⟩ := hv_0.unv
    obtain ⟨us_2, rfl, hv_2⟩ := hv_1.unv
    obtain ⟨us_3, rfl, hv_3⟩ := hv_2.unv
    obtain ⟨Xy, xy, us_4, rfl, _, hv_4⟩ := hv_3.uns
    obtain rfl := hv_4.un0
    clear hv hv_0 hv_1 hv_2 hv_3 hv_4
    have iy := own
    clear own
    have bA_0 : w6.cell? ⟨W.heap.size, 0, none⟩ = some (.int .i64 z0) := bA.cell 0
    have bA_1 : w6.cell? ⟨W.heap.size, 1, none⟩ = some (.int .i64 z1) := bA.cell 1
    have bA_2 : w6.cell? ⟨W.heap.size, 2, none⟩ = some (.string z2) := bA.cell 2
    have bA_3 : w6.cell? ⟨W.heap.size, 3, none⟩ = some (.int .i64 z3) := bA.cell 3
    have bA_4 : w6.cell? ⟨W.heap.size, 4, none⟩ = some (.slice A4 z4.length c4) := bA.cell 4
    have bA_l := bA.lt
    have bB_0 : w6.cell? ⟨W.heap.size + 1, 0, none⟩ = some (.int .i64 t0) := bB.cell 0
    have bB_1 : w6.cell? ⟨W.heap.size + 1, 1, none⟩ = some (.int .i64 t1) := bB.cell 1
    have bB_2 : w6.cell? ⟨W.heap.size + 1, 2, none⟩ = some (.string t2) := bB.cell 2
    have bB_3 : w6.cell? ⟨W.heap.size + 1, 3, none⟩ = some (.int .i64 t3) := bB.cell 3
    have bB_4 : w6.cell? ⟨W.heap.size + 1, 4, none⟩ = some (.slice E4 t4.length e4) := bB.cell 4
    have bB_l := bB.lt
    have bw_0 : w6.cell? ⟨gbw, 0, none⟩ = some (.int .i64 y0) := bw.cell 0
    have bw_1 : w6.cell? ⟨gbw, 1, none⟩ = some (.int .i64 y1) := bw.cell 1
    have bw_2 : w6.cell? ⟨gbw, 2, none⟩ = some (.string y2) := bw.cell 2
    have bw_3 : w6.cell? ⟨gbw, 3, none⟩ = some (.int .i64 y3) := bw.cell 3
    have bw_4 : w6.cell? ⟨gbw, 4, none⟩ = some (.slice Gw y4.length gw_) := bw.cell 4
    have bw_l := bw.lt
    have bx_0 : w6.cell? ⟨w4.heap.size, 0, none⟩ = some (.int .i64 z0) := bx.cell 0
    have bx_1 : w6.cell? ⟨w4.heap.size, 1, none⟩ = some (.int .i64 z1) := bx.cell 1
    have bx_2 : w6.cell? ⟨w4.heap.size, 2, none⟩ = some (.string z2) := bx.cell 2
    have bx_3 : w6.cell? ⟨w4.heap.size, 3, none⟩ = some (.int .i64 z3) := bx.cell 3
    have bx_4 : w6.cell? ⟨w4.heap.size, 4, none⟩ = some (.slice Xx z4.length xx) := bx.cell 4
    have bx_l := bx.lt
    go_wp2_with fail
    clear bA_0 bA_1 bA_2 bA_3 bA_4 bA_l
    clear bB_0 bB_1 bB_2 bB_3 bB_4 bB_l
    clear bw_0 bw_1 bw_2 bw_3 bw_4 bw_l
    clear bx_0 bx_1 bx_2 bx_3 bx_4 bx_l
    refine calls_worldD _ (fun X => Blk X (W.heap.size) 24 #[.int .i64 z0, .int .i64 z1, .string z2, .int .i64 z3, .slice A4 z4.length c4] ∧ Blk X (W.heap.size + 1) 24 #[.int .i64 t0, .int .i64 t1, .string t2, .int .i64 t3, .slice E4 t4.length e4] ∧ Blk X (gbw) 28 #[.int .i64 y0, .int .i64 y1, .string y2, .int .i64 y3, .slice Gw y4.length gw_] ∧ Blk X (w4.heap.size) 28 #[.int .i64 z0, .int .i64 z1, .string z2, .int .i64 z3, .slice Xx z4.length xx] ∧ Blk X (w6.heap.size) 28 #[.int .i64 t0, .int .i64 t1, .string t2, .int .i64 t3, .slice Xy t4.length xy] ∧ OwnI X (w2.heap.size) (w3.heap.size) [.v (.int .i64 y0), .v (.int .i64 y1), .v (.string y2), .v (.int .i64 y3), .s 73 8 y4.length (FEntry.flat y4)] [.int .i64 y0, .int .i64 y1, .string y2, .int .i64 y3, .slice Gw y4.length gw_] ∧ OwnI X (w3.heap.size) (w4.heap.size) [.v (.int .i64 z0), .v (.int .i64 z1), .v (.string z2), .v (.int .i64 z3), .s 73 8 z4.length (FEntry.flat z4)] [.int .i64 z0, .int .i64 z1, .string z2, .int .i64 z3, .slice Xx z4.length xx] ∧ OwnI X (w5.heap.size) (w6.heap.size) [.v (.int .i64 t0), .v (.int .i64 t1), .v (.string t2), .v (.int .i64 t3), .s 73 8 t4.length (FEntry.flat t4)] [.int .i64 t0, .int .i64 t1, .string t2, .int .i64 t3, .slice Xy t4.length xy] ∧ Below W.heap.size W X ∧ w6.heap.size < X.heap.size) ⟨bA.alloc _, bB.alloc _, bw.alloc _, bx.alloc _, Blk.new _ _ _, iw.alloc _, ix.alloc _, iy.alloc _, (hB).alloc (by omega) _, by simp⟩ ?_
    clear bA bB bw bx iw ix iy hB
    rintro w7 ⟨bA, bB, bw, bx, by_, iw, ix, iy, hB, s7⟩
    refine (ix_impl ⟨z0, z1, z2, z3, z4⟩ ⟨t0, t1, t2, t3, t4⟩ hw1 hw2 [.int .i64 z0, .int .i64 z1, .string z2, .int .i64 z3, .slice Xx z4.length xx] [.int .i64 t0, .int .i64 t1, .string t2, .int .i64 t3, .slice Xy t4.length xy] _ _ (TV.out.up hB (Nat.le_refl _)) (Nat.le_refl _) (by rw [FValue.c_eq]; exact ix.vs) (by rw [FValue.c_eq]; exact iy.vs)).mono ?_
    rw [HQ.out, HCC.out, FValue.c_eq]
    rintro e w8 ⟨us, rfl, own, hb⟩
    replace bA := bA.below hb (Nat.le_refl _)
    replace bB := bB.below hb (Nat.le_refl _)
    replace bw := bw.below hb (Nat.le_refl _)
    replace bx := bx.below hb (Nat.le_refl _)
    replace by_ := by_.below hb (Nat.le_refl _)
    replace iw := iw.below hb (Nat.le_refl _)
    replace ix := ix.below hb (Nat.le_refl _)
    replace iy := iy.below hb (Nat.le_refl _)
    replace hB := hB.trans (hb.mono (by omega))
    have s8 : w7.heap.size ≤ w8.heap.size := hb.size
    clear hb
    have hv := own.vs
    obtain ⟨us_0, rfl, hv_0⟩ := hv.unv
    obtain ⟨us_1, rfl, hv_1⟩ := hv_0.unv
    obtain ⟨us_2, rfl, hv_2⟩ := hv_1.unv
    obtain ⟨us_3, rfl, hv_3⟩ := hv_2.unv
    obtain ⟨Gg, gg, us_4, rfl, _, hv_4⟩ := hv_3.uns
    obtain rfl := hv_4.un0
    clear hv hv_0 hv_1 hv_2 hv_3 hv_4
    have ig := own
    clear own
    have bA_0 : w8.cell? ⟨W.heap.size, 0, none⟩ = some (.int .i64 z0) := bA.cell 0
    have bA_1 : w8.cell? ⟨W.heap.size, 1, none⟩ = some (.int .i64 z1) := bA.cell 1
    have bA_2 : w8.cell? ⟨W.heap.size, 2, none⟩ = some (.string z2) := bA.cell 2
    have bA_3 : w8.cell? ⟨W.heap.size, 3, none⟩ = some (.int .i64 z3) := bA.cell 3
    have bA_4 : w8.cell? ⟨W.heap.size, 4, none⟩ = some (.slice A4 z4.length c4) := bA.cell 4
    have bA_l := bA.lt
    have bB_0 : w8.cell? ⟨W.heap.size + 1, 0, none⟩ = some (.int .i64 t0) := bB.cell 0
    have bB_1 : w8.cell? ⟨W.heap.size + 1, 1, none⟩ = some (.int .i64 t1) := bB.cell 1
    have bB_2 : w8.cell? ⟨W.heap.size + 1, 2, none⟩ = some (.string t2) := bB.cell 2
    have bB_3 : w8.cell? ⟨W.heap.size + 1, 3, none⟩ = some (.int .i64 t3) := bB.cell 3
    have bB_4 : w8.cell? ⟨W.heap.size + 1, 4, none⟩ = some (.slice E4 t4.length e4) := bB.cell 4
    have bB_l := bB.lt
    have bw_0 : w8.cell? ⟨gbw, 0, none⟩ = some (.int .i64 y0) := bw.cell 0
    have bw_1 : w8.cell? ⟨gbw, 1, none⟩ = some (.int .i64 y1) := bw.cell 1
    have bw_2 : w8.cell? ⟨gbw, 2, none⟩ = some (.string y2) := bw.cell 2
    have bw_3 : w8.cell? ⟨gbw, 3, none⟩ = some (.int .i64 y3) := bw.cell 3
    have bw_4 : w8.cell? ⟨gbw, 4, none⟩ = some (.slice Gw y4.length gw_) := bw.cell 4
    have bw_l := bw.lt
    have bx_0 : w8.cell? ⟨w4.heap.size, 0, none⟩ = some (.int .i64 z0) := bx.cell 0
    have bx_1 : w8.cell? ⟨w4.heap.size, 1, none⟩ = some (.int .i64 z1) := bx.cell 1
    have bx_2 : w8.cell? ⟨w4.heap.size, 2, none⟩ = some (.string z2) := bx.cell 2
    have bx_3 : w8.cell? ⟨w4.heap.size, 3, none⟩ = some (.int .i64 z3) := bx.cell 3
    have bx_4 : w8.cell? ⟨w4.heap.size, 4, none⟩ = some (.slice Xx z4.length xx) := bx.cell 4
    have bx_l := bx.lt
    have by__0 : w8.cell? ⟨w6.heap.size, 0, none⟩ = some (.int .i64 t0) := by_.cell 0
    have by__1 : w8.cell? ⟨w6.heap.size, 1, none⟩ = some (.int .i64 t1) := by_.cell 1
    have by__2 : w8.cell? ⟨w6.heap.size, 2, none⟩ = some (.string t2) := by_.cell 2
    have by__3 : w8.cell? ⟨w6.heap.size, 3, none⟩ = some (.int .i64 t3) := by_.cell 3
    have by__4 : w8.cell? ⟨w6.heap.size, 4, none⟩ = some (.slice Xy t4.length xy) := by_.cell 4
    have by__l := by_.lt
    go_wp2_with fail
    clear bA_0 bA_1 bA_2 bA_3 bA_4 bA_l
    clear bB_0 bB_1 bB_2 bB_3 bB_4 bB_l
    clear bw_0 bw_1 bw_2 bw_3 bw_4 bw_l
    clear bx_0 bx_1 bx_2 bx_3 bx_4 bx_l
    clear by__0 by__1 by__2 by__3 by__4 by__l
    refine calls_worldD _ (fun X => Blk X (W.heap.size) 24 #[.int .i64 z0, .int .i64 z1, .string z2, .int .i64 z3, .slice A4 z4.length c4] ∧ Blk X (W.heap.size + 1) 24 #[.int .i64 t0, .int .i64 t1, .string t2, .int .i64 t3, .slice E4 t4.length e4] ∧ Blk X (gbw) 28 #[.int .i64 y0, .int .i64 y1, .string y2, .int .i64 y3, .slice Gw y4.length gw_] ∧ Blk X (w4.heap.size) 28 #[.int .i64 z0, .int .i64 z1, .string z2, .int .i64 z3, .slice Xx z4.length xx] ∧ Blk X (w6.heap.size) 28 #[.int .i64 t0, .int .i64 t1, .string t2, .int .i64 t3, .slice Xy t4.length xy] ∧ Blk X (w8.heap.size) 28 #[.int .i64 y0, .int .i64 y1, .string y2, .int .i64 y3, .slice Gg y4.length gg] ∧ OwnI X (w2.heap.size) (w3.heap.size) [.v (.int .i64 y0), .v (.int .i64 y1), .v (.string y2), .v (.int .i64 y3), .s 73 8 y4.length (FEntry.flat y4)] [.int .i64 y0, .int .i64 y1, .string y2, .int .i64 y3, .slice Gw y4.length gw_] ∧ OwnI X (w3.heap.size) (w4.heap.size) [.v (.int .i64 z0), .v (.int .i64 z1), .v (.string z2), .v (.int .i64 z3), .s 73 8 z4.length (FEntry.flat z4)] [.int .i64 z0, .int .i64 z1, .string z2, .int .i64 z3, .slice Xx z4.length xx] ∧ OwnI X (w5.heap.size) (w6.heap.size) [.v (.int .i64 t0), .v (.int .i64 t1), .v (.string t2), .v (.int .i64 t3), .s 73 8 t4.length (FEntry.flat t4)] [.int .i64 t0, .int .i64 t1, .string t2, .int .i64 t3, .slice Xy t4.length xy] ∧ OwnI X (w7.heap.size) (w8.heap.size) [.v (.int .i64 y0), .v (.int .i64 y1), .v (.string y2), .v (.int .i64 y3), .s 73 8 y4.length (FEntry.flat y4)] [.int .i64 y0, .int .i64 y1, .string y2, .int .i64 y3, .slice Gg y4.length gg] ∧ Below W.heap.size W X ∧ w8.heap.size < X.heap.size) ⟨bA.alloc _, bB.alloc _, bw.alloc _, bx.alloc _, by_.alloc _, Blk.new _ _ _, iw.alloc _, ix.alloc _, iy.alloc _, ig.alloc _, (hB).alloc (by omega) _, by simp⟩ ?_
    clear bA bB bw bx by_ iw ix iy ig hB
    rintro w9 ⟨bA, bB, bw, bx, by_, bg, iw, ix, iy, ig, hB, s9⟩
    refine (eqValue_any ⟨y0, y1, y2, y3, y4⟩ HWQ.out [.int .i64 y0, .int .i64 y1, .string y2, .int .i64 y3, .slice Gg y4.length gg] [.int .i64 y0, .int .i64 y1, .string y2, .int .i64 y3, .slice Gw y4.length gw_] _ (by rw [FValue.c_eq]; exact ig.vs) (by rw [FValue.c_eq]; exact iw.vs)).mono ?_
    rintro e w10 ⟨rfl, hb⟩
    replace bA := bA.below hb (Nat.le_refl _)
    replace bB := bB.below hb (Nat.le_refl _)
    replace bw := bw.below hb (Nat.le_refl _)
    replace bx := bx.below hb (Nat.le_refl _)
    replace by_ := by_.below hb (Nat.le_refl _)
    replace bg := bg.below hb (Nat.le_refl _)
    replace iw := iw.below hb (Nat.le_refl _)
    replace ix := ix.below hb (Nat.le_refl _)
    replace iy := iy.below hb (Nat.le_refl _)
    replace ig := ig.below hb (Nat.le_refl _)
    replace hB := hB.trans (hb.mono (by omega))
    have s10 : w9.heap.size ≤ w10.heap.size := hb.size
    clear hb
    have bA_0 : w10.cell? ⟨W.heap.size, 0, none⟩ = some (.int .i64 z0) := bA.cell 0
    have bA_1 : w10.cell? ⟨W.heap.size, 1, none⟩ = some (.int .i64 z1) := bA.cell 1
    have bA_2 : w10.cell? ⟨W.heap.size, 2, none⟩ = some (.string z2) := bA.cell 2
    have bA_3 : w10.cell? ⟨W.heap.size, 3, none⟩ = some (.int .i64 z3) := bA.cell 3
    have bA_4 : w10.cell? ⟨W.heap.size, 4, none⟩ = some (.slice A4 z4.length c4) := bA.cell 4
    have bA_l := bA.lt
    have bB_0 : w10.cell? ⟨W.heap.size + 1, 0, none⟩ = some (.int .i64 t0) := bB.cell 0
    have bB_1 : w10.cell? ⟨W.heap.size + 1, 1, none⟩ = some (.int .i64 t1) := bB.cell 1
    have bB_2 : w10.cell? ⟨W.heap.size + 1, 2, none⟩ = some (.string t2) := bB.cell 2
    have bB_3 : w10.cell? ⟨W.heap.size + 1, 3, none⟩ = some (.int .i64 t3) := bB.cell 3
    have bB_4 : w10.cell? ⟨W.heap.size + 1, 4, none⟩ = some (.slice E4 t4.length e4) := bB.cell 4
    have bB_l := bB.lt
    have bw_0 : w10.cell? ⟨gbw, 0, none⟩ = some (.int .i64 y0) := bw.cell 0
    have bw_1 : w10.cell? ⟨gbw, 1, none⟩ = some (.int .i64 y1) := bw.cell 1
    have bw_2 : w10.cell? ⟨gbw, 2, none⟩ = some (.string y2) := bw.cell 2
    have bw_3 : w10.cell? ⟨gbw, 3, none⟩ = some (.int .i64 y3) := bw.cell 3
    have bw_4 : w10.cell? ⟨gbw, 4, none⟩ = some (.slice Gw y4.length gw_) := bw.cell 4
    have bw_l := bw.lt
    have bx_0 : w10.cell? ⟨w4.heap.size, 0, none⟩ = some (.int .i64 z0) := bx.cell 0
    have bx_1 : w10.cell? ⟨w4.heap.size, 1, none⟩ = some (.int .i64 z1) := bx.cell 1
    have bx_2 : w10.cell? ⟨w4.heap.size, 2, none⟩ = some (.string z2) := bx.cell 2
    have bx_3 : w10.cell? ⟨w4.heap.size, 3, none⟩ = some (.int .i64 z3) := bx.cell 3
    have bx_4 : w10.cell? ⟨w4.heap.size, 4, none⟩ = some (.slice Xx z4.length xx) := bx.cell 4
    have bx_l := bx.lt
    have by__0 : w10.cell? ⟨w6.heap.size, 0, none⟩ = some (.int .i64 t0) := by_.cell 0
    have by__1 : w10.cell? ⟨w6.heap.size, 1, none⟩ = some (.int .i64 t1) := by_.cell 1
    have by__2 : w10.cell? ⟨w6.heap.size, 2, none⟩ = some (.string t2) := by_.cell 2
    have by__3 : w10.cell? ⟨w6.heap.size, 3, none⟩ = some (.int .i64 t3) := by_.cell 3
    have by__4 : w10.cell? ⟨w6.heap.size, 4, none⟩ = some (.slice Xy t4.length xy) := by_.cell 4
    have by__l := by_.lt
    have bg_0 : w10.cell? ⟨w8.heap.size, 0, none⟩ = some (.int .i64 y0) := bg.cell 0
    have bg_1 : w10.cell? ⟨w8.heap.size, 1, none⟩ = some (.int .i64 y1) := bg.cell 1
    have bg_2 : w10.cell? ⟨w8.heap.size, 2, none⟩ = some (.string y2) := bg.cell 2
    have bg_3 : w10.cell? ⟨w8.heap.size, 3, none⟩ = some (.int .i64 y3) := bg.cell 3
    have bg_4 : w10.cell? ⟨w8.heap.size, 4, none⟩ = some (.slice Gg y4.length gg) := bg.cell 4
    have bg_l := bg.lt
    go_wp2_with fail
    clear bA_0 bA_1 bA_2 bA_3 bA_4 bA_l
    clear bB_0 bB_1 bB_2 bB_3 bB_4 bB_l
    clear bw_0 bw_1 bw_2 bw_3 bw_4 bw_l
    clear bx_0 bx_1 bx_2 bx_3 bx_4 bx_l
    clear by__0 by__1 by__2 by__3 by__4 by__l
    clear bg_0 bg_1 bg_2 bg_3 bg_4 bg_l
    have q0 : w10.cell? ⟨w4.heap.size, 0, none⟩ = some (.int .i64 z0) := bx.cell 0
    have q1 : w10.cell? ⟨w4.heap.size, 1, none⟩ = some (.int .i64 z1) := bx.cell 1
    have q2 : w10.cell? ⟨w4.heap.size, 2, none⟩ = some (.string z2) := bx.cell 2
    have q3 : w10.cell? ⟨w4.heap.size, 3, none⟩ = some (.int .i64 z3) := bx.cell 3
    have q4 : w10.cell? ⟨w4.heap.size, 4, none⟩ = some (.slice Xx z4.length xx) := bx.cell 4
    have q5 : w10.cell? ⟨W.heap.size, 0, none⟩ = some (.int .i64 z0) := bA.cell 0
    have q6 : w10.cell? ⟨W.heap.size, 1, none⟩ = some (.int .i64 z1) := bA.cell 1
    have q7 : w10.cell? ⟨W.heap.size, 2, none⟩ = some (.string z2) := bA.cell 2
    have q8 : w10.cell? ⟨W.heap.size, 3, none⟩ = some (.int .i64 z3) := bA.cell 3
    have q9 : w10.cell? ⟨W.heap.size, 4, none⟩ = some (.slice A4 z4.length c4) := bA.cell 4
    have u1 : W.heap.size ≤ w10.drew.heap.size := hB.size
    have TV := Lib.hid (show RdVs w10.drew W.heap.size (FValue.c ⟨z0, z1, z2, z3, z4⟩) [.int .i64 z0, .int .i64 z1, .string z2, .int .i64 z3, .slice A4 z4.length c4] from RV.out.on hB.drew (Nat.le_refl _) (Nat.le_refl _))
    have lA := bA.lt
    have lX := bx.lt
    go_region_held3 (fun w_ => w_.cell? ⟨w4.heap.size, 0, none⟩ = some (.int .i64 z0) ∧ w_.cell? ⟨w4.heap.size, 1, none⟩ = some (.int .i64 z1) ∧ w_.cell? ⟨w4.heap.size, 2, none⟩ = some (.string z2) ∧ w_.cell? ⟨w4.heap.size, 3, none⟩ = some (.int .i64 z3) ∧ w_.cell? ⟨w4.heap.size, 4, none⟩ = some (.slice Xx z4.length xx) ∧ w_.cell? ⟨W.heap.size, 0, none⟩ = some (.int .i64 z0) ∧ w_.cell? ⟨W.heap.size, 1, none⟩ = some (.int .i64 z1) ∧ w_.cell? ⟨W.heap.size, 2, none⟩ = some (.string z2) ∧ w_.cell? ⟨W.heap.size, 3, none⟩ = some (.int .i64 z3) ∧ w_.cell? ⟨W.heap.size, 4, none⟩ = some (.slice A4 z4.length c4))
      (first
        | exact ⟨q0, q1, q2, q3, q4, q5, q6, q7, q8, q9⟩
        | exact ⟨((bcell hb1).1 _ _ (by simp; omega)).trans q0, ((bcell hb1).1 _ _ (by simp; omega)).trans q1, ((bcell hb1).1 _ _ (by simp; omega)).trans q2, ((bcell hb1).1 _ _ (by simp; omega)).trans q3, ((bcell hb1).1 _ _ (by simp; omega)).trans q4, ((bcell hb1).1 _ _ (by simp; omega)).trans q5, ((bcell hb1).1 _ _ (by simp; omega)).trans q6, ((bcell hb1).1 _ _ (by simp; omega)).trans q7, ((bcell hb1).1 _ _ (by simp; omega)).trans q8, ((bcell hb1).1 _ _ (by simp; omega)).trans q9⟩
        | exact ⟨((bcell hb2).1 _ _ (by omega)).trans (((bcell zb).1 _ _ (by omega)).trans q0), ((bcell hb2).1 _ _ (by omega)).trans (((bcell zb).1 _ _ (by omega)).trans q1), ((bcell hb2).1 _ _ (by omega)).trans (((bcell zb).1 _ _ (by omega)).trans q2), ((bcell hb2).1 _ _ (by omega)).trans (((bcell zb).1 _ _ (by omega)).trans q3), ((bcell hb2).1 _ _ (by omega)).trans (((bcell zb).1 _ _ (by omega)).trans q4), ((bcell hb2).1 _ _ (by omega)).trans (((bcell zb).1 _ _ (by omega)).trans q5), ((bcell hb2).1 _ _ (by omega)).trans (((bcell zb).1 _ _ (by omega)).trans q6), ((bcell hb2).1 _ _ (by omega)).trans (((bcell zb).1 _ _ (by omega)).trans q7), ((bcell hb2).1 _ _ (by omega)).trans (((bcell zb).1 _ _ (by omega)).trans q8), ((bcell hb2).1 _ _ (by omega)).trans (((bcell zb).1 _ _ (by omega)).trans q9)⟩)
      ((first
        | (go_at_call 7
           refine (toValue_any ⟨z0, z1, z2, z3, z4⟩ hw1 [.int .i64 z0, .int .i64 z1, .string z2, .int .i64 z3, .slice A4 z4.length c4] _ W.heap.size u1 TV.out).mono ?_
           rw [FValue.c_eq]
           rintro e wa ⟨us, rfl, own, hb1⟩
           have hv := own.vs
           obtain ⟨us_0, rfl, hv_0⟩ := hv.unv
           obtain ⟨us_1, rfl, hv_1⟩ := hv_0.unv
           obtain ⟨us_2, rfl, hv_2⟩ := hv_1.unv
           obtain ⟨us_3, rfl, hv_3⟩ := hv_2.unv
           obtain ⟨Zz, zz, us_4, rfl, _, hv_4⟩ := hv_3.uns
           obtain rfl := hv_4.un0
           clear hv hv_0 hv_1 hv_2 hv_3 hv_4
           have O6 := Lib.hid own
           clear own)
        | (go_at_call 9
           have zb : Below w10.heap.size w10 wa := (Below.refl w10.heap.size w10).drew.trans (hb1.mono (by simp))
           have zs := zb.size
           have E1 := Lib.hid (ix.below zb (Nat.le_refl _)).vs
           have E2 := Lib.hid O6.out.vs
           refine (eqValue_any ⟨z0, z1, z2, z3, z4⟩ HW1.out [.int .i64 z0, .int .i64 z1, .string z2, .int .i64 z3, .slice Xx z4.length xx] [.int .i64 z0, .int .i64 z1, .string z2, .int .i64 z3, .slice Zz z4.length zz] _ (by rw [FValue.c_eq]; exact E1.out) (by rw [FValue.c_eq]; exact E2.out)).mono ?_
           rintro e wb ⟨rfl, hb2⟩)))
    have hb := zb.trans (hb2.mono zb.size)
    clear hb1 hb2 O6 TV u1 q0 q1 q2 q3 q4 q5 q6 q7 q8 q9
    replace bA := bA.below hb (Nat.le_refl _)
    replace bB := bB.below hb (Nat.le_refl _)
    replace bw := bw.below hb (Nat.le_refl _)
    replace bx := bx.below hb (Nat.le_refl _)
    replace by_ := by_.below hb (Nat.le_refl _)
    replace bg := bg.below hb (Nat.le_refl _)
    replace iw := iw.below hb (Nat.le_refl _)
    replace ix := ix.below hb (Nat.le_refl _)
    replace iy := iy.below hb (Nat.le_refl _)
    replace ig := ig.below hb (Nat.le_refl _)
    replace hB := hB.trans (hb.mono (by omega))
    have s11 : w10.heap.size ≤ wb.heap.size := hb.size
    clear hb zb zs E1 E2
    generalize wb = w11 at *
    have bA_0 : w11.cell? ⟨W.heap.size, 0, none⟩ = some (.int .i64 z0) := bA.cell 0
    have bA_1 : w11.cell? ⟨W.heap.size, 1, none⟩ = some (.int .i64 z1) := bA.cell 1
    have bA_2 : w11.cell? ⟨W.heap.size, 2, none⟩ = some (.string z2) := bA.cell 2
    have bA_3 : w11.cell? ⟨W.heap.size, 3, none⟩ = some (.int .i64 z3) := bA.cell 3
    have bA_4 : w11.cell? ⟨W.heap.size, 4, none⟩ = some (.slice A4 z4.length c4) := bA.cell 4
    have bA_l := bA.lt
    have bB_0 : w11.cell? ⟨W.heap.size + 1, 0, none⟩ = some (.int .i64 t0) := bB.cell 0
    have bB_1 : w11.cell? ⟨W.heap.size + 1, 1, none⟩ = some (.int .i64 t1) := bB.cell 1
    have bB_2 : w11.cell? ⟨W.heap.size + 1, 2, none⟩ = some (.string t2) := bB.cell 2
    have bB_3 : w11.cell? ⟨W.heap.size + 1, 3, none⟩ = some (.int .i64 t3) := bB.cell 3
    have bB_4 : w11.cell? ⟨W.heap.size + 1, 4, none⟩ = some (.slice E4 t4.length e4) := bB.cell 4
    have bB_l := bB.lt
    have bw_0 : w11.cell? ⟨gbw, 0, none⟩ = some (.int .i64 y0) := bw.cell 0
    have bw_1 : w11.cell? ⟨gbw, 1, none⟩ = some (.int .i64 y1) := bw.cell 1
    have bw_2 : w11.cell? ⟨gbw, 2, none⟩ = some (.string y2) := bw.cell 2
    have bw_3 : w11.cell? ⟨gbw, 3, none⟩ = some (.int .i64 y3) := bw.cell 3
    have bw_4 : w11.cell? ⟨gbw, 4, none⟩ = some (.slice Gw y4.length gw_) := bw.cell 4
    have bw_l := bw.lt
    have bx_0 : w11.cell? ⟨w4.heap.size, 0, none⟩ = some (.int .i64 z0) := bx.cell 0
    have bx_1 : w11.cell? ⟨w4.heap.size, 1, none⟩ = some (.int .i64 z1) := bx.cell 1
    have bx_2 : w11.cell? ⟨w4.heap.size, 2, none⟩ = some (.string z2) := bx.cell 2
    have bx_3 : w11.cell? ⟨w4.heap.size, 3, none⟩ = some (.int .i64 z3) := bx.cell 3
    have bx_4 : w11.cell? ⟨w4.heap.size, 4, none⟩ = some (.slice Xx z4.length xx) := bx.cell 4
    have bx_l := bx.lt
    have by__0 : w11.cell? ⟨w6.heap.size, 0, none⟩ = some (.int .i64 t0) := by_.cell 0
    have by__1 : w11.cell? ⟨w6.heap.size, 1, none⟩ = some (.int .i64 t1) := by_.cell 1
    have by__2 : w11.cell? ⟨w6.heap.size, 2, none⟩ = some (.string t2) := by_.cell 2
    have by__3 : w11.cell? ⟨w6.heap.size, 3, none⟩ = some (.int .i64 t3) := by_.cell 3
    have by__4 : w11.cell? ⟨w6.heap.size, 4, none⟩ = some (.slice Xy t4.length xy) := by_.cell 4
    have by__l := by_.lt
    have bg_0 : w11.cell? ⟨w8.heap.size, 0, none⟩ = some (.int .i64 y0) := bg.cell 0
    have bg_1 : w11.cell? ⟨w8.heap.size, 1, none⟩ = some (.int .i64 y1) := bg.cell 1
    have bg_2 : w11.cell? ⟨w8.heap.size, 2, none⟩ = some (.string y2) := bg.cell 2
    have bg_3 : w11.cell? ⟨w8.heap.size, 3, none⟩ = some (.int .i64 y3) := bg.cell 3
    have bg_4 : w11.cell? ⟨w8.heap.size, 4, none⟩ = some (.slice Gg y4.length gg) := bg.cell 4
    have bg_l := bg.lt
    go_wp2_with fail
    clear bA_0 bA_1 bA_2 bA_3 bA_4 bA_l
    clear bB_0 bB_1 bB_2 bB_3 bB_4 bB_l
    clear bw_0 bw_1 bw_2 bw_3 bw_4 bw_l
    clear bx_0 bx_1 bx_2 bx_3 bx_4 bx_l
    clear by__0 by__1 by__2 by__3 by__4 by__l
    clear bg_0 bg_1 bg_2 bg_3 bg_4 bg_l
    have q0 : w11.cell? ⟨w6.heap.size, 0, none⟩ = some (.int .i64 t0) := by_.cell 0
    have q1 : w11.cell? ⟨w6.heap.size, 1, none⟩ = some (.int .i64 t1) := by_.cell 1
    have q2 : w11.cell? ⟨w6.heap.size, 2, none⟩ = some (.string t2) := by_.cell 2
    have q3 : w11.cell? ⟨w6.heap.size, 3, none⟩ = some (.int .i64 t3) := by_.cell 3
    have q4 : w11.cell? ⟨w6.heap.size, 4, none⟩ = some (.slice Xy t4.length xy) := by_.cell 4
    have q5 : w11.cell? ⟨W.heap.size + 1, 0, none⟩ = some (.int .i64 t0) := bB.cell 0
    have q6 : w11.cell? ⟨W.heap.size + 1, 1, none⟩ = some (.int .i64 t1) := bB.cell 1
    have q7 : w11.cell? ⟨W.heap.size + 1, 2, none⟩ = some (.string t2) := bB.cell 2
    have q8 : w11.cell? ⟨W.heap.size + 1, 3, none⟩ = some (.int .i64 t3) := bB.cell 3
    have q9 : w11.cell? ⟨W.heap.size + 1, 4, none⟩ = some (.slice E4 t4.length e4) := bB.cell 4
    have u1 : W.heap.size ≤ w11.drew.heap.size := hB.size
    have TV := Lib.hid (show RdVs w11.drew W.heap.size (FValue.c ⟨t0, t1, t2, t3, t4⟩) [.int .i64 t0, .int .i64 t1, .string t2, .int .i64 t3, .slice E4 t4.length e4] from RV2.out.on hB.drew (Nat.le_refl _) (Nat.le_refl _))
    have lA := bB.lt
    have lX := by_.lt
    go_region_held3 (fun w_ => w_.cell? ⟨w6.heap.size, 0, none⟩ = some (.int .i64 t0) ∧ w_.cell? ⟨w6.heap.size, 1, none⟩ = some (.int .i64 t1) ∧ w_.cell? ⟨w6.heap.size, 2, none⟩ = some (.string t2) ∧ w_.cell? ⟨w6.heap.size, 3, none⟩ = some (.int .i64 t3) ∧ w_.cell? ⟨w6.heap.size, 4, none⟩ = some (.slice Xy t4.length xy) ∧ w_.cell? ⟨W.heap.size + 1, 0, none⟩ = some (.int .i64 t0) ∧ w_.cell? ⟨W.heap.size + 1, 1, none⟩ = some (.int .i64 t1) ∧ w_.cell? ⟨W.heap.size + 1, 2, none⟩ = some (.string t2) ∧ w_.cell? ⟨W.heap.size + 1, 3, none⟩ = some (.int .i64 t3) ∧ w_.cell? ⟨W.heap.size + 1, 4, none⟩ = some (.slice E4 t4.length e4))
      (first
        | exact ⟨q0, q1, q2, q3, q4, q5, q6, q7, q8, q9⟩
        | exact ⟨((bcell hb1).1 _ _ (by simp; omega)).trans q0, ((bcell hb1).1 _ _ (by simp; omega)).trans q1, ((bcell hb1).1 _ _ (by simp; omega)).trans q2, ((bcell hb1).1 _ _ (by simp; omega)).trans q3, ((bcell hb1).1 _ _ (by simp; omega)).trans q4, ((bcell hb1).1 _ _ (by simp; omega)).trans q5, ((bcell hb1).1 _ _ (by simp; omega)).trans q6, ((bcell hb1).1 _ _ (by simp; omega)).trans q7, ((bcell hb1).1 _ _ (by simp; omega)).trans q8, ((bcell hb1).1 _ _ (by simp; omega)).trans q9⟩
        | exact ⟨((bcell hb2).1 _ _ (by omega)).trans (((bcell zb).1 _ _ (by omega)).trans q0), ((bcell hb2).1 _ _ (by omega)).trans (((bcell zb).1 _ _ (by omega)).trans q1), ((bcell hb2).1 _ _ (by omega)).trans (((bcell zb).1 _ _ (by omega)).trans q2), ((bcell hb2).1 _ _ (by omega)).trans (((bcell zb).1 _ _ (by omega)).trans q3), ((bcell hb2).1 _ _ (by omega)).trans (((bcell zb).1 _ _ (by omega)).trans q4), ((bcell hb2).1 _ _ (by omega)).trans (((bcell zb).1 _ _ (by omega)).trans q5), ((bcell hb2).1 _ _ (by omega)).trans (((bcell zb).1 _ _ (by omega)).trans q6), ((bcell hb2).1 _ _ (by omega)).trans (((bcell zb).1 _ _ (by omega)).trans q7), ((bcell hb2).1 _ _ (by omega)).trans (((bcell zb).1 _ _ (by omega)).trans q8), ((bcell hb2).1 _ _ (by omega)).trans (((bcell zb).1 _ _ (by omega)).trans q9)⟩)
      ((first
        | (go_at_call 7
           refine (toValue_any ⟨t0, t1, t2, t3, t4⟩ hw2 [.int .i64 t0, .int .i64 t1, .string t2, .int .i64 t3, .slice E4 t4.length e4] _ W.heap.size u1 TV.out).mono ?_
           rw [FValue.c_eq]
           rintro e wa ⟨us, rfl, own, hb1⟩
           have hv := own.vs
           obtain ⟨us_0, rfl, hv_0⟩ := hv.unv
           obtain ⟨us_1, rfl, hv_1⟩ := hv_0.unv
           obtain ⟨us_2, rfl, hv_2⟩ := hv_1.unv
           obtain ⟨us_3, rfl, hv_3⟩ := hv_2.unv
           obtain ⟨Zz, zz, us_4, rfl, _, hv_4⟩ := hv_3.uns
           obtain rfl := hv_4.un0
           clear hv hv_0 hv_1 hv_2 hv_3 hv_4
           have O6 := Lib.hid own
           clear own)
        | (go_at_call 9
           have zb : Below w11.heap.size w11 wa := (Below.refl w11.heap.size w11).drew.trans (hb1.mono (by simp))
           have zs := zb.size
           have E1 := Lib.hid (iy.below zb (Nat.le_refl _)).vs
           have E2 := Lib.hid O6.out.vs
           refine (eqValue_any ⟨t0, t1, t2, t3, t4⟩ HW2.out [.int .i64 t0, .int .i64 t1, .string t2, .int .i64 t3, .slice Xy t4.length xy] [.int .i64 t0, .int .i64 t1, .string t2, .int .i64 t3, .slice Zz t4.length zz] _ (by rw [FValue.c_eq]; exact E1.out) (by rw [FValue.c_eq]; exact E2.out)).mono ?_
           rintro e wb ⟨rfl, hb2⟩)))
    have hb := zb.trans (hb2.mono zb.size)
    clear hb1 hb2 O6 TV u1 q0 q1 q2 q3 q4 q5 q6 q7 q8 q9
    replace bA := bA.below hb (Nat.le_refl _)
    replace bB := bB.below hb (Nat.le_refl _)
    replace bw := bw.below hb (Nat.le_refl _)
    replace bx := bx.below hb (Nat.le_refl _)
    replace by_ := by_.below hb (Nat.le_refl _)
    replace bg := bg.below hb (Nat.le_refl _)
    replace iw := iw.below hb (Nat.le_refl _)
    replace ix := ix.below hb (Nat.le_refl _)
    replace iy := iy.below hb (Nat.le_refl _)
    replace ig := ig.below hb (Nat.le_refl _)
    replace hB := hB.trans (hb.mono (by omega))
    have s12 : w11.heap.size ≤ wb.heap.size := hb.size
    clear hb zb zs E1 E2
    generalize wb = w12 at *
    have bA_0 : w12.cell? ⟨W.heap.size, 0, none⟩ = some (.int .i64 z0) := bA.cell 0
    have bA_1 : w12.cell? ⟨W.heap.size, 1, none⟩ = some (.int .i64 z1) := bA.cell 1
    have bA_2 : w12.cell? ⟨W.heap.size, 2, none⟩ = some (.string z2) := bA.cell 2
    have bA_3 : w12.cell? ⟨W.heap.size, 3, none⟩ = some (.int .i64 z3) := bA.cell 3
    have bA_4 : w12.cell? ⟨W.heap.size, 4, none⟩ = some (.slice A4 z4.length c4) := bA.cell 4
    have bA_l := bA.lt
    have bB_0 : w12.cell? ⟨W.heap.size + 1, 0, none⟩ = some (.int .i64 t0) := bB.cell 0
    have bB_1 : w12.cell? ⟨W.heap.size + 1, 1, none⟩ = some (.int .i64 t1) := bB.cell 1
    have bB_2 : w12.cell? ⟨W.heap.size + 1, 2, none⟩ = some (.string t2) := bB.cell 2
    have bB_3 : w12.cell? ⟨W.heap.size + 1, 3, none⟩ = some (.int .i64 t3) := bB.cell 3
    have bB_4 : w12.cell? ⟨W.heap.size + 1, 4, none⟩ = some (.slice E4 t4.length e4) := bB.cell 4
    have bB_l := bB.lt
    have bw_0 : w12.cell? ⟨gbw, 0, none⟩ = some (.int .i64 y0) := bw.cell 0
    have bw_1 : w12.cell? ⟨gbw, 1, none⟩ = some (.int .i64 y1) := bw.cell 1
    have bw_2 : w12.cell? ⟨gbw, 2, none⟩ = some (.string y2) := bw.cell 2
    have bw_3 : w12.cell? ⟨gbw, 3, none⟩ = some (.int .i64 y3) := bw.cell 3
    have bw_4 : w12.cell? ⟨gbw, 4, none⟩ = some (.slice Gw y4.length gw_) := bw.cell 4
    have bw_l := bw.lt
    have bx_0 : w12.cell? ⟨w4.heap.size, 0, none⟩ = some (.int .i64 z0) := bx.cell 0
    have bx_1 : w12.cell? ⟨w4.heap.size, 1, none⟩ = some (.int .i64 z1) := bx.cell 1
    have bx_2 : w12.cell? ⟨w4.heap.size, 2, none⟩ = some (.string z2) := bx.cell 2
    have bx_3 : w12.cell? ⟨w4.heap.size, 3, none⟩ = some (.int .i64 z3) := bx.cell 3
    have bx_4 : w12.cell? ⟨w4.heap.size, 4, none⟩ = some (.slice Xx z4.length xx) := bx.cell 4
    have bx_l := bx.lt
    have by__0 : w12.cell? ⟨w6.heap.size, 0, none⟩ = some (.int .i64 t0) := by_.cell 0
    have by__1 : w12.cell? ⟨w6.heap.size, 1, none⟩ = some (.int .i64 t1) := by_.cell 1
    have by__2 : w12.cell? ⟨w6.heap.size, 2, none⟩ = some (.string t2) := by_.cell 2
    have by__3 : w12.cell? ⟨w6.heap.size, 3, none⟩ = some (.int .i64 t3) := by_.cell 3
    have by__4 : w12.cell? ⟨w6.heap.size, 4, none⟩ = some (.slice Xy t4.length xy) := by_.cell 4
    have by__l := by_.lt
    have bg_0 : w12.cell? ⟨w8.heap.size, 0, none⟩ = some (.int .i64 y0) := bg.cell 0
    have bg_1 : w12.cell? ⟨w8.heap.size, 1, none⟩ = some (.int .i64 y1) := bg.cell 1
    have bg_2 : w12.cell? ⟨w8.heap.size, 2, none⟩ = some (.string y2) := bg.cell 2
    have bg_3 : w12.cell? ⟨w8.heap.size, 3, none⟩ = some (.int .i64 y3) := bg.cell 3
    have bg_4 : w12.cell? ⟨w8.heap.size, 4, none⟩ = some (.slice Gg y4.length gg) := bg.cell 4
    have bg_l := bg.lt
    go_wp2_with fail
    clear bA_0 bA_1 bA_2 bA_3 bA_4 bA_l
    clear bB_0 bB_1 bB_2 bB_3 bB_4 bB_l
    clear bw_0 bw_1 bw_2 bw_3 bw_4 bw_l
    clear bx_0 bx_1 bx_2 bx_3 bx_4 bx_l
    clear by__0 by__1 by__2 by__3 by__4 by__l
    clear bg_0 bg_1 bg_2 bg_3 bg_4 bg_l
    have hcall := markValue_I ⟨z0, z1, z2, z3, z4⟩ [.int .i64 z0, .int .i64 z1, .string z2, .int .i64 z3, .slice Xx z4.length xx] 1 _ _ w12 (by omega) (by rw [← HKkx.out]; omega) (by rw [FValue.c_eq]; exact ix)
    rw [← HSkx.out] at hcall
    refine hcall.mono ?_
    clear hcall
    rintro e w13 ⟨rfl, im, hb⟩
    replace bA := bA.only hb (Nat.le_refl _) (by omega)
    replace bB := bB.only hb (Nat.le_refl _) (by omega)
    replace bw := bw.only hb (Nat.le_refl _) (by omega)
    replace bx := bx.only hb (Nat.le_refl _) (by omega)
    replace by_ := by_.only hb (Nat.le_refl _) (by omega)
    replace bg := bg.only hb (Nat.le_refl _) (by omega)
    replace iw := iw.only hb (Nat.le_refl _) (by omega)
    replace iy := iy.only hb (Nat.le_refl _) (by omega)
    replace ig := ig.only hb (Nat.le_refl _) (by omega)
    replace hB := hB.trans (hb.below (by omega) (by omega))
    have s13 : w12.heap.size ≤ w13.heap.size := hb.size
    clear hb
    clear ix
    have ix := im
    clear im
    have bA_0 : w13.cell? ⟨W.heap.size, 0, none⟩ = some (.int .i64 z0) := bA.cell 0
    have bA_1 : w13.cell? ⟨W.heap.size, 1, none⟩ = some (.int .i64 z1) := bA.cell 1
    have bA_2 : w13.cell? ⟨W.heap.size, 2, none⟩ = some (.string z2) := bA.cell 2
    have bA_3 : w13.cell? ⟨W.heap.size, 3, none⟩ = some (.int .i64 z3) := bA.cell 3
    have bA_4 : w13.cell? ⟨W.heap.size, 4, none⟩ = some (.slice A4 z4.length c4) := bA.cell 4
    have bA_l := bA.lt
    have bB_0 : w13.cell? ⟨W.heap.size + 1, 0, none⟩ = some (.int .i64 t0) := bB.cell 0
    have bB_1 : w13.cell? ⟨W.heap.size + 1, 1, none⟩ = some (.int .i64 t1) := bB.cell 1
    have bB_2 : w13.cell? ⟨W.heap.size + 1, 2, none⟩ = some (.string t2) := bB.cell 2
    have bB_3 : w13.cell? ⟨W.heap.size + 1, 3, none⟩ = some (.int .i64 t3) := bB.cell 3
    have bB_4 : w13.cell? ⟨W.heap.size + 1, 4, none⟩ = some (.slice E4 t4.length e4) := bB.cell 4
    have bB_l := bB.lt
    have bw_0 : w13.cell? ⟨gbw, 0, none⟩ = some (.int .i64 y0) := bw.cell 0
    have bw_1 : w13.cell? ⟨gbw, 1, none⟩ = some (.int .i64 y1) := bw.cell 1
    have bw_2 : w13.cell? ⟨gbw, 2, none⟩ = some (.string y2) := bw.cell 2
    have bw_3 : w13.cell? ⟨gbw, 3, none⟩ = some (.int .i64 y3) := bw.cell 3
    have bw_4 : w13.cell? ⟨gbw, 4, none⟩ = some (.slice Gw y4.length gw_) := bw.cell 4
    have bw_l := bw.lt
    have bx_0 : w13.cell? ⟨w4.heap.size, 0, none⟩ = some (.int .i64 z0) := bx.cell 0
    have bx_1 : w13.cell? ⟨w4.heap.size, 1, none⟩ = some (.int .i64 z1) := bx.cell 1
    have bx_2 : w13.cell? ⟨w4.heap.size, 2, none⟩ = some (.string z2) := bx.cell 2
    have bx_3 : w13.cell? ⟨w4.heap.size, 3, none⟩ = some (.int .i64 z3) := bx.cell 3
    have bx_4 : w13.cell? ⟨w4.heap.size, 4, none⟩ = some (.slice Xx z4.length xx) := bx.cell 4
    have bx_l := bx.lt
    have by__0 : w13.cell? ⟨w6.heap.size, 0, none⟩ = some (.int .i64 t0) := by_.cell 0
    have by__1 : w13.cell? ⟨w6.heap.size, 1, none⟩ = some (.int .i64 t1) := by_.cell 1
    have by__2 : w13.cell? ⟨w6.heap.size, 2, none⟩ = some (.string t2) := by_.cell 2
    have by__3 : w13.cell? ⟨w6.heap.size, 3, none⟩ = some (.int .i64 t3) := by_.cell 3
    have by__4 : w13.cell? ⟨w6.heap.size, 4, none⟩ = some (.slice Xy t4.length xy) := by_.cell 4
    have by__l := by_.lt
    have bg_0 : w13.cell? ⟨w8.heap.size, 0, none⟩ = some (.int .i64 y0) := bg.cell 0
    have bg_1 : w13.cell? ⟨w8.heap.size, 1, none⟩ = some (.int .i64 y1) := bg.cell 1
    have bg_2 : w13.cell? ⟨w8.heap.size, 2, none⟩ = some (.string y2) := bg.cell 2
    have bg_3 : w13.cell? ⟨w8.heap.size, 3, none⟩ = some (.int .i64 y3) := bg.cell 3
    have bg_4 : w13.cell? ⟨w8.heap.size, 4, none⟩ = some (.slice Gg y4.length gg) := bg.cell 4
    have bg_l := bg.lt
    go_wp2_with fail
    clear bA_0 bA_1 bA_2 bA_3 bA_4 bA_l
    clear bB_0 bB_1 bB_2 bB_3 bB_4 bB_l
    clear bw_0 bw_1 bw_2 bw_3 bw_4 bw_l
    clear bx_0 bx_1 bx_2 bx_3 bx_4 bx_l
    clear by__0 by__1 by__2 by__3 by__4 by__l
    clear bg_0 bg_1 bg_2 bg_3 bg_4 bg_l
    have hcall := markValue_I ⟨t0, t1, t2, t3, t4⟩ [.int .i64 t0, .int .i64 t1, .string t2, .int .i64 t3, .slice Xy t4.length xy] kx _ _ w13 (by omega) (by rw [← HKky.out]; omega) (by rw [FValue.c_eq]; exact iy)
    rw [← HSky.out] at hcall
    refine hcall.mono ?_
    clear hcall
    rintro e w14 ⟨rfl, im, hb⟩
    replace bA := bA.only hb (Nat.le_refl _) (by omega)
    replace bB := bB.only hb (Nat.le_refl _) (by omega)
    replace bw := bw.only hb (Nat.le_refl _) (by omega)
    replace bx := bx.only hb (Nat.le_refl _) (by omega)
    replace by_ := by_.only hb (Nat.le_refl _) (by omega)
    replace bg := bg.only hb (Nat.le_refl _) (by omega)
    replace iw := iw.only hb (Nat.le_refl _) (by omega)
    replace ix := ix.only hb (Nat.le_refl _) (by omega)
    replace ig := ig.only hb (Nat.le_refl _) (by omega)
    replace hB := hB.trans (hb.below (by omega) (by omega))
    have s14 : w13.heap.size ≤ w14.heap.size := hb.size
    clear hb
    clear iy
    have iy := im
    clear im
    have bA_0 : w14.cell? ⟨W.heap.size, 0, none⟩ = some (.int .i64 z0) := bA.cell 0
    have bA_1 : w14.cell? ⟨W.heap.size, 1, none⟩ = some (.int .i64 z1) := bA.cell 1
    have bA_2 : w14.cell? ⟨W.heap.size, 2, none⟩ = some (.string z2) := bA.cell 2
    have bA_3 : w14.cell? ⟨W.heap.size, 3, none⟩ = some (.int .i64 z3) := bA.cell 3
    have bA_4 : w14.cell? ⟨W.heap.size, 4, none⟩ = some (.slice A4 z4.length c4) := bA.cell 4
    have bA_l := bA.lt
    have bB_0 : w14.cell? ⟨W.heap.size + 1, 0, none⟩ = some (.int .i64 t0) := bB.cell 0
    have bB_1 : w14.cell? ⟨W.heap.size + 1, 1, none⟩ = some (.int .i64 t1) := bB.cell 1
    have bB_2 : w14.cell? ⟨W.heap.size + 1, 2, none⟩ = some (.string t2) := bB.cell 2
    have bB_3 : w14.cell? ⟨W.heap.size + 1, 3, none⟩ = some (.int .i64 t3) := bB.cell 3
    have bB_4 : w14.cell? ⟨W.heap.size + 1, 4, none⟩ = some (.slice E4 t4.length e4) := bB.cell 4
    have bB_l := bB.lt
    have bw_0 : w14.cell? ⟨gbw, 0, none⟩ = some (.int .i64 y0) := bw.cell 0
    have bw_1 : w14.cell? ⟨gbw, 1, none⟩ = some (.int .i64 y1) := bw.cell 1
    have bw_2 : w14.cell? ⟨gbw, 2, none⟩ = some (.string y2) := bw.cell 2
    have bw_3 : w14.cell? ⟨gbw, 3, none⟩ = some (.int .i64 y3) := bw.cell 3
    have bw_4 : w14.cell? ⟨gbw, 4, none⟩ = some (.slice Gw y4.length gw_) := bw.cell 4
    have bw_l := bw.lt
    have bx_0 : w14.cell? ⟨w4.heap.size, 0, none⟩ = some (.int .i64 z0) := bx.cell 0
    have bx_1 : w14.cell? ⟨w4.heap.size, 1, none⟩ = some (.int .i64 z1) := bx.cell 1
    have bx_2 : w14.cell? ⟨w4.heap.size, 2, none⟩ = some (.string z2) := bx.cell 2
    have bx_3 : w14.cell? ⟨w4.heap.size, 3, none⟩ = some (.int .i64 z3) := bx.cell 3
    have bx_4 : w14.cell? ⟨w4.heap.size, 4, none⟩ = some (.slice Xx z4.length xx) := bx.cell 4
    have bx_l := bx.lt
    have by__0 : w14.cell? ⟨w6.heap.size, 0, none⟩ = some (.int .i64 t0) := by_.cell 0
    have by__1 : w14.cell? ⟨w6.heap.size, 1, none⟩ = some (.int .i64 t1) := by_.cell 1
    have by__2 : w14.cell? ⟨w6.heap.size, 2, none⟩ = some (.string t2) := by_.cell 2
    have by__3 : w14.cell? ⟨w6.heap.size, 3, none⟩ = some (.int .i64 t3) := by_.cell 3
    have by__4 : w14.cell? ⟨w6.heap.size, 4, none⟩ = some (.slice Xy t4.length xy) := by_.cell 4
    have by__l := by_.lt
    have bg_0 : w14.cell? ⟨w8.heap.size, 0, none⟩ = some (.int .i64 y0) := bg.cell 0
    have bg_1 : w14.cell? ⟨w8.heap.size, 1, none⟩ = some (.int .i64 y1) := bg.cell 1
    have bg_2 : w14.cell? ⟨w8.heap.size, 2, none⟩ = some (.string y2) := bg.cell 2
    have bg_3 : w14.cell? ⟨w8.heap.size, 3, none⟩ = some (.int .i64 y3) := bg.cell 3
    have bg_4 : w14.cell? ⟨w8.heap.size, 4, none⟩ = some (.slice Gg y4.length gg) := bg.cell 4
    have bg_l := bg.lt
    go_wp2_with fail
    clear bA_0 bA_1 bA_2 bA_3 bA_4 bA_l
    clear bB_0 bB_1 bB_2 bB_3 bB_4 bB_l
    clear bw_0 bw_1 bw_2 bw_3 bw_4 bw_l
    clear bx_0 bx_1 bx_2 bx_3 bx_4 bx_l
    clear by__0 by__1 by__2 by__3 by__4 by__l
    clear bg_0 bg_1 bg_2 bg_3 bg_4 bg_l
    refine (eqValue_any ⟨y0, y1, y2, y3, y4⟩ HWQ.out [.int .i64 y0, .int .i64 y1, .string y2, .int .i64 y3, .slice Gg y4.length gg] [.int .i64 y0, .int .i64 y1, .string y2, .int .i64 y3, .slice Gw y4.length gw_] _ (by rw [FValue.c_eq]; exact ig.vs) (by rw [FValue.c_eq]; exact iw.vs)).mono ?_
    rintro e w15 ⟨rfl, hb⟩
    replace bA := bA.below hb (Nat.le_refl _)
    replace bB := bB.below hb (Nat.le_refl _)
    replace bw := bw.below hb (Nat.le_refl _)
    replace bx := bx.below hb (Nat.le_refl _)
    replace by_ := by_.below hb (Nat.le_refl _)
    replace bg := bg.below hb (Nat.le_refl _)
    replace iw := iw.below hb (Nat.le_refl _)
    replace ix := ix.below hb (Nat.le_refl _)
    replace iy := iy.below hb (Nat.le_refl _)
    replace ig := ig.below hb (Nat.le_refl _)
    replace hB := hB.trans (hb.mono (by omega))
    have s15 : w14.heap.size ≤ w15.heap.size := hb.size
    clear hb
    have bA_0 : w15.cell? ⟨W.heap.size, 0, none⟩ = some (.int .i64 z0) := bA.cell 0
    have bA_1 : w15.cell? ⟨W.heap.size, 1, none⟩ = some (.int .i64 z1) := bA.cell 1
    have bA_2 : w15.cell? ⟨W.heap.size, 2, none⟩ = some (.string z2) := bA.cell 2
    have bA_3 : w15.cell? ⟨W.heap.size, 3, none⟩ = some (.int .i64 z3) := bA.cell 3
    have bA_4 : w15.cell? ⟨W.heap.size, 4, none⟩ = some (.slice A4 z4.length c4) := bA.cell 4
    have bA_l := bA.lt
    have bB_0 : w15.cell? ⟨W.heap.size + 1, 0, none⟩ = some (.int .i64 t0) := bB.cell 0
    have bB_1 : w15.cell? ⟨W.heap.size + 1, 1, none⟩ = some (.int .i64 t1) := bB.cell 1
    have bB_2 : w15.cell? ⟨W.heap.size + 1, 2, none⟩ = some (.string t2) := bB.cell 2
    have bB_3 : w15.cell? ⟨W.heap.size + 1, 3, none⟩ = some (.int .i64 t3) := bB.cell 3
    have bB_4 : w15.cell? ⟨W.heap.size + 1, 4, none⟩ = some (.slice E4 t4.length e4) := bB.cell 4
    have bB_l := bB.lt
    have bw_0 : w15.cell? ⟨gbw, 0, none⟩ = some (.int .i64 y0) := bw.cell 0
    have bw_1 : w15.cell? ⟨gbw, 1, none⟩ = some (.int .i64 y1) := bw.cell 1
    have bw_2 : w15.cell? ⟨gbw, 2, none⟩ = some (.string y2) := bw.cell 2
    have bw_3 : w15.cell? ⟨gbw, 3, none⟩ = some (.int .i64 y3) := bw.cell 3
    have bw_4 : w15.cell? ⟨gbw, 4, none⟩ = some (.slice Gw y4.length gw_) := bw.cell 4
    have bw_l := bw.lt
    have bx_0 : w15.cell? ⟨w4.heap.size, 0, none⟩ = some (.int .i64 z0) := bx.cell 0
    have bx_1 : w15.cell? ⟨w4.heap.size, 1, none⟩ = some (.int .i64 z1) := bx.cell 1
    have bx_2 : w15.cell? ⟨w4.heap.size, 2, none⟩ = some (.string z2) := bx.cell 2
    have bx_3 : w15.cell? ⟨w4.heap.size, 3, none⟩ = some (.int .i64 z3) := bx.cell 3
    have bx_4 : w15.cell? ⟨w4.heap.size, 4, none⟩ = some (.slice Xx z4.length xx) := bx.cell 4
    have bx_l := bx.lt
    have by__0 : w15.cell? ⟨w6.heap.size, 0, none⟩ = some (.int .i64 t0) := by_.cell 0
    have by__1 : w15.cell? ⟨w6.heap.size, 1, none⟩ = some (.int .i64 t1) := by_.cell 1
    have by__2 : w15.cell? ⟨w6.heap.size, 2, none⟩ = some (.string t2) := by_.cell 2
    have by__3 : w15.cell? ⟨w6.heap.size, 3, none⟩ = some (.int .i64 t3) := by_.cell 3
    have by__4 : w15.cell? ⟨w6.heap.size, 4, none⟩ = some (.slice Xy t4.length xy) := by_.cell 4
    have by__l := by_.lt
    have bg_0 : w15.cell? ⟨w8.heap.size, 0, none⟩ = some (.int .i64 y0) := bg.cell 0
    have bg_1 : w15.cell? ⟨w8.heap.size, 1, none⟩ = some (.int .i64 y1) := bg.cell 1
    have bg_2 : w15.cell? ⟨w8.heap.size, 2, none⟩ = some (.string y2) := bg.cell 2
    have bg_3 : w15.cell? ⟨w8.heap.size, 3, none⟩ = some (.int .i64 y3) := bg.cell 3
    have bg_4 : w15.cell? ⟨w8.heap.size, 4, none⟩ = some (.slice Gg y4.length gg) := bg.cell 4
    have bg_l := bg.lt
    go_wp2_with fail
    clear bA_0 bA_1 bA_2 bA_3 bA_4 bA_l
    clear bB_0 bB_1 bB_2 bB_3 bB_4 bB_l
    clear bw_0 bw_1 bw_2 bw_3 bw_4 bw_l
    clear bx_0 bx_1 bx_2 bx_3 bx_4 bx_l
    clear by__0 by__1 by__2 by__3 by__4 by__l
    clear bg_0 bg_1 bg_2 bg_3 bg_4 bg_l
    have hcall := markValue_I ⟨y0, y1, y2, y3, y4⟩ [.int .i64 y0, .int .i64 y1, .string y2, .int .i64 y3, .slice Gg y4.length gg] 1 _ _ w15 (by omega) (by rw [← HKm0.out]; omega) (by rw [FValue.c_eq]; exact ig)
    rw [← HSm0.out] at hcall
    refine hcall.mono ?_
    clear hcall
    rintro e w16 ⟨rfl, im, hb⟩
    replace bA := bA.only hb (Nat.le_refl _) (by omega)
    replace bB := bB.only hb (Nat.le_refl _) (by omega)
    replace bw := bw.only hb (Nat.le_refl _) (by omega)
    replace bx := bx.only hb (Nat.le_refl _) (by omega)
    replace by_ := by_.only hb (Nat.le_refl _) (by omega)
    replace bg := bg.only hb (Nat.le_refl _) (by omega)
    replace iw := iw.only hb (Nat.le_refl _) (by omega)
    replace ix := ix.only hb (Nat.le_refl _) (by omega)
    replace iy := iy.only hb (Nat.le_refl _) (by omega)
    replace hB := hB.trans (hb.below (by omega) (by omega))
    have s16 : w15.heap.size ≤ w16.heap.size := hb.size
    clear hb
    clear ig
    have ig := im
    clear im
    have bA_0 : w16.cell? ⟨W.heap.size, 0, none⟩ = some (.int .i64 z0) := bA.cell 0
    have bA_1 : w16.cell? ⟨W.heap.size, 1, none⟩ = some (.int .i64 z1) := bA.cell 1
    have bA_2 : w16.cell? ⟨W.heap.size, 2, none⟩ = some (.string z2) := bA.cell 2
    have bA_3 : w16.cell? ⟨W.heap.size, 3, none⟩ = some (.int .i64 z3) := bA.cell 3
    have bA_4 : w16.cell? ⟨W.heap.size, 4, none⟩ = some (.slice A4 z4.length c4) := bA.cell 4
    have bA_l := bA.lt
    have bB_0 : w16.cell? ⟨W.heap.size + 1, 0, none⟩ = some (.int .i64 t0) := bB.cell 0
    have bB_1 : w16.cell? ⟨W.heap.size + 1, 1, none⟩ = some (.int .i64 t1) := bB.cell 1
    have bB_2 : w16.cell? ⟨W.heap.size + 1, 2, none⟩ = some (.string t2) := bB.cell 2
    have bB_3 : w16.cell? ⟨W.heap.size + 1, 3, none⟩ = some (.int .i64 t3) := bB.cell 3
    have bB_4 : w16.cell? ⟨W.heap.size + 1, 4, none⟩ = some (.slice E4 t4.length e4) := bB.cell 4
    have bB_l := bB.lt
    have bw_0 : w16.cell? ⟨gbw, 0, none⟩ = some (.int .i64 y0) := bw.cell 0
    have bw_1 : w16.cell? ⟨gbw, 1, none⟩ = some (.int .i64 y1) := bw.cell 1
    have bw_2 : w16.cell? ⟨gbw, 2, none⟩ = some (.string y2) := bw.cell 2
    have bw_3 : w16.cell? ⟨gbw, 3, none⟩ = some (.int .i64 y3) := bw.cell 3
    have bw_4 : w16.cell? ⟨gbw, 4, none⟩ = some (.slice Gw y4.length gw_) := bw.cell 4
    have bw_l := bw.lt
    have bx_0 : w16.cell? ⟨w4.heap.size, 0, none⟩ = some (.int .i64 z0) := bx.cell 0
    have bx_1 : w16.cell? ⟨w4.heap.size, 1, none⟩ = some (.int .i64 z1) := bx.cell 1
    have bx_2 : w16.cell? ⟨w4.heap.size, 2, none⟩ = some (.string z2) := bx.cell 2
    have bx_3 : w16.cell? ⟨w4.heap.size, 3, none⟩ = some (.int .i64 z3) := bx.cell 3
    have bx_4 : w16.cell? ⟨w4.heap.size, 4, none⟩ = some (.slice Xx z4.length xx) := bx.cell 4
    have bx_l := bx.lt
    have by__0 : w16.cell? ⟨w6.heap.size, 0, none⟩ = some (.int .i64 t0) := by_.cell 0
    have by__1 : w16.cell? ⟨w6.heap.size, 1, none⟩ = some (.int .i64 t1) := by_.cell 1
    have by__2 : w16.cell? ⟨w6.heap.size, 2, none⟩ = some (.string t2) := by_.cell 2
    have by__3 : w16.cell? ⟨w6.heap.size, 3, none⟩ = some (.int .i64 t3) := by_.cell 3
    have by__4 : w16.cell? ⟨w6.heap.size, 4, none⟩ = some (.slice Xy t4.length xy) := by_.cell 4
    have by__l := by_.lt
    have bg_0 : w16.cell? ⟨w8.heap.size, 0, none⟩ = some (.int .i64 y0) := bg.cell 0
    have bg_1 : w16.cell? ⟨w8.heap.size, 1, none⟩ = some (.int .i64 y1) := bg.cell 1
    have bg_2 : w16.cell? ⟨w8.heap.size, 2, none⟩ = some (.string y2) := bg.cell 2
    have bg_3 : w16.cell? ⟨w8.heap.size, 3, none⟩ = some (.int .i64 y3) := bg.cell 3
    have bg_4 : w16.cell? ⟨w8.heap.size, 4, none⟩ = some (.slice Gg y4.length gg) := bg.cell 4
    have bg_l := bg.lt
    go_wp2_with fail
    clear bA_0 bA_1 bA_2 bA_3 bA_4 bA_l
    clear bB_0 bB_1 bB_2 bB_3 bB_4 bB_l
    clear bw_0 bw_1 bw_2 bw_3 bw_4 bw_l
    clear bx_0 bx_1 bx_2 bx_3 bx_4 bx_l
    clear by__0 by__1 by__2 by__3 by__4 by__l
    clear bg_0 bg_1 bg_2 bg_3 bg_4 bg_l
    have hcall := heldValue_any ⟨y0, y1, y2, y3, y4⟩ [.int .i64 y0, .int .i64 y1, .string y2, .int .i64 y3, .slice Gg y4.length gg] 1 w16 (by omega) (by rw [← HKm0.out]; omega) ig.vs
    rw [← HSm0.out] at hcall
    refine hcall.mono ?_
    clear hcall
    rintro e w17 ⟨rfl, hb⟩
    replace bA := bA.below hb (Nat.le_refl _)
    replace bB := bB.below hb (Nat.le_refl _)
    replace bw := bw.below hb (Nat.le_refl _)
    replace bx := bx.below hb (Nat.le_refl _)
    replace by_ := by_.below hb (Nat.le_refl _)
    replace bg := bg.below hb (Nat.le_refl _)
    replace iw := iw.below hb (Nat.le_refl _)
    replace ix := ix.below hb (Nat.le_refl _)
    replace iy := iy.below hb (Nat.le_refl _)
    replace ig := ig.below hb (Nat.le_refl _)
    replace hB := hB.trans (hb.mono (by omega))
    have s17 : w16.heap.size ≤ w17.heap.size := hb.size
    clear hb
    have bA_0 : w17.cell? ⟨W.heap.size, 0, none⟩ = some (.int .i64 z0) := bA.cell 0
    have bA_1 : w17.cell? ⟨W.heap.size, 1, none⟩ = some (.int .i64 z1) := bA.cell 1
    have bA_2 : w17.cell? ⟨W.heap.size, 2, none⟩ = some (.string z2) := bA.cell 2
    have bA_3 : w17.cell? ⟨W.heap.size, 3, none⟩ = some (.int .i64 z3) := bA.cell 3
    have bA_4 : w17.cell? ⟨W.heap.size, 4, none⟩ = some (.slice A4 z4.length c4) := bA.cell 4
    have bA_l := bA.lt
    have bB_0 : w17.cell? ⟨W.heap.size + 1, 0, none⟩ = some (.int .i64 t0) := bB.cell 0
    have bB_1 : w17.cell? ⟨W.heap.size + 1, 1, none⟩ = some (.int .i64 t1) := bB.cell 1
    have bB_2 : w17.cell? ⟨W.heap.size + 1, 2, none⟩ = some (.string t2) := bB.cell 2
    have bB_3 : w17.cell? ⟨W.heap.size + 1, 3, none⟩ = some (.int .i64 t3) := bB.cell 3
    have bB_4 : w17.cell? ⟨W.heap.size + 1, 4, none⟩ = some (.slice E4 t4.length e4) := bB.cell 4
    have bB_l := bB.lt
    have bw_0 : w17.cell? ⟨gbw, 0, none⟩ = some (.int .i64 y0) := bw.cell 0
    have bw_1 : w17.cell? ⟨gbw, 1, none⟩ = some (.int .i64 y1) := bw.cell 1
    have bw_2 : w17.cell? ⟨gbw, 2, none⟩ = some (.string y2) := bw.cell 2
    have bw_3 : w17.cell? ⟨gbw, 3, none⟩ = some (.int .i64 y3) := bw.cell 3
    have bw_4 : w17.cell? ⟨gbw, 4, none⟩ = some (.slice Gw y4.length gw_) := bw.cell 4
    have bw_l := bw.lt
    have bx_0 : w17.cell? ⟨w4.heap.size, 0, none⟩ = some (.int .i64 z0) := bx.cell 0
    have bx_1 : w17.cell? ⟨w4.heap.size, 1, none⟩ = some (.int .i64 z1) := bx.cell 1
    have bx_2 : w17.cell? ⟨w4.heap.size, 2, none⟩ = some (.string z2) := bx.cell 2
    have bx_3 : w17.cell? ⟨w4.heap.size, 3, none⟩ = some (.int .i64 z3) := bx.cell 3
    have bx_4 : w17.cell? ⟨w4.heap.size, 4, none⟩ = some (.slice Xx z4.length xx) := bx.cell 4
    have bx_l := bx.lt
    have by__0 : w17.cell? ⟨w6.heap.size, 0, none⟩ = some (.int .i64 t0) := by_.cell 0
    have by__1 : w17.cell? ⟨w6.heap.size, 1, none⟩ = some (.int .i64 t1) := by_.cell 1
    have by__2 : w17.cell? ⟨w6.heap.size, 2, none⟩ = some (.string t2) := by_.cell 2
    have by__3 : w17.cell? ⟨w6.heap.size, 3, none⟩ = some (.int .i64 t3) := by_.cell 3
    have by__4 : w17.cell? ⟨w6.heap.size, 4, none⟩ = some (.slice Xy t4.length xy) := by_.cell 4
    have by__l := by_.lt
    have bg_0 : w17.cell? ⟨w8.heap.size, 0, none⟩ = some (.int .i64 y0) := bg.cell 0
    have bg_1 : w17.cell? ⟨w8.heap.size, 1, none⟩ = some (.int .i64 y1) := bg.cell 1
    have bg_2 : w17.cell? ⟨w8.heap.size, 2, none⟩ = some (.string y2) := bg.cell 2
    have bg_3 : w17.cell? ⟨w8.heap.size, 3, none⟩ = some (.int .i64 y3) := bg.cell 3
    have bg_4 : w17.cell? ⟨w8.heap.size, 4, none⟩ = some (.slice Gg y4.length gg) := bg.cell 4
    have bg_l := bg.lt
    go_wp2_with fail
    clear bA_0 bA_1 bA_2 bA_3 bA_4 bA_l
    clear bB_0 bB_1 bB_2 bB_3 bB_4 bB_l
    clear bw_0 bw_1 bw_2 bw_3 bw_4 bw_l
    clear bx_0 bx_1 bx_2 bx_3 bx_4 bx_l
    clear by__0 by__1 by__2 by__3 by__4 by__l
    clear bg_0 bg_1 bg_2 bg_3 bg_4 bg_l
    have HBX := Lib.hid (fun Y (h : Below w17.heap.size w17 Y) => hB.trans (h.mono hB.size))
    go_upto_region 31 with fail
    go_cut [15, 16] from 94 to 101 (fun s1 s2 wx => ∃ g Gh gh, s1 = .pointer (some ⟨g, 0, none⟩) ∧ s2 = .int .i64 cc ∧ w17.heap.size ≤ g ∧ Blk wx g 28 #[.int .i64 y0, .int .i64 y1, .string y2, .int .i64 y3, .slice Gh y4.length gh] ∧ OwnI wx w17.heap.size wx.heap.size [.v (.int .i64 y0), .v (.int .i64 y1), .v (.string y2), .v (.int .i64 y3), .s 73 8 y4.length (FEntry.flat y4)] [.int .i64 y0, .int .i64 y1, .string y2, .int .i64 y3, .slice Gh y4.length gh] ∧ Below w17.heap.size w17 wx)
    case first =>
      have BA := Lib.hid bA
      have BB := Lib.hid bB
      refine lateStart (S := (fun w_ => Below w17.heap.size w17 w_)) [9, 10] (by kernel_rfl) ?_ (fun hHeld => ?_)
      · (try dsimp only)
        (exact (Below.refl _ _).drew)
      refine lateTake (i := 0) (v := ?_) rfl (by kernel_rfl) (by decide) (by kernel_rfl) (by kernel_rfl) (by kernel_rfl) (by kernel_rfl) (fun _ _ _ h => h) (by rfl) ?_ hHeld ?_
      rotate_left
      · intro w_ hSw
        (try dsimp only at hSw)
        have q0 : w_.cell? ⟨W.heap.size, 0, none⟩ = some (.int .i64 z0) := (BA.out.below hSw (Nat.le_refl _)).cell 0; have q1 : w_.cell? ⟨W.heap.size, 1, none⟩ = some (.int .i64 z1) := (BA.out.below hSw (Nat.le_refl _)).cell 1; have q2 : w_.cell? ⟨W.heap.size, 2, none⟩ = some (.string z2) := (BA.out.below hSw (Nat.le_refl _)).cell 2; have q3 : w_.cell? ⟨W.heap.size, 3, none⟩ = some (.int .i64 z3) := (BA.out.below hSw (Nat.le_refl _)).cell 3; have q4 : w_.cell? ⟨W.heap.size, 4, none⟩ = some (.slice A4 z4.length c4) := (BA.out.below hSw (Nat.le_refl _)).cell 4
        go_simp
        (try with_reducible rfl)
      try simp only [Act.put, List.setIfInBounds_toArray, List.set_cons_zero, List.set_cons_succ]
      refine lateTake (i := 2) (v := ?_) rfl (by kernel_rfl) (by decide) (by kernel_rfl) (by kernel_rfl) (by kernel_rfl) (by kernel_rfl) (fun _ _ _ h => h) (by rfl) ?_ hHeld ?_
      rotate_left
      · intro w_ hSw
        (try dsimp only at hSw)
        have q0 : w_.cell? ⟨W.heap.size + 1, 0, none⟩ = some (.int .i64 t0) := (BB.out.below hSw (Nat.le_refl _)).cell 0; have q1 : w_.cell? ⟨W.heap.size + 1, 1, none⟩ = some (.int .i64 t1) := (BB.out.below hSw (Nat.le_refl _)).cell 1; have q2 : w_.cell? ⟨W.heap.size + 1, 2, none⟩ = some (.string t2) := (BB.out.below hSw (Nat.le_refl _)).cell 2; have q3 : w_.cell? ⟨W.heap.size + 1, 3, none⟩ = some (.int .i64 t3) := (BB.out.below hSw (Nat.le_refl _)).cell 3; have q4 : w_.cell? ⟨W.heap.size + 1, 4, none⟩ = some (.slice E4 t4.length e4) := (BB.out.below hSw (Nat.le_refl _)).cell 4
        go_simp
        (try with_reducible rfl)
      try simp only [Act.put, List.setIfInBounds_toArray, List.set_cons_zero, List.set_cons_succ]
      refine lateTwo (i := 1) (j := 8) (by kernel_rfl) ?_ ?_
      · skip
        refine lateOp (i := 1) rfl (by rfl) (fun K hK => ?_)
        go_simp
        (go_at_call 7; refine (toValue_any ⟨z0, z1, z2, z3, z4⟩ hw1 [.int .i64 z0, .int .i64 z1, .string z2, .int .i64 z3, .slice A4 z4.length c4] _ W.heap.size (HBX.out _ hHeld).size (RV.out.on (HBX.out _ hHeld) (Nat.le_refl _) (Nat.le_refl _))).mono ?_; rw [FValue.c_eq]; rintro e wa ⟨us, rfl, own, hb⟩; have hv := own.vs; obtain ⟨us_0, rfl, hv_0⟩ := hv.unv; obtain ⟨us_1, rfl, hv_1⟩ := hv_0.unv; obtain ⟨us_2, rfl, hv_2⟩ := hv_1.unv; obtain ⟨us_3, rfl, hv_3⟩ := hv_2.unv; obtain ⟨P4, p4, us_4, rfl, _, hv_4⟩ := hv_3.uns; obtain rfl := hv_4.un0; clear hv hv_0 hv_1 hv_2 hv_3 hv_4; have O1 := Lib.hid own; have hS_ := hHeld.trans (hb.mono hHeld.size); clear own hb)
        clear hHeld
        refine hK.out _ _ hS_ (fun hHeld => ?_)
        clear hK K hS_
        try simp only [Act.put, List.setIfInBounds_toArray, List.set_cons_zero, List.set_cons_succ]
        refine lateTwo (i := 3) (j := 8) (by kernel_rfl) ?_ ?_
        · skip
          refine lateOp (i := 3) rfl (by rfl) (fun K hK => ?_)
          go_simp
          (go_at_call 7; refine (toValue_any ⟨t0, t1, t2, t3, t4⟩ hw2 [.int .i64 t0, .int .i64 t1, .string t2, .int .i64 t3, .slice E4 t4.length e4] _ W.heap.size (HBX.out _ hHeld).size (RV2.out.on (HBX.out _ hHeld) (Nat.le_refl _) (Nat.le_refl _))).mono ?_; rw [FValue.c_eq]; rintro e wb ⟨us, rfl, own, hb⟩; have hv := own.vs; obtain ⟨us_0, rfl, hv_0⟩ := hv.unv; obtain ⟨us_1, rfl, hv_1⟩ := hv_0.unv; obtain ⟨us_2, rfl, hv_2⟩ := hv_1.unv; obtain ⟨us_3, rfl, hv_3⟩ := hv_2.unv; obtain ⟨R4, r4, us_4, rfl, _, hv_4⟩ := hv_3.uns; obtain rfl := hv_4.un0; clear hv hv_0 hv_1 hv_2 hv_3 hv_4; have O2 := Lib.hid own; replace O1 := Lib.hid (O1.out.below hb (Nat.le_refl _)); have hS_ := hHeld.trans (hb.mono hHeld.size); clear own hb)
          clear hHeld
          refine hK.out _ _ hS_ (fun hHeld => ?_)
          clear hK K hS_
          try simp only [Act.put, List.setIfInBounds_toArray, List.set_cons_zero, List.set_cons_succ]
          refine lateTwo (i := 4) (j := 8) (by kernel_rfl) ?_ ?_
          · skip
            refine lateOp (i := 4) rfl (by rfl) (fun K hK => ?_)
            go_simp
            (go_at_call 8; have hlo := hHeld.size; refine (ix_impl ⟨z0, z1, z2, z3, z4⟩ ⟨t0, t1, t2, t3, t4⟩ hw1 hw2 [.int .i64 z0, .int .i64 z1, .string z2, .int .i64 z3, .slice P4 z4.length p4] [.int .i64 t0, .int .i64 t1, .string t2, .int .i64 t3, .slice R4 t4.length r4] _ _ (TV.out.up (HBX.out _ hHeld) (Nat.le_refl _)) (Nat.le_refl _) (by rw [FValue.c_eq]; exact O1.out.vs) (by rw [FValue.c_eq]; exact O2.out.vs)).mono ?_; rw [HQ.out, HCC.out, FValue.c_eq]; rintro e wd ⟨us, rfl, own, hb⟩; have hv := own.vs; obtain ⟨us_0, rfl, hv_0⟩ := hv.unv; obtain ⟨us_1, rfl, hv_1⟩ := hv_0.unv; obtain ⟨us_2, rfl, hv_2⟩ := hv_1.unv; obtain ⟨us_3, rfl, hv_3⟩ := hv_2.unv; obtain ⟨G4, g4, us_4, rfl, _, hv_4⟩ := hv_3.uns; obtain rfl := hv_4.un0; clear hv hv_0 hv_1 hv_2 hv_3 hv_4; have OWN := Lib.hid own; have hS_ := hHeld.trans (hb.mono hHeld.size); clear own hb)
            clear hHeld
            refine hK.out _ _ hS_ (fun hHeld => ?_)
            clear hK K hS_
            try simp only [Act.put, List.setIfInBounds_toArray, List.set_cons_zero, List.set_cons_succ]
            refine lateTake (i := 5) (v := ?_) rfl (by kernel_rfl) (by decide) (by kernel_rfl) (by kernel_rfl) (by kernel_rfl) (by kernel_rfl) (fun _ _ _ h => h) (by rfl) ?_ hHeld ?_
            rotate_left
            · intro w_ hSw
              (try dsimp only at hSw)
              have q0 : w_.cell? ⟨W.heap.size + 1, 0, none⟩ = some (.int .i64 t0) := (BB.out.below hSw (Nat.le_refl _)).cell 0; have q1 : w_.cell? ⟨W.heap.size + 1, 1, none⟩ = some (.int .i64 t1) := (BB.out.below hSw (Nat.le_refl _)).cell 1; have q2 : w_.cell? ⟨W.heap.size + 1, 2, none⟩ = some (.string t2) := (BB.out.below hSw (Nat.le_refl _)).cell 2; have q3 : w_.cell? ⟨W.heap.size + 1, 3, none⟩ = some (.int .i64 t3) := (BB.out.below hSw (Nat.le_refl _)).cell 3; have q4 : w_.cell? ⟨W.heap.size + 1, 4, none⟩ = some (.slice E4 t4.length e4) := (BB.out.below hSw (Nat.le_refl _)).cell 4
              go_simp
              (try with_reducible rfl)
            try simp only [Act.put, List.setIfInBounds_toArray, List.set_cons_zero, List.set_cons_succ]
            refine lateTake (i := 6) (v := ?_) rfl (by kernel_rfl) (by decide) (by kernel_rfl) (by kernel_rfl) (by kernel_rfl) (by kernel_rfl) (fun _ _ _ h => h) (by rfl) ?_ hHeld ?_
            rotate_left
            · intro w_ hSw
              (try dsimp only at hSw)
              have q0 : w_.cell? ⟨W.heap.size + 1, 0, none⟩ = some (.int .i64 t0) := (BB.out.below hSw (Nat.le_refl _)).cell 0; have q1 : w_.cell? ⟨W.heap.size + 1, 1, none⟩ = some (.int .i64 t1) := (BB.out.below hSw (Nat.le_refl _)).cell 1; have q2 : w_.cell? ⟨W.heap.size + 1, 2, none⟩ = some (.string t2) := (BB.out.below hSw (Nat.le_refl _)).cell 2; have q3 : w_.cell? ⟨W.heap.size + 1, 3, none⟩ = some (.int .i64 t3) := (BB.out.below hSw (Nat.le_refl _)).cell 3; have q4 : w_.cell? ⟨W.heap.size + 1, 4, none⟩ = some (.slice E4 t4.length e4) := (BB.out.below hSw (Nat.le_refl _)).cell 4
              go_simp
              (try with_reducible rfl)
            try simp only [Act.put, List.setIfInBounds_toArray, List.set_cons_zero, List.set_cons_succ]
            refine lateTakeW (i := 7) (v := ?_) rfl (by kernel_rfl) (by decide) (by kernel_rfl) (by kernel_rfl) (fun _ _ _ h => h) (by rfl) ?_ hHeld ?_
            rotate_left
            · intro w_
              go_simp
              (try with_reducible rfl)
            try simp only [Act.put, List.setIfInBounds_toArray, List.set_cons_zero, List.set_cons_succ]
            refine lateOne (i := 8) (by kernel_rfl) ?_
            refine lateOp (i := 8) rfl (by rfl) (fun K hK => ?_)
            go_simp
            (have BK := Lib.hid (Blk.new' wd 28 #[.int .i64 0, .int .i64 0, .string ⟨#[]⟩, .int .i64 0, .slice none 0 0] wd.heap.size rfl); have hgB : w17.heap.size ≤ wd.heap.size := hHeld.size; have hW8 := hHeld; replace O1 := Lib.hid (O1.out.alloc (.cells #[.int .i64 0, .int .i64 0, .string ⟨#[]⟩, .int .i64 0, .slice none 0 0] 28)); replace O2 := Lib.hid (O2.out.alloc (.cells #[.int .i64 0, .int .i64 0, .string ⟨#[]⟩, .int .i64 0, .slice none 0 0] 28)); have hS_ := hHeld.alloc hHeld.size (.cells #[.int .i64 0, .int .i64 0, .string ⟨#[]⟩, .int .i64 0, .slice none 0 0] 28))
            clear hHeld
            refine hK.out _ _ hS_ (fun hHeld => ?_)
            clear hK K hS_
            try simp only [Act.put, List.setIfInBounds_toArray, List.set_cons_zero, List.set_cons_succ]
            refine lateOne (i := 9) (by kernel_rfl) ?_
            refine lateLast (i := 9) rfl (by kernel_rfl) (by rfl) (fun K hK => ?_)
            skip
            go_simp
            refine hK.out _ _ ?_
            clear hK K
            try simp only [Act.put, List.setIfInBounds_toArray, List.set_cons_zero, List.set_cons_succ]
            refine lateOne (i := 10) (by kernel_rfl) ?_
            refine lateLast (i := 10) rfl (by kernel_rfl) (by rfl) (fun K hK => ?_)
            skip
            go_simp
            refine hK.out _ _ ?_
            clear hK K
            try simp only [Act.put, List.setIfInBounds_toArray, List.set_cons_zero, List.set_cons_succ]
            refine lateDone (by kernel_rfl) ?_ _
            (try go_wp2_with fail)
            go_meet
            exact ⟨_, G4, g4, rfl, rfl, hW8.size, new5 hW8 OWN.out hlo⟩
          · skip
            refine lateOp (i := 8) rfl (by rfl) (fun K hK => ?_)
            go_simp
            (have BK := Lib.hid (Blk.new' wb 28 #[.int .i64 0, .int .i64 0, .string ⟨#[]⟩, .int .i64 0, .slice none 0 0] wb.heap.size rfl); have hgB : w17.heap.size ≤ wb.heap.size := hHeld.size; have hW8 := hHeld; replace O1 := Lib.hid (O1.out.alloc (.cells #[.int .i64 0, .int .i64 0, .string ⟨#[]⟩, .int .i64 0, .slice none 0 0] 28)); replace O2 := Lib.hid (O2.out.alloc (.cells #[.int .i64 0, .int .i64 0, .string ⟨#[]⟩, .int .i64 0, .slice none 0 0] 28)); have hS_ := hHeld.alloc hHeld.size (.cells #[.int .i64 0, .int .i64 0, .string ⟨#[]⟩, .int .i64 0, .slice none 0 0] 28))
            clear hHeld
            refine hK.out _ _ hS_ (fun hHeld => ?_)
            clear hK K hS_
            try simp only [Act.put, List.setIfInBounds_toArray, List.set_cons_zero, List.set_cons_succ]
            refine lateOne (i := 4) (by kernel_rfl) ?_
            refine lateOp (i := 4) rfl (by rfl) (fun K hK => ?_)
            go_simp
            (go_at_call 8; have hlo := hHeld.size; have hgl := BK.out.lt; refine (ix_impl ⟨z0, z1, z2, z3, z4⟩ ⟨t0, t1, t2, t3, t4⟩ hw1 hw2 [.int .i64 z0, .int .i64 z1, .string z2, .int .i64 z3, .slice P4 z4.length p4] [.int .i64 t0, .int .i64 t1, .string t2, .int .i64 t3, .slice R4 t4.length r4] _ _ (TV.out.up (HBX.out _ hHeld) (Nat.le_refl _)) (Nat.le_refl _) (by rw [FValue.c_eq]; exact O1.out.vs) (by rw [FValue.c_eq]; exact O2.out.vs)).mono ?_; rw [HQ.out, HCC.out, FValue.c_eq]; rintro e wd ⟨us, rfl, own, hb⟩; have hv := own.vs; obtain ⟨us_0, rfl, hv_0⟩ := hv.unv; obtain ⟨us_1, rfl, hv_1⟩ := hv_0.unv; obtain ⟨us_2, rfl, hv_2⟩ := hv_1.unv; obtain ⟨us_3, rfl, hv_3⟩ := hv_2.unv; obtain ⟨G4, g4, us_4, rfl, _, hv_4⟩ := hv_3.uns; obtain rfl := hv_4.un0; clear hv hv_0 hv_1 hv_2 hv_3 hv_4; have OWN := Lib.hid own; have hS_ := hHeld.trans (hb.mono hHeld.size); replace BK := Lib.hid (BK.out.below hb (Nat.le_refl _)); clear own hb)
            clear hHeld
            refine hK.out _ _ hS_ (fun hHeld => ?_)
            clear hK K hS_
            try simp only [Act.put, List.setIfInBounds_toArray, List.set_cons_zero, List.set_cons_succ]
            refine lateTake (i := 5) (v := ?_) rfl (by kernel_rfl) (by decide) (by kernel_rfl) (by kernel_rfl) (by kernel_rfl) (by kernel_rfl) (fun _ _ _ h => h) (by rfl) ?_ hHeld ?_
            rotate_left
            · intro w_ hSw
              (try dsimp only at hSw)
              have q0 : w_.cell? ⟨W.heap.size + 1, 0, none⟩ = some (.int .i64 t0) := (BB.out.below hSw (Nat.le_refl _)).cell 0; have q1 : w_.cell? ⟨W.heap.size + 1, 1, none⟩ = some (.int .i64 t1) := (BB.out.below hSw (Nat.le_refl _)).cell 1; have q2 : w_.cell? ⟨W.heap.size + 1, 2, none⟩ = some (.string t2) := (BB.out.below hSw (Nat.le_refl _)).cell 2; have q3 : w_.cell? ⟨W.heap.size + 1, 3, none⟩ = some (.int .i64 t3) := (BB.out.below hSw (Nat.le_refl _)).cell 3; have q4 : w_.cell? ⟨W.heap.size + 1, 4, none⟩ = some (.slice E4 t4.length e4) := (BB.out.below hSw (Nat.le_refl _)).cell 4
              go_simp
              (try with_reducible rfl)
            try simp only [Act.put, List.setIfInBounds_toArray, List.set_cons_zero, List.set_cons_succ]
            refine lateTake (i := 6) (v := ?_) rfl (by kernel_rfl) (by decide) (by kernel_rfl) (by kernel_rfl) (by kernel_rfl) (by kernel_rfl) (fun _ _ _ h => h) (by rfl) ?_ hHeld ?_
            rotate_left
            · intro w_ hSw
              (try dsimp only at hSw)
              have q0 : w_.cell? ⟨W.heap.size + 1, 0, none⟩ = some (.int .i64 t0) := (BB.out.below hSw (Nat.le_refl _)).cell 0; have q1 : w_.cell? ⟨W.heap.size + 1, 1, none⟩ = some (.int .i64 t1) := (BB.out.below hSw (Nat.le_refl _)).cell 1; have q2 : w_.cell? ⟨W.heap.size + 1, 2, none⟩ = some (.string t2) := (BB.out.below hSw (Nat.le_refl _)).cell 2; have q3 : w_.cell? ⟨W.heap.size + 1, 3, none⟩ = some (.int .i64 t3) := (BB.out.below hSw (Nat.le_refl _)).cell 3; have q4 : w_.cell? ⟨W.heap.size + 1, 4, none⟩ = some (.slice E4 t4.length e4) := (BB.out.below hSw (Nat.le_refl _)).cell 4
              go_simp
              (try with_reducible rfl)
            try simp only [Act.put, List.setIfInBounds_toArray, List.set_cons_zero, List.set_cons_succ]
            refine lateTakeW (i := 7) (v := ?_) rfl (by kernel_rfl) (by decide) (by kernel_rfl) (by kernel_rfl) (fun _ _ _ h => h) (by rfl) ?_ hHeld ?_
            rotate_left
            · intro w_
              go_simp
              (try with_reducible rfl)
            try simp only [Act.put, List.setIfInBounds_toArray, List.set_cons_zero, List.set_cons_succ]
            refine lateOne (i := 9) (by kernel_rfl) ?_
            refine lateLast (i := 9) rfl (by kernel_rfl) (by rfl) (fun K hK => ?_)
            have BKl := BK.out.lt; have BKf := fun i => BK.out.frozen i; have BK0 := BK.out.cell 0; have BK1 := BK.out.cell 1; have BK2 := BK.out.cell 2; have BK3 := BK.out.cell 3; have BK4 := BK.out.cell 4
            go_simp
            refine hK.out _ _ ?_
            clear hK K
            try simp only [Act.put, List.setIfInBounds_toArray, List.set_cons_zero, List.set_cons_succ]
            refine lateOne (i := 10) (by kernel_rfl) ?_
            refine lateLast (i := 10) rfl (by kernel_rfl) (by rfl) (fun K hK => ?_)
            skip
            go_simp
            refine hK.out _ _ ?_
            clear hK K
            try simp only [Act.put, List.setIfInBounds_toArray, List.set_cons_zero, List.set_cons_succ]
            refine lateDone (by kernel_rfl) ?_ _
            (try go_wp2_with fail)
            go_meet
            exact ⟨_, G4, g4, rfl, rfl, hgB, put5 hHeld hgB hgl BK.out OWN.out hlo⟩
        · skip
          refine lateOp (i := 8) rfl (by rfl) (fun K hK => ?_)
          go_simp
          (have BK := Lib.hid (Blk.new' wa 28 #[.int .i64 0, .int .i64 0, .string ⟨#[]⟩, .int .i64 0, .slice none 0 0] wa.heap.size rfl); have hgB : w17.heap.size ≤ wa.heap.size := hHeld.size; have hW8 := hHeld; replace O1 := Lib.hid (O1.out.alloc (.cells #[.int .i64 0, .int .i64 0, .string ⟨#[]⟩, .int .i64 0, .slice none 0 0] 28)); have hS_ := hHeld.alloc hHeld.size (.cells #[.int .i64 0, .int .i64 0, .string ⟨#[]⟩, .int .i64 0, .slice none 0 0] 28))
          clear hHeld
          refine hK.out _ _ hS_ (fun hHeld => ?_)
          clear hK K hS_
          try simp only [Act.put, List.setIfInBounds_toArray, List.set_cons_zero, List.set_cons_succ]
          refine lateOne (i := 3) (by kernel_rfl) ?_
          refine lateOp (i := 3) rfl (by rfl) (fun K hK => ?_)
          go_simp
          (go_at_call 7; refine (toValue_any ⟨t0, t1, t2, t3, t4⟩ hw2 [.int .i64 t0, .int .i64 t1, .string t2, .int .i64 t3, .slice E4 t4.length e4] _ W.heap.size (HBX.out _ hHeld).size (RV2.out.on (HBX.out _ hHeld) (Nat.le_refl _) (Nat.le_refl _))).mono ?_; rw [FValue.c_eq]; rintro e wb ⟨us, rfl, own, hb⟩; have hv := own.vs; obtain ⟨us_0, rfl, hv_0⟩ := hv.unv; obtain ⟨us_1, rfl, hv_1⟩ := hv_0.unv; obtain ⟨us_2, rfl, hv_2⟩ := hv_1.unv; obtain ⟨us_3, rfl, hv_3⟩ := hv_2.unv; obtain ⟨R4, r4, us_4, rfl, _, hv_4⟩ := hv_3.uns; obtain rfl := hv_4.un0; clear hv hv_0 hv_1 hv_2 hv_3 hv_4; have O2 := Lib.hid own; replace O1 := Lib.hid (O1.out.below hb (Nat.le_refl _)); have hS_ := hHeld.trans (hb.mono hHeld.size); replace BK := Lib.hid (BK.out.below hb (Nat.le_refl _)); clear own hb)
          clear hHeld
          refine hK.out _ _ hS_ (fun hHeld => ?_)
          clear hK K hS_
          try simp only [Act.put, List.setIfInBounds_toArray, List.set_cons_zero, List.set_cons_succ]
          refine lateOne (i := 4) (by kernel_rfl) ?_
          refine lateOp (i := 4) rfl (by rfl) (fun K hK => ?_)
          go_simp
          (go_at_call 8; have hlo := hHeld.size; have hgl := BK.out.lt; refine (ix_impl ⟨z0, z1, z2, z3, z4⟩ ⟨t0, t1, t2, t3, t4⟩ hw1 hw2 [.int .i64 z0, .int .i64 z1, .string z2, .int .i64 z3, .slice P4 z4.length p4] [.int .i64 t0, .int .i64 t1, .string t2, .int .i64 t3, .slice R4 t4.length r4] _ _ (TV.out.up (HBX.out _ hHeld) (Nat.le_refl _)) (Nat.le_refl _) (by rw [FValue.c_eq]; exact O1.out.vs) (by rw [FValue.c_eq]; exact O2.out.vs)).mono ?_; rw [HQ.out, HCC.out, FValue.c_eq]; rintro e wd ⟨us, rfl, own, hb⟩; have hv := own.vs; obtain ⟨us_0, rfl, hv_0⟩ := hv.unv; obtain ⟨us_1, rfl, hv_1⟩ := hv_0.unv; obtain ⟨us_2, rfl, hv_2⟩ := hv_1.unv; obtain ⟨us_3, rfl, hv_3⟩ := hv_2.unv; obtain ⟨G4, g4, us_4, rfl, _, hv_4⟩ := hv_3.uns; obtain rfl := hv_4.un0; clear hv hv_0 hv_1 hv_2 hv_3 hv_4; have OWN := Lib.hid own; have hS_ := hHeld.trans (hb.mono hHeld.size); replace BK := Lib.hid (BK.out.below hb (Nat.le_refl _)); clear own hb)
          clear hHeld
          refine hK.out _ _ hS_ (fun hHeld => ?_)
          clear hK K hS_
          try simp only [Act.put, List.setIfInBounds_toArray, List.set_cons_zero, List.set_cons_succ]
          refine lateTake (i := 5) (v := ?_) rfl (by kernel_rfl) (by decide) (by kernel_rfl) (by kernel_rfl) (by kernel_rfl) (by kernel_rfl) (fun _ _ _ h => h) (by rfl) ?_ hHeld ?_
          rotate_left
          · intro w_ hSw
            (try dsimp only at hSw)
            have q0 : w_.cell? ⟨W.heap.size + 1, 0, none⟩ = some (.int .i64 t0) := (BB.out.below hSw (Nat.le_refl _)).cell 0; have q1 : w_.cell? ⟨W.heap.size + 1, 1, none⟩ = some (.int .i64 t1) := (BB.out.below hSw (Nat.le_refl _)).cell 1; have q2 : w_.cell? ⟨W.heap.size + 1, 2, none⟩ = some (.string t2) := (BB.out.below hSw (Nat.le_refl _)).cell 2; have q3 : w_.cell? ⟨W.heap.size + 1, 3, none⟩ = some (.int .i64 t3) := (BB.out.below hSw (Nat.le_refl _)).cell 3; have q4 : w_.cell? ⟨W.heap.size + 1, 4, none⟩ = some (.slice E4 t4.length e4) := (BB.out.below hSw (Nat.le_refl _)).cell 4
            go_simp
            (try with_reducible rfl)
          try simp only [Act.put, List.setIfInBounds_toArray, List.set_cons_zero, List.set_cons_succ]
          refine lateTake (i := 6) (v := ?_) rfl (by kernel_rfl) (by decide) (by kernel_rfl) (by kernel_rfl) (by kernel_rfl) (by kernel_rfl) (fun _ _ _ h => h) (by rfl) ?_ hHeld ?_
          rotate_left
          · intro w_ hSw
            (try dsimp only at hSw)
            have q0 : w_.cell? ⟨W.heap.size + 1, 0, none⟩ = some (.int .i64 t0) := (BB.out.below hSw (Nat.le_refl _)).cell 0; have q1 : w_.cell? ⟨W.heap.size + 1, 1, none⟩ = some (.int .i64 t1) := (BB.out.below hSw (Nat.le_refl _)).cell 1; have q2 : w_.cell? ⟨W.heap.size + 1, 2, none⟩ = some (.string t2) := (BB.out.below hSw (Nat.le_refl _)).cell 2; have q3 : w_.cell? ⟨W.heap.size + 1, 3, none⟩ = some (.int .i64 t3) := (BB.out.below hSw (Nat.le_refl _)).cell 3; have q4 : w_.cell? ⟨W.heap.size + 1, 4, none⟩ = some (.slice E4 t4.length e4) := (BB.out.below hSw (Nat.le_refl _)).cell 4
            go_simp
            (try with_reducible rfl)
          try simp only [Act.put, List.setIfInBounds_toArray, List.set_cons_zero, List.set_cons_succ]
          refine lateTakeW (i := 7) (v := ?_) rfl (by kernel_rfl) (by decide) (by kernel_rfl) (by kernel_rfl) (fun _ _ _ h => h) (by rfl) ?_ hHeld ?_
          rotate_left
          · intro w_
            go_simp
            (try with_reducible rfl)
          try simp only [Act.put, List.setIfInBounds_toArray, List.set_cons_zero, List.set_cons_succ]
          refine lateOne (i := 9) (by kernel_rfl) ?_
          refine lateLast (i := 9) rfl (by kernel_rfl) (by rfl) (fun K hK => ?_)
          have BKl := BK.out.lt; have BKf := fun i => BK.out.frozen i; have BK0 := BK.out.cell 0; have BK1 := BK.out.cell 1; have BK2 := BK.out.cell 2; have BK3 := BK.out.cell 3; have BK4 := BK.out.cell 4
          go_simp
          refine hK.out _ _ ?_
          clear hK K
          try simp only [Act.put, List.setIfInBounds_toArray, List.set_cons_zero, List.set_cons_succ]
          refine lateOne (i := 10) (by kernel_rfl) ?_
          refine lateLast (i := 10) rfl (by kernel_rfl) (by rfl) (fun K hK => ?_)
          skip
          go_simp
          refine hK.out _ _ ?_
          clear hK K
          try simp only [Act.put, List.setIfInBounds_toArray, List.set_cons_zero, List.set_cons_succ]
          refine lateDone (by kernel_rfl) ?_ _
          (try go_wp2_with fail)
          go_meet
          exact ⟨_, G4, g4, rfl, rfl, hgB, put5 hHeld hgB hgl BK.out OWN.out hlo⟩
      · skip
        refine lateOp (i := 8) rfl (by rfl) (fun K hK => ?_)
        go_simp
        (have BK := Lib.hid (Blk.new' (World.drew w17) 28 #[.int .i64 0, .int .i64 0, .string ⟨#[]⟩, .int .i64 0, .slice none 0 0] w17.heap.size rfl); have hgB : w17.heap.size ≤ (World.drew w17).heap.size := hHeld.size; have hW8 := hHeld; have hS_ := hHeld.alloc hHeld.size (.cells #[.int .i64 0, .int .i64 0, .string ⟨#[]⟩, .int .i64 0, .slice none 0 0] 28))
        clear hHeld
        refine hK.out _ _ hS_ (fun hHeld => ?_)
        clear hK K hS_
        try simp only [Act.put, List.setIfInBounds_toArray, List.set_cons_zero, List.set_cons_succ]
        refine lateOne (i := 1) (by kernel_rfl) ?_
        refine lateOp (i := 1) rfl (by rfl) (fun K hK => ?_)
        go_simp
        (go_at_call 7; refine (toValue_any ⟨z0, z1, z2, z3, z4⟩ hw1 [.int .i64 z0, .int .i64 z1, .string z2, .int .i64 z3, .slice A4 z4.length c4] _ W.heap.size (HBX.out _ hHeld).size (RV.out.on (HBX.out _ hHeld) (Nat.le_refl _) (Nat.le_refl _))).mono ?_; rw [FValue.c_eq]; rintro e wa ⟨us, rfl, own, hb⟩; have hv := own.vs; obtain ⟨us_0, rfl, hv_0⟩ := hv.unv; obtain ⟨us_1, rfl, hv_1⟩ := hv_0.unv; obtain ⟨us_2, rfl, hv_2⟩ := hv_1.unv; obtain ⟨us_3, rfl, hv_3⟩ := hv_2.unv; obtain ⟨P4, p4, us_4, rfl, _, hv_4⟩ := hv_3.uns; obtain rfl := hv_4.un0; clear hv hv_0 hv_1 hv_2 hv_3 hv_4; have O1 := Lib.hid own; have hS_ := hHeld.trans (hb.mono hHeld.size); replace BK := Lib.hid (BK.out.below hb (Nat.le_refl _)); clear own hb)
        clear hHeld
        refine hK.out _ _ hS_ (fun hHeld => ?_)
        clear hK K hS_
        try simp only [Act.put, List.setIfInBounds_toArray, List.set_cons_zero, List.set_cons_succ]
        refine lateOne (i := 3) (by kernel_rfl) ?_
        refine lateOp (i := 3) rfl (by rfl) (fun K hK => ?_)
        go_simp
        (go_at_call 7; refine (toValue_any ⟨t0, t1, t2, t3, t4⟩ hw2 [.int .i64 t0, .int .i64 t1, .string t2, .int .i64 t3, .slice E4 t4.length e4] _ W.heap.size (HBX.out _ hHeld).size (RV2.out.on (HBX.out _ hHeld) (Nat.le_refl _) (Nat.le_refl _))).mono ?_; rw [FValue.c_eq]; rintro e wb ⟨us, rfl, own, hb⟩; have hv := own.vs; obtain ⟨us_0, rfl, hv_0⟩ := hv.unv; obtain ⟨us_1, rfl, hv_1⟩ := hv_0.unv; obtain ⟨us_2, rfl, hv_2⟩ := hv_1.unv; obtain ⟨us_3, rfl, hv_3⟩ := hv_2.unv; obtain ⟨R4, r4, us_4, rfl, _, hv_4⟩ := hv_3.uns; obtain rfl := hv_4.un0; clear hv hv_0 hv_1 hv_2 hv_3 hv_4; have O2 := Lib.hid own; replace O1 := Lib.hid (O1.out.below hb (Nat.le_refl _)); have hS_ := hHeld.trans (hb.mono hHeld.size); replace BK := Lib.hid (BK.out.below hb (Nat.le_refl _)); clear own hb)
        clear hHeld
        refine hK.out _ _ hS_ (fun hHeld => ?_)
        clear hK K hS_
        try simp only [Act.put, List.setIfInBounds_toArray, List.set_cons_zero, List.set_cons_succ]
        refine lateOne (i := 4) (by kernel_rfl) ?_
        refine lateOp (i := 4) rfl (by rfl) (fun K hK => ?_)
        go_simp
        (go_at_call 8; have hlo := hHeld.size; have hgl := BK.out.lt; refine (ix_impl ⟨z0, z1, z2, z3, z4⟩ ⟨t0, t1, t2, t3, t4⟩ hw1 hw2 [.int .i64 z0, .int .i64 z1, .string z2, .int .i64 z3, .slice P4 z4.length p4] [.int .i64 t0, .int .i64 t1, .string t2, .int .i64 t3, .slice R4 t4.length r4] _ _ (TV.out.up (HBX.out _ hHeld) (Nat.le_refl _)) (Nat.le_refl _) (by rw [FValue.c_eq]; exact O1.out.vs) (by rw [FValue.c_eq]; exact O2.out.vs)).mono ?_; rw [HQ.out, HCC.out, FValue.c_eq]; rintro e wd ⟨us, rfl, own, hb⟩; have hv := own.vs; obtain ⟨us_0, rfl, hv_0⟩ := hv.unv; obtain ⟨us_1, rfl, hv_1⟩ := hv_0.unv; obtain ⟨us_2, rfl, hv_2⟩ := hv_1.unv; obtain ⟨us_3, rfl, hv_3⟩ := hv_2.unv; obtain ⟨G4, g4, us_4, rfl, _, hv_4⟩ := hv_3.uns; obtain rfl := hv_4.un0; clear hv hv_0 hv_1 hv_2 hv_3 hv_4; have OWN := Lib.hid own; have hS_ := hHeld.trans (hb.mono hHeld.size); replace BK := Lib.hid (BK.out.below hb (Nat.le_refl _)); clear own hb)
        clear hHeld
        refine hK.out _ _ hS_ (fun hHeld => ?_)
        clear hK K hS_
        try simp only [Act.put, List.setIfInBounds_toArray, List.set_cons_zero, List.set_cons_succ]
        refine lateTake (i := 5) (v := ?_) rfl (by kernel_rfl) (by decide) (by kernel_rfl) (by kernel_rfl) (by kernel_rfl) (by kernel_rfl) (fun _ _ _ h => h) (by rfl) ?_ hHeld ?_
        rotate_left
        · intro w_ hSw
          (try dsimp only at hSw)
          have q0 : w_.cell? ⟨W.heap.size + 1, 0, none⟩ = some (.int .i64 t0) := (BB.out.below hSw (Nat.le_refl _)).cell 0; have q1 : w_.cell? ⟨W.heap.size + 1, 1, none⟩ = some (.int .i64 t1) := (BB.out.below hSw (Nat.le_refl _)).cell 1; have q2 : w_.cell? ⟨W.heap.size + 1, 2, none⟩ = some (.string t2) := (BB.out.below hSw (Nat.le_refl _)).cell 2; have q3 : w_.cell? ⟨W.heap.size + 1, 3, none⟩ = some (.int .i64 t3) := (BB.out.below hSw (Nat.le_refl _)).cell 3; have q4 : w_.cell? ⟨W.heap.size + 1, 4, none⟩ = some (.slice E4 t4.length e4) := (BB.out.below hSw (Nat.le_refl _)).cell 4
          go_simp
          (try with_reducible rfl)
        try simp only [Act.put, List.setIfInBounds_toArray, List.set_cons_zero, List.set_cons_succ]
        refine lateTake (i := 6) (v := ?_) rfl (by kernel_rfl) (by decide) (by kernel_rfl) (by kernel_rfl) (by kernel_rfl) (by kernel_rfl) (fun _ _ _ h => h) (by rfl) ?_ hHeld ?_
        rotate_left
        · intro w_ hSw
          (try dsimp only at hSw)
          have q0 : w_.cell? ⟨W.heap.size + 1, 0, none⟩ = some (.int .i64 t0) := (BB.out.below hSw (Nat.le_refl _)).cell 0; have q1 : w_.cell? ⟨W.heap.size + 1, 1, none⟩ = some (.int .i64 t1) := (BB.out.below hSw (Nat.le_refl _)).cell 1; have q2 : w_.cell? ⟨W.heap.size + 1, 2, none⟩ = some (.string t2) := (BB.out.below hSw (Nat.le_refl _)).cell 2; have q3 : w_.cell? ⟨W.heap.size + 1, 3, none⟩ = some (.int .i64 t3) := (BB.out.below hSw (Nat.le_refl _)).cell 3; have q4 : w_.cell? ⟨W.heap.size + 1, 4, none⟩ = some (.slice E4 t4.length e4) := (BB.out.below hSw (Nat.le_refl _)).cell 4
          go_simp
          (try with_reducible rfl)
        try simp only [Act.put, List.setIfInBounds_toArray, List.set_cons_zero, List.set_cons_succ]
        refine lateTakeW (i := 7) (v := ?_) rfl (by kernel_rfl) (by decide) (by kernel_rfl) (by kernel_rfl) (fun _ _ _ h => h) (by rfl) ?_ hHeld ?_
        rotate_left
        · intro w_
          go_simp
          (try with_reducible rfl)
        try simp only [Act.put, List.setIfInBounds_toArray, List.set_cons_zero, List.set_cons_succ]
        refine lateOne (i := 9) (by kernel_rfl) ?_
        refine lateLast (i := 9) rfl (by kernel_rfl) (by rfl) (fun K hK => ?_)
        have BKl := BK.out.lt; have BKf := fun i => BK.out.frozen i; have BK0 := BK.out.cell 0; have BK1 := BK.out.cell 1; have BK2 := BK.out.cell 2; have BK3 := BK.out.cell 3; have BK4 := BK.out.cell 4
        go_simp
        refine hK.out _ _ ?_
        clear hK K
        try simp only [Act.put, List.setIfInBounds_toArray, List.set_cons_zero, List.set_cons_succ]
        refine lateOne (i := 10) (by kernel_rfl) ?_
        refine lateLast (i := 10) rfl (by kernel_rfl) (by rfl) (fun K hK => ?_)
        skip
        go_simp
        refine hK.out _ _ ?_
        clear hK K
        try simp only [Act.put, List.setIfInBounds_toArray, List.set_cons_zero, List.set_cons_succ]
        refine lateDone (by kernel_rfl) ?_ _
        (try go_wp2_with fail)
        go_meet
        exact ⟨_, G4, g4, rfl, rfl, hgB, put5 hHeld hgB hgl BK.out OWN.out hlo⟩
    case rest =>
      obtain ⟨gbh, Gh, gh, rfl, rfl, hgg, bh_, ih_, hb⟩ := hcut
      generalize wc = w18 at *
      replace bA := bA.below hb (Nat.le_refl _)
      replace bB := bB.below hb (Nat.le_refl _)
      replace bw := bw.below hb (Nat.le_refl _)
      replace bx := bx.below hb (Nat.le_refl _)
      replace by_ := by_.below hb (Nat.le_refl _)
      replace bg := bg.below hb (Nat.le_refl _)
      replace iw := iw.below hb (Nat.le_refl _)
      replace ix := ix.below hb (Nat.le_refl _)
      replace iy := iy.below hb (Nat.le_refl _)
      replace ig := ig.below hb (Nat.le_refl _)
      replace hB := hB.trans (hb.mono (by omega))
      have s18 : w17.heap.size ≤ w18.heap.size := hb.size
      clear hb HBX
      have bh := bh_
      have ih := ih_
      clear bh_ ih_
      have ltbh := bh.lt
      have bA_0 : w18.cell? ⟨W.heap.size, 0, none⟩ = some (.int .i64 z0) := bA.cell 0
      have bA_1 : w18.cell? ⟨W.heap.size, 1, none⟩ = some (.int .i64 z1) := bA.cell 1
      have bA_2 : w18.cell? ⟨W.heap.size, 2, none⟩ = some (.string z2) := bA.cell 2
      have bA_3 : w18.cell? ⟨W.heap.size, 3, none⟩ = some (.int .i64 z3) := bA.cell 3
      have bA_4 : w18.cell? ⟨W.heap.size, 4, none⟩ = some (.slice A4 z4.length c4) := bA.cell 4
      have bA_l := bA.lt
      have bB_0 : w18.cell? ⟨W.heap.size + 1, 0, none⟩ = some (.int .i64 t0) := bB.cell 0
      have bB_1 : w18.cell? ⟨W.heap.size + 1, 1, none⟩ = some (.int .i64 t1) := bB.cell 1
      have bB_2 : w18.cell? ⟨W.heap.size + 1, 2, none⟩ = some (.string t2) := bB.cell 2
      have bB_3 : w18.cell? ⟨W.heap.size + 1, 3, none⟩ = some (.int .i64 t3) := bB.cell 3
      have bB_4 : w18.cell? ⟨W.heap.size + 1, 4, none⟩ = some (.slice E4 t4.length e4) := bB.cell 4
      have bB_l := bB.lt
      have bw_0 : w18.cell? ⟨gbw, 0, none⟩ = some (.int .i64 y0) := bw.cell 0
      have bw_1 : w18.cell? ⟨gbw, 1, none⟩ = some (.int .i64 y1) := bw.cell 1
      have bw_2 : w18.cell? ⟨gbw, 2, none⟩ = some (.string y2) := bw.cell 2
      have bw_3 : w18.cell? ⟨gbw, 3, none⟩ = some (.int .i64 y3) := bw.cell 3
      have bw_4 : w18.cell? ⟨gbw, 4, none⟩ = some (.slice Gw y4.length gw_) := bw.cell 4
      have bw_l := bw.lt
      have bx_0 : w18.cell? ⟨w4.heap.size, 0, none⟩ = some (.int .i64 z0) := bx.cell 0
      have bx_1 : w18.cell? ⟨w4.heap.size, 1, none⟩ = some (.int .i64 z1) := bx.cell 1
      have bx_2 : w18.cell? ⟨w4.heap.size, 2, none⟩ = some (.string z2) := bx.cell 2
      have bx_3 : w18.cell? ⟨w4.heap.size, 3, none⟩ = some (.int .i64 z3) := bx.cell 3
      have bx_4 : w18.cell? ⟨w4.heap.size, 4, none⟩ = some (.slice Xx z4.length xx) := bx.cell 4
      have bx_l := bx.lt
      have by__0 : w18.cell? ⟨w6.heap.size, 0, none⟩ = some (.int .i64 t0) := by_.cell 0
      have by__1 : w18.cell? ⟨w6.heap.size, 1, none⟩ = some (.int .i64 t1) := by_.cell 1
      have by__2 : w18.cell? ⟨w6.heap.size, 2, none⟩ = some (.string t2) := by_.cell 2
      have by__3 : w18.cell? ⟨w6.heap.size, 3, none⟩ = some (.int .i64 t3) := by_.cell 3
      have by__4 : w18.cell? ⟨w6.heap.size, 4, none⟩ = some (.slice Xy t4.length xy) := by_.cell 4
      have by__l := by_.lt
      have bg_0 : w18.cell? ⟨w8.heap.size, 0, none⟩ = some (.int .i64 y0) := bg.cell 0
      have bg_1 : w18.cell? ⟨w8.heap.size, 1, none⟩ = some (.int .i64 y1) := bg.cell 1
      have bg_2 : w18.cell? ⟨w8.heap.size, 2, none⟩ = some (.string y2) := bg.cell 2
      have bg_3 : w18.cell? ⟨w8.heap.size, 3, none⟩ = some (.int .i64 y3) := bg.cell 3
      have bg_4 : w18.cell? ⟨w8.heap.size, 4, none⟩ = some (.slice Gg y4.length gg) := bg.cell 4
      have bg_l := bg.lt
      have bh_0 : w18.cell? ⟨gbh, 0, none⟩ = some (.int .i64 y0) := bh.cell 0
      have bh_1 : w18.cell? ⟨gbh, 1, none⟩ = some (.int .i64 y1) := bh.cell 1
      have bh_2 : w18.cell? ⟨gbh, 2, none⟩ = some (.string y2) := bh.cell 2
      have bh_3 : w18.cell? ⟨gbh, 3, none⟩ = some (.int .i64 y3) := bh.cell 3
      have bh_4 : w18.cell? ⟨gbh, 4, none⟩ = some (.slice Gh y4.length gh) := bh.cell 4
      have bh_l := bh.lt
      go_wp2_with fail
      clear bA_0 bA_1 bA_2 bA_3 bA_4 bA_l
      clear bB_0 bB_1 bB_2 bB_3 bB_4 bB_l
      clear bw_0 bw_1 bw_2 bw_3 bw_4 bw_l
      clear bx_0 bx_1 bx_2 bx_3 bx_4 bx_l
      clear by__0 by__1 by__2 by__3 by__4 by__l
      clear bg_0 bg_1 bg_2 bg_3 bg_4 bg_l
      clear bh_0 bh_1 bh_2 bh_3 bh_4 bh_l
      refine (eqValue_any ⟨y0, y1, y2, y3, y4⟩ HWQ.out [.int .i64 y0, .int .i64 y1, .string y2, .int .i64 y3, .slice Gh y4.length gh] [.int .i64 y0, .int .i64 y1, .string y2, .int .i64 y3, .slice Gw y4.length gw_] _ (by rw [FValue.c_eq]; exact ih.vs) (by rw [FValue.c_eq]; exact iw.vs)).mono ?_
      rintro e w19 ⟨rfl, hb⟩
      replace bA := bA.below hb (Nat.le_refl _)
      replace bB := bB.below hb (Nat.le_refl _)
      replace bw := bw.below hb (Nat.le_refl _)
      replace bx := bx.below hb (Nat.le_refl _)
      replace by_ := by_.below hb (Nat.le_refl _)
      replace bg := bg.below hb (Nat.le_refl _)
      replace bh := bh.below hb (Nat.le_refl _)
      replace iw := iw.below hb (Nat.le_refl _)
      replace ix := ix.below hb (Nat.le_refl _)
      replace iy := iy.below hb (Nat.le_refl _)
      replace ig := ig.below hb (Nat.le_refl _)
      replace ih := ih.below hb (Nat.le_refl _)
      replace hB := hB.trans (hb.mono (by omega))
      have s19 : w18.heap.size ≤ w19.heap.size := hb.size
      clear hb
      have bA_0 : w19.cell? ⟨W.heap.size, 0, none⟩ = some (.int .i64 z0) := bA.cell 0
      have bA_1 : w19.cell? ⟨W.heap.size, 1, none⟩ = some (.int .i64 z1) := bA.cell 1
      have bA_2 : w19.cell? ⟨W.heap.size, 2, none⟩ = some (.string z2) := bA.cell 2
      have bA_3 : w19.cell? ⟨W.heap.size, 3, none⟩ = some (.int .i64 z3) := bA.cell 3
      have bA_4 : w19.cell? ⟨W.heap.size, 4, none⟩ = some (.slice A4 z4.length c4) := bA.cell 4
      have bA_l := bA.lt
      have bB_0 : w19.cell? ⟨W.heap.size + 1, 0, none⟩ = some (.int .i64 t0) := bB.cell 0
      have bB_1 : w19.cell? ⟨W.heap.size + 1, 1, none⟩ = some (.int .i64 t1) := bB.cell 1
      have bB_2 : w19.cell? ⟨W.heap.size + 1, 2, none⟩ = some (.string t2) := bB.cell 2
      have bB_3 : w19.cell? ⟨W.heap.size + 1, 3, none⟩ = some (.int .i64 t3) := bB.cell 3
      have bB_4 : w19.cell? ⟨W.heap.size + 1, 4, none⟩ = some (.slice E4 t4.length e4) := bB.cell 4
      have bB_l := bB.lt
      have bw_0 : w19.cell? ⟨gbw, 0, none⟩ = some (.int .i64 y0) := bw.cell 0
      have bw_1 : w19.cell? ⟨gbw, 1, none⟩ = some (.int .i64 y1) := bw.cell 1
      have bw_2 : w19.cell? ⟨gbw, 2, none⟩ = some (.string y2) := bw.cell 2
      have bw_3 : w19.cell? ⟨gbw, 3, none⟩ = some (.int .i64 y3) := bw.cell 3
      have bw_4 : w19.cell? ⟨gbw, 4, none⟩ = some (.slice Gw y4.length gw_) := bw.cell 4
      have bw_l := bw.lt
      have bx_0 : w19.cell? ⟨w4.heap.size, 0, none⟩ = some (.int .i64 z0) := bx.cell 0
      have bx_1 : w19.cell? ⟨w4.heap.size, 1, none⟩ = some (.int .i64 z1) := bx.cell 1
      have bx_2 : w19.cell? ⟨w4.heap.size, 2, none⟩ = some (.string z2) := bx.cell 2
      have bx_3 : w19.cell? ⟨w4.heap.size, 3, none⟩ = some (.int .i64 z3) := bx.cell 3
      have bx_4 : w19.cell? ⟨w4.heap.size, 4, none⟩ = some (.slice Xx z4.length xx) := bx.cell 4
      have bx_l := bx.lt
      have by__0 : w19.cell? ⟨w6.heap.size, 0, none⟩ = some (.int .i64 t0) := by_.cell 0
      have by__1 : w19.cell? ⟨w6.heap.size, 1, none⟩ = some (.int .i64 t1) := by_.cell 1
      have by__2 : w19.cell? ⟨w6.heap.size, 2, none⟩ = some (.string t2) := by_.cell 2
      have by__3 : w19.cell? ⟨w6.heap.size, 3, none⟩ = some (.int .i64 t3) := by_.cell 3
      have by__4 : w19.cell? ⟨w6.heap.size, 4, none⟩ = some (.slice Xy t4.length xy) := by_.cell 4
      have by__l := by_.lt
      have bg_0 : w19.cell? ⟨w8.heap.size, 0, none⟩ = some (.int .i64 y0) := bg.cell 0
      have bg_1 : w19.cell? ⟨w8.heap.size, 1, none⟩ = some (.int .i64 y1) := bg.cell 1
      have bg_2 : w19.cell? ⟨w8.heap.size, 2, none⟩ = some (.string y2) := bg.cell 2
      have bg_3 : w19.cell? ⟨w8.heap.size, 3, none⟩ = some (.int .i64 y3) := bg.cell 3
      have bg_4 : w19.cell? ⟨w8.heap.size, 4, none⟩ = some (.slice Gg y4.length gg) := bg.cell 4
      have bg_l := bg.lt
      have bh_0 : w19.cell? ⟨gbh, 0, none⟩ = some (.int .i64 y0) := bh.cell 0
      have bh_1 : w19.cell? ⟨gbh, 1, none⟩ = some (.int .i64 y1) := bh.cell 1
      have bh_2 : w19.cell? ⟨gbh, 2, none⟩ = some (.string y2) := bh.cell 2
      have bh_3 : w19.cell? ⟨gbh, 3, none⟩ = some (.int .i64 y3) := bh.cell 3
      have bh_4 : w19.cell? ⟨gbh, 4, none⟩ = some (.slice Gh y4.length gh) := bh.cell 4
      have bh_l := bh.lt
      go_wp2_with fail
      clear bA_0 bA_1 bA_2 bA_3 bA_4 bA_l
      clear bB_0 bB_1 bB_2 bB_3 bB_4 bB_l
      clear bw_0 bw_1 bw_2 bw_3 bw_4 bw_l
      clear bx_0 bx_1 bx_2 bx_3 bx_4 bx_l
      clear by__0 by__1 by__2 by__3 by__4 by__l
      clear bg_0 bg_1 bg_2 bg_3 bg_4 bg_l
      clear bh_0 bh_1 bh_2 bh_3 bh_4 bh_l
      have hcall := heldValue_any ⟨y0, y1, y2, y3, y4⟩ [.int .i64 y0, .int .i64 y1, .string y2, .int .i64 y3, .slice Gg y4.length gg] 1 w19 (by omega) (by rw [← HKm0.out]; omega) ig.vs
      rw [← HSm0.out] at hcall
      refine hcall.mono ?_
      clear hcall
      rintro e w20 ⟨rfl, hb⟩
      replace bA := bA.below hb (Nat.le_refl _)
      replace bB := bB.below hb (Nat.le_refl _)
      replace bw := bw.below hb (Nat.le_refl _)
      replace bx := bx.below hb (Nat.le_refl _)
      replace by_ := by_.below hb (Nat.le_refl _)
      replace bg := bg.below hb (Nat.le_refl _)
      replace bh := bh.below hb (Nat.le_refl _)
      replace iw := iw.below hb (Nat.le_refl _)
      replace ix := ix.below hb (Nat.le_refl _)
      replace iy := iy.below hb (Nat.le_refl _)
      replace ig := ig.below hb (Nat.le_refl _)
      replace ih := ih.below hb (Nat.le_refl _)
      replace hB := hB.trans (hb.mono (by omega))
      have s20 : w19.heap.size ≤ w20.heap.size := hb.size
      clear hb
      have bA_0 : w20.cell? ⟨W.heap.size, 0, none⟩ = some (.int .i64 z0) := bA.cell 0
      have bA_1 : w20.cell? ⟨W.heap.size, 1, none⟩ = some (.int .i64 z1) := bA.cell 1
      have bA_2 : w20.cell? ⟨W.heap.size, 2, none⟩ = some (.string z2) := bA.cell 2
      have bA_3 : w20.cell? ⟨W.heap.size, 3, none⟩ = some (.int .i64 z3) := bA.cell 3
      have bA_4 : w20.cell? ⟨W.heap.size, 4, none⟩ = some (.slice A4 z4.length c4) := bA.cell 4
      have bA_l := bA.lt
      have bB_0 : w20.cell? ⟨W.heap.size + 1, 0, none⟩ = some (.int .i64 t0) := bB.cell 0
      have bB_1 : w20.cell? ⟨W.heap.size + 1, 1, none⟩ = some (.int .i64 t1) := bB.cell 1
      have bB_2 : w20.cell? ⟨W.heap.size + 1, 2, none⟩ = some (.string t2) := bB.cell 2
      have bB_3 : w20.cell? ⟨W.heap.size + 1, 3, none⟩ = some (.int .i64 t3) := bB.cell 3
      have bB_4 : w20.cell? ⟨W.heap.size + 1, 4, none⟩ = some (.slice E4 t4.length e4) := bB.cell 4
      have bB_l := bB.lt
      have bw_0 : w20.cell? ⟨gbw, 0, none⟩ = some (.int .i64 y0) := bw.cell 0
      have bw_1 : w20.cell? ⟨gbw, 1, none⟩ = some (.int .i64 y1) := bw.cell 1
      have bw_2 : w20.cell? ⟨gbw, 2, none⟩ = some (.string y2) := bw.cell 2
      have bw_3 : w20.cell? ⟨gbw, 3, none⟩ = some (.int .i64 y3) := bw.cell 3
      have bw_4 : w20.cell? ⟨gbw, 4, none⟩ = some (.slice Gw y4.length gw_) := bw.cell 4
      have bw_l := bw.lt
      have bx_0 : w20.cell? ⟨w4.heap.size, 0, none⟩ = some (.int .i64 z0) := bx.cell 0
      have bx_1 : w20.cell? ⟨w4.heap.size, 1, none⟩ = some (.int .i64 z1) := bx.cell 1
      have bx_2 : w20.cell? ⟨w4.heap.size, 2, none⟩ = some (.string z2) := bx.cell 2
      have bx_3 : w20.cell? ⟨w4.heap.size, 3, none⟩ = some (.int .i64 z3) := bx.cell 3
      have bx_4 : w20.cell? ⟨w4.heap.size, 4, none⟩ = some (.slice Xx z4.length xx) := bx.cell 4
      have bx_l := bx.lt
      have by__0 : w20.cell? ⟨w6.heap.size, 0, none⟩ = some (.int .i64 t0) := by_.cell 0
      have by__1 : w20.cell? ⟨w6.heap.size, 1, none⟩ = some (.int .i64 t1) := by_.cell 1
      have by__2 : w20.cell? ⟨w6.heap.size, 2, none⟩ = some (.string t2) := by_.cell 2
      have by__3 : w20.cell? ⟨w6.heap.size, 3, none⟩ = some (.int .i64 t3) := by_.cell 3
      have by__4 : w20.cell? ⟨w6.heap.size, 4, none⟩ = some (.slice Xy t4.length xy) := by_.cell 4
      have by__l := by_.lt
      have bg_0 : w20.cell? ⟨w8.heap.size, 0, none⟩ = some (.int .i64 y0) := bg.cell 0
      have bg_1 : w20.cell? ⟨w8.heap.size, 1, none⟩ = some (.int .i64 y1) := bg.cell 1
      have bg_2 : w20.cell? ⟨w8.heap.size, 2, none⟩ = some (.string y2) := bg.cell 2
      have bg_3 : w20.cell? ⟨w8.heap.size, 3, none⟩ = some (.int .i64 y3) := bg.cell 3
      have bg_4 : w20.cell? ⟨w8.heap.size, 4, none⟩ = some (.slice Gg y4.length gg) := bg.cell 4
      have bg_l := bg.lt
      have bh_0 : w20.cell? ⟨gbh, 0, none⟩ = some (.int .i64 y0) := bh.cell 0
      have bh_1 : w20.cell? ⟨gbh, 1, none⟩ = some (.int .i64 y1) := bh.cell 1
      have bh_2 : w20.cell? ⟨gbh, 2, none⟩ = some (.string y2) := bh.cell 2
      have bh_3 : w20.cell? ⟨gbh, 3, none⟩ = some (.int .i64 y3) := bh.cell 3
      have bh_4 : w20.cell? ⟨gbh, 4, none⟩ = some (.slice Gh y4.length gh) := bh.cell 4
      have bh_l := bh.lt
      go_wp2_with fail
      clear bA_0 bA_1 bA_2 bA_3 bA_4 bA_l
      clear bB_0 bB_1 bB_2 bB_3 bB_4 bB_l
      clear bw_0 bw_1 bw_2 bw_3 bw_4 bw_l
      clear bx_0 bx_1 bx_2 bx_3 bx_4 bx_l
      clear by__0 by__1 by__2 by__3 by__4 by__l
      clear bg_0 bg_1 bg_2 bg_3 bg_4 bg_l
      clear bh_0 bh_1 bh_2 bh_3 bh_4 bh_l
      go_ret
      exact ⟨rfl, hB⟩
noncomputable abbrev laidHere : List (String × DataW Unit) := [("math/bits.deBruijn32tab", Rows.laid_math_bits_deBruijn32tab), ("math/bits.deBruijn64tab", Rows.laid_math_bits_deBruijn64tab), ("internal/strconv.uint64pow10", Rows.laid_internal_strconv_uint64pow10), ("strconv.ErrRange", Rows.laid_strconv_ErrRange), ("strconv.ErrSyntax", Rows.laid_strconv_ErrSyntax)]
set_option maxRecDepth 100000 in
theorem fnExactIndexValue_lifted (os : Os) (started : os.Started) (H : Type) (enc : TypeId × Value → H) :
    ReturnsInHanded {} Tryd.checked os 3 .any (fun w args => (Rows.fnExactIndexValueSpec.pre enc Tryd.prog Tryd.f3 Rows.fnExactIndexValueRow.domain false w args ∧ laidMetH Tryd.prog laidHere w) ∧ sizedMet enc Tryd.prog Tryd.f3 (OpenSpec.ofChange Rows.fnExactIndexValueSpec) false w args) (Rows.fnExactIndexValueSpec.post enc Tryd.prog Tryd.f3 false true false false) := by
  refine handed_tabs (C := Tryd.checked) (X := fun w _ => laidMetH Tryd.prog laidHere w) (Y := fun w => TabV w) own started (by kernel_rfl) Tryd.func3 (fun w w' _ e h => TabV.of_heap e ⟨(laid_one "internal/strconv.uint64pow10" (k := .u64) (zs := Lib.pow10Tab) (g := 2) (t := 124) (e := 104) (n := 20) (by kernel_rfl) (by kernel_rfl) (by kernel_rfl) (by kernel_rfl) (by kernel_rfl) (by kernel_rfl) (by kernel_rfl) (by kernel_rfl) h), laid_err "strconv.ErrSyntax" (text := [105, 110, 118, 97, 108, 105, 100, 32, 115, 121, 110, 116, 97, 120]) (g := 0) (by kernel_rfl) (by kernel_rfl) (by kernel_rfl) (by kernel_rfl) h, laid_err "strconv.ErrRange" (text := [118, 97, 108, 117, 101, 32, 111, 117, 116, 32, 111, 102, 32, 114, 97, 110, 103, 101]) (g := 1) (by kernel_rfl) (by kernel_rfl) (by kernel_rfl) (by kernel_rfl) h⟩)
    (ChangeSpec.witness_shaped (enc := enc) (C := Tryd.checked) (os := os) (X := fun w _ => laidMetH Tryd.prog laidHere w) false (World.laidAll Tryd.prog os laidHere) #[.agg #[.int .i64 0, .int .i64 0, .string ByteArray.empty, .int .i64 0, .slice none 0 0], .agg #[.int .i64 0, .int .i64 0, .string ByteArray.empty, .int .i64 0, .slice none 0 0]] 8 (World.laidAll_os _ _ _)
      (World.shaped_of_ZipB (by kernel_rfl) (by kernel_rfl)) (by kernel_rfl) (by kernel_rfl) (by kernel_rfl)
      (by rw [MakeChecks.laidMetH_plain _ _ _ (by kernel_rfl)]; exact laidMet_laidAll _ (by kernel_rfl) (by kernel_rfl))) ?_
  intro W base args ds gs before hval0 hW hsh hY
  have hval : ∀ (j : Nat) t v, Tryd.f3.params[j]? = some t → args[j]? = some v → Value.okWide Tryd.prog W .any base t v := hval0
  have hW' := hW
  obtain ⟨p, q, hA0, hV, rfl, hfz, hnd⟩ := hW
  have hA : DataW.TrodAll enc Tryd.prog W 0 (fun _ => true) true Tryd.f3.params.toList args.toList ds p := hA0
  rw [Tryd.params3] at hA hval
  obtain ⟨v0, vs0, d0, ds0, p0, q0, hargs, rfl, rfl, h0, r0⟩ := trodAll_cons hA
  obtain ⟨v1, vs1, d1, ds1, p1, q1, rfl, rfl, rfl, h1, r1⟩ := trodAll_cons r0
  obtain ⟨rfl, rfl, rfl⟩ := trodAll_nil r1
  obtain rfl : args = #[v0, v1] := by cases args; simp_all
  obtain ⟨rfl, rfl⟩ := trodVars_none hV
  have lt0 : ∀ x ∈ p0, x.block < W.heap.size := by obtain ⟨m, hm⟩ := h0; exact DataW.trod_lt m _ _ _ hm
  have lt1 : ∀ x ∈ p1, x.block < W.heap.size := by obtain ⟨m, hm⟩ := h1; exact DataW.trod_lt m _ _ _ hm
  have k0 := hval 0 24 v0 rfl rfl
  have k1 := hval 1 24 v1 rfl rfl
  clear hA0 hval0
  refine (fnExactIndexValue_walk W base v0 v1 k0 k1 h0 h1 hsh hY).mono fun e W' ⟨he, bel⟩ => ?_
  subst he
  exact ⟨_, rfl, _, _, _, [], _, [], hW', trodAll_mk1 (shut_bool Tryd.underlying4 _), (trodAll_cons_mk (Below.trod laidOut (by kernel_rfl) (of_decide_eq_true (by kernel_rfl)) h0 bel lt0) (trodAll_cons_mk (Below.trod laidOut (by kernel_rfl) (of_decide_eq_true (by kernel_rfl)) h1 bel lt1) trodAll_mk0)), rfl, bel.frame _, fun h => by cases h⟩

theorem fnExactIndexValue_holds : Rows.FnExactIndexValueSaid :=
  OpenClaim.holds_of_wide 3 Tryd.f3 rfl rfl rfl rfl rfl rfl rfl ⟨rfl, rfl, rfl, rfl, rfl⟩ rfl rfl rfl rfl rfl (by kernel_rfl) Tryd.func3 (by kernel_rfl)
    (of_decide_eq_true (by kernel_rfl)) (by unfold Func.isWrapper; rw [if_neg (of_decide_eq_false (by kernel_rfl))]; exact ⟨rfl, rfl⟩)
    (fun os started H enc _ => fnExactIndexValue_lifted os started H enc)
theorem fnExactIndexValue_card_holds : Rows.FnExactIndexValueCardSaid :=
  Claim7.holds_tied_plain_at .later [] [.data, .data, .data, .sentinel, .sentinel] true (true, "5d54cd506b4e857d721d991926bbf6b302d0d6ac88292ffc2b94b288a5bf4593") true fnExactIndexValue_holds (fun _ h => by cases h) (by kernel_rfl) (fun _ h => by cases h) fnExactIndexValue_row_tie rfl ⟨rfl, rfl⟩ (by kernel_rfl) rfl
    (fun f fn hf hfn => by
      obtain rfl : f = 3 := Option.some.inj ((show Tryd.prog.funcNamed "loop.example/g03011/laws.FnExactIndexValue" = some 3 by kernel_rfl).symm.trans hf) |>.symm
      obtain rfl : fn = Tryd.f3 := (Option.some.inj (Tryd.func3.symm.trans hfn)).symm
      exact ⟨by kernel_rfl, fun j t ht => by
        rw [Tryd.params3] at ht
        have hm : t ∈ [24, 24] := by simpa using Array.mem_of_getElem? ht
        have hall : ([24, 24].all fun u => !Tryd.prog.wantsStandIn u) = true := by kernel_rfl
        exact (show Tryd.prog.wantsStandIn t = false by simpa using List.all_eq_true.1 hall t hm)⟩)
    (by kernel_rfl)
#print axioms fnExactIndexValue_card_holds

end Go.Proofs.YtgbeenieacnanaaDoor
