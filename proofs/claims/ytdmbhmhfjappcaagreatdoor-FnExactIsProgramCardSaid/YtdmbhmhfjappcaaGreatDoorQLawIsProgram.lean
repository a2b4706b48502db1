/-
  The law 'FnExactIsProgram' returns true for every input and leaves its arguments as they read. Conditions: none.
-/
import Derived.Test.YtdmbhmhfjappcaaGreatDoorQGBasePsV
import Derived.Test.YtdmbhmhfjappcaaGreatDoorQIpI
import Derived.Test.YtdmbhmhfjappcaaGreatDoorQIpS
import Derived.Test.YtdmbhmhfjappcaaGreatDoorQToG
import Derived.Test.YtdmbhmhfjappcaaGreatDoorQSzG
import Derived.Test.YtdmbhmhfjappcaaGreatDoorQEqG
namespace Go.Proofs.YtdmbhmhfjappcaaGreatDoor
open Go.ChangeShapes Go.WideShapes Go.ChangeAt Go.RowKit Go.Deep Go.Joins
open Go.ChangeMaps (open_string shut_string)
set_option linter.unusedVariables false
set_option linter.unusedSimpArgs false
set_option maxRecDepth 100000

set_option maxHeartbeats 4000000 in
theorem fnExactIsProgram_walk {H : Type} {enc : TypeId × Value → H} (W : World) (base : Nat) (v0 : Value) {d0 : DataW H} {p0 : List MemPlace}
    (k0 : Value.okWide Tryz.prog W .any base 25 v0)
    (h0 : DataW.Trod enc Tryz.prog W 0 (fun _ => true) true 25 v0 d0 p0) (hsh : W.ShapedOpen Tryz.prog) (hY : TabV W) :
    Calls Tryz.prog 3 #[v0] W fun e w' => e = .returned (.bool true) ∧ Below W.heap.size W w' := by
  have TV := Lib.hid hY
  clear hsh hY
  obtain ⟨cs0, rfl, hcs0⟩ := okWide_struct (fs := flds Tryz.prog 25) (by kernel_rfl) k0
  obtain ⟨fu, hfu⟩ := h0
  obtain ⟨x, r, ok⟩ := read_Program fu _ _ hfu
  obtain ⟨z0, z1⟩ := x
  have RV0 := r
  rw [FProgram.c_eq] at r
  obtain ⟨us, hus⟩ : ∃ us, us = cs0.toList := ⟨_, rfl⟩
  have hus2 : cs0 = us.toArray := by rw [hus]
  subst hus2
  clear hus
  have r_ : RdVs W W.heap.size [.s 51 6 z0.length (FFunc.flat z0), .s 40 4 z1.length (FClass.flat z1)] us := by simpa [Value.cells] using r
  have RV1 : RdVs W W.heap.size (FProgram.c ⟨z0, z1⟩) us := by simpa [Value.cells] using RV0
  clear r RV0 hfu k0 hcs0
  obtain ⟨A0, c0, us0, rfl, _, r_0⟩ := r_.uns
  obtain ⟨A1, c1, us1, rfl, _, r_1⟩ := r_0.uns
  obtain rfl := r_1.un0
  clear r_ r_0 r_1
  have RV := Lib.hid RV1
  have OK := Lib.hid ok
  clear RV1 ok
  by_cases hn : (((FProgram.wt ⟨z0, z1⟩) : Nat) : Int) ≤ 1048576
  case neg =>
    have HP := Lib.hid (bud_neg hn)
    have hp : bud 1048576 (FProgram.wt ⟨z0, z1⟩) < 0 := by rw [HP.out]; omega
    go_enter Tryz.func3, Tryz.ntmps3
    go_wp2_with fail
    refine calls_worldD _ (fun X => Blk X W.heap.size 25 #[.slice A0 z0.length c0, .slice A1 z1.length c1] ∧ Below W.heap.size W X ∧ W.heap.size < X.heap.size) ⟨Blk.new _ _ _, (Below.refl _ _).alloc (Nat.le_refl _) _, by simp⟩ ?_
    rintro w0 ⟨bA, hB0, s0⟩
    refine (szProgram_any ⟨z0, z1⟩ OK.out [.slice A0 z0.length c0, .slice A1 z1.length c1] _ _ W.heap.size (by omega) (by omega) (by omega) (RV.out.on hB0 (Nat.le_refl _) (Nat.le_refl _))).mono ?_
    rintro e w1 ⟨rfl, hb⟩
    have hB := hB0.trans (hb.mono (by omega))
    replace bA := bA.below hb (Nat.le_refl _)
    have bA_0 : w1.cell? ⟨W.heap.size, 0, none⟩ = some (.slice A0 z0.length c0) := bA.cell 0
    have bA_1 : w1.cell? ⟨W.heap.size, 1, none⟩ = some (.slice A1 z1.length c1) := bA.cell 1
    go_wp2_with fail
    go_ret
    exact ⟨rfl, hB⟩
  have hw : (FProgram.wt ⟨z0, z1⟩) ≤ 1048576 := by omega
  have HWx := Lib.hid (show (FProgram.wt ⟨z0, z1⟩) ≤ 1000000000 by omega)
  have HP := Lib.hid (bud_pos hn)
  have hp : 0 ≤ bud 1048576 (FProgram.wt ⟨z0, z1⟩) := by rw [HP.out]; omega
  clear HP
  generalize hg0 : prF z0 z1 = q at *
  have HG0 := Lib.hid hg0
  clear hg0
  go_enter Tryz.func3, Tryz.ntmps3
  go_wp2_with fail
  refine calls_worldD _ (fun X => Blk X W.heap.size 25 #[.slice A0 z0.length c0, .slice A1 z1.length c1] ∧ Below W.heap.size W X ∧ W.heap.size < X.heap.size) ⟨Blk.new _ _ _, (Below.refl _ _).alloc (Nat.le_refl _) _, by simp⟩ ?_
  rintro w0 ⟨bA, hB0, s0⟩
  refine (szProgram_any ⟨z0, z1⟩ OK.out [.slice A0 z0.length c0, .slice A1 z1.length c1] _ _ W.heap.size (by omega) (by omega) (by omega) (RV.out.on hB0 (Nat.le_refl _) (Nat.le_refl _))).mono ?_
  have hB := hB0
  clear hB0
  rintro e w1 ⟨rfl, hb⟩
  replace bA := bA.below hb (Nat.le_refl _)
  replace hB := hB.trans (hb.mono (by omega))
  have s1 : w0.heap.size ≤ w1.heap.size := hb.size
  clear hb
  have bA_0 : w1.cell? ⟨W.heap.size, 0, none⟩ = some (.slice A0 z0.length c0) := bA.cell 0
  have bA_1 : w1.cell? ⟨W.heap.size, 1, none⟩ = some (.slice A1 z1.length c1) := bA.cell 1
  have bA_l := bA.lt
  go_wp2_with fail
  clear bA_0 bA_1 bA_l
  refine (toProgram_any ⟨z0, z1⟩ hw [.slice A0 z0.length c0, .slice A1 z1.length c1] _ W.heap.size (by omega) (RV.out.on hB (Nat.le_refl _) (Nat.le_refl _))).mono ?_
  rw [FProgram.c_eq]
  rintro e w2 ⟨us, rfl, own, hb⟩
  replace bA := bA.below hb (Nat.le_refl _)
  replace hB := hB.trans (hb.mono (by omega))
  have s2 : w1.heap.size ≤ w2.heap.size := hb.size
  clear hb
  have hv := own.vs
  obtain ⟨U0, Uc0, us_0, rfl, _, hv_0⟩ := hv.uns
  obtain ⟨U1, Uc1, us_1, rfl, _, hv_1⟩ := hv_0.uns
  obtain rfl := hv_1.un0
  clear hv hv_0 hv_1
  have iu := own
  clear own
  have bA_0 : w2.cell? ⟨W.heap.size, 0, none⟩ = some (.slice A0 z0.length c0) := bA.cell 0
  have bA_1 : w2.cell? ⟨W.heap.size, 1, none⟩ = some (.slice A1 z1.length c1) := bA.cell 1
  have bA_l := bA.lt
  go_wp2_with fail
  clear bA_0 bA_1 bA_l
  refine (IsProgram_spec z0 z1 _ _ HWx.out OK.out (B := w2.heap.size) (Nat.le_refl _) (by rw [FProgram.c_eq]; exact iu.vs)).mono ?_
  rw [HG0.out]
  rintro e w3 ⟨rfl, hb⟩
  replace bA := bA.below hb (Nat.le_refl _)
  replace iu := iu.below hb (Nat.le_refl _)
  replace hB := hB.trans (hb.mono (by omega))
  have s3 : w2.heap.size ≤ w3.heap.size := hb.size
  clear hb
  clear iu
  have bA_0 : w3.cell? ⟨W.heap.size, 0, none⟩ = some (.slice A0 z0.length c0) := bA.cell 0
  have bA_1 : w3.cell? ⟨W.heap.size, 1, none⟩ = some (.slice A1 z1.length c1) := bA.cell 1
  have bA_l := bA.lt
  go_wp2_with fail
  clear bA_0 bA_1 bA_l
  refine (toProgram_any ⟨z0, z1⟩ hw [.slice A0 z0.length c0, .slice A1 z1.length c1] _ W.heap.size (by omega) (RV.out.on hB (Nat.le_refl _) (Nat.le_refl _))).mono ?_
  rw [FProgram.c_eq]
  rintro e w4 ⟨us, rfl, own, hb⟩
  replace bA := bA.below hb (Nat.le_refl _)
  replace hB := hB.trans (hb.mono (by omega))
  have s4 : w3.heap.size ≤ w4.heap.size := hb.size
  clear hb
  have hv := own.vs
  obtain ⟨X0, Xc0, us_0, rfl, _, hv_0⟩ := hv.uns
  obtain ⟨X1, Xc1, us_1, rfl, _, hv_1⟩ := hv_0.uns
  obtain rfl := hv_1.un0
  clear hv hv_0 hv_1
  have ix := own
  clear own
  have bA_0 : w4.cell? ⟨W.heap.size, 0, none⟩ = some (.slice A0 z0.length c0) := bA.cell 0
  have bA_1 : w4.cell? ⟨W.heap.size, 1, none⟩ = some (.slice A1 z1.length c1) := bA.cell 1
  have bA_l := bA.lt
  go_wp2_with fail
  clear bA_0 bA_1 bA_l
  refine calls_worldD _ (fun X => Blk X (W.heap.size) 25 #[.slice A0 z0.length c0, .slice A1 z1.length c1] ∧ Blk X (w4.heap.size) 31 #[.slice X0 z0.length Xc0, .slice X1 z1.length Xc1] ∧ OwnI X (w3.heap.size) (w4.heap.size) [.s 51 6 z0.length (FFunc.flat z0), .s 40 4 z1.length (FClass.flat z1)] [.slice X0 z0.length Xc0, .slice X1 z1.length Xc1] ∧ Below W.heap.size W X ∧ w4.heap.size < X.heap.size) ⟨bA.alloc _, Blk.new _ _ _, ix.alloc _, (hB).alloc (by omega) _, by simp⟩ ?_
  clear bA ix hB
  rintro w5 ⟨bA, bx, ix, hB, s5⟩
  refine (IsProgram_impl z0 z1 _ _ HWx.out OK.out (TV.out.up hB (Nat.le_refl _)) (B := w5.heap.size) (Nat.le_refl _) (by rw [FProgram.c_eq]; exact ix.vs)).mono ?_
  rw [HG0.out]
  rintro e w6 ⟨rfl, hb⟩
  replace bA := bA.below hb (Nat.le_refl _)
  replace bx := bx.below hb (Nat.le_refl _)
  replace ix := ix.below hb (Nat.le_refl _)
  replace hB := hB.trans (hb.mono (by omega))
  have s6 : w5.heap.size ≤ w6.heap.size := hb.size
  clear hb
  have bA_0 : w6.cell? ⟨W.heap.size, 0, none⟩ = some (.slice A0 z0.length c0) := bA.cell 0
  have bA_1 : w6.cell? ⟨W.heap.size, 1, none⟩ = some (.slice A1 z1.length c1) := bA.cell 1
  have bA_l := bA.lt
  have bx_0 : w6.cell? ⟨w4.heap.size, 0, none⟩ = some (.slice X0 z0.length Xc0) := bx.cell 0
  have bx_1 : w6.cell? ⟨w4.heap.size, 1, none⟩ = some (.slice X1 z1.length Xc1) := bx.cell 1
  have bx_l := bx.lt
  go_wp2_with fail
  clear bA_0 bA_1 bA_l
  clear bx_0 bx_1 bx_l
  have y0 : w6.cell? ⟨w4.heap.size, 0, none⟩ = some (.slice X0 z0.length Xc0) := bx.cell 0
  have y1 : w6.cell? ⟨w4.heap.size, 1, none⟩ = some (.slice X1 z1.length Xc1) := bx.cell 1
  have y2 : w6.cell? ⟨W.heap.size, 0, none⟩ = some (.slice A0 z0.length c0) := bA.cell 0
  have y3 : w6.cell? ⟨W.heap.size, 1, none⟩ = some (.slice A1 z1.length c1) := bA.cell 1
  have t1 : W.heap.size ≤ w6.drew.heap.size := hB.size
  have TV := Lib.hid (show RdVs w6.drew W.heap.size (FProgram.c ⟨z0, z1⟩) [.slice A0 z0.length c0, .slice A1 z1.length c1] from RV.out.on hB.drew (Nat.le_refl _) (Nat.le_refl _))
  have lA := bA.lt
  have lX := bx.lt
  go_region_held3 (fun w_ => w_.cell? ⟨w4.heap.size, 0, none⟩ = some (.slice X0 z0.length Xc0) ∧ w_.cell? ⟨w4.heap.size, 1, none⟩ = some (.slice X1 z1.length Xc1) ∧ w_.cell? ⟨W.heap.size, 0, none⟩ = some (.slice A0 z0.length c0) ∧ w_.cell? ⟨W.heap.size, 1, none⟩ = some (.slice A1 z1.length c1))
    (first
      | exact ⟨y0, y1, y2, y3⟩
      | exact ⟨((bcell hb1).1 _ _ (by simp; omega)).trans y0, ((bcell hb1).1 _ _ (by simp; omega)).trans y1, ((bcell hb1).1 _ _ (by simp; omega)).trans y2, ((bcell hb1).1 _ _ (by simp; omega)).trans y3⟩
      | exact ⟨((bcell hb2).1 _ _ (by omega)).trans (((bcell zb).1 _ _ (by omega)).trans y0), ((bcell hb2).1 _ _ (by omega)).trans (((bcell zb).1 _ _ (by omega)).trans y1), ((bcell hb2).1 _ _ (by omega)).trans (((bcell zb).1 _ _ (by omega)).trans y2), ((bcell hb2).1 _ _ (by omega)).trans (((bcell zb).1 _ _ (by omega)).trans y3)⟩)
    ((first
      | (go_at_call 6
         refine (toProgram_any ⟨z0, z1⟩ hw [.slice A0 z0.length c0, .slice A1 z1.length c1] _ W.heap.size t1 TV.out).mono ?_
         rw [FProgram.c_eq]
         rintro e wa ⟨us, rfl, own, hb1⟩
         have hv := own.vs
         obtain ⟨Z0, Zc0, us_0, rfl, _, hv_0⟩ := hv.uns
         obtain ⟨Z1, Zc1, us_1, rfl, _, hv_1⟩ := hv_0.uns
         obtain rfl := hv_1.un0
         clear hv hv_0 hv_1
         have O6 := Lib.hid own
         clear own)
      | (go_at_call 8
         have zb : Below w6.heap.size w6 wa := (Below.refl w6.heap.size w6).drew.trans (hb1.mono (by simp))
         have zs := zb.size
         have E1 := Lib.hid (ix.below zb (Nat.le_refl _)).vs
         have E2 := Lib.hid O6.out.vs
         refine (eqProgram_any ⟨z0, z1⟩ HWx.out [.slice X0 z0.length Xc0, .slice X1 z1.length Xc1] [.slice Z0 z0.length Zc0, .slice Z1 z1.length Zc1] _ (by rw [FProgram.c_eq]; exact E1.out) (by rw [FProgram.c_eq]; exact E2.out)).mono ?_
         rintro e wb ⟨rfl, hb2⟩)))
  have hb := zb.trans (hb2.mono zb.size)
  clear hb1 hb2 O6 TV t1 y0 y1 y2 y3
  replace bA := bA.below hb (Nat.le_refl _)
  replace bx := bx.below hb (Nat.le_refl _)
  replace ix := ix.below hb (Nat.le_refl _)
  replace hB := hB.trans (hb.mono (by omega))
  have s7 : w6.heap.size ≤ wb.heap.size := hb.size
  clear hb zb zs E1 E2
  have bA_0 : wb.cell? ⟨W.heap.size, 0, none⟩ = some (.slice A0 z0.length c0) := bA.cell 0
  have bA_1 : wb.cell? ⟨W.heap.size, 1, none⟩ = some (.slice A1 z1.length c1) := bA.cell 1
  have bA_l := bA.lt
  have bx_0 : wb.cell? ⟨w4.heap.size, 0, none⟩ = some (.slice X0 z0.length Xc0) := bx.cell 0
  have bx_1 : wb.cell? ⟨w4.heap.size, 1, none⟩ = some (.slice X1 z1.length Xc1) := bx.cell 1
  have bx_l := bx.lt
  go_wp2_with fail
  clear bA_0 bA_1 bA_l
  clear bx_0 bx_1 bx_l
  go_ret
  exact ⟨rfl, hB⟩
noncomputable abbrev laidHere : List (String × DataW Unit) := [("math/bits.deBruijn32tab", Rows.laid_math_bits_deBruijn32tab), ("math/bits.deBruijn64tab", Rows.laid_math_bits_deBruijn64tab), ("internal/strconv.uint64pow10", Rows.laid_internal_strconv_uint64pow10), ("strconv.ErrRange", Rows.laid_strconv_ErrRange), ("strconv.ErrSyntax", Rows.laid_strconv_ErrSyntax)]
set_option maxRecDepth 100000 in
theorem fnExactIsProgram_lifted (os : Os) (started : os.Started) (H : Type) (enc : TypeId × Value → H) :
    ReturnsInHanded {} Tryz.checked os 3 .any (fun w args => (Rows.fnExactIsProgramSpec.pre enc Tryz.prog Tryz.f3 Rows.fnExactIsProgramRow.domain false w args ∧ laidMetH Tryz.prog laidHere w) ∧ sizedMet enc Tryz.prog Tryz.f3 (OpenSpec.ofChange Rows.fnExactIsProgramSpec) false w args) (Rows.fnExactIsProgramSpec.post enc Tryz.prog Tryz.f3 false true false false) := by
  refine handed_tabs (C := Tryz.checked) (X := fun w _ => laidMetH Tryz.prog laidHere w) (Y := fun w => TabV w) own started (by kernel_rfl) Tryz.func3 (fun w w' _ e h => TabV.of_heap e ⟨(laid_one "internal/strconv.uint64pow10" (k := .u64) (zs := Lib.pow10Tab) (g := 2) (t := 195) (e := 176) (n := 20) (by kernel_rfl) (by kernel_rfl) (by kernel_rfl) (by kernel_rfl) (by kernel_rfl) (by kernel_rfl) (by kernel_rfl) (by kernel_rfl) h), laid_err "strconv.ErrSyntax" (text := [105, 110, 118, 97, 108, 105, 100, 32, 115, 121, 110, 116, 97, 120]) (g := 0) (by kernel_rfl) (by kernel_rfl) (by kernel_rfl) (by kernel_rfl) h, laid_err "strconv.ErrRange" (text := [118, 97, 108, 117, 101, 32, 111, 117, 116, 32, 111, 102, 32, 114, 97, 110, 103, 101]) (g := 1) (by kernel_rfl) (by kernel_rfl) (by kernel_rfl) (by kernel_rfl) h⟩)
    (ChangeSpec.witness_shaped (enc := enc) (C := Tryz.checked) (os := os) (X := fun w _ => laidMetH Tryz.prog laidHere w) false (World.laidAll Tryz.prog os laidHere) #[.agg #[.slice none 0 0, .slice none 0 0]] 8 (World.laidAll_os _ _ _)
      (World.shaped_of_ZipB (by kernel_rfl) (by kernel_rfl)) (by kernel_rfl) (by kernel_rfl) (by kernel_rfl)
      (by rw [MakeChecks.laidMetH_plain _ _ _ (by kernel_rfl)]; exact laidMet_laidAll _ (by kernel_rfl) (by kernel_rfl))) ?_
  intro W base args ds gs before hval0 hW hsh hY
  have hval : ∀ (j : Nat) t v, Tryz.f3.params[j]? = some t → args[j]? = some v → Value.okWide Tryz.prog W .any base t v := hval0
  have hW' := hW
  obtain ⟨p, q, hA0, hV, rfl, hfz, hnd⟩ := hW
  have hA : DataW.TrodAll enc Tryz.prog W 0 (fun _ => true) true Tryz.f3.params.toList args.toList ds p := hA0
  rw [Tryz.params3] at hA hval
  obtain ⟨v0, vs0, d0, ds0, p0, q0, hargs, rfl, rfl, h0, r0⟩ := trodAll_cons hA
  obtain ⟨rfl, rfl, rfl⟩ := trodAll_nil r0
  obtain rfl : args = #[v0] := by cases args; simp_all
  obtain ⟨rfl, rfl⟩ := trodVars_none hV
  have lt0 : ∀ x ∈ p0, x.block < W.heap.size := by obtain ⟨m, hm⟩ := h0; exact DataW.trod_lt m _ _ _ hm
  have k0 := hval 0 25 v0 rfl rfl
  clear hA0 hval0
  refine (fnExactIsProgram_walk W base v0 k0 h0 hsh hY).mono fun e W' ⟨he, bel⟩ => ?_
  subst he
  exact ⟨_, rfl, _, _, _, [], _, [], hW', trodAll_mk1 (shut_bool Tryz.underlying4 _), (trodAll_cons_mk (Below.trod laidOut (by kernel_rfl) (of_decide_eq_true (by kernel_rfl)) h0 bel lt0) trodAll_mk0), rfl, bel.frame _, fun h => by cases h⟩

theorem fnExactIsProgram_holds : Rows.FnExactIsProgramSaid :=
  OpenClaim.holds_of_wide 3 Tryz.f3 rfl rfl rfl rfl rfl rfl rfl ⟨rfl, rfl, rfl, rfl, rfl⟩ rfl rfl rfl rfl rfl (by kernel_rfl) Tryz.func3 (by kernel_rfl)
    (of_decide_eq_true (by kernel_rfl)) (by unfold Func.isWrapper; rw [if_neg (of_decide_eq_false (by kernel_rfl))]; exact ⟨rfl, rfl⟩)
    (fun os started H enc _ => fnExactIsProgram_lifted os started H enc)
theorem fnExactIsProgram_card_holds : Rows.FnExactIsProgramCardSaid :=
  Claim7.holds_tied_plain_at .later [] [.data, .data, .data, .sentinel, .sentinel] true (true, "e099e69654039b37c478cd323e9e498bbc2b145ae92ae62a09c1a7fad81624db") true fnExactIsProgram_holds (fun _ h => by cases h) (by kernel_rfl) (fun _ h => by cases h) fnExactIsProgram_row_tie rfl ⟨rfl, rfl⟩ (by kernel_rfl) rfl
    (fun f fn hf hfn => by
      obtain rfl : f = 3 := Option.some.inj ((show Tryz.prog.funcNamed "loop.example/g03011/laws.FnExactIsProgram" = some 3 by kernel_rfl).symm.trans hf) |>.symm
      obtain rfl : fn = Tryz.f3 := (Option.some.inj (Tryz.func3.symm.trans hfn)).symm
      exact ⟨by kernel_rfl, fun j t ht => by
        rw [Tryz.params3] at ht
        have hm : t ∈ [25] := by simpa using Array.mem_of_getElem? ht
        have hall : ([25].all fun u => !Tryz.prog.wantsStandIn u) = true := by kernel_rfl
        exact (show Tryz.prog.wantsStandIn t = false by simpa using List.all_eq_true.1 hall t hm)⟩)
    (by kernel_rfl)
#print axioms fnExactIsProgram_card_holds

end Go.Proofs.YtdmbhmhfjappcaaGreatDoor
