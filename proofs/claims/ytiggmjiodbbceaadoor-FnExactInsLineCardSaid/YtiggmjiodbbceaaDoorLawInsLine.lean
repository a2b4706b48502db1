/-
  The law 'FnExactInsLine' returns true for every input and leaves its arguments as they read. Conditions: none.
-/
import Derived.Test.YtiggmjiodbbceaaDoorTab
import Derived.Test.YtiggmjiodbbceaaDoorLnI
import Derived.Test.YtiggmjiodbbceaaDoorLnS
import Derived.Test.YtiggmjiodbbceaaDoorToR
import Derived.Test.YtiggmjiodbbceaaDoorSzR
namespace Go.Proofs.YtiggmjiodbbceaaDoor
open Go.ChangeShapes Go.WideShapes Go.ChangeAt Go.RowKit Go.Deep Go.Joins
open Go.ChangeMaps (open_string shut_string)
set_option linter.unusedVariables false
set_option linter.unusedSimpArgs false
set_option maxRecDepth 100000

set_option maxHeartbeats 4000000 in
theorem fnExactInsLine_walk {H : Type} {enc : TypeId × Value → H} (W : World) (base : Nat) (v0 : Value) {d0 : DataW H} {p0 : List MemPlace}
    (k0 : Value.okWide Tryd.prog W .any base 25 v0)
    (h0 : DataW.Trod enc Tryd.prog W 0 (fun _ => true) true 25 v0 d0 p0) (hsh : W.ShapedOpen Tryd.prog) (hY : TabA W ∧ TabP W) :
    Calls Tryd.prog 4 #[v0] W fun e w' => e = .returned (.bool true) ∧ Below W.heap.size W w' := by
  clear hsh
  obtain ⟨hYA, hYP⟩ := hY
  have TA := Lib.hid hYA
  clear hYA
  have TP := Lib.hid hYP
  clear hYP
  obtain ⟨cs0, rfl, hcs0⟩ := okWide_struct (fs := flds Tryd.prog 25) (by kernel_rfl) k0
  obtain ⟨fu, hfu⟩ := h0
  obtain ⟨x, r, ok⟩ := read_Ins fu _ _ hfu
  obtain ⟨z0, z1, z2, z3, z4⟩ := x
  have RV0 := r
  rw [FIns.c_eq] at r
  obtain ⟨us, hus⟩ : ∃ us, us = cs0.toList := ⟨_, rfl⟩
  have hus2 : cs0 = us.toArray := by rw [hus]
  subst hus2
  clear hus
  have r_ : RdVs W W.heap.size [.v (.int .i64 z0), .v (.int .i64 z1), .v (.int .i64 z2), .v (.string z3), .v (.string z4)] us := by simpa [Value.cells] using r
  have RV1 : RdVs W W.heap.size (FIns.c ⟨z0, z1, z2, z3, z4⟩) us := by simpa [Value.cells] using RV0
  clear r RV0 hfu k0 hcs0
  obtain ⟨us0, rfl, r_0⟩ := r_.unv
  obtain ⟨us1, rfl, r_1⟩ := r_0.unv
  obtain ⟨us2, rfl, r_2⟩ := r_1.unv
  obtain ⟨us3, rfl, r_3⟩ := r_2.unv
  obtain ⟨us4, rfl, r_4⟩ := r_3.unv
  obtain rfl := r_4.un0
  clear r_ r_0 r_1 r_2 r_3 r_4
  have RV := Lib.hid RV1
  have OK := Lib.hid ok
  clear RV1 ok
  by_cases hn : (((FIns.wt ⟨z0, z1, z2, z3, z4⟩) : Nat) : Int) ≤ 1048576
  case neg =>
    have HP := Lib.hid (bud_neg hn)
    have hp : bud 1048576 (FIns.wt ⟨z0, z1, z2, z3, z4⟩) < 0 := by rw [HP.out]; omega
    go_enter Tryd.func4, Tryd.ntmps4
    go_wp2_with fail
    refine calls_worldD _ (fun X => Blk X W.heap.size 25 #[.int .i64 z0, .int .i64 z1, .int .i64 z2, .string z3, .string z4] ∧ Below W.heap.size W X ∧ W.heap.size < X.heap.size) ⟨Blk.new _ _ _, (Below.refl _ _).alloc (Nat.le_refl _) _, by simp⟩ ?_
    rintro w0 ⟨bA, hB0, s0⟩
    refine (szIns_any ⟨z0, z1, z2, z3, z4⟩ OK.out [.int .i64 z0, .int .i64 z1, .int .i64 z2, .string z3, .string z4] _ _ W.heap.size (by omega) (by omega) (by omega) (RV.out.on hB0 (Nat.le_refl _) (Nat.le_refl _))).mono ?_
    rintro e w1 ⟨rfl, hb⟩
    have hB := hB0.trans (hb.mono (by omega))
    replace bA := bA.below hb (Nat.le_refl _)
    have bA_0 : w1.cell? ⟨W.heap.size, 0, none⟩ = some (.int .i64 z0) := bA.cell 0
    have bA_1 : w1.cell? ⟨W.heap.size, 1, none⟩ = some (.int .i64 z1) := bA.cell 1
    have bA_2 : w1.cell? ⟨W.heap.size, 2, none⟩ = some (.int .i64 z2) := bA.cell 2
    have bA_3 : w1.cell? ⟨W.heap.size, 3, none⟩ = some (.string z3) := bA.cell 3
    have bA_4 : w1.cell? ⟨W.heap.size, 4, none⟩ = some (.string z4) := bA.cell 4
    go_wp2_with fail
    go_ret
    exact ⟨rfl, hB⟩
  have hw : (FIns.wt ⟨z0, z1, z2, z3, z4⟩) ≤ 1048576 := by omega
  have HWx := Lib.hid (show (FIns.wt ⟨z0, z1, z2, z3, z4⟩) ≤ 1000000000 by omega)
  have HP := Lib.hid (bud_pos hn)
  have hp : 0 ≤ bud 1048576 (FIns.wt ⟨z0, z1, z2, z3, z4⟩) := by rw [HP.out]; omega
  clear HP
  have hok := OK.out
  rw [FIns.ok_eq] at hok
  obtain ⟨_, _, _, ga0, ga1, gb0, gb1⟩ := hok
  have RA := Lib.hid (And.intro ga0 ga1)
  have RB := Lib.hid (And.intro gb0 gb1)
  clear ga0 ga1 gb0 gb1
  have hw5 := hw
  rw [FIns.wt_eq] at hw5
  have hs3 : z3.size ≤ 1000000000 := by omega
  have hs4 : z4.size ≤ 1000000000 := by omega
  clear hw5
  generalize hg0 : insLn z0 z1 z2 z3 z4 = gt at *
  have HG0 := Lib.hid hg0
  clear hg0
  go_enter Tryd.func4, Tryd.ntmps4
  go_wp2_with fail
  refine calls_worldD _ (fun X => Blk X W.heap.size 25 #[.int .i64 z0, .int .i64 z1, .int .i64 z2, .string z3, .string z4] ∧ Below W.heap.size W X ∧ W.heap.size < X.heap.size) ⟨Blk.new _ _ _, (Below.refl _ _).alloc (Nat.le_refl _) _, by simp⟩ ?_
  rintro w0 ⟨bA, hB0, s0⟩
  refine (szIns_any ⟨z0, z1, z2, z3, z4⟩ OK.out [.int .i64 z0, .int .i64 z1, .int .i64 z2, .string z3, .string z4] _ _ W.heap.size (by omega) (by omega) (by omega) (RV.out.on hB0 (Nat.le_refl _) (Nat.le_refl _))).mono ?_
  have hB := hB0
  clear hB0
  rintro e w1 ⟨rfl, hb⟩
  replace bA := bA.below hb (Nat.le_refl _)
  replace hB := hB.trans (hb.mono (by omega))
  have s1 : w0.heap.size ≤ w1.heap.size := hb.size
  clear hb
  have bA_0 : w1.cell? ⟨W.heap.size, 0, none⟩ = some (.int .i64 z0) := bA.cell 0
  have bA_1 : w1.cell? ⟨W.heap.size, 1, none⟩ = some (.int .i64 z1) := bA.cell 1
  have bA_2 : w1.cell? ⟨W.heap.size, 2, none⟩ = some (.int .i64 z2) := bA.cell 2
  have bA_3 : w1.cell? ⟨W.heap.size, 3, none⟩ = some (.string z3) := bA.cell 3
  have bA_4 : w1.cell? ⟨W.heap.size, 4, none⟩ = some (.string z4) := bA.cell 4
  have bA_l := bA.lt
  go_wp2_with fail
  clear bA_0 bA_1 bA_2 bA_3 bA_4 bA_l
  refine (toIns_any ⟨z0, z1, z2, z3, z4⟩ hw [.int .i64 z0, .int .i64 z1, .int .i64 z2, .string z3, .string z4] _ W.heap.size (by omega) (RV.out.on hB (Nat.le_refl _) (Nat.le_refl _))).mono ?_
  rw [FIns.c_eq]
  rintro e w2 ⟨us, rfl, own, hb⟩
  replace bA := bA.below hb (Nat.le_refl _)
  replace hB := hB.trans (hb.mono (by omega))
  have s2 : w1.heap.size ≤ w2.heap.size := hb.size
  clear hb
  have hv := own.vs
  obtain ⟨us_0, rfl, hv_0⟩ := hv.unv
  obtain ⟨us_1, rfl, hv_1⟩ := hv_0.unv
  obtain ⟨us_2, rfl, hv_2⟩ := hv_1.unv
  obtain ⟨us_3, rfl, hv_3⟩ := hv_2.unv
  obtain ⟨us_4, rfl, hv_4⟩ := hv_3.unv
  obtain rfl := hv_4.un0
  clear hv hv_0 hv_1 hv_2 hv_3 hv_4
  have iu := own
  clear own
  have bA_0 : w2.cell? ⟨W.heap.size, 0, none⟩ = some (.int .i64 z0) := bA.cell 0
  have bA_1 : w2.cell? ⟨W.heap.size, 1, none⟩ = some (.int .i64 z1) := bA.cell 1
  have bA_2 : w2.cell? ⟨W.heap.size, 2, none⟩ = some (.int .i64 z2) := bA.cell 2
  have bA_3 : w2.cell? ⟨W.heap.size, 3, none⟩ = some (.string z3) := bA.cell 3
  have bA_4 : w2.cell? ⟨W.heap.size, 4, none⟩ = some (.string z4) := bA.cell 4
  have bA_l := bA.lt
  go_wp2_with fail
  clear bA_0 bA_1 bA_2 bA_3 bA_4 bA_l
  refine (Line_spec z0 z1 z2 z3 z4 RA.out.1 RA.out.2 RB.out.1 RB.out.2 hs3 hs4 _).mono ?_
  rw [HG0.out]
  rintro e w3 ⟨rfl, hb⟩
  replace bA := bA.below hb (Nat.le_refl _)
  replace iu := iu.below hb (Nat.le_refl _)
  replace hB := hB.trans (hb.mono (by omega))
  have s3 : w2.heap.size ≤ w3.heap.size := hb.size
  clear hb
  clear iu
  have bA_0 : w3.cell? ⟨W.heap.size, 0, none⟩ = some (.int .i64 z0) := bA.cell 0
  have bA_1 : w3.cell? ⟨W.heap.size, 1, none⟩ = some (.int .i64 z1) := bA.cell 1
  have bA_2 : w3.cell? ⟨W.heap.size, 2, none⟩ = some (.int .i64 z2) := bA.cell 2
  have bA_3 : w3.cell? ⟨W.heap.size, 3, none⟩ = some (.string z3) := bA.cell 3
  have bA_4 : w3.cell? ⟨W.heap.size, 4, none⟩ = some (.string z4) := bA.cell 4
  have bA_l := bA.lt
  go_wp2_with fail
  clear bA_0 bA_1 bA_2 bA_3 bA_4 bA_l
  refine (toIns_any ⟨z0, z1, z2, z3, z4⟩ hw [.int .i64 z0, .int .i64 z1, .int .i64 z2, .string z3, .string z4] _ W.heap.size (by omega) (RV.out.on hB (Nat.le_refl _) (Nat.le_refl _))).mono ?_
  rw [FIns.c_eq]
  rintro e w4 ⟨us, rfl, own, hb⟩
  replace bA := bA.below hb (Nat.le_refl _)
  replace hB := hB.trans (hb.mono (by omega))
  have s4 : w3.heap.size ≤ w4.heap.size := hb.size
  clear hb
  have hv := own.vs
  obtain ⟨us_0, rfl, hv_0⟩ := hv.unv
  obtain ⟨us_1, rfl, hv_1⟩ := hv_0.unv
  obtain ⟨us_2, rfl, hv_2⟩ := hv_1.unv
  obtain ⟨us_3, rfl, hv_3⟩ := hv_2.unv
  obtain ⟨us_4, rfl, hv_4⟩ := hv_3.unv
  obtain rfl := hv_4.un0
  clear hv hv_0 hv_1 hv_2 hv_3 hv_4
  have ix := own
  clear own
  have bA_0 : w4.cell? ⟨W.heap.size, 0, none⟩ = some (.int .i64 z0) := bA.cell 0
  have bA_1 : w4.cell? ⟨W.heap.size, 1, none⟩ = some (.int .i64 z1) := bA.cell 1
  have bA_2 : w4.cell? ⟨W.heap.size, 2, none⟩ = some (.int .i64 z2) := bA.cell 2
  have bA_3 : w4.cell? ⟨W.heap.size, 3, none⟩ = some (.string z3) := bA.cell 3
  have bA_4 : w4.cell? ⟨W.heap.size, 4, none⟩ = some (.string z4) := bA.cell 4
  have bA_l := bA.lt
  go_wp2_with fail
  clear bA_0 bA_1 bA_2 bA_3 bA_4 bA_l
  refine (Line_impl z0 z1 z2 z3 z4 RA.out.1 RA.out.2 RB.out.1 RB.out.2 hs3 hs4 _ (TA.out.below hB) (TP.out.below hB)).mono ?_
  rw [HG0.out]
  rintro e w5 ⟨rfl, hb⟩
  replace bA := bA.below hb (Nat.le_refl _)
  replace ix := ix.below hb (Nat.le_refl _)
  replace hB := hB.trans (hb.mono (by omega))
  have s5 : w4.heap.size ≤ w5.heap.size := hb.size
  clear hb
  have bA_0 : w5.cell? ⟨W.heap.size, 0, none⟩ = some (.int .i64 z0) := bA.cell 0
  have bA_1 : w5.cell? ⟨W.heap.size, 1, none⟩ = some (.int .i64 z1) := bA.cell 1
  have bA_2 : w5.cell? ⟨W.heap.size, 2, none⟩ = some (.int .i64 z2) := bA.cell 2
  have bA_3 : w5.cell? ⟨W.heap.size, 3, none⟩ = some (.string z3) := bA.cell 3
  have bA_4 : w5.cell? ⟨W.heap.size, 4, none⟩ = some (.string z4) := bA.cell 4
  have bA_l := bA.lt
  go_wp2_with fail
  clear bA_0 bA_1 bA_2 bA_3 bA_4 bA_l
  go_ret
  exact ⟨rfl, hB⟩
noncomputable abbrev laidHere : List (String × DataW Unit) := [("math/bits.deBruijn32tab", Rows.laid_math_bits_deBruijn32tab), ("math/bits.deBruijn64tab", Rows.laid_math_bits_deBruijn64tab), ("internal/strconv.uint64pow10", Rows.laid_internal_strconv_uint64pow10), ("unicode.White_Space", Rows.laid_unicode_White_Space), ("strings.asciiSpace", Rows.laid_strings_asciiSpace)]
set_option maxRecDepth 100000 in
theorem fnExactInsLine_lifted (os : Os) (started : os.Started) (H : Type) (enc : TypeId × Value → H) :
    ReturnsInHanded {} Tryd.checked os 4 .any (fun w args => (Rows.fnExactInsLineSpec.pre enc Tryd.prog Tryd.f4 Rows.fnExactInsLineRow.domain false w args ∧ laidMetH Tryd.prog laidHere w) ∧ sizedMet enc Tryd.prog Tryd.f4 (OpenSpec.ofChange Rows.fnExactInsLineSpec) false w args) (Rows.fnExactInsLineSpec.post enc Tryd.prog Tryd.f4 false true false false) := by
  refine handed_tabs (C := Tryd.checked) (X := fun w _ => laidMetH Tryd.prog laidHere w) (Y := fun w => TabA w ∧ TabP w) own started (by kernel_rfl) Tryd.func4 (fun w w' _ e h => ⟨TabA.of_heap e ((laid_one "strings.asciiSpace" (k := .u8) (zs := Lib.asciiSpaceTab) (g := 0) (t := 79) (e := 5) (n := 256) (by kernel_rfl) (by kernel_rfl) (by kernel_rfl) (by kernel_rfl) (by kernel_rfl) (by kernel_rfl) (by kernel_rfl) (by kernel_rfl) h)), TabP.of_heap e ((laid_one "internal/strconv.uint64pow10" (k := .u64) (zs := Lib.pow10Tab) (g := 2) (t := 130) (e := 124) (n := 20) (by kernel_rfl) (by kernel_rfl) (by kernel_rfl) (by kernel_rfl) (by kernel_rfl) (by kernel_rfl) (by kernel_rfl) (by kernel_rfl) h))⟩)
    (ChangeSpec.witness_shaped (enc := enc) (C := Tryd.checked) (os := os) (X := fun w _ => laidMetH Tryd.prog laidHere w) false (World.laidAll Tryd.prog os laidHere) #[.agg #[.int .i64 0, .int .i64 0, .int .i64 0, .string ByteArray.empty, .string ByteArray.empty]] 8 (World.laidAll_os _ _ _)
      (World.shaped_of_ZipB (by kernel_rfl) (by kernel_rfl)) (by kernel_rfl) (by kernel_rfl) (by kernel_rfl)
      (by rw [MakeChecks.laidMetH_plain _ _ _ (by kernel_rfl)]; exact laidMet_laidAll _ (by kernel_rfl) (by kernel_rfl))) ?_
  intro W base args ds gs before hval0 hW hsh hY
  have hval : ∀ (j : Nat) t v, Tryd.f4.params[j]? = some t → args[j]? = some v → Value.okWide Tryd.prog W .any base t v := hval0
  have hW' := hW
  obtain ⟨p, q, hA0, hV, rfl, hfz, hnd⟩ := hW
  have hA : DataW.TrodAll enc Tryd.prog W 0 (fun _ => true) true Tryd.f4.params.toList args.toList ds p := hA0
  rw [Tryd.params4] at hA hval
  obtain ⟨v0, vs0, d0, ds0, p0, q0, hargs, rfl, rfl, h0, r0⟩ := trodAll_cons hA
  obtain ⟨rfl, rfl, rfl⟩ := trodAll_nil r0
  obtain rfl : args = #[v0] := by cases args; simp_all
  obtain ⟨rfl, rfl⟩ := trodVars_none hV
  have lt0 : ∀ x ∈ p0, x.block < W.heap.size := by obtain ⟨m, hm⟩ := h0; exact DataW.trod_lt m _ _ _ hm
  have k0 := hval 0 25 v0 rfl rfl
  clear hA0 hval0
  refine (fnExactInsLine_walk W base v0 k0 h0 hsh hY).mono fun e W' ⟨he, bel⟩ => ?_
  subst he
  exact ⟨_, rfl, _, _, _, [], _, [], hW', trodAll_mk1 (shut_bool Tryd.underlying4 _), (trodAll_cons_mk (Below.trod laidOut (by kernel_rfl) (of_decide_eq_true (by kernel_rfl)) h0 bel lt0) trodAll_mk0), rfl, bel.frame _, fun h => by cases h⟩

theorem fnExactInsLine_holds : Rows.FnExactInsLineSaid :=
  OpenClaim.holds_of_wide 4 Tryd.f4 rfl rfl rfl rfl rfl rfl rfl ⟨rfl, rfl, rfl, rfl, rfl⟩ rfl rfl rfl rfl rfl (by kernel_rfl) Tryd.func4 (by kernel_rfl)
    (of_decide_eq_true (by kernel_rfl)) (by unfold Func.isWrapper; rw [if_neg (of_decide_eq_false (by kernel_rfl))]; exact ⟨rfl, rfl⟩)
    (fun os started H enc _ => fnExactInsLine_lifted os started H enc)
theorem fnExactInsLine_card_holds : Rows.FnExactInsLineCardSaid :=
  Claim7.holds_tied_plain_at .later [] [.data, .data, .data, .listed, .data] true (true, "a88a26dc5ba837cc723deeb28d8407dc4e19141f3428d57305b97b914c0e3569") false fnExactInsLine_holds (fun _ h => by cases h) (by kernel_rfl) (fun _ h => by cases h) fnExactInsLine_row_tie rfl ⟨rfl, rfl⟩ (by kernel_rfl) rfl
    (fun f fn hf hfn => by
      obtain rfl : f = 4 := Option.some.inj ((show Tryd.prog.funcNamed "loop.example/g03011/laws.FnExactInsLine" = some 4 by kernel_rfl).symm.trans hf) |>.symm
      obtain rfl : fn = Tryd.f4 := (Option.some.inj (Tryd.func4.symm.trans hfn)).symm
      exact ⟨by kernel_rfl, fun j t ht => by
        rw [Tryd.params4] at ht
        have hm : t ∈ [25] := by simpa using Array.mem_of_getElem? ht
        have hall : ([25].all fun u => !Tryd.prog.wantsStandIn u) = true := by kernel_rfl
        exact (show Tryd.prog.wantsStandIn t = false by simpa using List.all_eq_true.1 hall t hm)⟩)
    (by kernel_rfl)
#print axioms fnExactInsLine_card_holds

end Go.Proofs.YtiggmjiodbbceaaDoor
