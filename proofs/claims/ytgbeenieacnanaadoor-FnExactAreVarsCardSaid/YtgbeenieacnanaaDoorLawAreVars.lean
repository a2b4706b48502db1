/-
  The law 'FnExactAreVars' returns true for every input and leaves its arguments as they read. Conditions: none.
-/
import Derived.Test.YtgbeenieacnanaaDoorPsV
import Derived.Test.YtgbeenieacnanaaDoorAvI
import Derived.Test.YtgbeenieacnanaaDoorAvS
import Derived.Test.YtgbeenieacnanaaDoorToB
import Derived.Test.YtgbeenieacnanaaDoorSzB
import Derived.Test.YtgbeenieacnanaaDoorEqB
namespace Go.Proofs.YtgbeenieacnanaaDoor
open Go.ChangeShapes Go.WideShapes Go.ChangeAt Go.RowKit Go.Deep Go.Joins
open Go.ChangeMaps (open_string shut_string)
set_option linter.unusedVariables false
set_option linter.unusedSimpArgs false
set_option maxRecDepth 100000

set_option maxHeartbeats 4000000 in
theorem fnExactAreVars_walk {H : Type} {enc : TypeId × Value → H} (W : World) (base : Nat) (v0 : Value) {d0 : DataW H} {p0 : List MemPlace}
    (k0 : Value.okWide Tryd.prog W .any base 35 v0)
    (h0 : DataW.Trod enc Tryd.prog W 0 (fun _ => true) true 35 v0 d0 p0) (hsh : W.ShapedOpen Tryd.prog) (hY : TabV W) :
    Calls Tryd.prog 4 #[v0] W fun e w' => e = .returned (.bool true) ∧ Below W.heap.size W w' := by
  have TV := Lib.hid hY
  clear hsh hY
  obtain ⟨A0, le0, c0, rfl⟩ := okWide_slice Tryd.underlying35 k0
  obtain ⟨fu0, hfu0⟩ := h0
  obtain ⟨v0, l0, ev0, r0, ok0⟩ := open_deep (ok := FBinding.ok) 60 FBinding.len (by omega) Tryd.underlying35 (by kernel_rfl) (fun m cs1 y1 _ h1 => read_Binding m cs1 y1 h1) hfu0
  obtain rfl : Value.slice A0 le0 c0 = v0 := by simpa [Value.cells] using ev0
  obtain ⟨A0', c0', ef0⟩ := r0.form
  simp only [Value.slice.injEq] at ef0
  obtain ⟨rfl, rfl, rfl⟩ := ef0
  have R0 := Lib.hid r0
  have OK0 := Lib.hid (FBinding.oks_of l0 ok0)
  clear r0 ok0 ev0 hfu0 k0
  by_cases hn : ((l0.length + FBinding.wts l0 : Nat) : Int) ≤ 1048576
  case neg =>
    have HP := Lib.hid (bud_neg hn)
    have hp : bud 1048576 (l0.length + FBinding.wts l0) < 0 := by rw [HP.out]; omega
    go_enter Tryd.func4, Tryd.ntmps4
    go_wp2_with fail
    refine (szBindingS_any l0 OK0.out _ _ _ W.heap.size (by omega) (by omega) (Nat.le_refl _) R0.out).mono ?_
    rintro e w1 ⟨rfl, hb⟩
    go_wp2_with fail
    go_ret
    exact ⟨rfl, hb⟩
  have hw : l0.length + FBinding.wts l0 ≤ 1048576 := by omega
  have hl : l0.length ≤ 1048576 := by omega
  have HP := Lib.hid (bud_pos hn)
  have hp : 0 ≤ bud 1048576 (l0.length + FBinding.wts l0) := by rw [HP.out]; omega
  clear HP
  go_enter Tryd.func4, Tryd.ntmps4
  go_wp2_with fail
  refine (szBindingS_any l0 OK0.out _ _ _ W.heap.size (by omega) (by omega) (Nat.le_refl _) R0.out).mono ?_
  rintro e w1 ⟨rfl, hB⟩
  have s1 := hB.size
  go_wp2_with fail
  refine (toBindingS_any l0 hw _ _ W.heap.size (by omega) (R0.out.below hB (Nat.le_refl _))).mono ?_
  rintro e w2 ⟨A1, c1, rfl, o1, hb⟩
  replace hB := hB.trans (hb.mono (by omega))
  have s2 : w1.heap.size ≤ w2.heap.size := hb.size
  have O1 := Lib.hid o1
  clear hb o1
  go_wp2_with fail
  refine (av_spec l0 _ _ _ w2.heap.size (by omega) (Nat.le_refl _) O1.out.read).mono ?_
  generalize hq0 : bnF [] l0 = q0 at *
  have Q0 := Lib.hid hq0
  clear hq0
  rintro e w3 ⟨rfl, hb⟩
  replace hB := hB.trans (hb.mono (by omega))
  have s3 : w2.heap.size ≤ w3.heap.size := hb.size
  clear hb O1
  go_wp2_with fail
  refine (toBindingS_any l0 hw _ _ W.heap.size (by omega) (R0.out.below hB (Nat.le_refl _))).mono ?_
  rintro e w4 ⟨A2, c2, rfl, o2, hb⟩
  replace hB := hB.trans (hb.mono (by omega))
  have s4 : w3.heap.size ≤ w4.heap.size := hb.size
  have O2 := Lib.hid o2
  clear hb o2
  go_wp2_with fail
  refine (av_impl l0 _ _ _ w4.heap.size (by omega) (TV.out.up hB (Nat.le_refl _)) (Nat.le_refl _) O2.out.read).mono ?_
  rw [Q0.out]
  rintro e w5 ⟨rfl, hb⟩
  replace hB := hB.trans (hb.mono (by omega))
  have s5 : w4.heap.size ≤ w5.heap.size := hb.size
  have O3 := Lib.hid (O2.out.below hb (Nat.le_refl _))
  clear hb O2
  go_wp2_with fail
  refine (toBindingS_any l0 hw _ _ W.heap.size (by omega) (R0.out.below hB (Nat.le_refl _))).mono ?_
  rintro e w6 ⟨A3, c3, rfl, o4, hb⟩
  replace hB := hB.trans (hb.mono (by omega))
  have s6 : w5.heap.size ≤ w6.heap.size := hb.size
  have O5 := Lib.hid (O3.out.below hb (Nat.le_refl _))
  have O4 := Lib.hid o4
  clear hb o4 O3
  go_wp2_with fail
  refine (eqBindingS_any l0 (by omega) _ _ _ O5.out.read O4.out.read).mono ?_
  rintro e w7 ⟨rfl, hb⟩
  replace hB := hB.trans (hb.mono (by omega))
  go_wp2_with fail
  go_ret
  exact ⟨rfl, hB⟩
noncomputable abbrev laidHere : List (String × DataW Unit) := [("math/bits.deBruijn32tab", Rows.laid_math_bits_deBruijn32tab), ("math/bits.deBruijn64tab", Rows.laid_math_bits_deBruijn64tab), ("internal/strconv.uint64pow10", Rows.laid_internal_strconv_uint64pow10), ("strconv.ErrRange", Rows.laid_strconv_ErrRange), ("strconv.ErrSyntax", Rows.laid_strconv_ErrSyntax)]
set_option maxRecDepth 100000 in
theorem fnExactAreVars_lifted (os : Os) (started : os.Started) (H : Type) (enc : TypeId × Value → H) :
    ReturnsInHanded {} Tryd.checked os 4 .any (fun w args => (Rows.fnExactAreVarsSpec.pre enc Tryd.prog Tryd.f4 Rows.fnExactAreVarsRow.domain false w args ∧ laidMetH Tryd.prog laidHere w) ∧ sizedMet enc Tryd.prog Tryd.f4 (OpenSpec.ofChange Rows.fnExactAreVarsSpec) false w args) (Rows.fnExactAreVarsSpec.post enc Tryd.prog Tryd.f4 false true false false) := by
  refine handed_tabs (C := Tryd.checked) (X := fun w _ => laidMetH Tryd.prog laidHere w) (Y := fun w => TabV w) own started (by kernel_rfl) Tryd.func4 (fun w w' _ e h => TabV.of_heap e ⟨(laid_one "internal/strconv.uint64pow10" (k := .u64) (zs := Lib.pow10Tab) (g := 2) (t := 124) (e := 104) (n := 20) (by kernel_rfl) (by kernel_rfl) (by kernel_rfl) (by kernel_rfl) (by kernel_rfl) (by kernel_rfl) (by kernel_rfl) (by kernel_rfl) h), laid_err "strconv.ErrSyntax" (text := [105, 110, 118, 97, 108, 105, 100, 32, 115, 121, 110, 116, 97, 120]) (g := 0) (by kernel_rfl) (by kernel_rfl) (by kernel_rfl) (by kernel_rfl) h, laid_err "strconv.ErrRange" (text := [118, 97, 108, 117, 101, 32, 111, 117, 116, 32, 111, 102, 32, 114, 97, 110, 103, 101]) (g := 1) (by kernel_rfl) (by kernel_rfl) (by kernel_rfl) (by kernel_rfl) h⟩)
    (ChangeSpec.witness_shaped (enc := enc) (C := Tryd.checked) (os := os) (X := fun w _ => laidMetH Tryd.prog laidHere w) false (World.laidAll Tryd.prog os laidHere) #[.slice none 0 0] 8 (World.laidAll_os _ _ _)
      (World.shaped_of_ZipB (by kernel_rfl) (by kernel_rfl)) (by kernel_rfl) (by kernel_rfl) (by kernel_rfl)
      (by rw [MakeChecks.laidMetH_plain _ _ _ (by kernel_rfl)]; exact laidMet_laidAll _ (by kernel_rfl) (by kernel_rfl))) ?_
  intro W base args ds gs before hval0 hW hsh hY
  have hval : ∀ (j : Nat) t v, Tryd.f4.params[j]? = some t → args[j]? = some v → Value.okWide Tryd.prog W .any base t v := hval0
  have hW' := hW
  obtain ⟨p, q, hA0, hV, rfl, hfz, hnd⟩ := hW
  have hA : DataW.TrodAll enc Tryd.prog W 0 (fun _ => true) true Tryd.f4.params.toList args.toList ds p := hA0
  rw [Tryd.params4] at hA hval
  obtain ⟨v0, vs0, d0, ds0, p0, q0, hargs, rfl, rfl, h0, r0⟩ := trodAll_cons hA
  obtain ⟨rfl, rfl, rfl⟩ := trodAll_nil r0
  obtain rfl : args = #[v0] := by cases args; simp_all
  obtain ⟨rfl, rfl⟩ := trodVars_none hV
  have lt0 : ∀ x ∈ p0, x.block < W.heap.size := by obtain ⟨m, hm⟩ := h0; exact DataW.trod_lt m _ _ _ hm
  have k0 := hval 0 35 v0 rfl rfl
  clear hA0 hval0
  refine (fnExactAreVars_walk W base v0 k0 h0 hsh hY).mono fun e W' ⟨he, bel⟩ => ?_
  subst he
  exact ⟨_, rfl, _, _, _, [], _, [], hW', trodAll_mk1 (shut_bool Tryd.underlying4 _), (trodAll_cons_mk (Below.trod laidOut (by kernel_rfl) (of_decide_eq_true (by kernel_rfl)) h0 bel lt0) trodAll_mk0), rfl, bel.frame _, fun h => by cases h⟩

theorem fnExactAreVars_holds : Rows.FnExactAreVarsSaid :=
  OpenClaim.holds_of_wide 4 Tryd.f4 rfl rfl rfl rfl rfl rfl rfl ⟨rfl, rfl, rfl, rfl, rfl⟩ rfl rfl rfl rfl rfl (by kernel_rfl) Tryd.func4 (by kernel_rfl)
    (of_decide_eq_true (by kernel_rfl)) (by unfold Func.isWrapper; rw [if_neg (of_decide_eq_false (by kernel_rfl))]; exact ⟨rfl, rfl⟩)
    (fun os started H enc _ => fnExactAreVars_lifted os started H enc)
theorem fnExactAreVars_card_holds : Rows.FnExactAreVarsCardSaid :=
  Claim7.holds_tied_plain_at .later [] [.data, .data, .data, .sentinel, .sentinel] true (true, "5d54cd506b4e857d721d991926bbf6b302d0d6ac88292ffc2b94b288a5bf4593") true fnExactAreVars_holds (fun _ h => by cases h) (by kernel_rfl) (fun _ h => by cases h) fnExactAreVars_row_tie rfl ⟨rfl, rfl⟩ (by kernel_rfl) rfl
    (fun f fn hf hfn => by
      obtain rfl : f = 4 := Option.some.inj ((show Tryd.prog.funcNamed "loop.example/g03011/laws.FnExactAreVars" = some 4 by kernel_rfl).symm.trans hf) |>.symm
      obtain rfl : fn = Tryd.f4 := (Option.some.inj (Tryd.func4.symm.trans hfn)).symm
      exact ⟨by kernel_rfl, fun j t ht => by
        rw [Tryd.params4] at ht
        have hm : t ∈ [35] := by simpa using Array.mem_of_getElem? ht
        have hall : ([35].all fun u => !Tryd.prog.wantsStandIn u) = true := by kernel_rfl
        exact (show Tryd.prog.wantsStandIn t = false by simpa using List.all_eq_true.1 hall t hm)⟩)
    (by kernel_rfl)
#print axioms fnExactAreVars_card_holds

end Go.Proofs.YtgbeenieacnanaaDoor
