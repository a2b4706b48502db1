/-
  The law 'FnExactInsName' returns true for every input and leaves its arguments as they read. Conditions: none.
-/
import Derived.Test.YtiggmjiodbbceaaDoorTab
import Derived.Test.YtiggmjiodbbceaaDoorNmA
namespace Go.Proofs.YtiggmjiodbbceaaDoor
open Go.ChangeShapes Go.WideShapes Go.ChangeAt Go.RowKit Go.Deep Go.Joins
open Go.ChangeMaps (open_string shut_string)
set_option linter.unusedVariables false
set_option linter.unusedSimpArgs false
set_option maxRecDepth 100000

set_option maxHeartbeats 4000000 in
theorem fnExactInsName_walk {H : Type} {enc : TypeId × Value → H} (W : World) (base : Nat) (v0 : Value) {d0 : DataW H} {p0 : List MemPlace}
    (k0 : Value.okWide Tryd.prog W .any base 3 v0)
    (h0 : DataW.Trod enc Tryd.prog W 0 (fun _ => true) true 3 v0 d0 p0) (hsh : W.ShapedOpen Tryd.prog) (hY : TabA W) :
    Calls Tryd.prog 3 #[v0] W fun e w' => e = .returned (.bool true) ∧ Below W.heap.size W w' := by
  obtain ⟨n0, rfl, rfl, rfl, wf0⟩ := open_int Tryd.underlying3 k0 h0
  clear k0 h0
  clear hsh
  have hYA := hY
  clear hY
  have TA := Lib.hid hYA
  clear hYA
  generalize hg0 : insNm n0 = gt at *
  have HG0 := Lib.hid hg0
  clear hg0
  go_enter Tryd.func3, Tryd.ntmps3
  go_wp2_with fail
  refine (InsName_spec n0 _).mono ?_
  rw [HG0.out]
  rintro e w1 ⟨rfl, hb⟩
  have hB := hb
  have s1 : W.heap.size ≤ w1.heap.size := hb.size
  clear hb
  go_wp2_with fail
  refine (InsName_impl n0 _ (TA.out.below hB)).mono ?_
  rw [HG0.out]
  rintro e w2 ⟨rfl, hb⟩
  replace hB := hB.trans (hb.mono (by omega))
  have s2 : w1.heap.size ≤ w2.heap.size := hb.size
  clear hb
  go_wp2_with fail
  go_ret
  exact ⟨rfl, hB⟩
noncomputable abbrev laidHere : List (String × DataW Unit) := [("unicode.White_Space", Rows.laid_unicode_White_Space), ("strings.asciiSpace", Rows.laid_strings_asciiSpace)]
set_option maxRecDepth 100000 in
theorem fnExactInsName_lifted (os : Os) (started : os.Started) (H : Type) (enc : TypeId × Value → H) :
    ReturnsInHanded {} Tryd.checked os 3 .any (fun w args => (Rows.fnExactInsNameSpec.pre enc Tryd.prog Tryd.f3 Rows.fnExactInsNameRow.domain false w args ∧ laidMetH Tryd.prog laidHere w) ∧ sizedMet enc Tryd.prog Tryd.f3 (OpenSpec.ofChange Rows.fnExactInsNameSpec) false w args) (Rows.fnExactInsNameSpec.post enc Tryd.prog Tryd.f3 false true false false) := by
  refine handed_tabs (C := Tryd.checked) (X := fun w _ => laidMetH Tryd.prog laidHere w) (Y := fun w => TabA w) own started (by kernel_rfl) Tryd.func3 (fun w w' _ e h => TabA.of_heap e ((laid_one "strings.asciiSpace" (k := .u8) (zs := Lib.asciiSpaceTab) (g := 0) (t := 79) (e := 5) (n := 256) (by kernel_rfl) (by kernel_rfl) (by kernel_rfl) (by kernel_rfl) (by kernel_rfl) (by kernel_rfl) (by kernel_rfl) (by kernel_rfl) h)))
    (ChangeSpec.witness_shaped (enc := enc) (C := Tryd.checked) (os := os) (X := fun w _ => laidMetH Tryd.prog laidHere w) false (World.laidAll Tryd.prog os laidHere) #[.int .i64 0] 8 (World.laidAll_os _ _ _)
      (World.shaped_of_ZipB (by kernel_rfl) (by kernel_rfl)) (by kernel_rfl) (by kernel_rfl) (by kernel_rfl)
      (by rw [MakeChecks.laidMetH_plain _ _ _ (by kernel_rfl)]; exact laidMet_laidAll _ (by kernel_rfl) (by kernel_rfl))) ?_
  intro W base args ds gs before hval0 hW hsh hY
  have hval : ∀ (j : Nat) t v, Tryd.f3.params[j]? = some t → args[j]? = some v → Value.okWide Tryd.prog W .any base t v := hval0
  have hW' := hW
  obtain ⟨p, q, hA0, hV, rfl, hfz, hnd⟩ := hW
  have hA : DataW.TrodAll enc Tryd.prog W 0 (fun _ => true) true Tryd.f3.params.toList args.toList ds p := hA0
  rw [Tryd.params3] at hA hval
  obtain ⟨v0, vs0, d0, ds0, p0, q0, hargs, rfl, rfl, h0, r0⟩ := trodAll_cons hA
  obtain ⟨rfl, rfl, rfl⟩ := trodAll_nil r0
  obtain rfl : args = #[v0] := by cases args; simp_all
  obtain ⟨rfl, rfl⟩ := trodVars_none hV
  have lt0 : ∀ x ∈ p0, x.block < W.heap.size := by obtain ⟨m, hm⟩ := h0; exact DataW.trod_lt m _ _ _ hm
  have k0 := hval 0 3 v0 rfl rfl
  clear hA0 hval0
  refine (fnExactInsName_walk W base v0 k0 h0 hsh hY).mono fun e W' ⟨he, bel⟩ => ?_
  subst he
  exact ⟨_, rfl, _, _, _, [], _, [], hW', trodAll_mk1 (shut_bool Tryd.underlying4 _), (trodAll_cons_mk (Below.trod laidOut (by kernel_rfl) (of_decide_eq_true (by kernel_rfl)) h0 bel lt0) trodAll_mk0), rfl, bel.frame _, fun h => by cases h⟩

theorem fnExactInsName_holds : Rows.FnExactInsNameSaid :=
  OpenClaim.holds_of_wide 3 Tryd.f3 rfl rfl rfl rfl rfl rfl rfl ⟨rfl, rfl, rfl, rfl, rfl⟩ rfl rfl rfl rfl rfl (by kernel_rfl) Tryd.func3 (by kernel_rfl)
    (of_decide_eq_true (by kernel_rfl)) (by unfold Func.isWrapper; rw [if_neg (of_decide_eq_false (by kernel_rfl))]; exact ⟨rfl, rfl⟩)
    (fun os started H enc _ => fnExactInsName_lifted os started H enc)
theorem fnExactInsName_card_holds : Rows.FnExactInsNameCardSaid :=
  Claim7.holds_tied_plain_at .later [] [.listed, .data] true (true, "a88a26dc5ba837cc723deeb28d8407dc4e19141f3428d57305b97b914c0e3569") false fnExactInsName_holds (fun _ h => by cases h) (by kernel_rfl) (fun _ h => by cases h) fnExactInsName_row_tie rfl ⟨rfl, rfl⟩ (by kernel_rfl) rfl
    (fun f fn hf hfn => by
      obtain rfl : f = 3 := Option.some.inj ((show Tryd.prog.funcNamed "loop.example/g03011/laws.FnExactInsName" = some 3 by kernel_rfl).symm.trans hf) |>.symm
      obtain rfl : fn = Tryd.f3 := (Option.some.inj (Tryd.func3.symm.trans hfn)).symm
      exact ⟨by kernel_rfl, fun j t ht => by
        rw [Tryd.params3] at ht
        have hm : t ∈ [3] := by simpa using Array.mem_of_getElem? ht
        have hall : ([3].all fun u => !Tryd.prog.wantsStandIn u) = true := by kernel_rfl
        exact (show Tryd.prog.wantsStandIn t = false by simpa using List.all_eq_true.1 hall t hm)⟩)
    (by kernel_rfl)
#print axioms fnExactInsName_card_holds

end Go.Proofs.YtiggmjiodbbceaaDoor
