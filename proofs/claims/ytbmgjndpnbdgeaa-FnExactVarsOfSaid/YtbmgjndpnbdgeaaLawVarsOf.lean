/-
  The law 'FnExactVarsOf' returns true for every input and leaves its arguments as they read. Conditions: none.
-/
import Derived.Test.YtbmgjndpnbdgeaaVarI
import Derived.Test.YtbmgjndpnbdgeaaToU
import Derived.Test.YtbmgjndpnbdgeaaSzU
import Derived.Test.YtbmgjndpnbdgeaaEqU
import Derived.Test.YtbmgjndpnbdgeaaMkU
namespace Go.Proofs.Ytbmgjndpnbdgeaa
open Go.ChangeShapes Go.WideShapes Go.ChangeAt Go.RowKit Go.Deep Go.Joins
open Go.ChangeMaps (open_string shut_string)
set_option linter.unusedVariables false
set_option linter.unusedSimpArgs false
set_option maxRecDepth 100000

set_option maxHeartbeats 4000000 in
theorem fnExactVarsOf_walk {H : Type} {enc : TypeId × Value → H} (W : World) (base : Nat) (v0 : Value) {d0 : DataW H} {p0 : List MemPlace}
    (k0 : Value.okWide Try.prog W .any base 22 v0)
    (h0 : DataW.Trod enc Try.prog W 0 (fun _ => true) true 22 v0 d0 p0) :
    Calls Try.prog 3 #[v0] W fun e w' => e = .returned (.bool true) ∧ Below W.heap.size W w' := by
  obtain ⟨A0, le0, c0, rfl⟩ := okWide_slice Try.underlying22 k0
  obtain ⟨fu0, hfu0⟩ := h0
  obtain ⟨v0, l0, ev0, r0, ok0⟩ := open_deep (ok := FNode.ok) 38 FNode.len (by omega) Try.underlying22 (by kernel_rfl) (fun m cs1 y1 _ h1 => read_Node m cs1 y1 h1) hfu0
  obtain rfl : Value.slice A0 le0 c0 = v0 := by simpa [Value.cells] using ev0
  obtain ⟨A0', c0', ef0⟩ := r0.form
  simp only [Value.slice.injEq] at ef0
  obtain ⟨rfl, rfl, rfl⟩ := ef0
  have R0 := Lib.hid r0
  have OK0 := Lib.hid (FNode.oks_of l0 ok0)
  clear r0 ok0 ev0 hfu0 k0
  have R := R0
  have OK := OK0
  clear R0 OK0
  by_cases hn : (((l0.length + FNode.wts l0) : Nat) : Int) ≤ 1048576
  case neg =>
    have HP := Lib.hid (bud_neg hn)
    have hp : bud 1048576 (l0.length + FNode.wts l0) < 0 := by rw [HP.out]; omega
    go_enter Try.func3, Try.ntmps3
    go_wp2_with fail
    have hB0 := Below.refl W.heap.size W
    refine (szNodeS_any l0 OK.out _ _ _ W.heap.size (by omega) (by omega) (by omega) (R.out.below hB0 (Nat.le_refl _))).mono ?_
    rintro e w1 ⟨rfl, hb⟩
    have hB := hB0.trans (hb.mono (by omega))
    go_wp2_with fail
    go_ret
    exact ⟨rfl, hB⟩
  have hw : (l0.length + FNode.wts l0) ≤ 1048576 := by omega
  have HWx := Lib.hid (show (l0.length + FNode.wts l0) ≤ 1000000000 by omega)
  have HP := Lib.hid (bud_pos hn)
  have hp : 0 ≤ bud 1048576 (l0.length + FNode.wts l0) := by rw [HP.out]; omega
  clear HP
  have HWl := Lib.hid hw
  have hqw0 : (visQ l0).length + FStr.wts (visQ l0) ≤ 1000000000 := (visQ_wt l0 hw)
  have hqc0 := cntb_StringS (visQ l0)
  generalize hq0 : visQ l0 = q0 at *
  have HQ0 := Lib.hid hq0
  clear hq0
  have HW0 := Lib.hid hqw0
  have hxc := cntb_NodeS l0
  obtain ⟨kx, hskx⟩ : ∃ k : Int, k = 1 + (cntL (FNode.flat l0) : Int) := ⟨_, rfl⟩
  have hkkx : kx = 1 + (cntL (FNode.flat l0) : Int) := hskx
  have npkx : 1 ≤ kx := by omega
  have nkkx : ¬ kx < 0 := by omega
  have dkkx : decide (kx < 0) = false := by simpa using nkkx
  have nbkx : kx ≤ 1000000000000 := by omega
  have HSkx := Lib.hid hskx
  have HKkx := Lib.hid hkkx
  clear hskx hkkx
  obtain ⟨m0, hsm0⟩ : ∃ k : Int, k = 1 + (cntL (FStr.flat q0) : Int) := ⟨_, rfl⟩
  have hkm0 : m0 = 1 + (cntL (FStr.flat q0) : Int) := hsm0
  have npm0 : 1 ≤ m0 := by omega
  have nkm0 : ¬ m0 < 0 := by omega
  have dkm0 : decide (m0 < 0) = false := by simpa using nkm0
  have nbm0 : m0 ≤ 1000000000000 := by omega
  have HSm0 := Lib.hid hsm0
  have HKm0 := Lib.hid hkm0
  clear hsm0 hkm0
  go_enter Try.func3, Try.ntmps3
  go_wp2_with fail
  have hB0 := Below.refl W.heap.size W
  refine (szNodeS_any l0 OK.out _ _ _ W.heap.size (by omega) (by omega) (by omega) (R.out.below hB0 (Nat.le_refl _))).mono ?_
  clear hB0
  rintro e w1 ⟨rfl, hb⟩
  have hB := hb
  have s1 : W.heap.size ≤ w1.heap.size := hb.size
  clear hb
  go_wp2_with fail
  refine (toNodeS_any l0 hw _ _ W.heap.size (by omega) (R.out.below hB (Nat.le_refl _))).mono ?_
  rintro e w2 ⟨U0, Uc0, rfl, own, hb⟩
  replace hB := hB.trans (hb.mono (by omega))
  have s2 : w1.heap.size ≤ w2.heap.size := hb.size
  clear hb
  have iu := own
  clear own
  go_wp2_with fail
  refine (Vars_spec l0 _ _ _ HWl.out (B := w2.heap.size) (Nat.le_refl _) iu.read).mono ?_
  rw [HQ0.out]
  rintro e w3 ⟨G0_0, Gc0_0, rfl, own0, hb⟩
  replace iu := iu.below hb (Nat.le_refl _)
  replace hB := hB.trans (hb.mono (by omega))
  have s3 : w2.heap.size ≤ w3.heap.size := hb.size
  clear hb
  have iw0 := own0
  clear own0
  clear iu
  go_wp2_with fail
  refine (toNodeS_any l0 hw _ _ W.heap.size (by omega) (R.out.below hB (Nat.le_refl _))).mono ?_
  rintro e w4 ⟨X0, Xc0, rfl, own, hb⟩
  replace iw0 := iw0.below hb (Nat.le_refl _)
  replace hB := hB.trans (hb.mono (by omega))
  have s4 : w3.heap.size ≤ w4.heap.size := hb.size
  clear hb
  have ix := own
  clear own
  go_wp2_with fail
  refine (Vars_impl l0 _ _ _ HWl.out (B := w4.heap.size) (Nat.le_refl _) ix.read).mono ?_
  rw [HQ0.out]
  rintro e w5 ⟨Y0_0, Yc0_0, rfl, own0, hb⟩
  replace iw0 := iw0.below hb (Nat.le_refl _)
  replace ix := ix.below hb (Nat.le_refl _)
  replace hB := hB.trans (hb.mono (by omega))
  have s5 : w4.heap.size ≤ w5.heap.size := hb.size
  clear hb
  have ig0 := own0
  clear own0
  go_wp2_with fail
  refine (eqStringS_any q0 HW0.out _ _ _ ig0.read iw0.read).mono ?_
  rintro e w6 ⟨rfl, hb⟩
  replace iw0 := iw0.below hb (Nat.le_refl _)
  replace ix := ix.below hb (Nat.le_refl _)
  replace ig0 := ig0.below hb (Nat.le_refl _)
  replace hB := hB.trans (hb.mono (by omega))
  have s6 : w5.heap.size ≤ w6.heap.size := hb.size
  clear hb
  go_wp2_with fail
  refine (toNodeS_any l0 hw _ _ W.heap.size (by omega) (R.out.below hB (Nat.le_refl _))).mono ?_
  rintro e w7 ⟨Z0, Zc0, rfl, own, hb⟩
  replace iw0 := iw0.below hb (Nat.le_refl _)
  replace ix := ix.below hb (Nat.le_refl _)
  replace ig0 := ig0.below hb (Nat.le_refl _)
  replace hB := hB.trans (hb.mono (by omega))
  have s7 : w6.heap.size ≤ w7.heap.size := hb.size
  clear hb
  have iz := own
  clear own
  go_wp2_with fail
  refine (eqNodeS_any l0 HWx.out _ _ _ ix.read iz.read).mono ?_
  rintro e w8 ⟨rfl, hb⟩
  replace iw0 := iw0.below hb (Nat.le_refl _)
  replace ix := ix.below hb (Nat.le_refl _)
  replace ig0 := ig0.below hb (Nat.le_refl _)
  replace iz := iz.below hb (Nat.le_refl _)
  replace hB := hB.trans (hb.mono (by omega))
  have s8 : w7.heap.size ≤ w8.heap.size := hb.size
  clear hb
  clear iz
  go_wp2_with fail
  have hcall := markNodeS_I l0 _ 1 _ _ w8 (by omega) (by rw [← HKkx.out]; omega) ix
  rw [← HSkx.out] at hcall
  refine hcall.mono ?_
  clear hcall
  rintro e w9 ⟨rfl, im, hb⟩
  replace iw0 := iw0.only hb (Nat.le_refl _) (by omega)
  replace ig0 := ig0.only hb (Nat.le_refl _) (by omega)
  replace hB := hB.trans (hb.below (by omega) (by omega))
  have s9 : w8.heap.size ≤ w9.heap.size := hb.size
  clear hb
  clear ix
  have ix := im
  clear im
  go_wp2_with fail
  refine (eqStringS_any q0 HW0.out _ _ _ ig0.read iw0.read).mono ?_
  rintro e w10 ⟨rfl, hb⟩
  replace iw0 := iw0.below hb (Nat.le_refl _)
  replace ix := ix.below hb (Nat.le_refl _)
  replace ig0 := ig0.below hb (Nat.le_refl _)
  replace hB := hB.trans (hb.mono (by omega))
  have s10 : w9.heap.size ≤ w10.heap.size := hb.size
  clear hb
  go_wp2_with fail
  have hcall := markStringS_I q0 _ 1 _ _ w10 (by omega) (by rw [← HKm0.out]; omega) ig0
  rw [← HSm0.out] at hcall
  refine hcall.mono ?_
  clear hcall
  rintro e w11 ⟨rfl, im, hb⟩
  replace iw0 := iw0.only hb (Nat.le_refl _) (by omega)
  replace ix := ix.only hb (Nat.le_refl _) (by omega)
  replace hB := hB.trans (hb.below (by omega) (by omega))
  have s11 : w10.heap.size ≤ w11.heap.size := hb.size
  clear hb
  clear ig0
  have ig0 := im
  clear im
  go_wp2_with fail
  have hcall := heldStringS_any q0 _ 1 w11 (by omega) (by rw [← HKm0.out]; omega) ig0.read
  rw [← HSm0.out] at hcall
  refine hcall.mono ?_
  clear hcall
  rintro e w12 ⟨rfl, hb⟩
  replace iw0 := iw0.below hb (Nat.le_refl _)
  replace ix := ix.below hb (Nat.le_refl _)
  replace ig0 := ig0.below hb (Nat.le_refl _)
  replace hB := hB.trans (hb.mono (by omega))
  have s12 : w11.heap.size ≤ w12.heap.size := hb.size
  clear hb
  go_wp2_with fail
  refine (toNodeS_any l0 hw _ _ W.heap.size (by omega) (R.out.below hB (Nat.le_refl _))).mono ?_
  rintro e w13 ⟨V0, Vc0, rfl, own, hb⟩
  replace iw0 := iw0.below hb (Nat.le_refl _)
  replace ix := ix.below hb (Nat.le_refl _)
  replace ig0 := ig0.below hb (Nat.le_refl _)
  replace hB := hB.trans (hb.mono (by omega))
  have s13 : w12.heap.size ≤ w13.heap.size := hb.size
  clear hb
  have iv := own
  clear own
  go_wp2_with fail
  refine (Vars_impl l0 _ _ _ HWl.out (B := w13.heap.size) (Nat.le_refl _) iv.read).mono ?_
  rw [HQ0.out]
  rintro e w14 ⟨K0_0, Kc0_0, rfl, own0, hb⟩
  replace iw0 := iw0.below hb (Nat.le_refl _)
  replace ix := ix.below hb (Nat.le_refl _)
  replace ig0 := ig0.below hb (Nat.le_refl _)
  replace iv := iv.below hb (Nat.le_refl _)
  replace hB := hB.trans (hb.mono (by omega))
  have s14 : w13.heap.size ≤ w14.heap.size := hb.size
  clear hb
  have ih0 := own0
  clear own0
  clear iv
  go_wp2_with fail
  refine (eqStringS_any q0 HW0.out _ _ _ ih0.read iw0.read).mono ?_
  rintro e w15 ⟨rfl, hb⟩
  replace iw0 := iw0.below hb (Nat.le_refl _)
  replace ix := ix.below hb (Nat.le_refl _)
  replace ig0 := ig0.below hb (Nat.le_refl _)
  replace ih0 := ih0.below hb (Nat.le_refl _)
  replace hB := hB.trans (hb.mono (by omega))
  have s15 : w14.heap.size ≤ w15.heap.size := hb.size
  clear hb
  go_wp2_with fail
  have hcall := heldStringS_any q0 _ 1 w15 (by omega) (by rw [← HKm0.out]; omega) ig0.read
  rw [← HSm0.out] at hcall
  refine hcall.mono ?_
  clear hcall
  rintro e w16 ⟨rfl, hb⟩
  replace iw0 := iw0.below hb (Nat.le_refl _)
  replace ix := ix.below hb (Nat.le_refl _)
  replace ig0 := ig0.below hb (Nat.le_refl _)
  replace ih0 := ih0.below hb (Nat.le_refl _)
  replace hB := hB.trans (hb.mono (by omega))
  have s16 : w15.heap.size ≤ w16.heap.size := hb.size
  clear hb
  go_wp2_with fail
  go_ret
  exact ⟨rfl, hB⟩
set_option maxRecDepth 100000 in
theorem fnExactVarsOf_lifted (os : Os) (started : os.Started) (H : Type) (enc : TypeId × Value → H) :
    ReturnsInHanded {} Try.checked os 3 .any (Rows.fnExactVarsOfSpec.pre6 enc Try.prog Try.f3 Rows.fnExactVarsOfRow.domain false) (Rows.fnExactVarsOfSpec.post enc Try.prog Try.f3 false true false false) := by
  refine returnsInHanded_of_change (C := Try.checked) own started (by kernel_rfl) Try.func3
    (ChangeSpec.witness6 (enc := enc) (C := Try.checked) false ⟨#[], #[.slice none 0 0], []⟩ 8 (by kernel_rfl) (by kernel_rfl) (by kernel_rfl) (by kernel_rfl)) ?_
  intro W base args ds gs before hval0 hW hcnd _
  have hval : ∀ (j : Nat) t v, Try.f3.params[j]? = some t → args[j]? = some v → Value.okWide Try.prog W .any base t v := hval0
  have hW' := hW
  obtain ⟨p, q, hA0, hV, rfl, hfz, hnd⟩ := hW
  have hA : DataW.TrodAll enc Try.prog W 0 (fun _ => true) true Try.f3.params.toList args.toList ds p := hA0
  rw [Try.params3] at hA hval
  obtain ⟨v0, vs0, d0, ds0, p0, q0, hargs, rfl, rfl, h0, r0⟩ := trodAll_cons hA
  obtain ⟨rfl, rfl, rfl⟩ := trodAll_nil r0
  obtain rfl : args = #[v0] := by cases args; simp_all
  obtain ⟨rfl, rfl⟩ := trodVars_none hV
  have lt0 : ∀ x ∈ p0, x.block < W.heap.size := by obtain ⟨m, hm⟩ := h0; exact DataW.trod_lt m _ _ _ hm
  have k0 := hval 0 22 v0 rfl rfl
  clear hA0 hval0
  refine (fnExactVarsOf_walk W base v0 k0 h0).mono fun e W' ⟨he, bel⟩ => ?_
  subst he
  exact ⟨_, rfl, _, _, _, [], _, [], hW', trodAll_mk1 (shut_bool Try.underlying4 _), (trodAll_cons_mk (Below.trod laidOut (by kernel_rfl) (of_decide_eq_true (by kernel_rfl)) h0 bel lt0) trodAll_mk0), rfl, bel.frame _, fun h => by cases h⟩

theorem fnExactVarsOf_holds : Rows.FnExactVarsOfSaid :=
  OpenClaim.holds_of_wide 3 Try.f3 rfl rfl rfl rfl rfl rfl rfl ⟨rfl, rfl, rfl, rfl, rfl⟩ rfl rfl rfl rfl rfl (by kernel_rfl) Try.func3 (by kernel_rfl)
    (of_decide_eq_true (by kernel_rfl)) (by unfold Func.isWrapper; rw [if_neg (of_decide_eq_false (by kernel_rfl))]; exact ⟨rfl, rfl⟩)
    (fun os started H enc _ => fnExactVarsOf_lifted os started H enc)
#print axioms fnExactVarsOf_holds

end Go.Proofs.Ytbmgjndpnbdgeaa
