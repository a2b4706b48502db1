/-
  The law 'FnExactWriteFile' returns true for every input and leaves its arguments as they read. Conditions: none.
-/
import Derived.Test.YtffachcddoechaaDoorDoor
import Derived.Test.YtffachcddoechaaDoorWrL
import Derived.Test.YtffachcddoechaaDoorToF
import Derived.Test.YtffachcddoechaaDoorSzF
import Derived.Test.YtffachcddoechaaDoorEqF
import Derived.Test.YtffachcddoechaaDoorMkF
namespace Go.Proofs.YtffachcddoechaaDoor
open Go.ChangeShapes Go.WideShapes Go.ChangeAt Go.RowKit Go.Deep Go.Joins
open Go.ChangeMaps (open_string shut_string)
set_option linter.unusedVariables false
set_option linter.unusedSimpArgs false
set_option maxRecDepth 100000

set_option maxHeartbeats 4000000 in
theorem fnExactWriteFile_walk {H : Type} {enc : TypeId × Value → H} (W : World) (base : Nat) (v0 v1 v2 : Value) {d0 : DataW H} {p0 : List MemPlace} {d1 : DataW H} {p1 : List MemPlace} {d2 : DataW H} {p2 : List MemPlace}
    (k0 : Value.okWide Tryd.prog W .any base 30 v0) (k1 : Value.okWide Tryd.prog W .any base 9 v1) (k2 : Value.okWide Tryd.prog W .any base 9 v2)
    (h0 : DataW.Trod enc Tryd.prog W 0 (fun _ => true) true 30 v0 d0 p0) (h1 : DataW.Trod enc Tryd.prog W 0 (fun _ => true) true 9 v1 d1 p1) (h2 : DataW.Trod enc Tryd.prog W 0 (fun _ => true) true 9 v2 d2 p2) (hsh : W.ShapedOpen Tryd.prog) :
    Calls Tryd.prog 8 #[v0, v1, v2] W fun e w' => e = .returned (.bool true) ∧ Below W.heap.size W w' := by
  have MX := Lib.hid (MaxAt.shaped hsh)
  clear hsh
  obtain ⟨A0, le0, c0, rfl⟩ := okWide_slice Tryd.underlying30 k0
  obtain ⟨fu0, hfu0⟩ := h0
  obtain ⟨v0, l0, ev0, r0, ok0⟩ := open_deep (ok := FFile.ok) 49 FFile.len (by omega) Tryd.underlying30 (by kernel_rfl) (fun m cs1 y1 _ h1 => read_File m cs1 y1 h1) hfu0
  obtain rfl : Value.slice A0 le0 c0 = v0 := by simpa [Value.cells] using ev0
  obtain ⟨A0', c0', ef0⟩ := r0.form
  simp only [Value.slice.injEq] at ef0
  obtain ⟨rfl, rfl, rfl⟩ := ef0
  have R0 := Lib.hid r0
  have OK0 := Lib.hid (FFile.oks_of l0 ok0)
  clear r0 ok0 ev0 hfu0 k0
  obtain ⟨n1, rfl, rfl, rfl, sz1⟩ := open_string Tryd.underlying9 k1 h1
  unfold maxLen at sz1
  clear k1 h1
  obtain ⟨n2, rfl, rfl, rfl, sz2⟩ := open_string Tryd.underlying9 k2 h2
  unfold maxLen at sz2
  clear k2 h2
  have R := R0
  have OK := OK0
  clear R0 OK0
  by_cases big1 : (1048576 : Int) < (n1.size : Int)
  case pos =>
    go_enter Tryd.func8, Tryd.ntmps8
    go_wp2_with fail
    go_ret
    exact ⟨rfl, Below.refl _ _⟩
  by_cases big2 : (1048576 : Int) < (n2.size : Int)
  case pos =>
    go_enter Tryd.func8, Tryd.ntmps8
    go_wp2_with fail
    go_ret
    exact ⟨rfl, Below.refl _ _⟩
  by_cases hn : (((l0.length + FFile.wts l0) : Nat) : Int) ≤ 1048576
  case neg =>
    have HP := Lib.hid (bud_neg hn)
    have hp : bud 1048576 (l0.length + FFile.wts l0) < 0 := by rw [HP.out]; omega
    go_enter Tryd.func8, Tryd.ntmps8
    go_wp2_with fail
    have hB0 := Below.refl W.heap.size W
    refine (szFileS_any l0 OK.out _ _ _ W.heap.size (by omega) (by omega) (by omega) (R.out.below hB0 (Nat.le_refl _))).mono ?_
    rintro e w1 ⟨rfl, hb⟩
    have hB := hB0.trans (hb.mono (by omega))
    go_wp2_with fail
    go_ret
    exact ⟨rfl, hB⟩
  have hw : (l0.length + FFile.wts l0) ≤ 1048576 := by omega
  have HWx := Lib.hid (show (l0.length + FFile.wts l0) ≤ 1000000000 by omega)
  have HP := Lib.hid (bud_pos hn)
  have hp : 0 ≤ bud 1048576 (l0.length + FFile.wts l0) := by rw [HP.out]; omega
  clear HP
  have hs1 : n1.size ≤ 1048576 := by omega
  have hs2 : n2.size ≤ 1048576 := by omega
  have HWl := Lib.hid hw
  generalize hg0 : (wrO l0 n1 n2).2 = gb at *
  have HG0 := Lib.hid hg0
  clear hg0
  have hqw0 : ((wrO l0 n1 n2).1).length + FFile.wts ((wrO l0 n1 n2).1) ≤ 1000000000 := (wrQ_wt l0 n1 n2 hw (by omega))
  have hqc0 := cntb_FileS ((wrO l0 n1 n2).1)
  generalize hq0 : (wrO l0 n1 n2).1 = q0 at *
  have HQ0 := Lib.hid hq0
  clear hq0
  have HW0 := Lib.hid hqw0
  have hxc := cntb_FileS l0
  obtain ⟨kx, hskx⟩ : ∃ k : Int, k = 1 + (cntL (FFile.flat l0) : Int) := ⟨_, rfl⟩
  have hkkx : kx = 1 + (cntL (FFile.flat l0) : Int) := hskx
  have npkx : 1 ≤ kx := by omega
  have nkkx : ¬ kx < 0 := by omega
  have dkkx : decide (kx < 0) = false := by simpa using nkkx
  have nbkx : kx ≤ 1000000000000 := by omega
  have HSkx := Lib.hid hskx
  have HKkx := Lib.hid hkkx
  clear hskx hkkx
  obtain ⟨m0, hsm0⟩ : ∃ k : Int, k = 1 + (cntL (FFile.flat q0) : Int) := ⟨_, rfl⟩
  have hkm0 : m0 = 1 + (cntL (FFile.flat q0) : Int) := hsm0
  have npm0 : 1 ≤ m0 := by omega
  have nkm0 : ¬ m0 < 0 := by omega
  have dkm0 : decide (m0 < 0) = false := by simpa using nkm0
  have nbm0 : m0 ≤ 1000000000000 := by omega
  have HSm0 := Lib.hid hsm0
  have HKm0 := Lib.hid hkm0
  clear hsm0 hkm0
  go_enter Tryd.func8, Tryd.ntmps8
  go_wp2_with fail
  have hB0 := Below.refl W.heap.size W
  refine (szFileS_any l0 OK.out _ _ _ W.heap.size (by omega) (by omega) (by omega) (R.out.below hB0 (Nat.le_refl _))).mono ?_
  clear hB0
  rintro e w1 ⟨rfl, hb⟩
  have hB := hb
  have s1 : W.heap.size ≤ w1.heap.size := hb.size
  clear hb
  go_wp2_with fail
  refine (toFileS_any l0 hw _ _ W.heap.size (by omega) (R.out.below hB (Nat.le_refl _))).mono ?_
  rintro e w2 ⟨U0, Uc0, rfl, own, hb⟩
  replace hB := hB.trans (hb.mono (by omega))
  have s2 : w1.heap.size ≤ w2.heap.size := hb.size
  clear hb
  have iu := own
  clear own
  go_wp2_with fail
  refine (WriteQ_spec l0 n1 n2 _ _ hs1 hs2 HWl.out (B := w2.heap.size) (Nat.le_refl _) iu.read).mono ?_
  rw [HG0.out]
  rw [HQ0.out]
  rintro e w3 ⟨G0_0, Gc0_0, rfl, own0, hb⟩
  replace iu := iu.below hb (Nat.le_refl _)
  replace hB := hB.trans (hb.mono (by omega))
  have s3 : w2.heap.size ≤ w3.heap.size := hb.size
  clear hb
  have iw0 := own0
  clear own0
  clear iu
  go_wp2_with fail
  refine (toFileS_any l0 hw _ _ W.heap.size (by omega) (R.out.below hB (Nat.le_refl _))).mono ?_
  rintro e w4 ⟨X0, Xc0, rfl, own, hb⟩
  replace iw0 := iw0.below hb (Nat.le_refl _)
  replace hB := hB.trans (hb.mono (by omega))
  have s4 : w3.heap.size ≤ w4.heap.size := hb.size
  clear hb
  have ix := own
  clear own
  go_wp2_with fail
  refine (WriteQ_impl l0 n1 n2 _ _ hs1 hs2 (MX.out.below hB) HWl.out (B := w4.heap.size) (Nat.le_refl _) ix.read).mono ?_
  rw [HG0.out]
  rw [HQ0.out]
  rintro e w5 ⟨Y0_0, Yc0_0, rfl, own0, hb⟩
  replace iw0 := iw0.below hb (Nat.le_refl _)
  replace ix := ix.below hb (Nat.le_refl _)
  replace hB := hB.trans (hb.mono (by omega))
  have s5 : w4.heap.size ≤ w5.heap.size := hb.size
  clear hb
  have ig0 := own0
  clear own0
  go_wp2_with fail
  refine (eqFileS_any q0 HW0.out _ _ _ ig0.read iw0.read).mono ?_
  rintro e w6 ⟨rfl, hb⟩
  replace iw0 := iw0.below hb (Nat.le_refl _)
  replace ix := ix.below hb (Nat.le_refl _)
  replace ig0 := ig0.below hb (Nat.le_refl _)
  replace hB := hB.trans (hb.mono (by omega))
  have s6 : w5.heap.size ≤ w6.heap.size := hb.size
  clear hb
  go_wp2_with fail
  refine (toFileS_any l0 hw _ _ W.heap.size (by omega) (R.out.below hB (Nat.le_refl _))).mono ?_
  rintro e w7 ⟨Z0, Zc0, rfl, own, hb⟩
  replace iw0 := iw0.below hb (Nat.le_refl _)
  replace ix := ix.below hb (Nat.le_refl _)
  replace ig0 := ig0.below hb (Nat.le_refl _)
  replace hB := hB.trans (hb.mono (by omega))
  have s7 : w6.heap.size ≤ w7.heap.size := hb.size
  clear hb
  have iz := own
  clear own
  go_wp2_with fail
  refine (eqFileS_any l0 HWx.out _ _ _ ix.read iz.read).mono ?_
  rintro e w8 ⟨rfl, hb⟩
  replace iw0 := iw0.below hb (Nat.le_refl _)
  replace ix := ix.below hb (Nat.le_refl _)
  replace ig0 := ig0.below hb (Nat.le_refl _)
  replace iz := iz.below hb (Nat.le_refl _)
  replace hB := hB.trans (hb.mono (by omega))
  have s8 : w7.heap.size ≤ w8.heap.size := hb.size
  clear hb
  clear iz
  go_wp2_with fail
  have hcall := markFileS_I l0 _ 1 _ _ w8 (by omega) (by rw [← HKkx.out]; omega) ix
  rw [← HSkx.out] at hcall
  refine hcall.mono ?_
  clear hcall
  rintro e w9 ⟨rfl, im, hb⟩
  replace iw0 := iw0.only hb (Nat.le_refl _) (by omega)
  replace ig0 := ig0.only hb (Nat.le_refl _) (by omega)
  replace hB := hB.trans (hb.below (by omega) (by omega))
  have s9 : w8.heap.size ≤ w9.heap.size := hb.size
  clear hb
  clear ix
  have ix := im
  clear im
  go_wp2_with fail
  refine (eqFileS_any q0 HW0.out _ _ _ ig0.read iw0.read).mono ?_
  rintro e w10 ⟨rfl, hb⟩
  replace iw0 := iw0.below hb (Nat.le_refl _)
  replace ix := ix.below hb (Nat.le_refl _)
  replace ig0 := ig0.below hb (Nat.le_refl _)
  replace hB := hB.trans (hb.mono (by omega))
  have s10 : w9.heap.size ≤ w10.heap.size := hb.size
  clear hb
  go_wp2_with fail
  have hcall := markFileS_I q0 _ 1 _ _ w10 (by omega) (by rw [← HKm0.out]; omega) ig0
  rw [← HSm0.out] at hcall
  refine hcall.mono ?_
  clear hcall
  rintro e w11 ⟨rfl, im, hb⟩
  replace iw0 := iw0.only hb (Nat.le_refl _) (by omega)
  replace ix := ix.only hb (Nat.le_refl _) (by omega)
  replace hB := hB.trans (hb.below (by omega) (by omega))
  have s11 : w10.heap.size ≤ w11.heap.size := hb.size
  clear hb
  clear ig0
  have ig0 := im
  clear im
  go_wp2_with fail
  have hcall := heldFileS_any q0 _ 1 w11 (by omega) (by rw [← HKm0.out]; omega) ig0.read
  rw [← HSm0.out] at hcall
  refine hcall.mono ?_
  clear hcall
  rintro e w12 ⟨rfl, hb⟩
  replace iw0 := iw0.below hb (Nat.le_refl _)
  replace ix := ix.below hb (Nat.le_refl _)
  replace ig0 := ig0.below hb (Nat.le_refl _)
  replace hB := hB.trans (hb.mono (by omega))
  have s12 : w11.heap.size ≤ w12.heap.size := hb.size
  clear hb
  go_wp2_with fail
  refine (toFileS_any l0 hw _ _ W.heap.size (by omega) (R.out.below hB (Nat.le_refl _))).mono ?_
  rintro e w13 ⟨V0, Vc0, rfl, own, hb⟩
  replace iw0 := iw0.below hb (Nat.le_refl _)
  replace ix := ix.below hb (Nat.le_refl _)
  replace ig0 := ig0.below hb (Nat.le_refl _)
  replace hB := hB.trans (hb.mono (by omega))
  have s13 : w12.heap.size ≤ w13.heap.size := hb.size
  clear hb
  have iv := own
  clear own
  go_wp2_with fail
  refine (WriteQ_impl l0 n1 n2 _ _ hs1 hs2 (MX.out.below hB) HWl.out (B := w13.heap.size) (Nat.le_refl _) iv.read).mono ?_
  rw [HG0.out]
  rw [HQ0.out]
  rintro e w14 ⟨K0_0, Kc0_0, rfl, own0, hb⟩
  replace iw0 := iw0.below hb (Nat.le_refl _)
  replace ix := ix.below hb (Nat.le_refl _)
  replace ig0 := ig0.below hb (Nat.le_refl _)
  replace iv := iv.below hb (Nat.le_refl _)
  replace hB := hB.trans (hb.mono (by omega))
  have s14 : w13.heap.size ≤ w14.heap.size := hb.size
  clear hb
  have ih0 := own0
  clear own0
  clear iv
  go_wp2_with fail
  refine (eqFileS_any q0 HW0.out _ _ _ ih0.read iw0.read).mono ?_
  rintro e w15 ⟨rfl, hb⟩
  replace iw0 := iw0.below hb (Nat.le_refl _)
  replace ix := ix.below hb (Nat.le_refl _)
  replace ig0 := ig0.below hb (Nat.le_refl _)
  replace ih0 := ih0.below hb (Nat.le_refl _)
  replace hB := hB.trans (hb.mono (by omega))
  have s15 : w14.heap.size ≤ w15.heap.size := hb.size
  clear hb
  go_wp2_with fail
  have hcall := heldFileS_any q0 _ 1 w15 (by omega) (by rw [← HKm0.out]; omega) ig0.read
  rw [← HSm0.out] at hcall
  refine hcall.mono ?_
  clear hcall
  rintro e w16 ⟨rfl, hb⟩
  replace iw0 := iw0.below hb (Nat.le_refl _)
  replace ix := ix.below hb (Nat.le_refl _)
  replace ig0 := ig0.below hb (Nat.le_refl _)
  replace ih0 := ih0.below hb (Nat.le_refl _)
  replace hB := hB.trans (hb.mono (by omega))
  have s16 : w15.heap.size ≤ w16.heap.size := hb.size
  clear hb
  go_wp2_with fail
  go_ret
  exact ⟨rfl, hB⟩
noncomputable abbrev laidHere : List (String × DataW Unit) := [("unicode/utf8.acceptRanges", Rows.laid_unicode_utf8_acceptRanges), ("unicode/utf8.first", Rows.laid_unicode_utf8_first)]
set_option maxRecDepth 100000 in
theorem fnExactWriteFile_lifted (os : Os) (started : os.Started) (H : Type) (enc : TypeId × Value → H) :
    ReturnsInHanded {} Tryd.checked os 8 .any (fun w args => (Rows.fnExactWriteFileSpec.pre enc Tryd.prog Tryd.f8 Rows.fnExactWriteFileRow.domain false w args ∧ laidMetH Tryd.prog laidHere w) ∧ sizedMet enc Tryd.prog Tryd.f8 (OpenSpec.ofChange Rows.fnExactWriteFileSpec) false w args) (Rows.fnExactWriteFileSpec.post enc Tryd.prog Tryd.f8 false true false false) := by
  refine handed_both (C := Tryd.checked) (X := fun w _ => laidMetH Tryd.prog laidHere w) own started (by kernel_rfl) Tryd.func8
    (ChangeSpec.witness_shaped (enc := enc) (C := Tryd.checked) (os := os) (X := fun w _ => laidMetH Tryd.prog laidHere w) false (World.laidAll Tryd.prog os laidHere) #[.slice none 0 0, .string ByteArray.empty, .string ByteArray.empty] 8 (World.laidAll_os _ _ _)
      (World.shaped_of_ZipB (by kernel_rfl) (by kernel_rfl)) (by kernel_rfl) (by kernel_rfl) (by kernel_rfl)
      (by rw [MakeChecks.laidMetH_plain _ _ _ (by kernel_rfl)]; exact laidMet_laidAll _ (by kernel_rfl) (by kernel_rfl))) ?_
  intro W base args ds gs before hval0 hW hsh
  have hval : ∀ (j : Nat) t v, Tryd.f8.params[j]? = some t → args[j]? = some v → Value.okWide Tryd.prog W .any base t v := hval0
  have hW' := hW
  obtain ⟨p, q, hA0, hV, rfl, hfz, hnd⟩ := hW
  have hA : DataW.TrodAll enc Tryd.prog W 0 (fun _ => true) true Tryd.f8.params.toList args.toList ds p := hA0
  rw [Tryd.params8] at hA hval
  obtain ⟨v0, vs0, d0, ds0, p0, q0, hargs, rfl, rfl, h0, r0⟩ := trodAll_cons hA
  obtain ⟨v1, vs1, d1, ds1, p1, q1, rfl, rfl, rfl, h1, r1⟩ := trodAll_cons r0
  obtain ⟨v2, vs2, d2, ds2, p2, q2, rfl, rfl, rfl, h2, r2⟩ := trodAll_cons r1
  obtain ⟨rfl, rfl, rfl⟩ := trodAll_nil r2
  obtain rfl : args = #[v0, v1, v2] := by cases args; simp_all
  obtain ⟨rfl, rfl⟩ := trodVars_none hV
  have lt0 : ∀ x ∈ p0, x.block < W.heap.size := by obtain ⟨m, hm⟩ := h0; exact DataW.trod_lt m _ _ _ hm
  have lt1 : ∀ x ∈ p1, x.block < W.heap.size := by obtain ⟨m, hm⟩ := h1; exact DataW.trod_lt m _ _ _ hm
  have lt2 : ∀ x ∈ p2, x.block < W.heap.size := by obtain ⟨m, hm⟩ := h2; exact DataW.trod_lt m _ _ _ hm
  have k0 := hval 0 30 v0 rfl rfl
  have k1 := hval 1 9 v1 rfl rfl
  have k2 := hval 2 9 v2 rfl rfl
  clear hA0 hval0
  refine (fnExactWriteFile_walk W base v0 v1 v2 k0 k1 k2 h0 h1 h2 hsh).mono fun e W' ⟨he, bel⟩ => ?_
  subst he
  exact ⟨_, rfl, _, _, _, [], _, [], hW', trodAll_mk1 (shut_bool Tryd.underlying4 _), (trodAll_cons_mk (Below.trod laidOut (by kernel_rfl) (of_decide_eq_true (by kernel_rfl)) h0 bel lt0) (trodAll_cons_mk (Below.trod laidOut (by kernel_rfl) (of_decide_eq_true (by kernel_rfl)) h1 bel lt1) (trodAll_cons_mk (Below.trod laidOut (by kernel_rfl) (of_decide_eq_true (by kernel_rfl)) h2 bel lt2) trodAll_mk0))), rfl, bel.frame _, fun h => by cases h⟩

theorem fnExactWriteFile_holds : Rows.FnExactWriteFileSaid :=
  OpenClaim.holds_of_wide 8 Tryd.f8 rfl rfl rfl rfl rfl rfl rfl ⟨rfl, rfl, rfl, rfl, rfl⟩ rfl rfl rfl rfl rfl (by kernel_rfl) Tryd.func8 (by kernel_rfl)
    (of_decide_eq_true (by kernel_rfl)) (by unfold Func.isWrapper; rw [if_neg (of_decide_eq_false (by kernel_rfl))]; exact ⟨rfl, rfl⟩)
    (fun os started H enc _ => fnExactWriteFile_lifted os started H enc)
theorem fnExactWriteFile_card_holds : Rows.FnExactWriteFileCardSaid :=
  Claim7.holds_tied_plain_at .later [] [.data, .pinned] true (true, "b113659a69687d0aa70988503caa45938c112030a21b97400d56c2ea457c8e1e") false fnExactWriteFile_holds (fun _ h => by cases h) (by kernel_rfl) (fun _ h => by cases h) fnExactWriteFile_row_tie rfl ⟨rfl, rfl⟩ (by kernel_rfl) rfl
    (fun f fn hf hfn => by
      obtain rfl : f = 8 := Option.some.inj ((show Tryd.prog.funcNamed "loop.example/g03011/laws.FnExactWriteFile" = some 8 by kernel_rfl).symm.trans hf) |>.symm
      obtain rfl : fn = Tryd.f8 := (Option.some.inj (Tryd.func8.symm.trans hfn)).symm
      exact ⟨by kernel_rfl, fun j t ht => by
        rw [Tryd.params8] at ht
        have hm : t ∈ [30, 9, 9] := by simpa using Array.mem_of_getElem? ht
        have hall : ([30, 9, 9].all fun u => !Tryd.prog.wantsStandIn u) = true := by kernel_rfl
        exact (show Tryd.prog.wantsStandIn t = false by simpa using List.all_eq_true.1 hall t hm)⟩)
    (by kernel_rfl)
#print axioms fnExactWriteFile_card_holds

end Go.Proofs.YtffachcddoechaaDoor
