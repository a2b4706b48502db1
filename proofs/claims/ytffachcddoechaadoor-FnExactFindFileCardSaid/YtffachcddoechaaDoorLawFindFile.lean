/-
  The law 'FnExactFindFile' returns true for every input and leaves its arguments as they read. Conditions: none.
-/
import Derived.Test.YtffachcddoechaaDoorDoor
import Derived.Test.YtffachcddoechaaDoorFFile
import Derived.Test.YtffachcddoechaaDoorToF
import Derived.Test.YtffachcddoechaaDoorSzF
import Derived.Test.YtffachcddoechaaDoorEqF
namespace Go.Proofs.YtffachcddoechaaDoor
open Go.ChangeShapes Go.WideShapes Go.ChangeAt Go.RowKit Go.Deep Go.Joins
open Go.ChangeMaps (open_string shut_string)
set_option linter.unusedVariables false
set_option linter.unusedSimpArgs false
set_option maxRecDepth 100000

set_option maxHeartbeats 4000000 in
theorem fnExactFindFile_walk {H : Type} {enc : TypeId × Value → H} (W : World) (base : Nat) (v0 v1 : Value) {d0 : DataW H} {p0 : List MemPlace} {d1 : DataW H} {p1 : List MemPlace}
    (k0 : Value.okWide Tryd.prog W .any base 30 v0) (k1 : Value.okWide Tryd.prog W .any base 9 v1)
    (h0 : DataW.Trod enc Tryd.prog W 0 (fun _ => true) true 30 v0 d0 p0) (h1 : DataW.Trod enc Tryd.prog W 0 (fun _ => true) true 9 v1 d1 p1) (hsh : W.ShapedOpen Tryd.prog) :
    Calls Tryd.prog 6 #[v0, v1] W fun e w' => e = .returned (.bool true) ∧ Below W.heap.size W w' := by
  have MX := Lib.hid (MaxAt.shaped hsh)
  clear hsh
  obtain ⟨A0, le0, c0, rfl⟩ := okWide_slice Tryd.underlying30 k0
  obtain ⟨fu0, hfu0⟩ := h0
  obtain ⟨v0, l0, ev0, r0, ok0⟩ := open_deep (ok := FFile.ok) 49 FFile.len (by omega) Tryd.underlying30 (by kernel_rfl) (fun m cs1 y1 _ h1 => read_File m cs1 y1 h1) hfu0
  obtain rfl : Value.slice A0 le0 c0 = v0 := by simpa [Value.cells] using ev0
  obtain ⟨A0', c0', ef0⟩ := r0.form
  simp only [Value.slice.injEq] at ef0
  obtain ⟨rfl, rfl, rfl⟩ := ef0
  have R0 := Lib.hid r0
  have OK0 := Lib.hid (FFile.oks_of l0 ok0)
  clear r0 ok0 ev0 hfu0 k0
  obtain ⟨n1, rfl, rfl, rfl, sz1⟩ := open_string Tryd.underlying9 k1 h1
  unfold maxLen at sz1
  clear k1 h1
  by_cases big1 : (1048576 : Int) < (n1.size : Int)
  case pos =>
    go_enter Tryd.func6, Tryd.ntmps6
    go_wp2_with fail
    go_ret
    exact ⟨rfl, Below.refl _ _⟩
  by_cases hn : ((l0.length + FFile.wts l0 : Nat) : Int) ≤ 1048576
  case neg =>
    have HP := Lib.hid (bud_neg hn)
    have hp : bud 1048576 (l0.length + FFile.wts l0) < 0 := by rw [HP.out]; omega
    go_enter Tryd.func6, Tryd.ntmps6
    go_wp2_with fail
    refine (szFileS_any l0 OK0.out _ _ _ W.heap.size (by omega) (by omega) (Nat.le_refl _) R0.out).mono ?_
    rintro e w1 ⟨rfl, hb⟩
    go_wp2_with fail
    go_ret
    exact ⟨rfl, hb⟩
  have hw : l0.length + FFile.wts l0 ≤ 1048576 := by omega
  have hl : l0.length ≤ 1048576 := by omega
  have HP := Lib.hid (bud_pos hn)
  have hp : 0 ≤ bud 1048576 (l0.length + FFile.wts l0) := by rw [HP.out]; omega
  clear HP
  have hs1 : n1.size ≤ 1048576 := by omega
  go_enter Tryd.func6, Tryd.ntmps6
  go_wp2_with fail
  refine (szFileS_any l0 OK0.out _ _ _ W.heap.size (by omega) (by omega) (Nat.le_refl _) R0.out).mono ?_
  rintro e w1 ⟨rfl, hB⟩
  have s1 := hB.size
  go_wp2_with fail
  refine (toFileS_any l0 hw _ _ W.heap.size (by omega) (R0.out.below hB (Nat.le_refl _))).mono ?_
  rintro e w2 ⟨A1, c1, rfl, o1, hb⟩
  replace hB := hB.trans (hb.mono (by omega))
  have s2 : w1.heap.size ≤ w2.heap.size := hb.size
  have O1 := Lib.hid o1
  clear hb o1
  go_wp2_with fail
  refine (FindFile_spec l0 n1 _ _ hs1 (by omega) (B := w2.heap.size) (Nat.le_refl _) O1.out.read).mono ?_
  generalize hq0 : fif l0 n1 = q0 at *
  have Q0 := Lib.hid hq0
  clear hq0
  rintro e w3 ⟨rfl, hb⟩
  replace hB := hB.trans (hb.mono (by omega))
  have s3 : w2.heap.size ≤ w3.heap.size := hb.size
  clear hb O1
  go_wp2_with fail
  refine (toFileS_any l0 hw _ _ W.heap.size (by omega) (R0.out.below hB (Nat.le_refl _))).mono ?_
  rintro e w4 ⟨A2, c2, rfl, o2, hb⟩
  replace hB := hB.trans (hb.mono (by omega))
  have s4 : w3.heap.size ≤ w4.heap.size := hb.size
  have O2 := Lib.hid o2
  clear hb o2
  go_wp2_with fail
  refine (FindFile_impl l0 n1 _ _ hs1 (MX.out.below hB) (by omega) (B := w4.heap.size) (Nat.le_refl _) O2.out.read).mono ?_
  rw [Q0.out]
  rintro e w5 ⟨rfl, hb⟩
  replace hB := hB.trans (hb.mono (by omega))
  have s5 : w4.heap.size ≤ w5.heap.size := hb.size
  have O3 := Lib.hid (O2.out.below hb (Nat.le_refl _))
  clear hb O2
  go_wp2_with fail
  refine (toFileS_any l0 hw _ _ W.heap.size (by omega) (R0.out.below hB (Nat.le_refl _))).mono ?_
  rintro e w6 ⟨A3, c3, rfl, o4, hb⟩
  replace hB := hB.trans (hb.mono (by omega))
  have s6 : w5.heap.size ≤ w6.heap.size := hb.size
  have O5 := Lib.hid (O3.out.below hb (Nat.le_refl _))
  have O4 := Lib.hid o4
  clear hb o4 O3
  go_wp2_with fail
  refine (eqFileS_any l0 (by omega) _ _ _ O5.out.read O4.out.read).mono ?_
  rintro e w7 ⟨rfl, hb⟩
  replace hB := hB.trans (hb.mono (by omega))
  go_wp2_with fail
  go_ret
  exact ⟨rfl, hB⟩
noncomputable abbrev laidHere : List (String × DataW Unit) := [("unicode/utf8.acceptRanges", Rows.laid_unicode_utf8_acceptRanges), ("unicode/utf8.first", Rows.laid_unicode_utf8_first)]
set_option maxRecDepth 100000 in
theorem fnExactFindFile_lifted (os : Os) (started : os.Started) (H : Type) (enc : TypeId × Value → H) :
    ReturnsInHanded {} Tryd.checked os 6 .any (fun w args => (Rows.fnExactFindFileSpec.pre enc Tryd.prog Tryd.f6 Rows.fnExactFindFileRow.domain false w args ∧ laidMetH Tryd.prog laidHere w) ∧ sizedMet enc Tryd.prog Tryd.f6 (OpenSpec.ofChange Rows.fnExactFindFileSpec) false w args) (Rows.fnExactFindFileSpec.post enc Tryd.prog Tryd.f6 false true false false) := by
  refine handed_both (C := Tryd.checked) (X := fun w _ => laidMetH Tryd.prog laidHere w) own started (by kernel_rfl) Tryd.func6
    (ChangeSpec.witness_shaped (enc := enc) (C := Tryd.checked) (os := os) (X := fun w _ => laidMetH Tryd.prog laidHere w) false (World.laidAll Tryd.prog os laidHere) #[.slice none 0 0, .string ByteArray.empty] 8 (World.laidAll_os _ _ _)
      (World.shaped_of_ZipB (by kernel_rfl) (by kernel_rfl)) (by kernel_rfl) (by kernel_rfl) (by kernel_rfl)
      (by rw [MakeChecks.laidMetH_plain _ _ _ (by kernel_rfl)]; exact laidMet_laidAll _ (by kernel_rfl) (by kernel_rfl))) ?_
  intro W base args ds gs before hval0 hW hsh
  have hval : ∀ (j : Nat) t v, Tryd.f6.params[j]? = some t → args[j]? = some v → Value.okWide Tryd.prog W .any base t v := hval0
  have hW' := hW
  obtain ⟨p, q, hA0, hV, rfl, hfz, hnd⟩ := hW
  have hA : DataW.TrodAll enc Tryd.prog W 0 (fun _ => true) true Tryd.f6.params.toList args.toList ds p := hA0
  rw [Tryd.params6] at hA hval
  obtain ⟨v0, vs0, d0, ds0, p0, q0, hargs, rfl, rfl, h0, r0⟩ := trodAll_cons hA
  obtain ⟨v1, vs1, d1, ds1, p1, q1, rfl, rfl, rfl, h1, r1⟩ := trodAll_cons r0
  obtain ⟨rfl, rfl, rfl⟩ := trodAll_nil r1
  obtain rfl : args = #[v0, v1] := by cases args; simp_all
  obtain ⟨rfl, rfl⟩ := trodVars_none hV
  have lt0 : ∀ x ∈ p0, x.block < W.heap.size := by obtain ⟨m, hm⟩ := h0; exact DataW.trod_lt m _ _ _ hm
  have lt1 : ∀ x ∈ p1, x.block < W.heap.size := by obtain ⟨m, hm⟩ := h1; exact DataW.trod_lt m _ _ _ hm
  have k0 := hval 0 30 v0 rfl rfl
  have k1 := hval 1 9 v1 rfl rfl
  clear hA0 hval0
  refine (fnExactFindFile_walk W base v0 v1 k0 k1 h0 h1 hsh).mono fun e W' ⟨he, bel⟩ => ?_
  subst he
  exact ⟨_, rfl, _, _, _, [], _, [], hW', trodAll_mk1 (shut_bool Tryd.underlying4 _), (trodAll_cons_mk (Below.trod laidOut (by kernel_rfl) (of_decide_eq_true (by kernel_rfl)) h0 bel lt0) (trodAll_cons_mk (Below.trod laidOut (by kernel_rfl) (of_decide_eq_true (by kernel_rfl)) h1 bel lt1) trodAll_mk0)), rfl, bel.frame _, fun h => by cases h⟩

theorem fnExactFindFile_holds : Rows.FnExactFindFileSaid :=
  OpenClaim.holds_of_wide 6 Tryd.f6 rfl rfl rfl rfl rfl rfl rfl ⟨rfl, rfl, rfl, rfl, rfl⟩ rfl rfl rfl rfl rfl (by kernel_rfl) Tryd.func6 (by kernel_rfl)
    (of_decide_eq_true (by kernel_rfl)) (by unfold Func.isWrapper; rw [if_neg (of_decide_eq_false (by kernel_rfl))]; exact ⟨rfl, rfl⟩)
    (fun os started H enc _ => fnExactFindFile_lifted os started H enc)
theorem fnExactFindFile_card_holds : Rows.FnExactFindFileCardSaid :=
  Claim7.holds_tied_plain_at .later [] [.data, .pinned] true (true, "b113659a69687d0aa70988503caa45938c112030a21b97400d56c2ea457c8e1e") false fnExactFindFile_holds (fun _ h => by cases h) (by kernel_rfl) (fun _ h => by cases h) fnExactFindFile_row_tie rfl ⟨rfl, rfl⟩ (by kernel_rfl) rfl
    (fun f fn hf hfn => by
      obtain rfl : f = 6 := Option.some.inj ((show Tryd.prog.funcNamed "loop.example/g03011/laws.FnExactFindFile" = some 6 by kernel_rfl).symm.trans hf) |>.symm
      obtain rfl : fn = Tryd.f6 := (Option.some.inj (Tryd.func6.symm.trans hfn)).symm
      exact ⟨by kernel_rfl, fun j t ht => by
        rw [Tryd.params6] at ht
        have hm : t ∈ [30, 9] := by simpa using Array.mem_of_getElem? ht
        have hall : ([30, 9].all fun u => !Tryd.prog.wantsStandIn u) = true := by kernel_rfl
        exact (show Tryd.prog.wantsStandIn t = false by simpa using List.all_eq_true.1 hall t hm)⟩)
    (by kernel_rfl)
#print axioms fnExactFindFile_card_holds

end Go.Proofs.YtffachcddoechaaDoor
