/-
  IndexValue of the program. Conditions: none: the listed variables.
-/
import Derived.Test.YtgbeenieacnanaaDoorIxI
namespace Go.Proofs.YtgbeenieacnanaaDoor
open Go.ChangeShapes Go.WideShapes Go.ChangeAt Go.RowKit Go.Deep Go.Joins
open Go.ChangeMaps (open_string shut_string)
set_option linter.unusedVariables false
set_option linter.unusedSimpArgs false
set_option maxRecDepth 100000
set_option maxHeartbeats 4000000 in
theorem ix_impl (v x : FValue) (hw : v.wt ≤ 1048576) (hw2 : x.wt ≤ 1048576) (us vs : List Value) (w : World) (B : Nat) (hV : TabV w) (hB0 : B ≤ w.heap.size) (hr : RdVs w B v.c us) (hs : RdVs w B x.c vs) :
    Calls Tryd.prog 8 #[.agg us.toArray, .agg vs.toArray] w fun e w' => ∃ us', e = .returned (.tuple #[.agg us'.toArray, .int .i64 (ixC v x)]) ∧ OwnI w' w.heap.size w'.heap.size (ixQ v x).c us' ∧ Below w.heap.size w w' := by
  obtain ⟨z0, z1, z2, z3, l⟩ := v
  obtain ⟨x0, x1, x2, x3, l2⟩ := x
  rw [FValue.wt_eq] at hw hw2
  rw [FValue.c_eq] at hr
  obtain ⟨us0, rfl, hr_0⟩ := hr.unv
  obtain ⟨us1, rfl, hr_1⟩ := hr_0.unv
  obtain ⟨us2, rfl, hr_2⟩ := hr_1.unv
  obtain ⟨us3, rfl, hr_3⟩ := hr_2.unv
  obtain ⟨A, c, us4, rfl, r4, hr_4⟩ := hr_3.uns
  obtain rfl := hr_4.un0
  have HC := Lib.hid (r4.up hB0)
  clear r4 hr hr_0 hr_1 hr_2 hr_3 hr_4
  rw [FValue.c_eq] at hs
  obtain ⟨vs0, rfl, hs_0⟩ := hs.unv
  obtain ⟨vs1, rfl, hs_1⟩ := hs_0.unv
  obtain ⟨vs2, rfl, hs_2⟩ := hs_1.unv
  obtain ⟨vs3, rfl, hs_3⟩ := hs_2.unv
  obtain ⟨E, e2, vs4, rfl, t4, hs_4⟩ := hs_3.uns
  obtain rfl := hs_4.un0
  clear t4 hs hs_0 hs_1 hs_2 hs_3 hs_4
  have hn : l.length ≤ 9223372036854775807 := by omega
  have hB0 := trivial
  have HB0 := Lib.hid ((((Below.refl w.heap.size w).alloc (Nat.le_refl _) (.cells #[.int .i64 z0, .int .i64 z1, .string z2, .int .i64 z3, .slice A l.length c] 28)).alloc (by simp) (.cells #[.int .i64 x0, .int .i64 x1, .string x2, .int .i64 x3, .slice E l2.length e2] 28)).alloc (by simp; omega) (.cells #[.int .i64 0, .int .i64 0, .string ⟨#[]⟩, .int .i64 0, .slice none 0 0] 28))
  have b0 := Lib.hid (((Blk.new w 28 #[.int .i64 z0, .int .i64 z1, .string z2, .int .i64 z3, .slice A l.length c]).alloc (.cells #[.int .i64 x0, .int .i64 x1, .string x2, .int .i64 x3, .slice E l2.length e2] 28)).alloc (.cells #[.int .i64 0, .int .i64 0, .string ⟨#[]⟩, .int .i64 0, .slice none 0 0] 28))
  have b2 := Lib.hid (Blk.new' ((w.alloc (.cells #[.int .i64 z0, .int .i64 z1, .string z2, .int .i64 z3, .slice A l.length c] 28)).alloc (.cells #[.int .i64 x0, .int .i64 x1, .string x2, .int .i64 x3, .slice E l2.length e2] 28)) 28 #[.int .i64 0, .int .i64 0, .string ⟨#[]⟩, .int .i64 0, .slice none 0 0] (w.heap.size + 2) (by simp))
  have b2a := b2.out.cell 0
  have b2b := b2.out.cell 1
  have b2c := b2.out.cell 2
  have b2d := b2.out.cell 3
  have b2e := b2.out.cell 4
  have b2l := b2.out.lt
  have b2f := fun i => b2.out.frozen i
  have KO := Lib.hid (fun W hb => ko_impl x0 x1 x2 x3 E l2.length e2 (by omega) W (hV.below hb))
  have HQ : ixQ ⟨z0, z1, z2, z3, l⟩ ⟨x0, x1, x2, x3, l2⟩ = if z0 == 4 then (if koB x0 x1 x2 then gtF (koK x0 x1 x2) l else zeroV) else if z0 == 3 then (if koB x0 x1 x2 then chF z2 (koK x0 x1 x2) else zeroV) else zeroV := rfl
  have HK : ixC ⟨z0, z1, z2, z3, l⟩ ⟨x0, x1, x2, x3, l2⟩ = if z0 == 4 || z0 == 3 then (if koB x0 x1 x2 then 0 else 5) else 0 := rfl
  generalize koK x0 x1 x2 = key at *
  generalize koB x0 x1 x2 = ok at *
  obtain ⟨a0, a1, a2⟩ := key
  dsimp only at KO
  by_cases h4 : z0 = 4
  · subst h4
    cases ok with
    | false =>
      replace HQ : ixQ ⟨4, z1, z2, z3, l⟩ ⟨x0, x1, x2, x3, l2⟩ = zeroV := HQ
      replace HK : ixC ⟨4, z1, z2, z3, l⟩ ⟨x0, x1, x2, x3, l2⟩ = 5 := HK
      go_enter Tryd.func8, Tryd.ntmps8
      go_wp2_with (first | (go_at_call 25; refine (KO.out _ HB0.out).mono ?_; rintro e w1 ⟨rfl, hb1⟩; have HB1 := Lib.hid (HB0.out.trans (hb1.mono HB0.out.size)); have s1 := hb1.size; have C1 := Lib.hid (b2.out.below hb1 (Nat.le_refl _)); have C1l := C1.out.lt; have C1f := fun i => C1.out.frozen i; have C1_0 := C1.out.cell 0; have C1_1 := C1.out.cell 1; have C1_2 := C1.out.cell 2; have C1_3 := C1.out.cell 3; have C1_4 := C1.out.cell 4; have D1 := Lib.hid (b0.out.below hb1 (Nat.le_refl _)); have D1l := D1.out.lt; have D1_0 := D1.out.cell 0; have D1_1 := D1.out.cell 1; have D1_2 := D1.out.cell 2; have D1_3 := D1.out.cell 3; have D1_4 := D1.out.cell 4) | (go_at_call 24; refine (null_impl _).mono ?_; rintro e w3 ⟨rfl, hb3⟩; have C3 := Lib.hid ((C1.out.alloc (.cells #[.bool a0, .int .i64 a1, .string a2] 44)).below hb3 (Nat.le_refl _)); have C3l := C3.out.lt; have C3f := fun i => C3.out.frozen i; have C3_0 := C3.out.cell 0; have C3_1 := C3.out.cell 1; have C3_2 := C3.out.cell 2; have C3_3 := C3.out.cell 3; have C3_4 := C3.out.cell 4))
      rw [HQ, HK]
      refine bodyPost_ret (v := .tuple #[.agg #[.int .i64 0, .int .i64 0, .string ⟨#[]⟩, .int .i64 0, .slice none 0 0], .int .i64 5]) (by simp [results, Tryd.results8, go_sem, C3_0, C3_1, C3_2, C3_3, C3_4, C3l, C3f]) rfl ⟨_, rfl, own_zero _ _ _, ?_⟩
      repeat (refine Below.setCell ?_ (by (try simp) <;> omega) _)
      exact (HB1.out.alloc HB1.out.size (.cells #[.bool a0, .int .i64 a1, .string a2] 44)).trans (hb3.mono (HB1.out.alloc HB1.out.size (.cells #[.bool a0, .int .i64 a1, .string a2] 44)).size)
    | true =>
      replace HQ : ixQ ⟨4, z1, z2, z3, l⟩ ⟨x0, x1, x2, x3, l2⟩ = gtF ⟨a0, a1, a2⟩ l := HQ
      replace HK : ixC ⟨4, z1, z2, z3, l⟩ ⟨x0, x1, x2, x3, l2⟩ = 0 := HK
      obtain ⟨⟨g0, g1, g2, g3, g4⟩, hg⟩ : ∃ g, gtF ⟨a0, a1, a2⟩ l = g := ⟨_, rfl⟩
      rw [hg] at HQ
      have e0 : ∀ (W : World) (o : Obj), (W.alloc o).heap.size = W.heap.size + 1 := fun W o => by simp
      have GK := Lib.hid (fun W (hb : Below w.heap.size w W) => get_impl z1 z2 z3 l (by omega) ⟨a0, a1, a2⟩ [.int .i64 4, .int .i64 z1, .string z2, .int .i64 z3, .slice A l.length c] W w.heap.size hb.size (by rw [FValue.c_eq]; exact RdVs.cons (by unfold RdC; rfl) (RdVs.cons (by unfold RdC; rfl) (RdVs.cons (by unfold RdC; rfl) (RdVs.cons (by unfold RdC; rfl) (RdVs.cons (HC.out.below hb (Nat.le_refl _)) (RdVs.nil _ _)))))))
      go_enter Tryd.func8, Tryd.ntmps8
      go_wp2_with (first | (go_at_call 25; refine (KO.out _ HB0.out).mono ?_; rintro e w1 ⟨rfl, hb1⟩; have HB1 := Lib.hid (HB0.out.trans (hb1.mono HB0.out.size)); have s1 := hb1.size; have C1 := Lib.hid (b2.out.below hb1 (Nat.le_refl _)); have C1l := C1.out.lt; have C1f := fun i => C1.out.frozen i; have C1_0 := C1.out.cell 0; have C1_1 := C1.out.cell 1; have C1_2 := C1.out.cell 2; have C1_3 := C1.out.cell 3; have C1_4 := C1.out.cell 4; have D1 := Lib.hid (b0.out.below hb1 (Nat.le_refl _)); have D1l := D1.out.lt; have D1_0 := D1.out.cell 0; have D1_1 := D1.out.cell 1; have D1_2 := D1.out.cell 2; have D1_3 := D1.out.cell 3; have D1_4 := D1.out.cell 4) | (go_at_call 26; refine (GK.out _ (HB1.out.alloc HB1.out.size (.cells #[.bool a0, .int .i64 a1, .string a2] 44))).mono ?_; rw [hg]; rintro e w3 ⟨us, b, rfl, own, hb3⟩; have hv := own.vs; rw [FValue.c_eq] at hv; obtain ⟨us_0, rfl, hv_0⟩ := hv.unv; obtain ⟨us_1, rfl, hv_1⟩ := hv_0.unv; obtain ⟨us_2, rfl, hv_2⟩ := hv_1.unv; obtain ⟨us_3, rfl, hv_3⟩ := hv_2.unv; obtain ⟨Dus, dus, us_4, rfl, _, hv_4⟩ := hv_3.uns; obtain rfl := hv_4.un0; clear hv hv_0 hv_1 hv_2 hv_3 hv_4; have OWN := Lib.hid (own.alloc (.cells #[.int .i64 g0, .int .i64 g1, .string g2, .int .i64 g3, .slice Dus g4.length dus] 28)); have s3 := hb3.size; have HB3 := Lib.hid (((HB1.out.alloc HB1.out.size (.cells #[.bool a0, .int .i64 a1, .string a2] 44)).trans (hb3.mono (HB1.out.alloc HB1.out.size (.cells #[.bool a0, .int .i64 a1, .string a2] 44)).size)).alloc (Nat.le_trans (HB1.out.alloc HB1.out.size (.cells #[.bool a0, .int .i64 a1, .string a2] 44)).size hb3.size) (.cells #[.int .i64 g0, .int .i64 g1, .string g2, .int .i64 g3, .slice Dus g4.length dus] 28)); have C3 := Lib.hid (((C1.out.alloc (.cells #[.bool a0, .int .i64 a1, .string a2] 44)).below hb3 (Nat.le_refl _)).alloc (.cells #[.int .i64 g0, .int .i64 g1, .string g2, .int .i64 g3, .slice Dus g4.length dus] 28)); have C3l := C3.out.lt; have C3f := fun i => C3.out.frozen i; have C3_0 := C3.out.cell 0; have C3_1 := C3.out.cell 1; have C3_2 := C3.out.cell 2; have C3_3 := C3.out.cell 3; have C3_4 := C3.out.cell 4))
      rw [HQ, HK]
      simp only [e0] at s1 s3
      refine bodyPost_ret (v := .tuple #[.agg #[.int .i64 g0, .int .i64 g1, .string g2, .int .i64 g3, .slice Dus g4.length dus], .int .i64 0]) (by simp [results, Tryd.results8, go_sem, C3_0, C3_1, C3_2, C3_3, C3_4, C3l, C3f]) rfl ⟨_, rfl, ?_, ?_⟩
      · refine OwnI.wide (lo := (w1.alloc (.cells #[.bool a0, .int .i64 a1, .string a2] 44)).heap.size) (hi := w3.heap.size) ?_ (by simp; omega) (by simp)
        repeat (refine OwnI.set ?_ (.inl (by (try simp) <;> omega)) _)
        exact OWN.out
      · repeat (refine Below.setCell ?_ (by (try simp) <;> omega) _)
        exact HB3.out
  by_cases h3 : z0 = 3
  · subst h3
    cases ok with
    | false =>
      replace HQ : ixQ ⟨3, z1, z2, z3, l⟩ ⟨x0, x1, x2, x3, l2⟩ = zeroV := HQ
      replace HK : ixC ⟨3, z1, z2, z3, l⟩ ⟨x0, x1, x2, x3, l2⟩ = 5 := HK
      go_enter Tryd.func8, Tryd.ntmps8
      go_wp2_with (first | (go_at_call 25; refine (KO.out _ HB0.out).mono ?_; rintro e w1 ⟨rfl, hb1⟩; have HB1 := Lib.hid (HB0.out.trans (hb1.mono HB0.out.size)); have s1 := hb1.size; have C1 := Lib.hid (b2.out.below hb1 (Nat.le_refl _)); have C1l := C1.out.lt; have C1f := fun i => C1.out.frozen i; have C1_0 := C1.out.cell 0; have C1_1 := C1.out.cell 1; have C1_2 := C1.out.cell 2; have C1_3 := C1.out.cell 3; have C1_4 := C1.out.cell 4; have D1 := Lib.hid (b0.out.below hb1 (Nat.le_refl _)); have D1l := D1.out.lt; have D1_0 := D1.out.cell 0; have D1_1 := D1.out.cell 1; have D1_2 := D1.out.cell 2; have D1_3 := D1.out.cell 3; have D1_4 := D1.out.cell 4) | (go_at_call 24; refine (null_impl _).mono ?_; rintro e w3 ⟨rfl, hb3⟩; have C3 := Lib.hid ((C1.out.alloc (.cells #[.bool a0, .int .i64 a1, .string a2] 44)).below hb3 (Nat.le_refl _)); have C3l := C3.out.lt; have C3f := fun i => C3.out.frozen i; have C3_0 := C3.out.cell 0; have C3_1 := C3.out.cell 1; have C3_2 := C3.out.cell 2; have C3_3 := C3.out.cell 3; have C3_4 := C3.out.cell 4))
      rw [HQ, HK]
      refine bodyPost_ret (v := .tuple #[.agg #[.int .i64 0, .int .i64 0, .string ⟨#[]⟩, .int .i64 0, .slice none 0 0], .int .i64 5]) (by simp [results, Tryd.results8, go_sem, C3_0, C3_1, C3_2, C3_3, C3_4, C3l, C3f]) rfl ⟨_, rfl, own_zero _ _ _, ?_⟩
      repeat (refine Below.setCell ?_ (by (try simp) <;> omega) _)
      exact (HB1.out.alloc HB1.out.size (.cells #[.bool a0, .int .i64 a1, .string a2] 44)).trans (hb3.mono (HB1.out.alloc HB1.out.size (.cells #[.bool a0, .int .i64 a1, .string a2] 44)).size)
    | true =>
      replace HQ : ixQ ⟨3, z1, z2, z3, l⟩ ⟨x0, x1, x2, x3, l2⟩ = chF z2 ⟨a0, a1, a2⟩ := HQ
      replace HK : ixC ⟨3, z1, z2, z3, l⟩ ⟨x0, x1, x2, x3, l2⟩ = 0 := HK
      cases a0 with
      | true =>
        have HC2 : chF z2 ⟨true, a1, a2⟩ = zeroV := rfl
        rw [HC2] at HQ
        go_enter Tryd.func8, Tryd.ntmps8
        go_wp2_with (first | (go_at_call 25; refine (KO.out _ HB0.out).mono ?_; rintro e w1 ⟨rfl, hb1⟩; have HB1 := Lib.hid (HB0.out.trans (hb1.mono HB0.out.size)); have s1 := hb1.size; have C1 := Lib.hid (b2.out.below hb1 (Nat.le_refl _)); have C1l := C1.out.lt; have C1f := fun i => C1.out.frozen i; have C1_0 := C1.out.cell 0; have C1_1 := C1.out.cell 1; have C1_2 := C1.out.cell 2; have C1_3 := C1.out.cell 3; have C1_4 := C1.out.cell 4; have D1 := Lib.hid (b0.out.below hb1 (Nat.le_refl _)); have D1l := D1.out.lt; have D1_0 := D1.out.cell 0; have D1_1 := D1.out.cell 1; have D1_2 := D1.out.cell 2; have D1_3 := D1.out.cell 3; have D1_4 := D1.out.cell 4) | (go_at_call 24; refine (null_impl _).mono ?_; rintro e w3 ⟨rfl, hb3⟩; have C3 := Lib.hid ((C1.out.alloc (.cells #[.bool true, .int .i64 a1, .string a2] 44)).below hb3 (Nat.le_refl _)); have C3l := C3.out.lt; have C3f := fun i => C3.out.frozen i; have C3_0 := C3.out.cell 0; have C3_1 := C3.out.cell 1; have C3_2 := C3.out.cell 2; have C3_3 := C3.out.cell 3; have C3_4 := C3.out.cell 4))
        rw [HQ, HK]
        refine bodyPost_ret (v := .tuple #[.agg #[.int .i64 0, .int .i64 0, .string ⟨#[]⟩, .int .i64 0, .slice none 0 0], .int .i64 0]) (by simp [results, Tryd.results8, go_sem, C3_0, C3_1, C3_2, C3_3, C3_4, C3l, C3f]) rfl ⟨_, rfl, own_zero _ _ _, ?_⟩
        repeat (refine Below.setCell ?_ (by (try simp) <;> omega) _)
        exact (HB1.out.alloc HB1.out.size (.cells #[.bool true, .int .i64 a1, .string a2] 44)).trans (hb3.mono (HB1.out.alloc HB1.out.size (.cells #[.bool true, .int .i64 a1, .string a2] 44)).size)
      | false =>
        cases hin : inB a1 0 ((z2.size : Int) - 1) with
        | false =>
          have HC2 : chF z2 ⟨false, a1, a2⟩ = zeroV := by unfold chF; rw [hin]; rfl
          rw [HC2] at HQ
          go_enter Tryd.func8, Tryd.ntmps8
          go_wp2_with (first | (go_at_call 25; refine (KO.out _ HB0.out).mono ?_; rintro e w1 ⟨rfl, hb1⟩; have HB1 := Lib.hid (HB0.out.trans (hb1.mono HB0.out.size)); have s1 := hb1.size; have C1 := Lib.hid (b2.out.below hb1 (Nat.le_refl _)); have C1l := C1.out.lt; have C1f := fun i => C1.out.frozen i; have C1_0 := C1.out.cell 0; have C1_1 := C1.out.cell 1; have C1_2 := C1.out.cell 2; have C1_3 := C1.out.cell 3; have C1_4 := C1.out.cell 4; have D1 := Lib.hid (b0.out.below hb1 (Nat.le_refl _)); have D1l := D1.out.lt; have D1_0 := D1.out.cell 0; have D1_1 := D1.out.cell 1; have D1_2 := D1.out.cell 2; have D1_3 := D1.out.cell 3; have D1_4 := D1.out.cell 4) | (go_at_call 27; refine (inRange_any _ _ _ _).mono ?_; rw [hin]; rintro e w2 ⟨rfl, rfl⟩) | (go_at_call 24; refine (null_impl _).mono ?_; rintro e w3 ⟨rfl, hb3⟩; have C3 := Lib.hid ((C1.out.alloc (.cells #[.bool false, .int .i64 a1, .string a2] 44)).below hb3 (Nat.le_refl _)); have C3l := C3.out.lt; have C3f := fun i => C3.out.frozen i; have C3_0 := C3.out.cell 0; have C3_1 := C3.out.cell 1; have C3_2 := C3.out.cell 2; have C3_3 := C3.out.cell 3; have C3_4 := C3.out.cell 4))
          rw [HQ, HK]
          refine bodyPost_ret (v := .tuple #[.agg #[.int .i64 0, .int .i64 0, .string ⟨#[]⟩, .int .i64 0, .slice none 0 0], .int .i64 0]) (by simp [results, Tryd.results8, go_sem, C3_0, C3_1, C3_2, C3_3, C3_4, C3l, C3f]) rfl ⟨_, rfl, own_zero _ _ _, ?_⟩
          repeat (refine Below.setCell ?_ (by (try simp) <;> omega) _)
          exact (HB1.out.alloc HB1.out.size (.cells #[.bool false, .int .i64 a1, .string a2] 44)).trans (hb3.mono (HB1.out.alloc HB1.out.size (.cells #[.bool false, .int .i64 a1, .string a2] 44)).size)
        | true =>
          have hi := inB_iff.1 hin
          obtain ⟨j, rfl⟩ : ∃ j : Nat, a1 = (j : Int) := ⟨a1.toNat, by omega⟩
          have HC2 : chF z2 ⟨false, (j : Int), a2⟩ = ⟨3, 0, z2.extract j (j + 1), 0, []⟩ := by unfold chF; rw [hin]; rfl
          rw [HC2] at HQ
          have hj1 : (j : Int) + 1 ≤ (z2.size : Int) := by omega
          have hj2 : j + 1 ≤ z2.size := by omega
          have hj3 : (0 : Int) ≤ (j : Int) := by omega
          generalize hex : z2.extract j (j + 1) = sx at *
          go_enter Tryd.func8, Tryd.ntmps8
          go_wp2_with (first | (go_at_call 25; refine (KO.out _ HB0.out).mono ?_; rintro e w1 ⟨rfl, hb1⟩; have HB1 := Lib.hid (HB0.out.trans (hb1.mono HB0.out.size)); have s1 := hb1.size; have C1 := Lib.hid (b2.out.below hb1 (Nat.le_refl _)); have C1l := C1.out.lt; have C1f := fun i => C1.out.frozen i; have C1_0 := C1.out.cell 0; have C1_1 := C1.out.cell 1; have C1_2 := C1.out.cell 2; have C1_3 := C1.out.cell 3; have C1_4 := C1.out.cell 4; have D1 := Lib.hid (b0.out.below hb1 (Nat.le_refl _)); have D1l := D1.out.lt; have D1_0 := D1.out.cell 0; have D1_1 := D1.out.cell 1; have D1_2 := D1.out.cell 2; have D1_3 := D1.out.cell 3; have D1_4 := D1.out.cell 4) | (go_at_call 27; refine (inRange_any _ _ _ _).mono ?_; rw [hin]; rintro e w2 ⟨rfl, rfl⟩) | (go_at_call 28; refine (text_impl _ _).mono ?_; rintro e w3 ⟨rfl, hb3⟩; have C3 := Lib.hid ((C1.out.alloc (.cells #[.bool false, .int .i64 (j : Int), .string a2] 44)).below hb3 (Nat.le_refl _)); have C3l := C3.out.lt; have C3f := fun i => C3.out.frozen i; have C3_0 := C3.out.cell 0; have C3_1 := C3.out.cell 1; have C3_2 := C3.out.cell 2; have C3_3 := C3.out.cell 3; have C3_4 := C3.out.cell 4))
          rw [HQ, HK]
          refine bodyPost_ret (v := .tuple #[.agg #[.int .i64 3, .int .i64 0, .string sx, .int .i64 0, .slice none 0 0], .int .i64 0]) (by simp [results, Tryd.results8, go_sem, C3_0, C3_1, C3_2, C3_3, C3_4, C3l, C3f]) rfl ⟨_, rfl, own_text _ _ _ _, ?_⟩
          repeat (refine Below.setCell ?_ (by (try simp) <;> omega) _)
          exact (HB1.out.alloc HB1.out.size (.cells #[.bool false, .int .i64 (j : Int), .string a2] 44)).trans (hb3.mono (HB1.out.alloc HB1.out.size (.cells #[.bool false, .int .i64 (j : Int), .string a2] 44)).size)
  have n4 : (z0 == 4) = false := beq_false_of_ne h4
  have n3 : (z0 == 3) = false := beq_false_of_ne h3
  have m4 : (z0 != 4) = true := by rw [bne, n4]; rfl
  have m3 : (z0 != 3) = true := by rw [bne, n3]; rfl
  replace HQ : ixQ ⟨z0, z1, z2, z3, l⟩ ⟨x0, x1, x2, x3, l2⟩ = zeroV := by rw [HQ, n4, n3]; rfl
  replace HK : ixC ⟨z0, z1, z2, z3, l⟩ ⟨x0, x1, x2, x3, l2⟩ = 0 := by rw [HK, n4, n3]; rfl
  go_enter Tryd.func8, Tryd.ntmps8
  go_wp2_with (go_at_call 24; refine (null_impl _).mono ?_; rintro e w3 ⟨rfl, hb3⟩; have C3 := Lib.hid (b2.out.below hb3 (Nat.le_refl _)); have C3l := C3.out.lt; have C3f := fun i => C3.out.frozen i; have C3_0 := C3.out.cell 0; have C3_1 := C3.out.cell 1; have C3_2 := C3.out.cell 2; have C3_3 := C3.out.cell 3; have C3_4 := C3.out.cell 4)
  rw [HQ, HK]
  refine bodyPost_ret (v := .tuple #[.agg #[.int .i64 0, .int .i64 0, .string ⟨#[]⟩, .int .i64 0, .slice none 0 0], .int .i64 0]) (by simp [results, Tryd.results8, go_sem, C3_0, C3_1, C3_2, C3_3, C3_4, C3l, C3f]) rfl ⟨_, rfl, own_zero _ _ _, ?_⟩
  repeat (refine Below.setCell ?_ (by (try simp) <;> omega) _)
  exact HB0.out.trans (hb3.mono HB0.out.size)
end Go.Proofs.YtgbeenieacnanaaDoor
