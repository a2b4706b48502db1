/-
  Parts of the proof: IvK. Conditions: none.
-/
import Derived.Test.YtdmbhmhfjappcaaGreatDoorQIvJ
namespace Go.Proofs.YtdmbhmhfjappcaaGreatDoor
open Go.ChangeShapes Go.WideShapes Go.ChangeAt Go.RowKit Go.Deep Go.Joins
open Go.ChangeMaps (open_string shut_string)
set_option linter.unusedVariables false
set_option linter.unusedSimpArgs false
set_option maxRecDepth 100000
set_option maxHeartbeats 4000000 in
theorem vI_4 (z1 : Int) (z2 : ByteArray) (z3 : Int) (l : List FEntry) (hw : l.length ≤ 1000000000) (hs2 : z2.size ≤ 9000000000) (he : ∀ y, y ∈ l → VI y.vv) : VI ⟨4, z1, z2, z3, l⟩ := by
  intro us w B hV hB0 hr
  rw [FValue.c_eq] at hr
  obtain ⟨us0, rfl, hr_0⟩ := hr.unv
  obtain ⟨us1, rfl, hr_1⟩ := hr_0.unv
  obtain ⟨us2, rfl, hr_2⟩ := hr_1.unv
  obtain ⟨us3, rfl, hr_3⟩ := hr_2.unv
  obtain ⟨A, c, us4, rfl, r4, hr_4⟩ := hr_3.uns
  obtain rfl := hr_4.un0
  have HC := Lib.hid (r4.up hB0)
  clear r4 hr hr_0 hr_1 hr_2 hr_3 hr_4
  have HE := Lib.hid he
  have HV := Lib.hid hV
  clear he hB0 hV
  have hn : l.length ≤ 9223372036854775807 := by omega
  have hmm := @run_makeMap Tryz.prog
  have HB1 := Lib.hid ((Below.refl _ w).alloc (Nat.le_refl _) (.cells #[.int .i64 4, .int .i64 z1, .string z2, .int .i64 z3, .slice A l.length c] 43))
  have hv : vF ⟨4, z1, z2, z3, l⟩ = (emS z2 && z1 == 0 && inB z3 0 1000000001 && vFs z3 [] l) := by rw [vF]; rfl
  have es : z2.toList.isEmpty = emS z2 := rfl
  cases hse : emS z2 with
  | false =>
    rw [hse] at es
    have HG := Lib.hid (show vF ⟨4, z1, z2, z3, l⟩ = false from by rw [hv, hse]; simp)
    clear hv
    go_enter Tryz.func42, Tryz.ntmps42
    go_wp2_with fail
    go_ret
    exact ⟨ret_bool (by rw [HG.out]), HB1.out⟩
  | true =>
    rw [hse] at es
    by_cases hz1 : z1 = 0
    · subst hz1
      cases hin : inB z3 0 1000000001 with
      | false =>
        have HG := Lib.hid (show vF ⟨4, 0, z2, z3, l⟩ = false from by rw [hv, hin]; simp)
        clear hv
        go_enter Tryz.func42, Tryz.ntmps42
        go_wp2_with (go_at_call 22; refine (inRange_any _ _ _ _).mono ?_; rw [hin]; rintro e w1 ⟨rfl, rfl⟩)
        go_ret
        exact ⟨ret_bool (by rw [HG.out]), HB1.out⟩
      | true =>
        have HG := Lib.hid (show vF ⟨4, 0, z2, z3, l⟩ = vFs z3 [] l from by rw [hv, hse, hin]; simp)
        clear hv
        go_enter Tryz.func42, Tryz.ntmps42
        go_wp2_with (go_at_call 22; refine (inRange_any _ _ _ _).mono ?_; rw [hin]; rintro e w1 ⟨rfl, rfl⟩)
        go_loopw [85] (fun i wr => ∃ k : Nat, k ≤ l.length ∧ i = .int .i64 k ∧ vFs z3 [] l = vFs z3 (ksF l k) (l.drop k) ∧ Blk wr w.heap.size 43 #[.int .i64 4, .int .i64 0, .string z2, .int .i64 z3, .slice A l.length c] ∧ SeenK wr (w.heap.size + 1) k (ksF l k) ∧ Below w.heap.size w wr) (fun i _ => l.length - (intOf i).toNat)
        case atStart => exact ⟨0, Nat.zero_le _, rfl, rfl, (Blk.new w _ _).alloc _, by have h := SeenK.made (w.alloc (.cells #[.int .i64 4, .int .i64 0, .string z2, .int .i64 z3, .slice A l.length c] 43)); rwa [size_alK] at h, HB1.out.alloc (by simp) _⟩
        case round =>
          clear HB1
          obtain ⟨k, hk, rfl, hm, b0, se, hb0⟩ := hrel
          by_cases hlt : k < l.length
          · skip
            obtain ⟨x, hx⟩ : ∃ x, l[k]? = some x := ⟨_, List.getElem?_eq_getElem hlt⟩
            obtain ⟨bc, offc, rfl, hblc, hcc⟩ := RdC.at_ FEntry.len HC.out hx
            have HKS := Lib.hid (ksF_succ hx)
            rw [drop_of hx, vFs_cons] at hm
            have HP := Lib.hid (HE.out x (List.mem_of_getElem? hx))
            clear hx
            obtain ⟨⟨y0, y1, y2⟩, ⟨y3, y4, y5, y6, y7⟩⟩ := x
            rw [FEntry.c_eq] at hcc
            obtain ⟨u0, e0, q0⟩ := hcc 0 _ rfl
            obtain rfl := q0.val
            have g0 : wr.cell? ⟨bc, offc + k * 8, none⟩ = some (.bool y0) := (hb0.cell (p := ⟨bc, _, none⟩) hblc).trans (by simpa using e0)
            obtain ⟨u1, e1, q1⟩ := hcc 1 _ rfl
            obtain rfl := q1.val
            have g1 : wr.cell? ⟨bc, offc + k * 8 + 1, none⟩ = some (.int .i64 y1) := (hb0.cell (p := ⟨bc, _, none⟩) hblc).trans (by simpa using e1)
            obtain ⟨u2, e2, q2⟩ := hcc 2 _ rfl
            obtain rfl := q2.val
            have g2 : wr.cell? ⟨bc, offc + k * 8 + 2, none⟩ = some (.string y2) := (hb0.cell (p := ⟨bc, _, none⟩) hblc).trans (by simpa using e2)
            obtain ⟨u3, e3, q3⟩ := hcc 3 _ rfl
            obtain rfl := q3.val
            have g3 : wr.cell? ⟨bc, offc + k * 8 + 3, none⟩ = some (.int .i64 y3) := (hb0.cell (p := ⟨bc, _, none⟩) hblc).trans (by simpa using e3)
            obtain ⟨u4, e4, q4⟩ := hcc 4 _ rfl
            obtain rfl := q4.val
            have g4 : wr.cell? ⟨bc, offc + k * 8 + 4, none⟩ = some (.int .i64 y4) := (hb0.cell (p := ⟨bc, _, none⟩) hblc).trans (by simpa using e4)
            obtain ⟨u5, e5, q5⟩ := hcc 5 _ rfl
            obtain rfl := q5.val
            have g5 : wr.cell? ⟨bc, offc + k * 8 + 5, none⟩ = some (.string y5) := (hb0.cell (p := ⟨bc, _, none⟩) hblc).trans (by simpa using e5)
            obtain ⟨u6, e6, q6⟩ := hcc 6 _ rfl
            obtain rfl := q6.val
            have g6 : wr.cell? ⟨bc, offc + k * 8 + 6, none⟩ = some (.int .i64 y6) := (hb0.cell (p := ⟨bc, _, none⟩) hblc).trans (by simpa using e6)
            obtain ⟨u7, e7, q7⟩ := hcc 7 _ rfl
            obtain ⟨A7, c7, rfl⟩ := q7.form
            have g7 : wr.cell? ⟨bc, offc + k * 8 + 7, none⟩ = some (.slice A7 y7.length c7) := (hb0.cell (p := ⟨bc, _, none⟩) hblc).trans (by simpa using e7)
            have Q7 := Lib.hid q7
            clear hcc e0 q0 e1 q1 e2 q2 e3 q3 e4 q4 e5 q5 e6 q6 e7 q7
            have HB1 := Lib.hid (hb0.alloc hb0.size (.cells #[.bool y0, .int .i64 y1, .string y2, .int .i64 y3, .int .i64 y4, .string y5, .int .i64 y6, .slice A7 y7.length c7] 106))
            have hws : w.heap.size ≤ wr.heap.size := hb0.size
            have hsel := se.lt
            have B0 := Lib.hid b0
            have SE := Lib.hid se
            have hP2 := HP.out
            unfold FEntry.vv FEntry.key at hm
            unfold FEntry.vv at hP2
            dsimp only at hP2 hm
            unfold VI at hP2
            have hkm : k < maxLen := by unfold maxLen; omega
            have hKS := HKS.out
            unfold FEntry.key at hKS
            dsimp only at hKS
            clear HP HKS hb0 b0 se
            generalize hnn : vF ⟨y3, y4, y5, y6, y7⟩ = nn at *
            have HP := Lib.hid hP2
            have HKS := Lib.hid hKS
            clear hP2 hnn hKS
            cases hkf : keyF ⟨y0, y1, y2⟩ with
            | false =>
              have HKF := Lib.hid hkf
              have HM := Lib.hid (show false = vF ⟨4, 0, z2, z3, l⟩ from by rw [HG.out, hm, hkf]; simp)
              clear hm
              go_wp2_with (first | (go_at_call 75; refine (key_impl ⟨y0, y1, y2⟩ _ (HV.out.up HB1.out (Nat.le_refl _))).mono ?_; rw [HKF.out]; rintro e w2 ⟨rfl, hb2⟩; have E2 := Lib.hid ((Blk.new wr 106 #[.bool y0, .int .i64 y1, .string y2, .int .i64 y3, .int .i64 y4, .string y5, .int .i64 y6, .slice A7 y7.length c7]).below hb2 (Nat.le_refl _)); have E2l := E2.out.lt; have p0 := E2.out.cell 0; have p1 := E2.out.cell 1; have p2 := E2.out.cell 2; have p3 := E2.out.cell 3; have p4 := E2.out.cell 4; have p5 := E2.out.cell 5; have p6 := E2.out.cell 6; have p7 := E2.out.cell 7; have B2 := Lib.hid ((B0.out.alloc _).below hb2 (Nat.le_refl _)); have b23 := B2.out.cell 3; have b2l := B2.out.lt; have SE2 := Lib.hid ((SE.out.alloc _).below hb2 (Nat.le_refl _)); have HB2 := Lib.hid (HB1.out.trans (hb2.mono HB1.out.size))))
              go_ret
              exact ⟨ret_bool HM.out, HB2.out⟩
            | true =>
              have HKF := Lib.hid hkf
              cases hmk : memK (ksF l k) ⟨y0, y1, y2⟩ with
              | true =>
                have HMK := Lib.hid hmk
                have HM := Lib.hid (show false = vF ⟨4, 0, z2, z3, l⟩ from by rw [HG.out, hm, hkf, hmk]; simp)
                clear hm
                go_wp2_with (first | (go_at_call 75; refine (key_impl ⟨y0, y1, y2⟩ _ (HV.out.up HB1.out (Nat.le_refl _))).mono ?_; rw [HKF.out]; rintro e w2 ⟨rfl, hb2⟩; have E2 := Lib.hid ((Blk.new wr 106 #[.bool y0, .int .i64 y1, .string y2, .int .i64 y3, .int .i64 y4, .string y5, .int .i64 y6, .slice A7 y7.length c7]).below hb2 (Nat.le_refl _)); have E2l := E2.out.lt; have p0 := E2.out.cell 0; have p1 := E2.out.cell 1; have p2 := E2.out.cell 2; have p3 := E2.out.cell 3; have p4 := E2.out.cell 4; have p5 := E2.out.cell 5; have p6 := E2.out.cell 6; have p7 := E2.out.cell 7; have B2 := Lib.hid ((B0.out.alloc _).below hb2 (Nat.le_refl _)); have b23 := B2.out.cell 3; have b2l := B2.out.lt; have SE2 := Lib.hid ((SE.out.alloc _).below hb2 (Nat.le_refl _)); have HB2 := Lib.hid (HB1.out.trans (hb2.mono HB1.out.size))) | (at_lookup; refine wpList_look_key rfl _ _ 117 rfl Tryz.underlying117 (w.heap.size + 1) k (ksF l k) rfl SE2.out ⟨y0, y1, y2⟩ (keyF_lit HKF.out) rfl ?_; rw [HMK.out]))
                go_ret
                exact ⟨ret_bool HM.out, HB2.out⟩
              | false =>
                have HMK := Lib.hid hmk
                rw [hkf, hmk] at hm
                cases y0 with
                | false =>
                  by_cases hle : z3 ≤ y1
                  · have hle2 : decide (z3 ≤ y1) = true := by simpa using hle
                    have HM := Lib.hid (show false = vF ⟨4, 0, z2, z3, l⟩ from by rw [HG.out, hm, hle2]; simp)
                    clear hm
                    go_wp2_with (first | (go_at_call 75; refine (key_impl ⟨false, y1, y2⟩ _ (HV.out.up HB1.out (Nat.le_refl _))).mono ?_; rw [HKF.out]; rintro e w2 ⟨rfl, hb2⟩; have E2 := Lib.hid ((Blk.new wr 106 #[.bool false, .int .i64 y1, .string y2, .int .i64 y3, .int .i64 y4, .string y5, .int .i64 y6, .slice A7 y7.length c7]).below hb2 (Nat.le_refl _)); have E2l := E2.out.lt; have p0 := E2.out.cell 0; have p1 := E2.out.cell 1; have p2 := E2.out.cell 2; have p3 := E2.out.cell 3; have p4 := E2.out.cell 4; have p5 := E2.out.cell 5; have p6 := E2.out.cell 6; have p7 := E2.out.cell 7; have B2 := Lib.hid ((B0.out.alloc _).below hb2 (Nat.le_refl _)); have b23 := B2.out.cell 3; have b2l := B2.out.lt; have SE2 := Lib.hid ((SE.out.alloc _).below hb2 (Nat.le_refl _)); have HB2 := Lib.hid (HB1.out.trans (hb2.mono HB1.out.size))) | (at_lookup; refine wpList_look_key rfl _ _ 117 rfl Tryz.underlying117 (w.heap.size + 1) k (ksF l k) rfl SE2.out ⟨false, y1, y2⟩ (keyF_lit HKF.out) rfl ?_; rw [HMK.out]))
                    go_ret
                    exact ⟨ret_bool HM.out, HB2.out⟩
                  · have hle2 : decide (z3 ≤ y1) = false := by simpa using hle
                    rw [hle2] at hm
                    cases nn with
                    | false =>
                      have HM := Lib.hid (show false = vF ⟨4, 0, z2, z3, l⟩ from by rw [HG.out, hm]; simp)
                      clear hm
                      go_wp2_with (first | (go_at_call 75; refine (key_impl ⟨false, y1, y2⟩ _ (HV.out.up HB1.out (Nat.le_refl _))).mono ?_; rw [HKF.out]; rintro e w2 ⟨rfl, hb2⟩; have E2 := Lib.hid ((Blk.new wr 106 #[.bool false, .int .i64 y1, .string y2, .int .i64 y3, .int .i64 y4, .string y5, .int .i64 y6, .slice A7 y7.length c7]).below hb2 (Nat.le_refl _)); have E2l := E2.out.lt; have p0 := E2.out.cell 0; have p1 := E2.out.cell 1; have p2 := E2.out.cell 2; have p3 := E2.out.cell 3; have p4 := E2.out.cell 4; have p5 := E2.out.cell 5; have p6 := E2.out.cell 6; have p7 := E2.out.cell 7; have B2 := Lib.hid ((B0.out.alloc _).below hb2 (Nat.le_refl _)); have b23 := B2.out.cell 3; have b2l := B2.out.lt; have SE2 := Lib.hid ((SE.out.alloc _).below hb2 (Nat.le_refl _)); have HB2 := Lib.hid (HB1.out.trans (hb2.mono HB1.out.size))) | (at_lookup; refine wpList_look_key rfl _ _ 117 rfl Tryz.underlying117 (w.heap.size + 1) k (ksF l k) rfl SE2.out ⟨false, y1, y2⟩ (keyF_lit HKF.out) rfl ?_; rw [HMK.out]) | (go_at_call 42; refine (HP.out [.int .i64 y3, .int .i64 y4, .string y5, .int .i64 y6, .slice A7 y7.length c7] _ w.heap.size (HV.out.up HB2.out (Nat.le_refl _)) HB2.out.size (by rw [FValue.c_eq]; exact RdVs.cons (by unfold RdC; rfl) (RdVs.cons (by unfold RdC; rfl) (RdVs.cons (by unfold RdC; rfl) (RdVs.cons (by unfold RdC; rfl) (RdVs.cons (Q7.out.below HB2.out (Nat.le_refl _)) (RdVs.nil _ _))))))).mono ?_; rintro e w3 ⟨rfl, hb3⟩; have E3 := Lib.hid (E2.out.below hb3 (Nat.le_refl _)); have E3l := E3.out.lt; have r0 := E3.out.cell 0; have r1 := E3.out.cell 1; have r2 := E3.out.cell 2; have B3 := Lib.hid (B2.out.below hb3 (Nat.le_refl _)); have SE3 := Lib.hid (SE2.out.below hb3 (Nat.le_refl _)); have HB3 := Lib.hid (HB2.out.trans (hb3.mono HB2.out.size))))
                      go_ret
                      exact ⟨ret_bool HM.out, HB3.out⟩
                    | true =>
                      have HM := Lib.hid (show vFs z3 [] l = vFs z3 (ksF l (k + 1)) (l.drop (k + 1)) from by rw [hm, HKS.out]; simp)
                      clear hm
                      go_wp2_with (first | (go_at_call 75; refine (key_impl ⟨false, y1, y2⟩ _ (HV.out.up HB1.out (Nat.le_refl _))).mono ?_; rw [HKF.out]; rintro e w2 ⟨rfl, hb2⟩; have E2 := Lib.hid ((Blk.new wr 106 #[.bool false, .int .i64 y1, .string y2, .int .i64 y3, .int .i64 y4, .string y5, .int .i64 y6, .slice A7 y7.length c7]).below hb2 (Nat.le_refl _)); have E2l := E2.out.lt; have p0 := E2.out.cell 0; have p1 := E2.out.cell 1; have p2 := E2.out.cell 2; have p3 := E2.out.cell 3; have p4 := E2.out.cell 4; have p5 := E2.out.cell 5; have p6 := E2.out.cell 6; have p7 := E2.out.cell 7; have B2 := Lib.hid ((B0.out.alloc _).below hb2 (Nat.le_refl _)); have b23 := B2.out.cell 3; have b2l := B2.out.lt; have SE2 := Lib.hid ((SE.out.alloc _).below hb2 (Nat.le_refl _)); have HB2 := Lib.hid (HB1.out.trans (hb2.mono HB1.out.size))) | (at_lookup; refine wpList_look_key rfl _ _ 117 rfl Tryz.underlying117 (w.heap.size + 1) k (ksF l k) rfl SE2.out ⟨false, y1, y2⟩ (keyF_lit HKF.out) rfl ?_; rw [HMK.out]) | (go_at_call 42; refine (HP.out [.int .i64 y3, .int .i64 y4, .string y5, .int .i64 y6, .slice A7 y7.length c7] _ w.heap.size (HV.out.up HB2.out (Nat.le_refl _)) HB2.out.size (by rw [FValue.c_eq]; exact RdVs.cons (by unfold RdC; rfl) (RdVs.cons (by unfold RdC; rfl) (RdVs.cons (by unfold RdC; rfl) (RdVs.cons (by unfold RdC; rfl) (RdVs.cons (Q7.out.below HB2.out (Nat.le_refl _)) (RdVs.nil _ _))))))).mono ?_; rintro e w3 ⟨rfl, hb3⟩; have E3 := Lib.hid (E2.out.below hb3 (Nat.le_refl _)); have E3l := E3.out.lt; have r0 := E3.out.cell 0; have r1 := E3.out.cell 1; have r2 := E3.out.cell 2; have B3 := Lib.hid (B2.out.below hb3 (Nat.le_refl _)); have SE3 := Lib.hid (SE2.out.below hb3 (Nat.le_refl _)); have HB3 := Lib.hid (HB2.out.trans (hb3.mono HB2.out.size))) | (at_mapUpdate; go_must (refine wpList_put_key rfl _ _ _ 117 rfl Tryz.underlying117 (w.heap.size + 1) k (ksF l k) rfl SE3.out hkm ⟨false, y1, y2⟩ (keyF_lit HKF.out) rfl rfl ?_); intro v1 hs1 hg1))
                      go_roundw
                      case rel => exact ⟨k + 1, by omega, by go_num, HM.out, blk_grownK B3.out hg1 (by simp), by rw [HKS.out]; exact hs1, below_grownK HB3.out hg1 (fun g hg => by injection hg with hg; omega) HB3.out.size⟩
                      case measure => simp [intOf]; omega
                | true =>
                  cases nn with
                  | false =>
                    have HM := Lib.hid (show false = vF ⟨4, 0, z2, z3, l⟩ from by rw [HG.out, hm]; simp)
                    clear hm
                    go_wp2_with (first | (go_at_call 75; refine (key_impl ⟨true, y1, y2⟩ _ (HV.out.up HB1.out (Nat.le_refl _))).mono ?_; rw [HKF.out]; rintro e w2 ⟨rfl, hb2⟩; have E2 := Lib.hid ((Blk.new wr 106 #[.bool true, .int .i64 y1, .string y2, .int .i64 y3, .int .i64 y4, .string y5, .int .i64 y6, .slice A7 y7.length c7]).below hb2 (Nat.le_refl _)); have E2l := E2.out.lt; have p0 := E2.out.cell 0; have p1 := E2.out.cell 1; have p2 := E2.out.cell 2; have p3 := E2.out.cell 3; have p4 := E2.out.cell 4; have p5 := E2.out.cell 5; have p6 := E2.out.cell 6; have p7 := E2.out.cell 7; have B2 := Lib.hid ((B0.out.alloc _).below hb2 (Nat.le_refl _)); have b23 := B2.out.cell 3; have b2l := B2.out.lt; have SE2 := Lib.hid ((SE.out.alloc _).below hb2 (Nat.le_refl _)); have HB2 := Lib.hid (HB1.out.trans (hb2.mono HB1.out.size))) | (at_lookup; refine wpList_look_key rfl _ _ 117 rfl Tryz.underlying117 (w.heap.size + 1) k (ksF l k) rfl SE2.out ⟨true, y1, y2⟩ (keyF_lit HKF.out) rfl ?_; rw [HMK.out]) | (go_at_call 42; refine (HP.out [.int .i64 y3, .int .i64 y4, .string y5, .int .i64 y6, .slice A7 y7.length c7] _ w.heap.size (HV.out.up HB2.out (Nat.le_refl _)) HB2.out.size (by rw [FValue.c_eq]; exact RdVs.cons (by unfold RdC; rfl) (RdVs.cons (by unfold RdC; rfl) (RdVs.cons (by unfold RdC; rfl) (RdVs.cons (by unfold RdC; rfl) (RdVs.cons (Q7.out.below HB2.out (Nat.le_refl _)) (RdVs.nil _ _))))))).mono ?_; rintro e w3 ⟨rfl, hb3⟩; have E3 := Lib.hid (E2.out.below hb3 (Nat.le_refl _)); have E3l := E3.out.lt; have r0 := E3.out.cell 0; have r1 := E3.out.cell 1; have r2 := E3.out.cell 2; have B3 := Lib.hid (B2.out.below hb3 (Nat.le_refl _)); have SE3 := Lib.hid (SE2.out.below hb3 (Nat.le_refl _)); have HB3 := Lib.hid (HB2.out.trans (hb3.mono HB2.out.size))))
                    go_ret
                    exact ⟨ret_bool HM.out, HB3.out⟩
                  | true =>
                    have HM := Lib.hid (show vFs z3 [] l = vFs z3 (ksF l (k + 1)) (l.drop (k + 1)) from by rw [hm, HKS.out]; simp)
                    clear hm
                    go_wp2_with (first | (go_at_call 75; refine (key_impl ⟨true, y1, y2⟩ _ (HV.out.up HB1.out (Nat.le_refl _))).mono ?_; rw [HKF.out]; rintro e w2 ⟨rfl, hb2⟩; have E2 := Lib.hid ((Blk.new wr 106 #[.bool true, .int .i64 y1, .string y2, .int .i64 y3, .int .i64 y4, .string y5, .int .i64 y6, .slice A7 y7.length c7]).below hb2 (Nat.le_refl _)); have E2l := E2.out.lt; have p0 := E2.out.cell 0; have p1 := E2.out.cell 1; have p2 := E2.out.cell 2; have p3 := E2.out.cell 3; have p4 := E2.out.cell 4; have p5 := E2.out.cell 5; have p6 := E2.out.cell 6; have p7 := E2.out.cell 7; have B2 := Lib.hid ((B0.out.alloc _).below hb2 (Nat.le_refl _)); have b23 := B2.out.cell 3; have b2l := B2.out.lt; have SE2 := Lib.hid ((SE.out.alloc _).below hb2 (Nat.le_refl _)); have HB2 := Lib.hid (HB1.out.trans (hb2.mono HB1.out.size))) | (at_lookup; refine wpList_look_key rfl _ _ 117 rfl Tryz.underlying117 (w.heap.size + 1) k (ksF l k) rfl SE2.out ⟨true, y1, y2⟩ (keyF_lit HKF.out) rfl ?_; rw [HMK.out]) | (go_at_call 42; refine (HP.out [.int .i64 y3, .int .i64 y4, .string y5, .int .i64 y6, .slice A7 y7.length c7] _ w.heap.size (HV.out.up HB2.out (Nat.le_refl _)) HB2.out.size (by rw [FValue.c_eq]; exact RdVs.cons (by unfold RdC; rfl) (RdVs.cons (by unfold RdC; rfl) (RdVs.cons (by unfold RdC; rfl) (RdVs.cons (by unfold RdC; rfl) (RdVs.cons (Q7.out.below HB2.out (Nat.le_refl _)) (RdVs.nil _ _))))))).mono ?_; rintro e w3 ⟨rfl, hb3⟩; have E3 := Lib.hid (E2.out.below hb3 (Nat.le_refl _)); have E3l := E3.out.lt; have r0 := E3.out.cell 0; have r1 := E3.out.cell 1; have r2 := E3.out.cell 2; have B3 := Lib.hid (B2.out.below hb3 (Nat.le_refl _)); have SE3 := Lib.hid (SE2.out.below hb3 (Nat.le_refl _)); have HB3 := Lib.hid (HB2.out.trans (hb3.mono HB2.out.size))) | (at_mapUpdate; go_must (refine wpList_put_key rfl _ _ _ 117 rfl Tryz.underlying117 (w.heap.size + 1) k (ksF l k) rfl SE3.out hkm ⟨true, y1, y2⟩ (keyF_lit HKF.out) rfl rfl ?_); intro v1 hs1 hg1))
                    go_roundw
                    case rel => exact ⟨k + 1, by omega, by go_num, HM.out, blk_grownK B3.out hg1 (by simp), by rw [HKS.out]; exact hs1, below_grownK HB3.out hg1 (fun g hg => by injection hg with hg; omega) HB3.out.size⟩
                    case measure => simp [intOf]; omega
          · obtain rfl : k = l.length := by omega
            have HM := Lib.hid (show true = vF ⟨4, 0, z2, z3, l⟩ from by rw [HG.out, hm, List.drop_length, vFs])
            have HB1 := Lib.hid hb0
            clear hm b0 hb0
            go_wp2_with fail
            go_ret
            exact ⟨ret_bool HM.out, HB1.out⟩
    · have hz2 : (z1 == 0) = false := beq_false_of_ne hz1
      have HG := Lib.hid (show vF ⟨4, z1, z2, z3, l⟩ = false from by rw [hv, hz2]; simp)
      clear hv
      go_enter Tryz.func42, Tryz.ntmps42
      go_wp2_with fail
      go_ret
      exact ⟨ret_bool (by rw [HG.out]), HB1.out⟩
theorem vI_of (z0 z1 : Int) (z2 : ByteArray) (z3 : Int) (l : List FEntry) (hw : l.length ≤ 1000000000) (hs2 : z2.size ≤ 9000000000) (he : ∀ y, y ∈ l → VI y.vv) : VI ⟨z0, z1, z2, z3, l⟩ := by
  by_cases h0 : z0 = 0
  · subst h0; exact vI_k0 z1 z2 z3 l hw hs2
  by_cases h1 : z0 = 1
  · subst h1; exact vI_k1 z1 z2 z3 l hw hs2
  by_cases h2 : z0 = 2
  · subst h2; exact vI_k2 z1 z2 z3 l hw hs2
  by_cases h3 : z0 = 3
  · subst h3; exact vI_k3 z1 z2 z3 l hw hs2
  by_cases h4 : z0 = 4
  · subst h4; exact vI_4 z1 z2 z3 l hw hs2 he
  by_cases h6 : z0 = 6
  · subst h6; exact vI_k6 z1 z2 z3 l hw hs2
  by_cases h7 : z0 = 7
  · subst h7; exact vI_k7 z1 z2 z3 l hw hs2
  by_cases h8 : z0 = 8
  · subst h8; exact vI_k8 z1 z2 z3 l hw hs2
  exact vI_o z0 ⟨beq_false_of_ne h0, beq_false_of_ne h1, beq_false_of_ne h2, beq_false_of_ne h3, beq_false_of_ne h4, beq_false_of_ne h6, beq_false_of_ne h7, beq_false_of_ne h8⟩ z1 z2 z3 l hw hs2
mutual
theorem wpv_impl : ∀ v : FValue, v.wt ≤ 1000000000 → WtI v ∧ PlI v ∧ VI v
  | .mk z0 z1 z2 z3 l, h => by
    rw [FValue.wt_eq] at h
    have ha := wpv_impls l (by omega)
    exact ⟨wtI_of z0 z1 z2 z3 l (by omega) fun y hy => (ha y hy).1, plI_of z0 z1 z2 z3 l (by omega) fun y hy => (ha y hy).2.1, vI_of z0 z1 z2 z3 l (by omega) (by omega) fun y hy => (ha y hy).2.2⟩
theorem wpv_impls : ∀ l : List FEntry, FEntry.wts l ≤ 1000000000 → ∀ y, y ∈ l → WtI y.vv ∧ PlI y.vv ∧ VI y.vv
  | [], _, y, hy => by cases hy
  | .mk a v :: r, h, y, hy => by
    obtain ⟨a0, a1, a2⟩ := a
    have e : FEntry.wts (FEntry.mk ⟨a0, a1, a2⟩ v :: r) = FEntry.wt ⟨⟨a0, a1, a2⟩, v⟩ + FEntry.wts r := by rw [FEntry.wts]
    rw [e] at h
    have hv : v.wt ≤ FEntry.wt ⟨⟨a0, a1, a2⟩, v⟩ := by
      obtain ⟨k, n, s, x, l⟩ := v
      rw [FEntry.wt_eq, FValue.wt_eq]; omega
    have h1 := wpv_impl v (by omega)
    have h2 := wpv_impls r (by omega)
    by_cases hh : y = .mk ⟨a0, a1, a2⟩ v
    · subst hh; exact h1
    · rcases List.mem_cons.1 hy with e2 | hy
      · exact absurd e2 hh
      · exact h2 y hy
end
set_option maxHeartbeats 1000000 in
theorem isV_impl (v : FValue) (hw : v.wt ≤ 1000000000) (us : List Value) (w : World) (B : Nat) (hV : TabV w) (hB0 : B ≤ w.heap.size) (hr : RdVs w B v.c us) : Calls Tryz.prog 21 #[.agg us.toArray] w fun e w' => e = .returned (.bool (isV v)) ∧ Below w.heap.size w w' := by
  obtain ⟨h1, _, h2⟩ := wpv_impl v hw
  have hle := wtF_le v
  have HG := Lib.hid (show isV v = (decide (wtF v ≤ 200) && vF v) from rfl)
  obtain ⟨z0, z1, z2, z3, l⟩ := v
  rw [FValue.c_eq] at hr
  obtain ⟨us0, rfl, hr_0⟩ := hr.unv
  obtain ⟨us1, rfl, hr_1⟩ := hr_0.unv
  obtain ⟨us2, rfl, hr_2⟩ := hr_1.unv
  obtain ⟨us3, rfl, hr_3⟩ := hr_2.unv
  obtain ⟨A, c, us4, rfl, r4, hr_4⟩ := hr_3.uns
  obtain rfl := hr_4.un0
  have HC := Lib.hid (r4.up hB0)
  clear r4 hr hr_0 hr_1 hr_2 hr_3 hr_4
  have HB1 := Lib.hid ((Below.refl _ w).alloc (Nat.le_refl _) (.cells #[.int .i64 z0, .int .i64 z1, .string z2, .int .i64 z3, .slice A l.length c] 43))
  have H1 := Lib.hid (h1 [.int .i64 z0, .int .i64 z1, .string z2, .int .i64 z3, .slice A l.length c] _ w.heap.size HB1.out.size (by rw [FValue.c_eq]; exact RdVs.cons (by unfold RdC; rfl) (RdVs.cons (by unfold RdC; rfl) (RdVs.cons (by unfold RdC; rfl) (RdVs.cons (by unfold RdC; rfl) (RdVs.cons (HC.out.below HB1.out (Nat.le_refl _)) (RdVs.nil _ _)))))))
  have H2 := Lib.hid (fun W hb => h2 [.int .i64 z0, .int .i64 z1, .string z2, .int .i64 z3, .slice A l.length c] W w.heap.size (hV.up hb (Nat.le_refl _)) hb.size (by rw [FValue.c_eq]; exact RdVs.cons (by unfold RdC; rfl) (RdVs.cons (by unfold RdC; rfl) (RdVs.cons (by unfold RdC; rfl) (RdVs.cons (by unfold RdC; rfl) (RdVs.cons (HC.out.below hb (Nat.le_refl _)) (RdVs.nil _ _)))))))
  clear h1 h2 HC hB0 hV
  generalize wtF ⟨z0, z1, z2, z3, l⟩ = n at *
  generalize vF ⟨z0, z1, z2, z3, l⟩ = b at *
  have hn9 : n ≤ 2000000000 := by omega
  by_cases hn : n ≤ 200
  · have HM := Lib.hid (show b = isV ⟨z0, z1, z2, z3, l⟩ from by rw [HG.out, decide_eq_true hn]; simp)
    have hn' : (n : Int) ≤ 200 := by omega
    go_enter Tryz.func21, Tryz.ntmps21
    go_wp2_with (first | (go_at_call 41; refine H1.out.mono ?_; rintro e w2 ⟨rfl, hb2⟩; have HB2 := Lib.hid (HB1.out.trans (hb2.mono HB1.out.size)); have b2 := (Blk.new w 43 #[.int .i64 z0, .int .i64 z1, .string z2, .int .i64 z3, .slice A l.length c]).below hb2 (Nat.le_refl _); have c0 := b2.cell 0; have c1 := b2.cell 1; have c2 := b2.cell 2; have c3 := b2.cell 3; have c4 := b2.cell 4; have cl := b2.lt) | (go_at_call 42; refine (H2.out _ HB2.out).mono ?_; rintro e w3 ⟨rfl, hb3⟩))
    go_ret
    exact ⟨ret_bool HM.out, HB2.out.trans (hb3.mono HB2.out.size)⟩
  · have HM := Lib.hid (show false = isV ⟨z0, z1, z2, z3, l⟩ from by rw [HG.out, decide_eq_false hn]; simp)
    have hn' : ¬ (n : Int) ≤ 200 := by omega
    go_enter Tryz.func21, Tryz.ntmps21
    go_wp2_with (go_at_call 41; refine H1.out.mono ?_; rintro e w2 ⟨rfl, hb2⟩; have HB2 := Lib.hid (HB1.out.trans (hb2.mono HB1.out.size)))
    go_ret
    exact ⟨ret_bool HM.out, HB2.out⟩
end Go.Proofs.YtdmbhmhfjappcaaGreatDoor
