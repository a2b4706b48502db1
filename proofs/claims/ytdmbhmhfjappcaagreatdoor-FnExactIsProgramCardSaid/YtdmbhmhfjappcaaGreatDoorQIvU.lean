/-
  Parts of the proof: IvU. Conditions: none.
-/
import Derived.Test.YtdmbhmhfjappcaaGreatDoorQIvT
namespace Go.Proofs.YtdmbhmhfjappcaaGreatDoor
open Go.ChangeShapes Go.WideShapes Go.ChangeAt Go.RowKit Go.Deep Go.Joins
open Go.ChangeMaps (open_string shut_string)
set_option linter.unusedVariables false
set_option linter.unusedSimpArgs false
set_option maxRecDepth 100000
set_option maxHeartbeats 4000000 in
theorem vS_4 (z1 : Int) (z2 : ByteArray) (z3 : Int) (l : List FEntry) (hw : l.length ≤ 1000000000) (hs2 : z2.size ≤ 9000000000) (hks : ∀ y, y ∈ l → y.key.a2.size ≤ 9223372036854775807) (he : ∀ y, y ∈ l → VS y.vv) : VS ⟨4, z1, z2, z3, l⟩ := by
  intro us w B hB0 hr
  rw [FValue.c_eq] at hr
  obtain ⟨us0, rfl, hr_0⟩ := hr.unv
  obtain ⟨us1, rfl, hr_1⟩ := hr_0.unv
  obtain ⟨us2, rfl, hr_2⟩ := hr_1.unv
  obtain ⟨us3, rfl, hr_3⟩ := hr_2.unv
  obtain ⟨A, c, us4, rfl, r4, hr_4⟩ := hr_3.uns
  obtain rfl := hr_4.un0
  have HC := Lib.hid (r4.up hB0)
  clear r4 hr hr_0 hr_1 hr_2 hr_3 hr_4
  have HE := Lib.hid he
  have HKY := Lib.hid hks
  clear he hB0 hks
  have hn : l.length ≤ 9223372036854775807 := by omega
  have HB1 := Lib.hid ((Below.refl _ w).alloc (Nat.le_refl _) (.cells #[.int .i64 4, .int .i64 z1, .string z2, .int .i64 z3, .slice A l.length c] 43))
  have hv : vF ⟨4, z1, z2, z3, l⟩ = (emS z2 && z1 == 0 && inB z3 0 1000000001 && vFs z3 [] l) := by rw [vF]; rfl
  have es : z2.toList.isEmpty = emS z2 := rfl
  cases hse : emS z2 with
  | false =>
    rw [hse] at es
    have HG := Lib.hid (show vF ⟨4, z1, z2, z3, l⟩ = false from by rw [hv, hse]; simp)
    clear hv
    go_enter Tryz.func32, Tryz.ntmps32
    go_wp2_with fail
    go_ret
    exact ⟨ret_bool (by rw [HG.out]), HB1.out⟩
  | true =>
    rw [hse] at es
    by_cases hz1 : z1 = 0
    · subst hz1
      cases hin : inB z3 0 1000000001 with
      | false =>
        have HG := Lib.hid (show vF ⟨4, 0, z2, z3, l⟩ = false from by rw [hv, hin]; simp)
        clear hv
        go_enter Tryz.func32, Tryz.ntmps32
        go_wp2_with (go_at_call 28; refine (l1In_any _ _ _ _).mono ?_; rw [hin]; rintro e w1 ⟨rfl, rfl⟩)
        go_ret
        exact ⟨ret_bool (by rw [HG.out]), HB1.out⟩
      | true =>
        have HG := Lib.hid (show vF ⟨4, 0, z2, z3, l⟩ = vFs z3 [] l from by rw [hv, hse, hin]; simp)
        clear hv
        go_enter Tryz.func32, Tryz.ntmps32
        go_wp2_with (go_at_call 28; refine (l1In_any _ _ _ _).mono ?_; rw [hin]; rintro e w1 ⟨rfl, rfl⟩)
        go_loopw [3] (fun i wr => ∃ k : Nat, k ≤ l.length ∧ i = .int .i64 k ∧ vFs z3 [] l = vFs z3 (ksF l k) (l.drop k) ∧ Blk wr w.heap.size 43 #[.int .i64 4, .int .i64 0, .string z2, .int .i64 z3, .slice A l.length c] ∧ Below w.heap.size w wr) (fun i _ => l.length - (intOf i).toNat)
        case atStart => exact ⟨0, Nat.zero_le _, rfl, rfl, Blk.new w _ _, HB1.out⟩
        case round =>
          clear HB1
          obtain ⟨k, hk, rfl, hm, b0, hb0⟩ := hrel
          have b0l := b0.lt
          have b03 := b0.cell 3
          have b04 := b0.cell 4
          by_cases hlt : k < l.length
          · skip
            obtain ⟨x, hx⟩ : ∃ x, l[k]? = some x := ⟨_, List.getElem?_eq_getElem hlt⟩
            obtain ⟨bc, offc, rfl, hblc, hcc⟩ := RdC.at_ FEntry.len HC.out hx
            have HKS := Lib.hid (ksF_succ hx)
            have hat := fkF_at hx
            rw [drop_of hx, vFs_cons] at hm
            have HP := Lib.hid (HE.out x (List.mem_of_getElem? hx))
            have hy2 := HKY.out x (List.mem_of_getElem? hx)
            clear hx
            obtain ⟨⟨y0, y1, y2⟩, ⟨y3, y4, y5, y6, y7⟩⟩ := x
            rw [FEntry.c_eq] at hcc
            obtain ⟨u0, e0, q0⟩ := hcc 0 _ rfl
            obtain rfl := q0.val
            have HG0 := Lib.hid (fun W (hb : Below w.heap.size w W) => (hb.cell (p := ⟨bc, offc + k * 8, none⟩) hblc).trans (show w.cell? ⟨bc, offc + k * 8, none⟩ = some (.bool y0) from by simpa [Nat.add_assoc] using e0))
            obtain ⟨u1, e1, q1⟩ := hcc 1 _ rfl
            obtain rfl := q1.val
            have HG1 := Lib.hid (fun W (hb : Below w.heap.size w W) => (hb.cell (p := ⟨bc, offc + k * 8 + 1, none⟩) hblc).trans (show w.cell? ⟨bc, offc + k * 8 + 1, none⟩ = some (.int .i64 y1) from by simpa [Nat.add_assoc] using e1))
            obtain ⟨u2, e2, q2⟩ := hcc 2 _ rfl
            obtain rfl := q2.val
            have HG2 := Lib.hid (fun W (hb : Below w.heap.size w W) => (hb.cell (p := ⟨bc, offc + k * 8 + 2, none⟩) hblc).trans (show w.cell? ⟨bc, offc + k * 8 + 2, none⟩ = some (.string y2) from by simpa [Nat.add_assoc] using e2))
            obtain ⟨u3, e3, q3⟩ := hcc 3 _ rfl
            obtain rfl := q3.val
            have HG3 := Lib.hid (fun W (hb : Below w.heap.size w W) => (hb.cell (p := ⟨bc, offc + k * 8 + 3, none⟩) hblc).trans (show w.cell? ⟨bc, offc + k * 8 + 3, none⟩ = some (.int .i64 y3) from by simpa [Nat.add_assoc] using e3))
            obtain ⟨u4, e4, q4⟩ := hcc 4 _ rfl
            obtain rfl := q4.val
            have HG4 := Lib.hid (fun W (hb : Below w.heap.size w W) => (hb.cell (p := ⟨bc, offc + k * 8 + 3 + 1, none⟩) hblc).trans (show w.cell? ⟨bc, offc + k * 8 + 3 + 1, none⟩ = some (.int .i64 y4) from by simpa [Nat.add_assoc] using e4))
            obtain ⟨u5, e5, q5⟩ := hcc 5 _ rfl
            obtain rfl := q5.val
            have HG5 := Lib.hid (fun W (hb : Below w.heap.size w W) => (hb.cell (p := ⟨bc, offc + k * 8 + 3 + 2, none⟩) hblc).trans (show w.cell? ⟨bc, offc + k * 8 + 3 + 2, none⟩ = some (.string y5) from by simpa [Nat.add_assoc] using e5))
            obtain ⟨u6, e6, q6⟩ := hcc 6 _ rfl
            obtain rfl := q6.val
            have HG6 := Lib.hid (fun W (hb : Below w.heap.size w W) => (hb.cell (p := ⟨bc, offc + k * 8 + 3 + 3, none⟩) hblc).trans (show w.cell? ⟨bc, offc + k * 8 + 3 + 3, none⟩ = some (.int .i64 y6) from by simpa [Nat.add_assoc] using e6))
            obtain ⟨u7, e7, q7⟩ := hcc 7 _ rfl
            obtain ⟨A7, c7, rfl⟩ := q7.form
            have HG7 := Lib.hid (fun W (hb : Below w.heap.size w W) => (hb.cell (p := ⟨bc, offc + k * 8 + 3 + 4, none⟩) hblc).trans (show w.cell? ⟨bc, offc + k * 8 + 3 + 4, none⟩ = some (.slice A7 y7.length c7) from by simpa [Nat.add_assoc] using e7))
            have g0 := HG0.out _ hb0
            have g1 := HG1.out _ hb0
            have g2 := HG2.out _ hb0
            have Q7 := Lib.hid q7
            clear hcc e0 q0 e1 q1 e2 q2 e3 q3 e4 q4 e5 q5 e6 q6 e7 q7
            have HB1 := Lib.hid (hb0.alloc hb0.size (.cells #[.bool y0, .int .i64 y1, .string y2] 104))
            have hws : w.heap.size ≤ wr.heap.size := hb0.size
            have B0 := Lib.hid b0
            have hP2 := HP.out
            unfold FEntry.vv FEntry.key at hm
            unfold FEntry.key at hat hy2
            unfold FEntry.vv at hP2
            dsimp only at hP2 hm hat hy2
            unfold VS at hP2
            have hKS := HKS.out
            unfold FEntry.key at hKS
            dsimp only at hKS
            clear HP HKS hb0 b0
            generalize hnn : vF ⟨y3, y4, y5, y6, y7⟩ = nn at *
            have HP := Lib.hid hP2
            have HKS := Lib.hid hKS
            clear hP2 hnn hKS
            cases hkf : keyF ⟨y0, y1, y2⟩ with
            | false =>
              have HKF := Lib.hid hkf
              have HM := Lib.hid (show false = vF ⟨4, 0, z2, z3, l⟩ from by rw [HG.out, hm, hkf]; simp)
              clear hm hat
              go_wp2_with (first | (go_at_call 59; refine (key_spec ⟨y0, y1, y2⟩ hy2 _).mono ?_; rw [HKF.out]; rintro e w2 ⟨rfl, hb2⟩; have HB2 := Lib.hid (HB1.out.trans (hb2.mono HB1.out.size)); have B2 := Lib.hid ((B0.out.alloc _).below hb2 (Nat.le_refl _)); have b2l := B2.out.lt; have b2_0 := B2.out.cell 0; have b2_1 := B2.out.cell 1; have b2_2 := B2.out.cell 2; have b2_3 := B2.out.cell 3; have b2_4 := B2.out.cell 4; have f2_3 := HG3.out _ HB2.out; have f2_4 := HG4.out _ HB2.out; have f2_5 := HG5.out _ HB2.out; have f2_6 := HG6.out _ HB2.out; have f2_7 := HG7.out _ HB2.out; have K2 := Lib.hid ((Blk.new wr 104 #[.bool y0, .int .i64 y1, .string y2]).below hb2 (Nat.le_refl _)); have kl := K2.out.lt; have k0 := K2.out.cell 0; have k1 := K2.out.cell 1; have k2 := K2.out.cell 2))
              go_ret
              exact ⟨ret_bool HM.out, HB2.out⟩
            | true =>
              have HKF := Lib.hid hkf
              rw [hkf] at hm
              cases y0 with
              | false =>
                by_cases hle : z3 ≤ y1
                · have hle2 : decide (z3 ≤ y1) = true := by simpa using hle
                  have HM := Lib.hid (show false = vF ⟨4, 0, z2, z3, l⟩ from by rw [HG.out, hm, hle2]; simp)
                  clear hm hat
                  go_wp2_with (first | (go_at_call 59; refine (key_spec ⟨false, y1, y2⟩ hy2 _).mono ?_; rw [HKF.out]; rintro e w2 ⟨rfl, hb2⟩; have HB2 := Lib.hid (HB1.out.trans (hb2.mono HB1.out.size)); have B2 := Lib.hid ((B0.out.alloc _).below hb2 (Nat.le_refl _)); have b2l := B2.out.lt; have b2_0 := B2.out.cell 0; have b2_1 := B2.out.cell 1; have b2_2 := B2.out.cell 2; have b2_3 := B2.out.cell 3; have b2_4 := B2.out.cell 4; have f2_3 := HG3.out _ HB2.out; have f2_4 := HG4.out _ HB2.out; have f2_5 := HG5.out _ HB2.out; have f2_6 := HG6.out _ HB2.out; have f2_7 := HG7.out _ HB2.out; have K2 := Lib.hid ((Blk.new wr 104 #[.bool false, .int .i64 y1, .string y2]).below hb2 (Nat.le_refl _)); have kl := K2.out.lt; have k0 := K2.out.cell 0; have k1 := K2.out.cell 1; have k2 := K2.out.cell 2))
                  go_ret
                  exact ⟨ret_bool HM.out, HB2.out⟩
                · have hle2 : decide (z3 ≤ y1) = false := by simpa using hle
                  rw [hle2] at hm
                  cases hmk : memK (ksF l k) ⟨false, y1, y2⟩ with
                  | true =>
                    have HM := Lib.hid (show false = vF ⟨4, 0, z2, z3, l⟩ from by rw [HG.out, hm, hmk]; simp)
                    have hne : ¬ fkF ⟨false, y1, y2⟩ 0 l = (k : Int) := fun hh => by have h2 := hat.1 hh; rw [hmk] at h2; cases h2
                    generalize hq : fkF ⟨false, y1, y2⟩ 0 l = q at *
                    have hq2 : (q == (k : Int)) = false := beq_false_of_ne hne
                    have HFK := Lib.hid hq
                    clear hm hat
                    go_wp2_with (first | (go_at_call 59; refine (key_spec ⟨false, y1, y2⟩ hy2 _).mono ?_; rw [HKF.out]; rintro e w2 ⟨rfl, hb2⟩; have HB2 := Lib.hid (HB1.out.trans (hb2.mono HB1.out.size)); have B2 := Lib.hid ((B0.out.alloc _).below hb2 (Nat.le_refl _)); have b2l := B2.out.lt; have b2_0 := B2.out.cell 0; have b2_1 := B2.out.cell 1; have b2_2 := B2.out.cell 2; have b2_3 := B2.out.cell 3; have b2_4 := B2.out.cell 4; have f2_3 := HG3.out _ HB2.out; have f2_4 := HG4.out _ HB2.out; have f2_5 := HG5.out _ HB2.out; have f2_6 := HG6.out _ HB2.out; have f2_7 := HG7.out _ HB2.out; have K2 := Lib.hid ((Blk.new wr 104 #[.bool false, .int .i64 y1, .string y2]).below hb2 (Nat.le_refl _)); have kl := K2.out.lt; have k0 := K2.out.cell 0; have k1 := K2.out.cell 1; have k2 := K2.out.cell 2) | (go_at_call 60; refine (find_spec 0 z2 z3 l hw ⟨false, y1, y2⟩ [.int .i64 4, .int .i64 0, .string z2, .int .i64 z3, .slice (some ⟨bc, offc, none⟩) l.length c] _ w.heap.size HB2.out.size (by rw [FValue.c_eq]; exact RdVs.cons (by unfold RdC; rfl) (RdVs.cons (by unfold RdC; rfl) (RdVs.cons (by unfold RdC; rfl) (RdVs.cons (by unfold RdC; rfl) (RdVs.cons (HC.out.below HB2.out (Nat.le_refl _)) (RdVs.nil _ _))))))).mono ?_; rw [HFK.out]; rintro e w3 ⟨rfl, hb3⟩; have HB3 := Lib.hid (HB2.out.trans (hb3.mono HB2.out.size)); have B3 := Lib.hid (B2.out.below hb3 (Nat.le_refl _)); have b3l := B3.out.lt; have b3_0 := B3.out.cell 0; have b3_1 := B3.out.cell 1; have b3_2 := B3.out.cell 2; have b3_3 := B3.out.cell 3; have b3_4 := B3.out.cell 4; have f3_3 := HG3.out _ HB3.out; have f3_4 := HG4.out _ HB3.out; have f3_5 := HG5.out _ HB3.out; have f3_6 := HG6.out _ HB3.out; have f3_7 := HG7.out _ HB3.out))
                    go_ret
                    exact ⟨ret_bool HM.out, HB3.out⟩
                  | false =>
                    have HFK := Lib.hid (hat.2 hmk)
                    rw [hmk] at hm
                    clear hat
                    cases nn with
                    | false =>
                      have HM := Lib.hid (show false = vF ⟨4, 0, z2, z3, l⟩ from by rw [HG.out, hm]; simp)
                      clear hm
                      go_wp2_with (first | (go_at_call 59; refine (key_spec ⟨false, y1, y2⟩ hy2 _).mono ?_; rw [HKF.out]; rintro e w2 ⟨rfl, hb2⟩; have HB2 := Lib.hid (HB1.out.trans (hb2.mono HB1.out.size)); have B2 := Lib.hid ((B0.out.alloc _).below hb2 (Nat.le_refl _)); have b2l := B2.out.lt; have b2_0 := B2.out.cell 0; have b2_1 := B2.out.cell 1; have b2_2 := B2.out.cell 2; have b2_3 := B2.out.cell 3; have b2_4 := B2.out.cell 4; have f2_3 := HG3.out _ HB2.out; have f2_4 := HG4.out _ HB2.out; have f2_5 := HG5.out _ HB2.out; have f2_6 := HG6.out _ HB2.out; have f2_7 := HG7.out _ HB2.out; have K2 := Lib.hid ((Blk.new wr 104 #[.bool false, .int .i64 y1, .string y2]).below hb2 (Nat.le_refl _)); have kl := K2.out.lt; have k0 := K2.out.cell 0; have k1 := K2.out.cell 1; have k2 := K2.out.cell 2) | (go_at_call 60; refine (find_spec 0 z2 z3 l hw ⟨false, y1, y2⟩ [.int .i64 4, .int .i64 0, .string z2, .int .i64 z3, .slice (some ⟨bc, offc, none⟩) l.length c] _ w.heap.size HB2.out.size (by rw [FValue.c_eq]; exact RdVs.cons (by unfold RdC; rfl) (RdVs.cons (by unfold RdC; rfl) (RdVs.cons (by unfold RdC; rfl) (RdVs.cons (by unfold RdC; rfl) (RdVs.cons (HC.out.below HB2.out (Nat.le_refl _)) (RdVs.nil _ _))))))).mono ?_; rw [HFK.out]; rintro e w3 ⟨rfl, hb3⟩; have HB3 := Lib.hid (HB2.out.trans (hb3.mono HB2.out.size)); have B3 := Lib.hid (B2.out.below hb3 (Nat.le_refl _)); have b3l := B3.out.lt; have b3_0 := B3.out.cell 0; have b3_1 := B3.out.cell 1; have b3_2 := B3.out.cell 2; have b3_3 := B3.out.cell 3; have b3_4 := B3.out.cell 4; have f3_3 := HG3.out _ HB3.out; have f3_4 := HG4.out _ HB3.out; have f3_5 := HG5.out _ HB3.out; have f3_6 := HG6.out _ HB3.out; have f3_7 := HG7.out _ HB3.out) | (go_at_call 32; refine (HP.out [.int .i64 y3, .int .i64 y4, .string y5, .int .i64 y6, .slice A7 y7.length c7] _ w.heap.size HB3.out.size (by rw [FValue.c_eq]; exact RdVs.cons (by unfold RdC; rfl) (RdVs.cons (by unfold RdC; rfl) (RdVs.cons (by unfold RdC; rfl) (RdVs.cons (by unfold RdC; rfl) (RdVs.cons (Q7.out.below HB3.out (Nat.le_refl _)) (RdVs.nil _ _))))))).mono ?_; rintro e w4 ⟨rfl, hb4⟩))
                      go_ret
                      exact ⟨ret_bool HM.out, HB3.out.trans (hb4.mono HB3.out.size)⟩
                    | true =>
                      have HM := Lib.hid (show vFs z3 [] l = vFs z3 (ksF l (k + 1)) (l.drop (k + 1)) from by rw [hm, HKS.out]; simp)
                      clear hm
                      go_wp2_with (first | (go_at_call 59; refine (key_spec ⟨false, y1, y2⟩ hy2 _).mono ?_; rw [HKF.out]; rintro e w2 ⟨rfl, hb2⟩; have HB2 := Lib.hid (HB1.out.trans (hb2.mono HB1.out.size)); have B2 := Lib.hid ((B0.out.alloc _).below hb2 (Nat.le_refl _)); have b2l := B2.out.lt; have b2_0 := B2.out.cell 0; have b2_1 := B2.out.cell 1; have b2_2 := B2.out.cell 2; have b2_3 := B2.out.cell 3; have b2_4 := B2.out.cell 4; have f2_3 := HG3.out _ HB2.out; have f2_4 := HG4.out _ HB2.out; have f2_5 := HG5.out _ HB2.out; have f2_6 := HG6.out _ HB2.out; have f2_7 := HG7.out _ HB2.out; have K2 := Lib.hid ((Blk.new wr 104 #[.bool false, .int .i64 y1, .string y2]).below hb2 (Nat.le_refl _)); have kl := K2.out.lt; have k0 := K2.out.cell 0; have k1 := K2.out.cell 1; have k2 := K2.out.cell 2) | (go_at_call 60; refine (find_spec 0 z2 z3 l hw ⟨false, y1, y2⟩ [.int .i64 4, .int .i64 0, .string z2, .int .i64 z3, .slice (some ⟨bc, offc, none⟩) l.length c] _ w.heap.size HB2.out.size (by rw [FValue.c_eq]; exact RdVs.cons (by unfold RdC; rfl) (RdVs.cons (by unfold RdC; rfl) (RdVs.cons (by unfold RdC; rfl) (RdVs.cons (by unfold RdC; rfl) (RdVs.cons (HC.out.below HB2.out (Nat.le_refl _)) (RdVs.nil _ _))))))).mono ?_; rw [HFK.out]; rintro e w3 ⟨rfl, hb3⟩; have HB3 := Lib.hid (HB2.out.trans (hb3.mono HB2.out.size)); have B3 := Lib.hid (B2.out.below hb3 (Nat.le_refl _)); have b3l := B3.out.lt; have b3_0 := B3.out.cell 0; have b3_1 := B3.out.cell 1; have b3_2 := B3.out.cell 2; have b3_3 := B3.out.cell 3; have b3_4 := B3.out.cell 4; have f3_3 := HG3.out _ HB3.out; have f3_4 := HG4.out _ HB3.out; have f3_5 := HG5.out _ HB3.out; have f3_6 := HG6.out _ HB3.out; have f3_7 := HG7.out _ HB3.out) | (go_at_call 32; refine (HP.out [.int .i64 y3, .int .i64 y4, .string y5, .int .i64 y6, .slice A7 y7.length c7] _ w.heap.size HB3.out.size (by rw [FValue.c_eq]; exact RdVs.cons (by unfold RdC; rfl) (RdVs.cons (by unfold RdC; rfl) (RdVs.cons (by unfold RdC; rfl) (RdVs.cons (by unfold RdC; rfl) (RdVs.cons (Q7.out.below HB3.out (Nat.le_refl _)) (RdVs.nil _ _))))))).mono ?_; rintro e w4 ⟨rfl, hb4⟩))
                      go_roundw
                      case rel => exact ⟨k + 1, by omega, by go_num, HM.out, B3.out.below hb4 (Nat.le_refl _), HB3.out.trans (hb4.mono HB3.out.size)⟩
                      case measure => simp [intOf]; omega
              | true =>
                cases hmk : memK (ksF l k) ⟨true, y1, y2⟩ with
                | true =>
                  have HM := Lib.hid (show false = vF ⟨4, 0, z2, z3, l⟩ from by rw [HG.out, hm, hmk]; simp)
                  have hne : ¬ fkF ⟨true, y1, y2⟩ 0 l = (k : Int) := fun hh => by have h2 := hat.1 hh; rw [hmk] at h2; cases h2
                  generalize hq : fkF ⟨true, y1, y2⟩ 0 l = q at *
                  have hq2 : (q == (k : Int)) = false := beq_false_of_ne hne
                  have HFK := Lib.hid hq
                  clear hm hat
                  go_wp2_with (first | (go_at_call 59; refine (key_spec ⟨true, y1, y2⟩ hy2 _).mono ?_; rw [HKF.out]; rintro e w2 ⟨rfl, hb2⟩; have HB2 := Lib.hid (HB1.out.trans (hb2.mono HB1.out.size)); have B2 := Lib.hid ((B0.out.alloc _).below hb2 (Nat.le_refl _)); have b2l := B2.out.lt; have b2_0 := B2.out.cell 0; have b2_1 := B2.out.cell 1; have b2_2 := B2.out.cell 2; have b2_3 := B2.out.cell 3; have b2_4 := B2.out.cell 4; have f2_3 := HG3.out _ HB2.out; have f2_4 := HG4.out _ HB2.out; have f2_5 := HG5.out _ HB2.out; have f2_6 := HG6.out _ HB2.out; have f2_7 := HG7.out _ HB2.out; have K2 := Lib.hid ((Blk.new wr 104 #[.bool true, .int .i64 y1, .string y2]).below hb2 (Nat.le_refl _)); have kl := K2.out.lt; have k0 := K2.out.cell 0; have k1 := K2.out.cell 1; have k2 := K2.out.cell 2) | (go_at_call 60; refine (find_spec 0 z2 z3 l hw ⟨true, y1, y2⟩ [.int .i64 4, .int .i64 0, .string z2, .int .i64 z3, .slice (some ⟨bc, offc, none⟩) l.length c] _ w.heap.size HB2.out.size (by rw [FValue.c_eq]; exact RdVs.cons (by unfold RdC; rfl) (RdVs.cons (by unfold RdC; rfl) (RdVs.cons (by unfold RdC; rfl) (RdVs.cons (by unfold RdC; rfl) (RdVs.cons (HC.out.below HB2.out (Nat.le_refl _)) (RdVs.nil _ _))))))).mono ?_; rw [HFK.out]; rintro e w3 ⟨rfl, hb3⟩; have HB3 := Lib.hid (HB2.out.trans (hb3.mono HB2.out.size)); have B3 := Lib.hid (B2.out.below hb3 (Nat.le_refl _)); have b3l := B3.out.lt; have b3_0 := B3.out.cell 0; have b3_1 := B3.out.cell 1; have b3_2 := B3.out.cell 2; have b3_3 := B3.out.cell 3; have b3_4 := B3.out.cell 4; have f3_3 := HG3.out _ HB3.out; have f3_4 := HG4.out _ HB3.out; have f3_5 := HG5.out _ HB3.out; have f3_6 := HG6.out _ HB3.out; have f3_7 := HG7.out _ HB3.out))
                  go_ret
                  exact ⟨ret_bool HM.out, HB3.out⟩
                | false =>
                  have HFK := Lib.hid (hat.2 hmk)
                  rw [hmk] at hm
                  clear hat
                  cases nn with
                  | false =>
                    have HM := Lib.hid (show false = vF ⟨4, 0, z2, z3, l⟩ from by rw [HG.out, hm]; simp)
                    clear hm
                    go_wp2_with (first | (go_at_call 59; refine (key_spec ⟨true, y1, y2⟩ hy2 _).mono ?_; rw [HKF.out]; rintro e w2 ⟨rfl, hb2⟩; have HB2 := Lib.hid (HB1.out.trans (hb2.mono HB1.out.size)); have B2 := Lib.hid ((B0.out.alloc _).below hb2 (Nat.le_refl _)); have b2l := B2.out.lt; have b2_0 := B2.out.cell 0; have b2_1 := B2.out.cell 1; have b2_2 := B2.out.cell 2; have b2_3 := B2.out.cell 3; have b2_4 := B2.out.cell 4; have f2_3 := HG3.out _ HB2.out; have f2_4 := HG4.out _ HB2.out; have f2_5 := HG5.out _ HB2.out; have f2_6 := HG6.out _ HB2.out; have f2_7 := HG7.out _ HB2.out; have K2 := Lib.hid ((Blk.new wr 104 #[.bool true, .int .i64 y1, .string y2]).below hb2 (Nat.le_refl _)); have kl := K2.out.lt; have k0 := K2.out.cell 0; have k1 := K2.out.cell 1; have k2 := K2.out.cell 2) | (go_at_call 60; refine (find_spec 0 z2 z3 l hw ⟨true, y1, y2⟩ [.int .i64 4, .int .i64 0, .string z2, .int .i64 z3, .slice (some ⟨bc, offc, none⟩) l.length c] _ w.heap.size HB2.out.size (by rw [FValue.c_eq]; exact RdVs.cons (by unfold RdC; rfl) (RdVs.cons (by unfold RdC; rfl) (RdVs.cons (by unfold RdC; rfl) (RdVs.cons (by unfold RdC; rfl) (RdVs.cons (HC.out.below HB2.out (Nat.le_refl _)) (RdVs.nil _ _))))))).mono ?_; rw [HFK.out]; rintro e w3 ⟨rfl, hb3⟩; have HB3 := Lib.hid (HB2.out.trans (hb3.mono HB2.out.size)); have B3 := Lib.hid (B2.out.below hb3 (Nat.le_refl _)); have b3l := B3.out.lt; have b3_0 := B3.out.cell 0; have b3_1 := B3.out.cell 1; have b3_2 := B3.out.cell 2; have b3_3 := B3.out.cell 3; have b3_4 := B3.out.cell 4; have f3_3 := HG3.out _ HB3.out; have f3_4 := HG4.out _ HB3.out; have f3_5 := HG5.out _ HB3.out; have f3_6 := HG6.out _ HB3.out; have f3_7 := HG7.out _ HB3.out) | (go_at_call 32; refine (HP.out [.int .i64 y3, .int .i64 y4, .string y5, .int .i64 y6, .slice A7 y7.length c7] _ w.heap.size HB3.out.size (by rw [FValue.c_eq]; exact RdVs.cons (by unfold RdC; rfl) (RdVs.cons (by unfold RdC; rfl) (RdVs.cons (by unfold RdC; rfl) (RdVs.cons (by unfold RdC; rfl) (RdVs.cons (Q7.out.below HB3.out (Nat.le_refl _)) (RdVs.nil _ _))))))).mono ?_; rintro e w4 ⟨rfl, hb4⟩))
                    go_ret
                    exact ⟨ret_bool HM.out, HB3.out.trans (hb4.mono HB3.out.size)⟩
                  | true =>
                    have HM := Lib.hid (show vFs z3 [] l = vFs z3 (ksF l (k + 1)) (l.drop (k + 1)) from by rw [hm, HKS.out]; simp)
                    clear hm
                    go_wp2_with (first | (go_at_call 59; refine (key_spec ⟨true, y1, y2⟩ hy2 _).mono ?_; rw [HKF.out]; rintro e w2 ⟨rfl, hb2⟩; have HB2 := Lib.hid (HB1.out.trans (hb2.mono HB1.out.size)); have B2 := Lib.hid ((B0.out.alloc _).below hb2 (Nat.le_refl _)); have b2l := B2.out.lt; have b2_0 := B2.out.cell 0; have b2_1 := B2.out.cell 1; have b2_2 := B2.out.cell 2; have b2_3 := B2.out.cell 3; have b2_4 := B2.out.cell 4; have f2_3 := HG3.out _ HB2.out; have f2_4 := HG4.out _ HB2.out; have f2_5 := HG5.out _ HB2.out; have f2_6 := HG6.out _ HB2.out; have f2_7 := HG7.out _ HB2.out; have K2 := Lib.hid ((Blk.new wr 104 #[.bool true, .int .i64 y1, .string y2]).below hb2 (Nat.le_refl _)); have kl := K2.out.lt; have k0 := K2.out.cell 0; have k1 := K2.out.cell 1; have k2 := K2.out.cell 2) | (go_at_call 60; refine (find_spec 0 z2 z3 l hw ⟨true, y1, y2⟩ [.int .i64 4, .int .i64 0, .string z2, .int .i64 z3, .slice (some ⟨bc, offc, none⟩) l.length c] _ w.heap.size HB2.out.size (by rw [FValue.c_eq]; exact RdVs.cons (by unfold RdC; rfl) (RdVs.cons (by unfold RdC; rfl) (RdVs.cons (by unfold RdC; rfl) (RdVs.cons (by unfold RdC; rfl) (RdVs.cons (HC.out.below HB2.out (Nat.le_refl _)) (RdVs.nil _ _))))))).mono ?_; rw [HFK.out]; rintro e w3 ⟨rfl, hb3⟩; have HB3 := Lib.hid (HB2.out.trans (hb3.mono HB2.out.size)); have B3 := Lib.hid (B2.out.below hb3 (Nat.le_refl _)); have b3l := B3.out.lt; have b3_0 := B3.out.cell 0; have b3_1 := B3.out.cell 1; have b3_2 := B3.out.cell 2; have b3_3 := B3.out.cell 3; have b3_4 := B3.out.cell 4; have f3_3 := HG3.out _ HB3.out; have f3_4 := HG4.out _ HB3.out; have f3_5 := HG5.out _ HB3.out; have f3_6 := HG6.out _ HB3.out; have f3_7 := HG7.out _ HB3.out) | (go_at_call 32; refine (HP.out [.int .i64 y3, .int .i64 y4, .string y5, .int .i64 y6, .slice A7 y7.length c7] _ w.heap.size HB3.out.size (by rw [FValue.c_eq]; exact RdVs.cons (by unfold RdC; rfl) (RdVs.cons (by unfold RdC; rfl) (RdVs.cons (by unfold RdC; rfl) (RdVs.cons (by unfold RdC; rfl) (RdVs.cons (Q7.out.below HB3.out (Nat.le_refl _)) (RdVs.nil _ _))))))).mono ?_; rintro e w4 ⟨rfl, hb4⟩))
                    go_roundw
                    case rel => exact ⟨k + 1, by omega, by go_num, HM.out, B3.out.below hb4 (Nat.le_refl _), HB3.out.trans (hb4.mono HB3.out.size)⟩
                    case measure => simp [intOf]; omega
          · obtain rfl : k = l.length := by omega
            have HM := Lib.hid (show true = vF ⟨4, 0, z2, z3, l⟩ from by rw [HG.out, hm, List.drop_length, vFs])
            have HB1 := Lib.hid hb0
            clear hm b0 hb0
            go_wp2_with fail
            go_ret
            exact ⟨ret_bool HM.out, HB1.out⟩
    · have hz2 : (z1 == 0) = false := beq_false_of_ne hz1
      have HG := Lib.hid (show vF ⟨4, z1, z2, z3, l⟩ = false from by rw [hv, hz2]; simp)
      clear hv
      go_enter Tryz.func32, Tryz.ntmps32
      go_wp2_with fail
      go_ret
      exact ⟨ret_bool (by rw [HG.out]), HB1.out⟩
theorem vS_of (z0 z1 : Int) (z2 : ByteArray) (z3 : Int) (l : List FEntry) (hw : l.length ≤ 1000000000) (hs2 : z2.size ≤ 9000000000) (hks : ∀ y, y ∈ l → y.key.a2.size ≤ 9223372036854775807) (he : ∀ y, y ∈ l → VS y.vv) : VS ⟨z0, z1, z2, z3, l⟩ := by
  by_cases h0 : z0 = 0
  · subst h0; exact vS_k0 z1 z2 z3 l hw hs2
  by_cases h1 : z0 = 1
  · subst h1; exact vS_k1 z1 z2 z3 l hw hs2
  by_cases h2 : z0 = 2
  · subst h2; exact vS_k2 z1 z2 z3 l hw hs2
  by_cases h3 : z0 = 3
  · subst h3; exact vS_k3 z1 z2 z3 l hw hs2
  by_cases h4 : z0 = 4
  · subst h4; exact vS_4 z1 z2 z3 l hw hs2 hks he
  by_cases h6 : z0 = 6
  · subst h6; exact vS_k6 z1 z2 z3 l hw hs2
  by_cases h7 : z0 = 7
  · subst h7; exact vS_k7 z1 z2 z3 l hw hs2
  by_cases h8 : z0 = 8
  · subst h8; exact vS_k8 z1 z2 z3 l hw hs2
  exact vS_o z0 ⟨beq_false_of_ne h0, beq_false_of_ne h1, beq_false_of_ne h2, beq_false_of_ne h3, beq_false_of_ne h4, beq_false_of_ne h6, beq_false_of_ne h7, beq_false_of_ne h8⟩ z1 z2 z3 l hw hs2
mutual
theorem wpv_spec : ∀ v : FValue, v.wt ≤ 1000000000 → WgS v ∧ PlS v ∧ VS v
  | .mk z0 z1 z2 z3 l, h => by
    rw [FValue.wt_eq] at h
    have ha := wpv_specs l (by omega)
    exact ⟨wgS_of z0 z1 z2 z3 l (by omega) fun y hy => (ha y hy).1, plS_of z0 z1 z2 z3 l (by omega) fun y hy => (ha y hy).2.1, vS_of z0 z1 z2 z3 l (by omega) (by omega) (fun y hy => (ha y hy).2.2.2) fun y hy => (ha y hy).2.2.1⟩
theorem wpv_specs : ∀ l : List FEntry, FEntry.wts l ≤ 1000000000 → ∀ y, y ∈ l → WgS y.vv ∧ PlS y.vv ∧ VS y.vv ∧ y.key.a2.size ≤ 9223372036854775807
  | [], _, y, hy => by cases hy
  | .mk a v :: r, h, y, hy => by
    obtain ⟨a0, a1, a2⟩ := a
    have e : FEntry.wts (FEntry.mk ⟨a0, a1, a2⟩ v :: r) = FEntry.wt ⟨⟨a0, a1, a2⟩, v⟩ + FEntry.wts r := by rw [FEntry.wts]
    rw [e] at h
    have hv : v.wt + a2.size ≤ FEntry.wt ⟨⟨a0, a1, a2⟩, v⟩ := by
      obtain ⟨k, n, s, x, l⟩ := v
      rw [FEntry.wt_eq, FValue.wt_eq]; omega
    have h1 := wpv_spec v (by omega)
    have h2 := wpv_specs r (by omega)
    by_cases hh : y = .mk ⟨a0, a1, a2⟩ v
    · subst hh; exact ⟨h1.1, h1.2.1, h1.2.2, show a2.size ≤ _ by omega⟩
    · rcases List.mem_cons.1 hy with e2 | hy
      · exact absurd e2 hh
      · exact h2 y hy
end
set_option maxHeartbeats 1000000 in
theorem isV_spec (v : FValue) (hw : v.wt ≤ 1000000000) (us : List Value) (w : World) (B : Nat) (hB0 : B ≤ w.heap.size) (hr : RdVs w B v.c us) : Calls Tryz.prog 14 #[.agg us.toArray] w fun e w' => e = .returned (.bool (isV v)) ∧ Below w.heap.size w w' := by
  obtain ⟨h1, _, h2⟩ := wpv_spec v hw
  have HG := Lib.hid (show isV v = (decide (wtF v ≤ 200) && vF v) from rfl)
  have hle := wtF_le v
  obtain ⟨z0, z1, z2, z3, l⟩ := v
  rw [FValue.c_eq] at hr
  obtain ⟨us0, rfl, hr_0⟩ := hr.unv
  obtain ⟨us1, rfl, hr_1⟩ := hr_0.unv
  obtain ⟨us2, rfl, hr_2⟩ := hr_1.unv
  obtain ⟨us3, rfl, hr_3⟩ := hr_2.unv
  obtain ⟨A, c, us4, rfl, r4, hr_4⟩ := hr_3.uns
  obtain rfl := hr_4.un0
  have HC := Lib.hid (r4.up hB0)
  clear r4 hr hr_0 hr_1 hr_2 hr_3 hr_4
  have HB1 := Lib.hid ((Below.refl _ w).alloc (Nat.le_refl _) (.cells #[.int .i64 z0, .int .i64 z1, .string z2, .int .i64 z3, .slice A l.length c] 43))
  have H1 := Lib.hid (h1 [.int .i64 z0, .int .i64 z1, .string z2, .int .i64 z3, .slice A l.length c] 200 _ w.heap.size (by omega) HB1.out.size (by rw [FValue.c_eq]; exact RdVs.cons (by unfold RdC; rfl) (RdVs.cons (by unfold RdC; rfl) (RdVs.cons (by unfold RdC; rfl) (RdVs.cons (by unfold RdC; rfl) (RdVs.cons (HC.out.below HB1.out (Nat.le_refl _)) (RdVs.nil _ _)))))))
  have H2 := Lib.hid (fun W (hb : Below w.heap.size w W) => h2 [.int .i64 z0, .int .i64 z1, .string z2, .int .i64 z3, .slice A l.length c] W w.heap.size hb.size (by rw [FValue.c_eq]; exact RdVs.cons (by unfold RdC; rfl) (RdVs.cons (by unfold RdC; rfl) (RdVs.cons (by unfold RdC; rfl) (RdVs.cons (by unfold RdC; rfl) (RdVs.cons (HC.out.below hb (Nat.le_refl _)) (RdVs.nil _ _)))))))
  clear h1 h2 HC hB0
  generalize wtF ⟨z0, z1, z2, z3, l⟩ = n at *
  generalize vF ⟨z0, z1, z2, z3, l⟩ = b at *
  have hn9 : n ≤ 2000000000 := by omega
  by_cases hn : n ≤ 200
  · have HM := Lib.hid (show b = isV ⟨z0, z1, z2, z3, l⟩ from by rw [HG.out, decide_eq_true hn]; simp)
    go_enter Tryz.func14, Tryz.ntmps14
    go_wp2_with (first | (go_at_call 31; refine H1.out.mono ?_; rintro e w2 ⟨⟨z, rfl, hz1, hz2⟩, hb2⟩; have hz3 : (z : Int) ≤ 200 := Int.ofNat_le.2 (Nat.le_trans hz1 hn); have HB2 := Lib.hid (HB1.out.trans (hb2.mono HB1.out.size)); have b2 := (Blk.new w 43 #[.int .i64 z0, .int .i64 z1, .string z2, .int .i64 z3, .slice A l.length c]).below hb2 (Nat.le_refl _); have c0 := b2.cell 0; have c1 := b2.cell 1; have c2 := b2.cell 2; have c3 := b2.cell 3; have c4 := b2.cell 4; have cl := b2.lt) | (go_at_call 32; refine (H2.out _ HB2.out).mono ?_; rintro e w3 ⟨rfl, hb3⟩))
    go_ret
    exact ⟨ret_bool HM.out, HB2.out.trans (hb3.mono HB2.out.size)⟩
  · have HM := Lib.hid (show false = isV ⟨z0, z1, z2, z3, l⟩ from by rw [HG.out, decide_eq_false hn]; simp)
    have hz0 : ∀ z : Nat, (z ≤ 200 → z = n) → ¬ (z : Int) ≤ 200 := fun z h hz => by have := h (by omega); omega
    go_enter Tryz.func14, Tryz.ntmps14
    go_wp2_with (go_at_call 31; refine H1.out.mono ?_; rintro e w2 ⟨⟨z, rfl, hz1, hz2⟩, hb2⟩; have hz3 := hz0 z hz2; have HB2 := Lib.hid (HB1.out.trans (hb2.mono HB1.out.size)))
    go_ret
    exact ⟨ret_bool HM.out, HB2.out⟩
end Go.Proofs.YtdmbhmhfjappcaaGreatDoor
