/-
  Parts of the proof: IfS. Conditions: none.
-/
import Derived.Test.YtdmbhmhfjappcaaGreatDoorQGSeenIfA
import Derived.Test.YtdmbhmhfjappcaaGreatDoorQIfN
import Derived.Deep.DeepMust
import Derived.StillTailTactics
namespace Go.Proofs.YtdmbhmhfjappcaaGreatDoor
open Go.ChangeShapes Go.WideShapes Go.ChangeAt Go.RowKit Go.Deep Go.Joins
open Go.ChangeMaps (open_string shut_string)
set_option linter.unusedVariables false
set_option linter.unusedSimpArgs false
set_option maxRecDepth 100000
theorem isFl_eq (z0 : ByteArray) : isFl z0 = (decide (0 < z0.size) && (bI z0 0 == 47)) := by
  unfold isFl Lib.hasPrefix bI
  rw [ByteArray.toList_eq, Lib.size_eq]
  cases h : z0.data.toList with
  | nil => rfl
  | cons x r =>
    simp only [List.isPrefixOf_cons_cons, List.isPrefixOf_nil_left, Bool.and_true, List.length_cons, List.getD_cons_zero]
    have e : (0 < r.length + 1) = True := by simp
    by_cases hx : x = 47
    · subst hx; simp
    · have h1 : ((47 : UInt8) == x) = false := by rw [beq_eq_false_iff_ne]; exact fun e => hx e.symm
      have h2 : ((x.toNat : Int) == 47) = false := by
        rw [beq_eq_false_iff_ne]
        intro e
        exact hx (UInt8.toNat_inj.1 (by simpa using (by omega : x.toNat = 47)))
      rw [h1, h2]; simp
set_option maxHeartbeats 2000000 in
theorem Top_spec (z0 : ByteArray) (z1 : List FParam) (z2 : List FParam) (z3 : List FStr) (z4 : Bool) (z5 : List FIns) (us : List Value) (w : World) (hw : FFunc.wt ⟨z0, z1, z2, z3, z4, z5⟩ ≤ 1000000000) (ok : FFunc.ok ⟨z0, z1, z2, z3, z4, z5⟩) {B : Nat} (hB0 : B ≤ w.heap.size) (hr : RdVs w B (FFunc.c ⟨z0, z1, z2, z3, z4, z5⟩) us) :
    Calls Tryz.prog 16 #[.agg us.toArray] w fun e w' => e = .returned (.bool (isFl z0)) ∧ Below w.heap.size w w' := by
  rw [FFunc.ok_eq] at ok
  obtain ⟨ok0, ok1, ok2, ok3, ok5⟩ := ok
  have hwe := FFunc.wt_eq z0 z1 z2 z3 z4 z5
  have hl1 : z1.length ≤ 1000000000 := by omega
  have hl2 : z2.length ≤ 1000000000 := by omega
  have hl3 : z3.length ≤ 1000000000 := by omega
  have hl5 : z5.length ≤ 1000000000 := by omega
  have OK1 := Lib.hid (FParam.oks_mem z1 ok1)
  have OK2 := Lib.hid (FParam.oks_mem z2 ok2)
  have OK3 := Lib.hid (FStr.oks_mem z3 ok3)
  have OK5 := Lib.hid (FIns.oks_mem z5 ok5)
  clear hwe hw ok1 ok2 ok3 ok5
  have RV0 := hr
  rw [FFunc.c_eq] at hr
  obtain ⟨us0, rfl, hr_0⟩ := hr.unv
  obtain ⟨A1, c1, us1, rfl, r1, hr_1⟩ := hr_0.uns
  obtain ⟨A2, c2, us2, rfl, r2, hr_2⟩ := hr_1.uns
  obtain ⟨A3, c3, us3, rfl, r3, hr_3⟩ := hr_2.uns
  obtain ⟨us4, rfl, hr_4⟩ := hr_3.unv
  obtain ⟨A5, c5, us5, rfl, r5, hr_5⟩ := hr_4.uns
  obtain rfl := hr_5.un0
  have HC1 := Lib.hid (r1.up hB0)
  have HC2 := Lib.hid (r2.up hB0)
  have HC3 := Lib.hid (r3.up hB0)
  have HC5 := Lib.hid (r5.up hB0)
  have RV := Lib.hid (show RdVs w w.heap.size (FFunc.c ⟨z0, z1, z2, z3, z4, z5⟩) [.string z0, .slice A1 z1.length c1, .slice A2 z2.length c2, .slice A3 z3.length c3, .bool z4, .slice A5 z5.length c5] from RV0.on (Below.refl w.heap.size w) hB0 hB0)
  clear RV0 hr hr_0 hr_1 hr_2 hr_3 hr_4 hr_5 r1 r2 r3 r5 hB0
  have hba := Below.alloc (Below.refl w.heap.size w) (Nat.le_refl _) (.cells #[.string z0, .slice A1 z1.length c1, .slice A2 z2.length c2, .slice A3 z3.length c3, .bool z4, .slice A5 z5.length c5] 51)
  have HE := Lib.hid (isFl_eq z0)
  by_cases h0 : 0 < z0.size
  · have d0 : decide ((0 : Int) < (z0.size : Int)) = true := decide_eq_true (by omega)
    have hb0 := bI_eq z0 0 h0
    have hp : (0 : Int) < (z0.size : Int) := by omega
    cases hq : (bI z0 0 == 47) with
    | true =>
      have R := Lib.hid (show isFl z0 = true from by rw [HE.out, hq]; simp [h0])
      rw [hb0] at hq
      go_enter Tryz.func16, Tryz.ntmps16
      go_wp2_with fail
      go_ret
      exact ⟨ret_bool R.out.symm, hba⟩
    | false =>
      have R := Lib.hid (show isFl z0 = false from by rw [HE.out, hq]; simp)
      rw [hb0] at hq
      go_enter Tryz.func16, Tryz.ntmps16
      go_wp2_with fail
      go_ret
      exact ⟨ret_bool R.out.symm, hba⟩
  · have d0 : decide ((0 : Int) < (z0.size : Int)) = false := decide_eq_false (by omega)
    have R := Lib.hid (show isFl z0 = false from by rw [HE.out]; simp [h0])
    go_enter Tryz.func16, Tryz.ntmps16
    go_wp2_with fail
    go_ret
    exact ⟨ret_bool R.out.symm, hba⟩
set_option maxHeartbeats 4000000 in
theorem IsFunc_spec (z0 : ByteArray) (z1 : List FParam) (z2 : List FParam) (z3 : List FStr) (z4 : Bool) (z5 : List FIns) (us : List Value) (w : World) (hw : FFunc.wt ⟨z0, z1, z2, z3, z4, z5⟩ ≤ 1000000000) (ok : FFunc.ok ⟨z0, z1, z2, z3, z4, z5⟩) {B : Nat} (hB0 : B ≤ w.heap.size) (hr : RdVs w B (FFunc.c ⟨z0, z1, z2, z3, z4, z5⟩) us) :
    Calls Tryz.prog 12 #[.agg us.toArray] w fun e w' => e = .returned (.bool (ifuF z0 z1 z2 z3 z4 z5)) ∧ Below w.heap.size w w' := by
  have HW := Lib.hid hw
  have HOK := Lib.hid ok
  rw [FFunc.ok_eq] at ok
  obtain ⟨ok0, ok1, ok2, ok3, ok5⟩ := ok
  have hwe := FFunc.wt_eq z0 z1 z2 z3 z4 z5
  have hl1 : z1.length ≤ 1000000000 := by omega
  have hl2 : z2.length ≤ 1000000000 := by omega
  have hl3 : z3.length ≤ 1000000000 := by omega
  have hl5 : z5.length ≤ 1000000000 := by omega
  have OK1 := Lib.hid (FParam.oks_mem z1 ok1)
  have OK2 := Lib.hid (FParam.oks_mem z2 ok2)
  have OK3 := Lib.hid (FStr.oks_mem z3 ok3)
  have OK5 := Lib.hid (FIns.oks_mem z5 ok5)
  clear hwe hw ok1 ok2 ok3 ok5
  have RV0 := hr
  rw [FFunc.c_eq] at hr
  obtain ⟨us0, rfl, hr_0⟩ := hr.unv
  obtain ⟨A1, c1, us1, rfl, r1, hr_1⟩ := hr_0.uns
  obtain ⟨A2, c2, us2, rfl, r2, hr_2⟩ := hr_1.uns
  obtain ⟨A3, c3, us3, rfl, r3, hr_3⟩ := hr_2.uns
  obtain ⟨us4, rfl, hr_4⟩ := hr_3.unv
  obtain ⟨A5, c5, us5, rfl, r5, hr_5⟩ := hr_4.uns
  obtain rfl := hr_5.un0
  have HC1 := Lib.hid (r1.up hB0)
  have HC2 := Lib.hid (r2.up hB0)
  have HC3 := Lib.hid (r3.up hB0)
  have HC5 := Lib.hid (r5.up hB0)
  have RV := Lib.hid (show RdVs w w.heap.size (FFunc.c ⟨z0, z1, z2, z3, z4, z5⟩) [.string z0, .slice A1 z1.length c1, .slice A2 z2.length c2, .slice A3 z3.length c3, .bool z4, .slice A5 z5.length c5] from RV0.on (Below.refl w.heap.size w) hB0 hB0)
  clear RV0 hr hr_0 hr_1 hr_2 hr_3 hr_4 hr_5 r1 r2 r3 r5 hB0
  have hba := Below.alloc (Below.refl w.heap.size w) (Nat.le_refl _) (.cells #[.string z0, .slice A1 z1.length c1, .slice A2 z2.length c2, .slice A3 z3.length c3, .bool z4, .slice A5 z5.length c5] 51)
  have bl0 := Blk.new w 51 #[.string z0, .slice A1 z1.length c1, .slice A2 z2.length c2, .slice A3 z3.length c3, .bool z4, .slice A5 z5.length c5]
  by_cases g1 : inB z0.size 1 100 = true
  case neg =>
    have G1 := Lib.hid (by simpa using g1 : inB z0.size 1 100 = false)
    have R := Lib.hid (show ifuF z0 z1 z2 z3 z4 z5 = false from by unfold ifuF; rw [G1.out]; simp)
    clear g1
    go_enter Tryz.func12, Tryz.ntmps12
    go_wp2_with (go_at_call 28; refine (l1In_any _ _ _ _).mono ?_; rw [G1.out]; rintro e w' ⟨rfl, rfl⟩)
    go_ret
    exact ⟨ret_bool R.out.symm, hba⟩
  have G1 := Lib.hid g1
  clear g1
  by_cases g2 : z5.length ≤ 8000
  case neg =>
    have d2 : decide ((8000 : Int) < (z5.length : Int)) = true := by simp; omega
    have R := Lib.hid (show ifuF z0 z1 z2 z3 z4 z5 = false from by unfold ifuF; simp [g2])
    go_enter Tryz.func12, Tryz.ntmps12
    go_wp2_with (go_at_call 28; refine (l1In_any _ _ _ _).mono ?_; rw [G1.out]; rintro e w' ⟨rfl, rfl⟩)
    go_ret
    exact ⟨ret_bool R.out.symm, hba⟩
  have d2 : decide ((8000 : Int) < (z5.length : Int)) = false := by simp; omega
  cases g3 : nmsB z1 z2 z3 with
  | false =>
    have G3 := Lib.hid g3
    have R := Lib.hid (show ifuF z0 z1 z2 z3 z4 z5 = false from by unfold ifuF; rw [g3]; simp)
    clear g3
    go_enter Tryz.func12, Tryz.ntmps12
    go_wp2_with (first | (go_at_call 28; refine (l1In_any _ _ _ _).mono ?_; rw [G1.out]; rintro e w' ⟨rfl, rfl⟩) | (go_at_call 29; refine (Names_spec z0 z1 z2 z3 z4 z5 _ _ HW.out HOK.out (B := w.heap.size) (by simp) (RV.out.on hba (Nat.le_refl _) (Nat.le_refl _))).mono ?_; rw [G3.out]; rintro e w2 ⟨rfl, hb2⟩; have B2 := Lib.hid (hba.trans (hb2.mono (by simp))); have bl2 := bl0.below hb2 (Nat.le_refl _); have d1_0 := bl2.cell 0; have d1_1 := bl2.cell 1; have d1_2 := bl2.cell 2; have d1_3 := bl2.cell 3; have d1_4 := bl2.cell 4; have d1_5 := bl2.cell 5; have hs2 := bl2.lt; clear hb2))
    go_ret
    exact ⟨ret_bool R.out.symm, B2.out⟩
  | true =>
  have G3 := Lib.hid g3
  clear g3
  cases g4 : isFl z0 with
  | true =>
    have G4 := Lib.hid g4
    by_cases h4 : 0 < z3.length
    · have d4 : decide ((0 : Int) < (z3.length : Int)) = true := decide_eq_true (by omega)
      have R := Lib.hid (show ifuF z0 z1 z2 z3 z4 z5 = false from by unfold ifuF; rw [g4]; simp [h4])
      clear g4
      go_enter Tryz.func12, Tryz.ntmps12
      go_wp2_with (first | (go_at_call 28; refine (l1In_any _ _ _ _).mono ?_; rw [G1.out]; rintro e w' ⟨rfl, rfl⟩) | (go_at_call 29; refine (Names_spec z0 z1 z2 z3 z4 z5 _ _ HW.out HOK.out (B := w.heap.size) (by simp) (RV.out.on hba (Nat.le_refl _) (Nat.le_refl _))).mono ?_; rw [G3.out]; rintro e w2 ⟨rfl, hb2⟩; have B2 := Lib.hid (hba.trans (hb2.mono (by simp))); have bl2 := bl0.below hb2 (Nat.le_refl _); have d1_0 := bl2.cell 0; have d1_1 := bl2.cell 1; have d1_2 := bl2.cell 2; have d1_3 := bl2.cell 3; have d1_4 := bl2.cell 4; have d1_5 := bl2.cell 5; have hs2 := bl2.lt; clear hb2) | (go_at_call 16; refine (Top_spec z0 z1 z2 z3 z4 z5 _ _ HW.out HOK.out (B := w.heap.size) B2.out.size (RV.out.on B2.out (Nat.le_refl _) (Nat.le_refl _))).mono ?_; rw [G4.out]; rintro e w3 ⟨rfl, hb3⟩; have B3 := Lib.hid (B2.out.trans (hb3.mono B2.out.size)); have bl3 := bl2.below hb3 (Nat.le_refl _); have d2_0 := bl3.cell 0; have d2_1 := bl3.cell 1; have d2_2 := bl3.cell 2; have d2_3 := bl3.cell 3; have d2_4 := bl3.cell 4; have d2_5 := bl3.cell 5; have hs3 := bl3.lt; have BL3 := Lib.hid bl3; clear hb3))
      go_ret
      exact ⟨ret_bool R.out.symm, B3.out⟩
    · have d4 : decide ((0 : Int) < (z3.length : Int)) = false := decide_eq_false (by omega)
      cases z4 with
      | true =>
        have R := Lib.hid (show ifuF z0 z1 z2 z3 true z5 = false from by unfold ifuF; rw [g4]; simp)
        clear g4
        go_enter Tryz.func12, Tryz.ntmps12
        go_wp2_with (first | (go_at_call 28; refine (l1In_any _ _ _ _).mono ?_; rw [G1.out]; rintro e w' ⟨rfl, rfl⟩) | (go_at_call 29; refine (Names_spec z0 z1 z2 z3 true z5 _ _ HW.out HOK.out (B := w.heap.size) (by simp) (RV.out.on hba (Nat.le_refl _) (Nat.le_refl _))).mono ?_; rw [G3.out]; rintro e w2 ⟨rfl, hb2⟩; have B2 := Lib.hid (hba.trans (hb2.mono (by simp))); have bl2 := bl0.below hb2 (Nat.le_refl _); have d1_0 := bl2.cell 0; have d1_1 := bl2.cell 1; have d1_2 := bl2.cell 2; have d1_3 := bl2.cell 3; have d1_4 := bl2.cell 4; have d1_5 := bl2.cell 5; have hs2 := bl2.lt; clear hb2) | (go_at_call 16; refine (Top_spec z0 z1 z2 z3 true z5 _ _ HW.out HOK.out (B := w.heap.size) B2.out.size (RV.out.on B2.out (Nat.le_refl _) (Nat.le_refl _))).mono ?_; rw [G4.out]; rintro e w3 ⟨rfl, hb3⟩; have B3 := Lib.hid (B2.out.trans (hb3.mono B2.out.size)); have bl3 := bl2.below hb3 (Nat.le_refl _); have d2_0 := bl3.cell 0; have d2_1 := bl3.cell 1; have d2_2 := bl3.cell 2; have d2_3 := bl3.cell 3; have d2_4 := bl3.cell 4; have d2_5 := bl3.cell 5; have hs3 := bl3.lt; have BL3 := Lib.hid bl3; clear hb3))
        go_ret
        exact ⟨ret_bool R.out.symm, B3.out⟩
      | false =>
        have R4 := Lib.hid (show (!(isFl z0 && (decide (0 < z3.length) || false))) = true from by simp [h4])
        clear g4
        go_enter Tryz.func12, Tryz.ntmps12
        go_wp2_with (first | (go_at_call 28; refine (l1In_any _ _ _ _).mono ?_; rw [G1.out]; rintro e w' ⟨rfl, rfl⟩) | (go_at_call 29; refine (Names_spec z0 z1 z2 z3 false z5 _ _ HW.out HOK.out (B := w.heap.size) (by simp) (RV.out.on hba (Nat.le_refl _) (Nat.le_refl _))).mono ?_; rw [G3.out]; rintro e w2 ⟨rfl, hb2⟩; have B2 := Lib.hid (hba.trans (hb2.mono (by simp))); have bl2 := bl0.below hb2 (Nat.le_refl _); have d1_0 := bl2.cell 0; have d1_1 := bl2.cell 1; have d1_2 := bl2.cell 2; have d1_3 := bl2.cell 3; have d1_4 := bl2.cell 4; have d1_5 := bl2.cell 5; have hs2 := bl2.lt; clear hb2) | (go_at_call 16; refine (Top_spec z0 z1 z2 z3 false z5 _ _ HW.out HOK.out (B := w.heap.size) B2.out.size (RV.out.on B2.out (Nat.le_refl _) (Nat.le_refl _))).mono ?_; rw [G4.out]; rintro e w3 ⟨rfl, hb3⟩; have B3 := Lib.hid (B2.out.trans (hb3.mono B2.out.size)); have bl3 := bl2.below hb3 (Nat.le_refl _); have d2_0 := bl3.cell 0; have d2_1 := bl3.cell 1; have d2_2 := bl3.cell 2; have d2_3 := bl3.cell 3; have d2_4 := bl3.cell 4; have d2_5 := bl3.cell 5; have hs3 := bl3.lt; have BL3 := Lib.hid bl3; clear hb3))
        go_loopw [3] (fun i wr => ∃ k : Nat, k ≤ z5.length ∧ i = .int .i64 k ∧ (∀ j, j < k → opAt z5 false j = true) ∧ Blk wr w.heap.size 51 #[.string z0, .slice A1 z1.length c1, .slice A2 z2.length c2, .slice A3 z3.length c3, .bool false, .slice A5 z5.length c5] ∧ Below w.heap.size w wr) (fun i _ => z5.length - (intOf i).toNat)
        case atStart => exact ⟨0, Nat.zero_le _, rfl, fun j hj => absurd hj (by omega), BL3.out, B3.out⟩
        case round =>
          clear bl0 bl2 bl3 d1_0 d1_1 d1_2 d1_3 d1_4 d1_5 d2_0 d2_1 d2_2 d2_3 d2_4 d2_5 hba hs2 hs3
          obtain ⟨k, hk, rfl, hs, ba, hb⟩ := hrel
          have HS := Lib.hid hs
          have hbs := hb.size
          have bal := ba.lt
          have ba_0 : wr.cell? ⟨w.heap.size, 0, none⟩ = some (.string z0) := ba.cell 0
          have ba_1 : wr.cell? ⟨w.heap.size, 1, none⟩ = some (.slice A1 z1.length c1) := ba.cell 1
          have ba_2 : wr.cell? ⟨w.heap.size, 2, none⟩ = some (.slice A2 z2.length c2) := ba.cell 2
          have ba_3 : wr.cell? ⟨w.heap.size, 3, none⟩ = some (.slice A3 z3.length c3) := ba.cell 3
          have ba_4 : wr.cell? ⟨w.heap.size, 4, none⟩ = some (.bool false) := ba.cell 4
          have ba_5 : wr.cell? ⟨w.heap.size, 5, none⟩ = some (.slice A5 z5.length c5) := ba.cell 5
          clear hs
          by_cases hlt : k < z5.length
          · obtain ⟨x, hx⟩ : ∃ x, z5[k]? = some x := ⟨_, List.getElem?_eq_getElem hlt⟩
            obtain ⟨bc, offc, rfl, hblc, hcc⟩ := RdC.at_ FIns.len HC5.out hx
            have HX := Lib.hid hx
            clear hx
            obtain ⟨y0, y1, y2, y3, y4⟩ := x
            rw [FIns.c_eq] at hcc
            obtain ⟨u0, e0, q0⟩ := hcc 0 _ rfl
            obtain rfl := q0.val
            have c_0 : wr.cell? ⟨bc, offc + k * 5, none⟩ = some (.int .i64 y0) := (hb.cell (p := ⟨bc, _, none⟩) hblc).trans (by simpa using e0)
            clear e0 q0 hcc
            cases hop : (y0 == 54) with
            | false =>
              have HOP := Lib.hid hop
              go_wp2_with fail
              go_roundw
              case rel => exact ⟨k + 1, by omega, by go_num, on_succ HS.out (op_t1 HX.out HOP.out), ba, hb⟩
              case measure => simp [intOf]; omega
            | true =>
              have HOP := Lib.hid hop
              go_wp2_with fail
              go_ret
              exact ⟨ret_bool (show false = ifuF z0 z1 z2 z3 false z5 from by unfold ifuF; rw [allK_f hlt (op_f HX.out HOP.out rfl)]; simp), hb⟩
          · obtain rfl : k = z5.length := by omega
            clear hlt
            have R := Lib.hid (show ifuF z0 z1 z2 z3 false z5 = htB z5 z3.length from by unfold ifuF; rw [G1.out, G3.out, R4.out, allK_t HS.out]; simp [g2])
            go_wp2_with (go_at_call 30; refine (HeightsOf_spec isIns_spec z0 z1 z2 z3 false z5 _ _ hl5 hl3 OK5.out (B := w.heap.size) hb.size (RV.out.on hb (Nat.le_refl _) (Nat.le_refl _))).mono ?_; rintro e w4 ⟨A, c, rfl, own4, hb4⟩; have B4 := Lib.hid (hb.trans (hb4.mono hb.size)); clear own4)
            go_ret
            exact ⟨ret_bool R.out.symm, B4.out⟩
  | false =>
    have G4 := Lib.hid g4
    have R4 := Lib.hid (show (!(isFl z0 && (decide (0 < z3.length) || z4))) = true from by rw [g4]; rfl)
    clear g4
    go_enter Tryz.func12, Tryz.ntmps12
    go_wp2_with (first | (go_at_call 28; refine (l1In_any _ _ _ _).mono ?_; rw [G1.out]; rintro e w' ⟨rfl, rfl⟩) | (go_at_call 29; refine (Names_spec z0 z1 z2 z3 z4 z5 _ _ HW.out HOK.out (B := w.heap.size) (by simp) (RV.out.on hba (Nat.le_refl _) (Nat.le_refl _))).mono ?_; rw [G3.out]; rintro e w2 ⟨rfl, hb2⟩; have B2 := Lib.hid (hba.trans (hb2.mono (by simp))); have bl2 := bl0.below hb2 (Nat.le_refl _); have d1_0 := bl2.cell 0; have d1_1 := bl2.cell 1; have d1_2 := bl2.cell 2; have d1_3 := bl2.cell 3; have d1_4 := bl2.cell 4; have d1_5 := bl2.cell 5; have hs2 := bl2.lt; clear hb2) | (go_at_call 16; refine (Top_spec z0 z1 z2 z3 z4 z5 _ _ HW.out HOK.out (B := w.heap.size) B2.out.size (RV.out.on B2.out (Nat.le_refl _) (Nat.le_refl _))).mono ?_; rw [G4.out]; rintro e w3 ⟨rfl, hb3⟩; have B3 := Lib.hid (B2.out.trans (hb3.mono B2.out.size)); have bl3 := bl2.below hb3 (Nat.le_refl _); have d2_0 := bl3.cell 0; have d2_1 := bl3.cell 1; have d2_2 := bl3.cell 2; have d2_3 := bl3.cell 3; have d2_4 := bl3.cell 4; have d2_5 := bl3.cell 5; have hs3 := bl3.lt; have BL3 := Lib.hid bl3; clear hb3))
    go_loopw [3] (fun i wr => ∃ k : Nat, k ≤ z5.length ∧ i = .int .i64 k ∧ (∀ j, j < k → opAt z5 z4 j = true) ∧ Blk wr w.heap.size 51 #[.string z0, .slice A1 z1.length c1, .slice A2 z2.length c2, .slice A3 z3.length c3, .bool z4, .slice A5 z5.length c5] ∧ Below w.heap.size w wr) (fun i _ => z5.length - (intOf i).toNat)
    case atStart => exact ⟨0, Nat.zero_le _, rfl, fun j hj => absurd hj (by omega), BL3.out, B3.out⟩
    case round =>
      clear bl0 bl2 bl3 d1_0 d1_1 d1_2 d1_3 d1_4 d1_5 d2_0 d2_1 d2_2 d2_3 d2_4 d2_5 hba hs2 hs3
      obtain ⟨k, hk, rfl, hs, ba, hb⟩ := hrel
      have HS := Lib.hid hs
      have hbs := hb.size
      have bal := ba.lt
      have ba_0 : wr.cell? ⟨w.heap.size, 0, none⟩ = some (.string z0) := ba.cell 0
      have ba_1 : wr.cell? ⟨w.heap.size, 1, none⟩ = some (.slice A1 z1.length c1) := ba.cell 1
      have ba_2 : wr.cell? ⟨w.heap.size, 2, none⟩ = some (.slice A2 z2.length c2) := ba.cell 2
      have ba_3 : wr.cell? ⟨w.heap.size, 3, none⟩ = some (.slice A3 z3.length c3) := ba.cell 3
      have ba_4 : wr.cell? ⟨w.heap.size, 4, none⟩ = some (.bool z4) := ba.cell 4
      have ba_5 : wr.cell? ⟨w.heap.size, 5, none⟩ = some (.slice A5 z5.length c5) := ba.cell 5
      clear hs
      by_cases hlt : k < z5.length
      · obtain ⟨x, hx⟩ : ∃ x, z5[k]? = some x := ⟨_, List.getElem?_eq_getElem hlt⟩
        obtain ⟨bc, offc, rfl, hblc, hcc⟩ := RdC.at_ FIns.len HC5.out hx
        have HX := Lib.hid hx
        clear hx
        obtain ⟨y0, y1, y2, y3, y4⟩ := x
        rw [FIns.c_eq] at hcc
        obtain ⟨u0, e0, q0⟩ := hcc 0 _ rfl
        obtain rfl := q0.val
        have c_0 : wr.cell? ⟨bc, offc + k * 5, none⟩ = some (.int .i64 y0) := (hb.cell (p := ⟨bc, _, none⟩) hblc).trans (by simpa using e0)
        clear e0 q0 hcc
        cases hop : (y0 == 54) with
        | false =>
          have HOP := Lib.hid hop
          go_wp2_with fail
          go_roundw
          case rel => exact ⟨k + 1, by omega, by go_num, on_succ HS.out (op_t1 HX.out HOP.out), ba, hb⟩
          case measure => simp [intOf]; omega
        | true =>
          have HOP := Lib.hid hop
          cases z4 with
          | false =>
            go_wp2_with fail
            go_ret
            exact ⟨ret_bool (show false = ifuF z0 z1 z2 z3 false z5 from by unfold ifuF; rw [allK_f hlt (op_f HX.out HOP.out rfl)]; simp), hb⟩
          | true =>
            go_wp2_with fail
            go_roundw
            case rel => exact ⟨k + 1, by omega, by go_num, on_succ HS.out (op_t2 HX.out rfl), ba, hb⟩
            case measure => simp [intOf]; omega
      · obtain rfl : k = z5.length := by omega
        clear hlt
        have R := Lib.hid (show ifuF z0 z1 z2 z3 z4 z5 = htB z5 z3.length from by unfold ifuF; rw [G1.out, G3.out, R4.out, allK_t HS.out]; simp [g2])
        go_wp2_with (go_at_call 30; refine (HeightsOf_spec isIns_spec z0 z1 z2 z3 z4 z5 _ _ hl5 hl3 OK5.out (B := w.heap.size) hb.size (RV.out.on hb (Nat.le_refl _) (Nat.le_refl _))).mono ?_; rintro e w4 ⟨A, c, rfl, own4, hb4⟩; have B4 := Lib.hid (hb.trans (hb4.mono hb.size)); clear own4)
        go_ret
        exact ⟨ret_bool R.out.symm, B4.out⟩
end Go.Proofs.YtdmbhmhfjappcaaGreatDoor
