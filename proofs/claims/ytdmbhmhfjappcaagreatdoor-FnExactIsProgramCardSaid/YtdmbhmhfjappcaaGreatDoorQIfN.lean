/-
  Parts of the proof: IfN. Conditions: none.
-/
import Derived.Test.YtdmbhmhfjappcaaGreatDoorQGSeenIfA
import Derived.Deep.DeepMust
import Derived.StillTailTactics
namespace Go.Proofs.YtdmbhmhfjappcaaGreatDoor
open Go.ChangeShapes Go.WideShapes Go.ChangeAt Go.RowKit Go.Deep Go.Joins
open Go.ChangeMaps (open_string shut_string)
set_option linter.unusedVariables false
set_option linter.unusedSimpArgs false
set_option maxRecDepth 100000
set_option maxHeartbeats 4000000 in
theorem Names_spec (z0 : ByteArray) (z1 : List FParam) (z2 : List FParam) (z3 : List FStr) (z4 : Bool) (z5 : List FIns) (us : List Value) (w : World) (hw : FFunc.wt ⟨z0, z1, z2, z3, z4, z5⟩ ≤ 1000000000) (ok : FFunc.ok ⟨z0, z1, z2, z3, z4, z5⟩) {B : Nat} (hB0 : B ≤ w.heap.size) (hr : RdVs w B (FFunc.c ⟨z0, z1, z2, z3, z4, z5⟩) us) :
    Calls Tryz.prog 29 #[.agg us.toArray] w fun e w' => e = .returned (.bool (nmsB z1 z2 z3)) ∧ Below w.heap.size w w' := by
  rw [FFunc.ok_eq] at ok
  obtain ⟨ok0, ok1, ok2, ok3, ok5⟩ := ok
  have hwe := FFunc.wt_eq z0 z1 z2 z3 z4 z5
  have hl1 : z1.length ≤ 1000000000 := by omega
  have hl2 : z2.length ≤ 1000000000 := by omega
  have hl3 : z3.length ≤ 1000000000 := by omega
  have hl5 : z5.length ≤ 1000000000 := by omega
  have OK1 := Lib.hid (FParam.oks_mem z1 ok1)
  have OK2 := Lib.hid (FParam.oks_mem z2 ok2)
  have OK3 := Lib.hid (FStr.oks_mem z3 ok3)
  have OK5 := Lib.hid (FIns.oks_mem z5 ok5)
  clear hwe hw ok1 ok2 ok3 ok5
  have RV0 := hr
  rw [FFunc.c_eq] at hr
  obtain ⟨us0, rfl, hr_0⟩ := hr.unv
  obtain ⟨A1, c1, us1, rfl, r1, hr_1⟩ := hr_0.uns
  obtain ⟨A2, c2, us2, rfl, r2, hr_2⟩ := hr_1.uns
  obtain ⟨A3, c3, us3, rfl, r3, hr_3⟩ := hr_2.uns
  obtain ⟨us4, rfl, hr_4⟩ := hr_3.unv
  obtain ⟨A5, c5, us5, rfl, r5, hr_5⟩ := hr_4.uns
  obtain rfl := hr_5.un0
  have HC1 := Lib.hid (r1.up hB0)
  have HC2 := Lib.hid (r2.up hB0)
  have HC3 := Lib.hid (r3.up hB0)
  have HC5 := Lib.hid (r5.up hB0)
  have RV := Lib.hid (show RdVs w w.heap.size (FFunc.c ⟨z0, z1, z2, z3, z4, z5⟩) [.string z0, .slice A1 z1.length c1, .slice A2 z2.length c2, .slice A3 z3.length c3, .bool z4, .slice A5 z5.length c5] from RV0.on (Below.refl w.heap.size w) hB0 hB0)
  clear RV0 hr hr_0 hr_1 hr_2 hr_3 hr_4 hr_5 r1 r2 r3 r5 hB0
  have hba := Below.alloc (Below.refl w.heap.size w) (Nat.le_refl _) (.cells #[.string z0, .slice A1 z1.length c1, .slice A2 z2.length c2, .slice A3 z3.length c3, .bool z4, .slice A5 z5.length c5] 51)
  by_cases g1 : z3.length ≤ 600
  case neg =>
    have d1 : decide ((600 : Int) < (z3.length : Int)) = true := by simp; omega
    have R := Lib.hid (show nmsB z1 z2 z3 = false from by unfold nmsB; simp [g1])
    go_enter Tryz.func29, Tryz.ntmps29
    go_wp2_with fail
    go_ret
    exact ⟨ret_bool R.out.symm, hba⟩
  have d1 : decide ((600 : Int) < (z3.length : Int)) = false := by simp; omega
  by_cases g2 : z1.length + z2.length ≤ z3.length
  case neg =>
    have d2 : decide ((z3.length : Int) < (z1.length : Int) + (z2.length : Int)) = true := by simp; omega
    have R := Lib.hid (show nmsB z1 z2 z3 = false from by unfold nmsB; simp [g2])
    go_enter Tryz.func29, Tryz.ntmps29
    go_wp2_with fail
    go_ret
    exact ⟨ret_bool R.out.symm, hba⟩
  have d2 : decide ((z3.length : Int) < (z1.length : Int) + (z2.length : Int)) = false := by simp; omega
  have RF := Lib.hid (fun (k : Nat) (hk : k < z3.length) (h : slAt z3 k = false) => (show nmsB z1 z2 z3 = false from by unfold nmsB; rw [allK_f hk h]; simp))
  have RP := Lib.hid (fun (k : Nat) (hk : k < z1.length + z2.length) (h : prAt z1 z2 z3 k = false) => (show nmsB z1 z2 z3 = false from by unfold nmsB; rw [allK_f hk h]; simp))
  have RT := Lib.hid (fun (h : ∀ j, j < z3.length → slAt z3 j = true) (h' : ∀ j, j < z3.length → prAt z1 z2 z3 j = true) => (show nmsB z1 z2 z3 = true from by unfold nmsB; rw [allK_t h, allK_t (fun j hj => h' j (by omega))]; simp [g1, g2]))
  go_enter Tryz.func29, Tryz.ntmps29
  go_wp2_with fail
  go_loopw [4] (fun i wr => ∃ k : Nat, k ≤ z3.length ∧ i = .int .i64 k ∧ (∀ j, j < k → slAt z3 j = true) ∧ (∀ j, j < k → prAt z1 z2 z3 j = true) ∧ Blk wr w.heap.size 51 #[.string z0, .slice A1 z1.length c1, .slice A2 z2.length c2, .slice A3 z3.length c3, .bool z4, .slice A5 z5.length c5] ∧ Below w.heap.size w wr) (fun i _ => z3.length - (intOf i).toNat)
  case atStart => exact ⟨0, Nat.zero_le _, rfl, fun j hj => absurd hj (by omega), fun j hj => absurd hj (by omega), Blk.new _ _ _, hba⟩
  case round =>
    clear hba
    obtain ⟨k, hk, rfl, hs, hp, ba, hb⟩ := hrel
    have HS := Lib.hid hs
    have HP := Lib.hid hp
    have hbs := hb.size
    have bal := ba.lt
    have ba_0 : wr.cell? ⟨w.heap.size, 0, none⟩ = some (.string z0) := ba.cell 0
    have ba_1 : wr.cell? ⟨w.heap.size, 1, none⟩ = some (.slice A1 z1.length c1) := ba.cell 1
    have ba_2 : wr.cell? ⟨w.heap.size, 2, none⟩ = some (.slice A2 z2.length c2) := ba.cell 2
    have ba_3 : wr.cell? ⟨w.heap.size, 3, none⟩ = some (.slice A3 z3.length c3) := ba.cell 3
    have ba_4 : wr.cell? ⟨w.heap.size, 4, none⟩ = some (.bool z4) := ba.cell 4
    have ba_5 : wr.cell? ⟨w.heap.size, 5, none⟩ = some (.slice A5 z5.length c5) := ba.cell 5
    clear hs hp
    by_cases hlt : k < z3.length
    · obtain ⟨x, hx⟩ : ∃ x, z3[k]? = some x := ⟨_, List.getElem?_eq_getElem hlt⟩
      obtain ⟨bc, offc, rfl, hblc, hcc⟩ := RdC.at_ FStr.len HC3.out hx
      have HX := Lib.hid hx
      have hxo := OK3.out x (List.mem_of_getElem? hx)
      clear hx
      obtain ⟨y0⟩ := x
      rw [FStr.ok_eq] at hxo
      rw [FStr.c_eq] at hcc
      obtain ⟨u0, e0, q0⟩ := hcc 0 _ rfl
      obtain rfl := q0.val
      clear q0
      have c_0 : wr.cell? ⟨bc, offc + k, none⟩ = some (.string y0) := (hb.cell (p := ⟨bc, _, none⟩) hblc).trans (by simpa using e0)
      clear hcc e0
      by_cases e2 : goodF y0 = true
      case neg =>
        have H2 := Lib.hid (by simpa using e2 : goodF y0 = false)
        clear e2
        go_wp2_with (go_at_call 15; refine (good_spec y0 _ hxo).mono ?_; rw [H2.out]; rintro e w2 ⟨rfl, hb2⟩; have B2 := Lib.hid (hb.trans (hb2.mono hbs)); have d1_1 := ((bcell hb2).1 w.heap.size 1 (by omega)).trans ba_1; have d1_2 := ((bcell hb2).1 w.heap.size 2 (by omega)).trans ba_2; have d1_0 := ((bcell hb2).1 w.heap.size 0 (by omega)).trans ba_0; have d1_3 := ((bcell hb2).1 w.heap.size 3 (by omega)).trans ba_3; have d1_4 := ((bcell hb2).1 w.heap.size 4 (by omega)).trans ba_4; have d1_5 := ((bcell hb2).1 w.heap.size 5 (by omega)).trans ba_5; have hs2 := hb2.size)
        go_ret
        exact ⟨ret_bool ((RF.out k hlt (sl_2 HX.out H2.out)).symm), B2.out⟩
      have H2 := Lib.hid e2
      clear e2
      by_cases e3 : (y0.toList == thisL) = true
      case neg =>
        have e3' : (y0.toList == thisL) = false := by simpa using e3
        have E3 := Lib.hid e3'
        have t1 : (y0.toList == [116, 104, 105, 115]) = false := e3'
        have t2 : (y0.toList == (ByteArray.mk #[116, 104, 105, 115]).toList) = false := by rw [thisBA]; exact e3'
        clear e3 e3'
        obtain ⟨q, hq⟩ : ∃ q, q = fidx FStr.nm z3 y0 := ⟨_, rfl⟩
        have hqk : (q != (k : Int)) = hasS (snm z3 k) y0.toList := by rw [hq]; exact sl_fidx HX.out
        have HQ := Lib.hid hq
        clear hq
        cases hS : hasS (snm z3 k) y0.toList with
        | true =>
          have HS1 := Lib.hid hS
          rw [hS] at hqk
          clear hS
          go_wp2_with (first | (go_at_call 15; refine (good_spec y0 _ hxo).mono ?_; rw [H2.out]; rintro e w2 ⟨rfl, hb2⟩; have B2 := Lib.hid (hb.trans (hb2.mono hbs)); have d1_1 := ((bcell hb2).1 w.heap.size 1 (by omega)).trans ba_1; have d1_2 := ((bcell hb2).1 w.heap.size 2 (by omega)).trans ba_2; have d1_0 := ((bcell hb2).1 w.heap.size 0 (by omega)).trans ba_0; have d1_3 := ((bcell hb2).1 w.heap.size 3 (by omega)).trans ba_3; have d1_4 := ((bcell hb2).1 w.heap.size 4 (by omega)).trans ba_4; have d1_5 := ((bcell hb2).1 w.heap.size 5 (by omega)).trans ba_5; have hs2 := hb2.size) | (go_at_call 51; refine (SlotOf_spec z0 z1 z2 z3 z4 z5 y0 _ _ hl3 (B := w.heap.size) B2.out.size (RV.out.on B2.out (Nat.le_refl _) (Nat.le_refl _))).mono ?_; rw [← HQ.out]; rintro e w3 ⟨rfl, hb3⟩; have B3 := Lib.hid (B2.out.trans (hb3.mono B2.out.size)); have d2_1 := ((bcell hb3).1 w.heap.size 1 (by omega)).trans d1_1; have d2_2 := ((bcell hb3).1 w.heap.size 2 (by omega)).trans d1_2))
          go_ret
          exact ⟨ret_bool ((RF.out k hlt (sl_1 HX.out HS1.out)).symm), B3.out⟩
        | false =>
          have HS1 := Lib.hid hS
          rw [hS] at hqk
          clear hS
          have HT := Lib.hid (sl_t HX.out HS1.out H2.out E3.out)
          by_cases hk1 : k < z1.length
          · have k1 : decide ((k : Int) < (z1.length : Int)) = true := by simp; omega
            have k2 : decide ((z1.length : Int) ≤ (k : Int)) = false := by simp; omega
            obtain ⟨p_, hp_⟩ : ∃ p, z1[k]? = some p := ⟨_, List.getElem?_eq_getElem (by omega)⟩
            obtain ⟨bp, op, rfl, hblp, hcp⟩ := RdC.at_ FParam.len HC1.out hp_
            have HPX := Lib.hid hp_
            clear hp_
            obtain ⟨p0, p1⟩ := p_
            rw [FParam.c_eq] at hcp
            obtain ⟨v0, f0, g0⟩ := hcp 0 _ rfl
            obtain rfl := g0.val
            clear g0
            have d_0 : wr.cell? ⟨bp, op + k * 2, none⟩ = some (.string p0) := (hb.cell (p := ⟨bp, _, none⟩) hblp).trans (by simpa using f0)
            clear hcp f0
            have HPP := Lib.hid (show (z1 ++ z2)[k]? = some ⟨p0, p1⟩ from by rw [List.getElem?_append_left hk1]; exact HPX.out)
            cases hpq : (y0.toList == p0.toList) with
            | false =>
              have hpq2 : (p0.toList == y0.toList) = false := by rw [← hpq]; exact Bool.beq_comm
              have HPQ := Lib.hid hpq
              go_wp2_with (first | (go_at_call 15; refine (good_spec y0 _ hxo).mono ?_; rw [H2.out]; rintro e w2 ⟨rfl, hb2⟩; have B2 := Lib.hid (hb.trans (hb2.mono hbs)); have d1_1 := ((bcell hb2).1 w.heap.size 1 (by omega)).trans ba_1; have d1_2 := ((bcell hb2).1 w.heap.size 2 (by omega)).trans ba_2; have d1_0 := ((bcell hb2).1 w.heap.size 0 (by omega)).trans ba_0; have d1_3 := ((bcell hb2).1 w.heap.size 3 (by omega)).trans ba_3; have d1_4 := ((bcell hb2).1 w.heap.size 4 (by omega)).trans ba_4; have d1_5 := ((bcell hb2).1 w.heap.size 5 (by omega)).trans ba_5; have hs2 := hb2.size; have d1_p := ((bcell hb2).1 bp (op + k * 2) (by omega)).trans d_0) | (go_at_call 51; refine (SlotOf_spec z0 z1 z2 z3 z4 z5 y0 _ _ hl3 (B := w.heap.size) B2.out.size (RV.out.on B2.out (Nat.le_refl _) (Nat.le_refl _))).mono ?_; rw [← HQ.out]; rintro e w3 ⟨rfl, hb3⟩; have B3 := Lib.hid (B2.out.trans (hb3.mono B2.out.size)); have d2_1 := ((bcell hb3).1 w.heap.size 1 (by omega)).trans d1_1; have d2_2 := ((bcell hb3).1 w.heap.size 2 (by omega)).trans d1_2; have d2_p := ((bcell hb3).1 bp (op + k * 2) (by omega)).trans d1_p; have hs3 := hb3.size))
              go_ret
              exact ⟨ret_bool ((RP.out k (by omega) (pr_f HPP.out HX.out HPQ.out)).symm), B3.out⟩
            | true =>
              have hpq2 : (p0.toList == y0.toList) = true := by rw [← hpq]; exact Bool.beq_comm
              have HPQ := Lib.hid hpq
              go_wp2_with (first | (go_at_call 15; refine (good_spec y0 _ hxo).mono ?_; rw [H2.out]; rintro e w2 ⟨rfl, hb2⟩; have B2 := Lib.hid (hb.trans (hb2.mono hbs)); have d1_1 := ((bcell hb2).1 w.heap.size 1 (by omega)).trans ba_1; have d1_2 := ((bcell hb2).1 w.heap.size 2 (by omega)).trans ba_2; have d1_0 := ((bcell hb2).1 w.heap.size 0 (by omega)).trans ba_0; have d1_3 := ((bcell hb2).1 w.heap.size 3 (by omega)).trans ba_3; have d1_4 := ((bcell hb2).1 w.heap.size 4 (by omega)).trans ba_4; have d1_5 := ((bcell hb2).1 w.heap.size 5 (by omega)).trans ba_5; have hs2 := hb2.size; have d1_p := ((bcell hb2).1 bp (op + k * 2) (by omega)).trans d_0) | (go_at_call 51; refine (SlotOf_spec z0 z1 z2 z3 z4 z5 y0 _ _ hl3 (B := w.heap.size) B2.out.size (RV.out.on B2.out (Nat.le_refl _) (Nat.le_refl _))).mono ?_; rw [← HQ.out]; rintro e w3 ⟨rfl, hb3⟩; have B3 := Lib.hid (B2.out.trans (hb3.mono B2.out.size)); have d2_1 := ((bcell hb3).1 w.heap.size 1 (by omega)).trans d1_1; have d2_2 := ((bcell hb3).1 w.heap.size 2 (by omega)).trans d1_2; have d2_p := ((bcell hb3).1 bp (op + k * 2) (by omega)).trans d1_p; have hs3 := hb3.size))
              go_roundw
              case rel => exact ⟨k + 1, by omega, by go_num, on_succ HS.out HT.out, on_succ HP.out (pr_t HPP.out HX.out HPQ.out), ba.below (Below.refl _ _ |>.trans (hb2.trans (hb3.mono hs2))) (Nat.le_refl _), B3.out⟩
              case measure => simp [intOf]; omega
          by_cases hk2 : k < z1.length + z2.length
          · obtain ⟨d, hd⟩ : ∃ d, k = z1.length + d := ⟨k - z1.length, by omega⟩
            have hsub : (k : Int) - (z1.length : Int) = (d : Int) := by omega
            have k1 : decide ((k : Int) < (z1.length : Int)) = false := by simp; omega
            have k2 : decide ((z1.length : Int) ≤ (k : Int)) = true := by simp; omega
            have k3 : decide ((d : Int) < (z2.length : Int)) = true := by simp; omega
            have k4 : decide (d < z2.length) = true := by simp; omega
            have k5 : d < z2.length := by omega
            have k6 : decide (z1.length ≤ k) = true := by simp; omega
            have k7 : decide (k < z1.length) = false := by simp; omega
            have hd0 : (0 : Int) ≤ (d : Int) := by omega
            have hd1 : (d : Int) < (z2.length : Int) := by omega
            obtain ⟨p_, hp_⟩ : ∃ p, z2[d]? = some p := ⟨_, List.getElem?_eq_getElem (by omega)⟩
            obtain ⟨bp, op, rfl, hblp, hcp⟩ := RdC.at_ FParam.len HC2.out hp_
            have HPX := Lib.hid hp_
            clear hp_
            obtain ⟨p0, p1⟩ := p_
            rw [FParam.c_eq] at hcp
            obtain ⟨v0, f0, g0⟩ := hcp 0 _ rfl
            obtain rfl := g0.val
            clear g0
            have d_0 : wr.cell? ⟨bp, op + d * 2, none⟩ = some (.string p0) := (hb.cell (p := ⟨bp, _, none⟩) hblp).trans (by simpa using f0)
            clear hcp f0
            have HPP := Lib.hid (show (z1 ++ z2)[k]? = some ⟨p0, p1⟩ from by rw [List.getElem?_append_right (by omega), show k - z1.length = d by omega]; exact HPX.out)
            have HD := Lib.hid hd
            clear hd
            cases hpq : (y0.toList == p0.toList) with
            | false =>
              have hpq2 : (p0.toList == y0.toList) = false := by rw [← hpq]; exact Bool.beq_comm
              have HPQ := Lib.hid hpq
              go_wp2_with (first | (go_at_call 15; refine (good_spec y0 _ hxo).mono ?_; rw [H2.out]; rintro e w2 ⟨rfl, hb2⟩; have B2 := Lib.hid (hb.trans (hb2.mono hbs)); have d1_1 := ((bcell hb2).1 w.heap.size 1 (by omega)).trans ba_1; have d1_2 := ((bcell hb2).1 w.heap.size 2 (by omega)).trans ba_2; have d1_0 := ((bcell hb2).1 w.heap.size 0 (by omega)).trans ba_0; have d1_3 := ((bcell hb2).1 w.heap.size 3 (by omega)).trans ba_3; have d1_4 := ((bcell hb2).1 w.heap.size 4 (by omega)).trans ba_4; have d1_5 := ((bcell hb2).1 w.heap.size 5 (by omega)).trans ba_5; have hs2 := hb2.size; have d1_p := ((bcell hb2).1 bp (op + d * 2) (by omega)).trans d_0) | (go_at_call 51; refine (SlotOf_spec z0 z1 z2 z3 z4 z5 y0 _ _ hl3 (B := w.heap.size) B2.out.size (RV.out.on B2.out (Nat.le_refl _) (Nat.le_refl _))).mono ?_; rw [← HQ.out]; rintro e w3 ⟨rfl, hb3⟩; have B3 := Lib.hid (B2.out.trans (hb3.mono B2.out.size)); have d2_1 := ((bcell hb3).1 w.heap.size 1 (by omega)).trans d1_1; have d2_2 := ((bcell hb3).1 w.heap.size 2 (by omega)).trans d1_2; have d2_p := ((bcell hb3).1 bp (op + d * 2) (by omega)).trans d1_p; have hs3 := hb3.size))
              go_ret
              exact ⟨ret_bool ((RP.out k (by omega) (pr_f HPP.out HX.out HPQ.out)).symm), B3.out⟩
            | true =>
              have hpq2 : (p0.toList == y0.toList) = true := by rw [← hpq]; exact Bool.beq_comm
              have HPQ := Lib.hid hpq
              go_wp2_with (first | (go_at_call 15; refine (good_spec y0 _ hxo).mono ?_; rw [H2.out]; rintro e w2 ⟨rfl, hb2⟩; have B2 := Lib.hid (hb.trans (hb2.mono hbs)); have d1_1 := ((bcell hb2).1 w.heap.size 1 (by omega)).trans ba_1; have d1_2 := ((bcell hb2).1 w.heap.size 2 (by omega)).trans ba_2; have d1_0 := ((bcell hb2).1 w.heap.size 0 (by omega)).trans ba_0; have d1_3 := ((bcell hb2).1 w.heap.size 3 (by omega)).trans ba_3; have d1_4 := ((bcell hb2).1 w.heap.size 4 (by omega)).trans ba_4; have d1_5 := ((bcell hb2).1 w.heap.size 5 (by omega)).trans ba_5; have hs2 := hb2.size; have d1_p := ((bcell hb2).1 bp (op + d * 2) (by omega)).trans d_0) | (go_at_call 51; refine (SlotOf_spec z0 z1 z2 z3 z4 z5 y0 _ _ hl3 (B := w.heap.size) B2.out.size (RV.out.on B2.out (Nat.le_refl _) (Nat.le_refl _))).mono ?_; rw [← HQ.out]; rintro e w3 ⟨rfl, hb3⟩; have B3 := Lib.hid (B2.out.trans (hb3.mono B2.out.size)); have d2_1 := ((bcell hb3).1 w.heap.size 1 (by omega)).trans d1_1; have d2_2 := ((bcell hb3).1 w.heap.size 2 (by omega)).trans d1_2; have d2_p := ((bcell hb3).1 bp (op + d * 2) (by omega)).trans d1_p; have hs3 := hb3.size))
              go_roundw
              case rel => exact ⟨k + 1, by omega, by go_num, on_succ HS.out HT.out, on_succ HP.out (pr_t HPP.out HX.out HPQ.out), ba.below (Below.refl _ _ |>.trans (hb2.trans (hb3.mono hs2))) (Nat.le_refl _), B3.out⟩
              case measure => simp [intOf]; omega
          · obtain ⟨d, hd⟩ : ∃ d, k = z1.length + d := ⟨k - z1.length, by omega⟩
            have hsub : (k : Int) - (z1.length : Int) = (d : Int) := by omega
            have k1 : decide ((k : Int) < (z1.length : Int)) = false := by simp; omega
            have k2 : decide ((z1.length : Int) ≤ (k : Int)) = true := by simp; omega
            have k3 : decide ((d : Int) < (z2.length : Int)) = false := by simp; omega
            have k4 : decide (d < z2.length) = false := by simp; omega
            have k6 : decide (z1.length ≤ k) = true := by simp; omega
            have k7 : decide (k < z1.length) = false := by simp; omega
            have HD := Lib.hid hd
            clear hd
            go_wp2_with (first | (go_at_call 15; refine (good_spec y0 _ hxo).mono ?_; rw [H2.out]; rintro e w2 ⟨rfl, hb2⟩; have B2 := Lib.hid (hb.trans (hb2.mono hbs)); have d1_1 := ((bcell hb2).1 w.heap.size 1 (by omega)).trans ba_1; have d1_2 := ((bcell hb2).1 w.heap.size 2 (by omega)).trans ba_2; have d1_0 := ((bcell hb2).1 w.heap.size 0 (by omega)).trans ba_0; have d1_3 := ((bcell hb2).1 w.heap.size 3 (by omega)).trans ba_3; have d1_4 := ((bcell hb2).1 w.heap.size 4 (by omega)).trans ba_4; have d1_5 := ((bcell hb2).1 w.heap.size 5 (by omega)).trans ba_5; have hs2 := hb2.size) | (go_at_call 51; refine (SlotOf_spec z0 z1 z2 z3 z4 z5 y0 _ _ hl3 (B := w.heap.size) B2.out.size (RV.out.on B2.out (Nat.le_refl _) (Nat.le_refl _))).mono ?_; rw [← HQ.out]; rintro e w3 ⟨rfl, hb3⟩; have B3 := Lib.hid (B2.out.trans (hb3.mono B2.out.size)); have d2_1 := ((bcell hb3).1 w.heap.size 1 (by omega)).trans d1_1; have d2_2 := ((bcell hb3).1 w.heap.size 2 (by omega)).trans d1_2))
            go_roundw
            case rel => exact ⟨k + 1, by omega, by go_num, on_succ HS.out HT.out, on_succ HP.out (pr_n (by omega)), ba.below (Below.refl _ _ |>.trans (hb2.trans (hb3.mono hs2))) (Nat.le_refl _), B3.out⟩
            case measure => simp [intOf]; omega
      have E3 := Lib.hid e3
      have t1 : (y0.toList == [116, 104, 105, 115]) = true := e3
      have t2 : (y0.toList == (ByteArray.mk #[116, 104, 105, 115]).toList) = true := by rw [thisBA]; exact e3
      clear e3
      go_wp2_with (go_at_call 15; refine (good_spec y0 _ hxo).mono ?_; rw [H2.out]; rintro e w2 ⟨rfl, hb2⟩; have B2 := Lib.hid (hb.trans (hb2.mono hbs)); have d1_1 := ((bcell hb2).1 w.heap.size 1 (by omega)).trans ba_1; have d1_2 := ((bcell hb2).1 w.heap.size 2 (by omega)).trans ba_2; have d1_0 := ((bcell hb2).1 w.heap.size 0 (by omega)).trans ba_0; have d1_3 := ((bcell hb2).1 w.heap.size 3 (by omega)).trans ba_3; have d1_4 := ((bcell hb2).1 w.heap.size 4 (by omega)).trans ba_4; have d1_5 := ((bcell hb2).1 w.heap.size 5 (by omega)).trans ba_5; have hs2 := hb2.size)
      go_ret
      exact ⟨ret_bool ((RF.out k hlt (sl_3 HX.out E3.out)).symm), B2.out⟩
    · obtain rfl : k = z3.length := by omega
      clear hlt
      go_wp2_with fail
      go_ret
      exact ⟨ret_bool (RT.out HS.out HP.out).symm, hb⟩
end Go.Proofs.YtdmbhmhfjappcaaGreatDoor
