/-
  Parts of the proof: IfI. Conditions: none.
-/
import Derived.Test.YtdmbhmhfjappcaaGreatDoorQGSeenIfA
import Derived.Test.YtdmbhmhfjappcaaGreatDoorQReg
import Derived.WalkLawsBesides
import Derived.Deep.QuietTactic
import Derived.BigQuiet
import Derived.Deep.DeepMust
import Derived.StillTailTactics
namespace Go.Proofs.YtdmbhmhfjappcaaGreatDoor
open Go.ChangeShapes Go.WideShapes Go.ChangeAt Go.RowKit Go.Deep Go.Joins
open Go.ChangeMaps (open_string shut_string)
set_option linter.unusedVariables false
set_option linter.unusedSimpArgs false
set_option maxRecDepth 100000
theorem hasPrefix_impl (s p : ByteArray) (w : World) : Calls Tryz.prog 43 #[.string s, .string p] w fun e w' => e = .returned (.bool (Lib.hasPrefix s.data.toList p.data.toList)) ∧ w' = w := Any.strings_HasPrefix laysHasPrefix s p w
set_option maxHeartbeats 2000000 in
theorem Clone_impl (l : List FParam) (A : Option Addr) (c : Nat) (w : World) (hl : l.length ≤ 1000000000) (hr : RdC w w.heap.size (.s 86 2 l.length (FParam.flat l)) (.slice A l.length c)) :
    Calls Tryz.prog 37 #[.slice A l.length c] w fun e w' => ∃ A' c', e = .returned (.slice A' l.length c') ∧ w'.ownsRow w.heap.size 86 2 (.slice A' l.length c') l.length (pvals l) ∧ Below w.heap.size w w' := by
  have HRD := Lib.hid (pvals_rd hr)
  have hsl : ∀ (a : Option Addr) (n k : Nat) (w : World), (binOp .eql 47 (.slice a n k) (.slice none 0 0)).run Tryz.prog w = .ok (.bool a.isNone) w := fun a n k w => Lib.run_eql_slice_nil w _ _ a n k 0 0 Tryz.underlying47
  have HRD2 := Lib.hid ((pvals_rd hr).keep (w' := w.alloc (.cells #[] 86)) (fun p hp => (((Below.refl w.heap.size w).alloc (Nat.le_refl _) _).cell hp)))
  cases A with
  | none =>
    obtain ⟨A2, c2, hv, h1, h2, h3, h4⟩ := HRD.out
    have h0 : l.length = 0 := by
      rcases Nat.eq_zero_or_pos l.length with h | h
      · exact h
      · obtain ⟨b, off, hA, _⟩ := h4 h
        injection hv with e1 _ _
        rw [hA] at e1
        cases e1
    have hl0 : l = [] := List.length_eq_zero_iff.1 h0
    subst hl0
    clear HRD HRD2 hr hv h1 h2 h3 h4 h0
    go_enter Tryz.func37, Tryz.ntmps37
    go_wp2_with fail
    go_ret
    exact ⟨none, 0, rfl, World.ownsRow_nil _ _ _ _, Below.refl _ _⟩
  | some a =>
    clear hr HRD
    have OW := Lib.hid (own_empty w 86 2)
    go_enter Tryz.func37, Tryz.ntmps37
    go_wp2_with (at_builtin; go_must (refine wpList_append_rd _ rfl (.tmp 5) (.tmp 6) _ rfl w.heap.size _ _ _ 24 Tryz.underlying47 infoParam rfl (by omega) (.slice (some ⟨w.heap.size, 0, none⟩) 0 0) _ _ rfl OW.out w.heap.size _ l.length _ (pvals l) rfl HRD2.out (pvals_one l) (by unfold maxLen; omega) (by omega) (by simp) ?_); intro v2 w4 hown2 hg2 hat2; obtain ⟨A6, c6, rfl⟩ := own_form hown2; have HG2 := Lib.hid hg2; have HW2 := Lib.hid hown2; clear hg2 hat2 hown2)
    go_ret
    have hown2 := HW2.out
    simp only [Nat.zero_add, List.nil_append] at hown2
    refine ⟨A6, c6, by first | rfl | simp, hown2, ((Below.refl _ _).alloc (Nat.le_refl _) _).grown HG2.out (by simp) (fun j hj => by have h : w.heap.size = j := Option.some.inj hj; omega)⟩
set_option maxHeartbeats 4000000 in
theorem IsFile_impl (z0 : ByteArray) (z1 : List FParam) (z2 : List FParam) (z3 : List FStr) (z4 : Bool) (z5 : List FIns) (us : List Value) (w : World) (hw : FFunc.wt ⟨z0, z1, z2, z3, z4, z5⟩ ≤ 1000000000) (ok : FFunc.ok ⟨z0, z1, z2, z3, z4, z5⟩) {B : Nat} (hB0 : B ≤ w.heap.size) (hr : RdVs w B (FFunc.c ⟨z0, z1, z2, z3, z4, z5⟩) us) :
    Calls Tryz.prog 23 #[.agg us.toArray] w fun e w' => e = .returned (.bool (isFl z0)) ∧ Below w.heap.size w w' := by
  rw [FFunc.ok_eq] at ok
  obtain ⟨ok0, ok1, ok2, ok3, ok5⟩ := ok
  have hwe := FFunc.wt_eq z0 z1 z2 z3 z4 z5
  have hl1 : z1.length ≤ 1000000000 := by omega
  have hl2 : z2.length ≤ 1000000000 := by omega
  have hl3 : z3.length ≤ 1000000000 := by omega
  have hl5 : z5.length ≤ 1000000000 := by omega
  have OK1 := Lib.hid (FParam.oks_mem z1 ok1)
  have OK2 := Lib.hid (FParam.oks_mem z2 ok2)
  have OK3 := Lib.hid (FStr.oks_mem z3 ok3)
  have OK5 := Lib.hid (FIns.oks_mem z5 ok5)
  clear hwe hw ok1 ok2 ok3 ok5
  have RV0 := hr
  rw [FFunc.c_eq] at hr
  obtain ⟨us0, rfl, hr_0⟩ := hr.unv
  obtain ⟨A1, c1, us1, rfl, r1, hr_1⟩ := hr_0.uns
  obtain ⟨A2, c2, us2, rfl, r2, hr_2⟩ := hr_1.uns
  obtain ⟨A3, c3, us3, rfl, r3, hr_3⟩ := hr_2.uns
  obtain ⟨us4, rfl, hr_4⟩ := hr_3.unv
  obtain ⟨A5, c5, us5, rfl, r5, hr_5⟩ := hr_4.uns
  obtain rfl := hr_5.un0
  have HC1 := Lib.hid (r1.up hB0)
  have HC2 := Lib.hid (r2.up hB0)
  have HC3 := Lib.hid (r3.up hB0)
  have HC5 := Lib.hid (r5.up hB0)
  have RV := Lib.hid (show RdVs w w.heap.size (FFunc.c ⟨z0, z1, z2, z3, z4, z5⟩) [.string z0, .slice A1 z1.length c1, .slice A2 z2.length c2, .slice A3 z3.length c3, .bool z4, .slice A5 z5.length c5] from RV0.on (Below.refl w.heap.size w) hB0 hB0)
  clear RV0 hr hr_0 hr_1 hr_2 hr_3 hr_4 hr_5 r1 r2 r3 r5 hB0
  go_enter Tryz.func23, Tryz.ntmps23
  go_wp2_with (go_at_call 43; refine (hasPrefix_impl _ _ _).mono ?_; rintro e w' ⟨rfl, rfl⟩)
  go_ret
  exact ⟨rfl, (Below.refl _ _).alloc (Nat.le_refl _) _⟩
set_option maxHeartbeats 8000000 in
theorem IsFunc_impl (z0 : ByteArray) (z1 : List FParam) (z2 : List FParam) (z3 : List FStr) (z4 : Bool) (z5 : List FIns) (us : List Value) (w : World) (hw : FFunc.wt ⟨z0, z1, z2, z3, z4, z5⟩ ≤ 1000000000) (ok : FFunc.ok ⟨z0, z1, z2, z3, z4, z5⟩) {B : Nat} (hB0 : B ≤ w.heap.size) (hr : RdVs w B (FFunc.c ⟨z0, z1, z2, z3, z4, z5⟩) us) :
    Calls Tryz.prog 19 #[.agg us.toArray] w fun e w' => e = .returned (.bool (ifuF z0 z1 z2 z3 z4 z5)) ∧ Below w.heap.size w w' := by
  have HW := Lib.hid hw
  have HOK := Lib.hid ok
  rw [FFunc.ok_eq] at ok
  obtain ⟨ok0, ok1, ok2, ok3, ok5⟩ := ok
  have hwe := FFunc.wt_eq z0 z1 z2 z3 z4 z5
  have hl1 : z1.length ≤ 1000000000 := by omega
  have hl2 : z2.length ≤ 1000000000 := by omega
  have hl3 : z3.length ≤ 1000000000 := by omega
  have hl5 : z5.length ≤ 1000000000 := by omega
  have OK1 := Lib.hid (FParam.oks_mem z1 ok1)
  have OK2 := Lib.hid (FParam.oks_mem z2 ok2)
  have OK3 := Lib.hid (FStr.oks_mem z3 ok3)
  have OK5 := Lib.hid (FIns.oks_mem z5 ok5)
  clear hwe hw ok1 ok2 ok3 ok5
  have RV0 := hr
  rw [FFunc.c_eq] at hr
  obtain ⟨us0, rfl, hr_0⟩ := hr.unv
  obtain ⟨A1, c1, us1, rfl, r1, hr_1⟩ := hr_0.uns
  obtain ⟨A2, c2, us2, rfl, r2, hr_2⟩ := hr_1.uns
  obtain ⟨A3, c3, us3, rfl, r3, hr_3⟩ := hr_2.uns
  obtain ⟨us4, rfl, hr_4⟩ := hr_3.unv
  obtain ⟨A5, c5, us5, rfl, r5, hr_5⟩ := hr_4.uns
  obtain rfl := hr_5.un0
  have HC1 := Lib.hid (r1.up hB0)
  have HC2 := Lib.hid (r2.up hB0)
  have HC3 := Lib.hid (r3.up hB0)
  have HC5 := Lib.hid (r5.up hB0)
  have RV := Lib.hid (show RdVs w w.heap.size (FFunc.c ⟨z0, z1, z2, z3, z4, z5⟩) [.string z0, .slice A1 z1.length c1, .slice A2 z2.length c2, .slice A3 z3.length c3, .bool z4, .slice A5 z5.length c5] from RV0.on (Below.refl w.heap.size w) hB0 hB0)
  clear RV0 hr hr_0 hr_1 hr_2 hr_3 hr_4 hr_5 r1 r2 r3 r5 hB0
  have hba := Below.alloc (Below.refl w.heap.size w) (Nat.le_refl _) (.cells #[.string z0, .slice A1 z1.length c1, .slice A2 z2.length c2, .slice A3 z3.length c3, .bool z4, .slice A5 z5.length c5] 51)
  have hmm := @run_makeMap Tryz.prog
  by_cases g1 : inB z0.size 1 100 = true
  case neg =>
    have G1 := Lib.hid (by simpa using g1 : inB z0.size 1 100 = false)
    have R := Lib.hid (show ifuF z0 z1 z2 z3 z4 z5 = false from by unfold ifuF; rw [G1.out]; simp)
    clear g1
    go_enter Tryz.func19, Tryz.ntmps19
    go_wp2_with (go_at_call 22; refine (inRange_any _ _ _ _).mono ?_; rw [G1.out]; rintro e w' ⟨rfl, rfl⟩)
    go_ret
    exact ⟨ret_bool R.out.symm, hba⟩
  have G1 := Lib.hid g1
  clear g1
  by_cases g3 : z3.length ≤ 600
  case neg =>
    have d1 : decide ((600 : Int) < (z3.length : Int)) = true := by simp; omega
    have R := Lib.hid (show ifuF z0 z1 z2 z3 z4 z5 = false from by unfold ifuF nmsB; simp [g3])
    go_enter Tryz.func19, Tryz.ntmps19
    go_wp2_with (go_at_call 22; refine (inRange_any _ _ _ _).mono ?_; rw [G1.out]; rintro e w' ⟨rfl, rfl⟩)
    go_ret
    exact ⟨ret_bool R.out.symm, hba⟩
  have d1 : decide ((600 : Int) < (z3.length : Int)) = false := by simp; omega
  by_cases g2 : z5.length ≤ 8000
  case neg =>
    have d2 : decide ((8000 : Int) < (z5.length : Int)) = true := by simp; omega
    have R := Lib.hid (show ifuF z0 z1 z2 z3 z4 z5 = false from by unfold ifuF; simp [g2])
    go_enter Tryz.func19, Tryz.ntmps19
    go_wp2_with (go_at_call 22; refine (inRange_any _ _ _ _).mono ?_; rw [G1.out]; rintro e w' ⟨rfl, rfl⟩)
    go_ret
    exact ⟨ret_bool R.out.symm, hba⟩
  have d2 : decide ((8000 : Int) < (z5.length : Int)) = false := by simp; omega
  by_cases g4 : z1.length + z2.length ≤ z3.length
  case neg =>
    have d3 : decide ((z3.length : Int) < (z1.length : Int) + (z2.length : Int)) = true := by simp; omega
    have R := Lib.hid (show ifuF z0 z1 z2 z3 z4 z5 = false from by unfold ifuF nmsB; simp [g4])
    go_enter Tryz.func19, Tryz.ntmps19
    go_wp2_with (go_at_call 22; refine (inRange_any _ _ _ _).mono ?_; rw [G1.out]; rintro e w' ⟨rfl, rfl⟩)
    go_ret
    exact ⟨ret_bool R.out.symm, hba⟩
  have d3 : decide ((z3.length : Int) < (z1.length : Int) + (z2.length : Int)) = false := by simp; omega
  have RS := Lib.hid (fun (k : Nat) (hk : k < z3.length) (h : slAt z3 k = false) => (show ifuF z0 z1 z2 z3 z4 z5 = false from by unfold ifuF nmsB; rw [allK_f hk h]; simp))
  have RP := Lib.hid (fun (k : Nat) (hk : k < z1.length + z2.length) (h : prAt z1 z2 z3 k = false) => (show ifuF z0 z1 z2 z3 z4 z5 = false from by unfold ifuF nmsB; rw [allK_f hk h]; simp))
  have RO := Lib.hid (fun (k : Nat) (hk : k < z5.length) (h : opAt z5 z4 k = false) => (show ifuF z0 z1 z2 z3 z4 z5 = false from by unfold ifuF; rw [allK_f hk h]; simp))
  have RF := Lib.hid (fun (h : (isFl z0 && (decide (0 < z3.length) || z4)) = true) => (show ifuF z0 z1 z2 z3 z4 z5 = false from by unfold ifuF; rw [h]; simp))
  have RT := Lib.hid (fun (h1 : ∀ j, j < z3.length → slAt z3 j = true) (h2 : ∀ j, j < z1.length + z2.length → prAt z1 z2 z3 j = true) (h3 : ∀ j, j < z5.length → opAt z5 z4 j = true) (h4 : (isFl z0 && (decide (0 < z3.length) || z4)) = false) => (show ifuF z0 z1 z2 z3 z4 z5 = htB z5 z3.length from by unfold ifuF nmsB; rw [G1.out, allK_t h1, allK_t h2, allK_t h3, h4]; simp [g2, g3, g4]))
  go_enter Tryz.func19, Tryz.ntmps19
  go_wp2_with (go_at_call 22; refine (inRange_any _ _ _ _).mono ?_; rw [G1.out]; rintro e w' ⟨rfl, rfl⟩)
  go_loopw [46] (fun i wr => ∃ k : Nat, k ≤ z3.length ∧ i = .int .i64 k ∧ (∀ j, j < k → slAt z3 j = true) ∧ Seen Tryz.prog 9 4 wr (w.heap.size + 1) k (snm z3 k) ∧ Blk wr w.heap.size 51 #[.string z0, .slice A1 z1.length c1, .slice A2 z2.length c2, .slice A3 z3.length c3, .bool z4, .slice A5 z5.length c5] ∧ Below w.heap.size w wr) (fun i _ => z3.length - (intOf i).toNat)
  case atStart => exact ⟨0, Nat.zero_le _, rfl, fun j hj => absurd hj (by omega), by simpa [snm] using Seen.made (P := Tryz.prog) (ks := 9) (eb := 4) (w.alloc (.cells #[.string z0, .slice A1 z1.length c1, .slice A2 z2.length c2, .slice A3 z3.length c3, .bool z4, .slice A5 z5.length c5] 51)), (Blk.new _ _ _).alloc _, hba.alloc (by simp) _⟩
  case round =>
    clear hba
    obtain ⟨k, hk, rfl, hs, hse, ba, hb⟩ := hrel
    have HS := Lib.hid hs
    have SE := Lib.hid hse
    have hbs := hb.size
    have bal := ba.lt
    have hkm : k < maxLen := by unfold maxLen; omega
    have ba_0 : wr.cell? ⟨w.heap.size, 0, none⟩ = some (.string z0) := ba.cell 0
    have ba_1 : wr.cell? ⟨w.heap.size, 1, none⟩ = some (.slice A1 z1.length c1) := ba.cell 1
    have ba_2 : wr.cell? ⟨w.heap.size, 2, none⟩ = some (.slice A2 z2.length c2) := ba.cell 2
    have ba_3 : wr.cell? ⟨w.heap.size, 3, none⟩ = some (.slice A3 z3.length c3) := ba.cell 3
    have ba_4 : wr.cell? ⟨w.heap.size, 4, none⟩ = some (.bool z4) := ba.cell 4
    have ba_5 : wr.cell? ⟨w.heap.size, 5, none⟩ = some (.slice A5 z5.length c5) := ba.cell 5
    clear hs hse
    by_cases hlt : k < z3.length
    · obtain ⟨x, hx⟩ : ∃ x, z3[k]? = some x := ⟨_, List.getElem?_eq_getElem hlt⟩
      obtain ⟨bc, offc, rfl, hblc, hcc⟩ := RdC.at_ FStr.len HC3.out hx
      have HX := Lib.hid hx
      have hxo := OK3.out x (List.mem_of_getElem? hx)
      clear hx
      obtain ⟨y0⟩ := x
      rw [FStr.ok_eq] at hxo
      rw [FStr.c_eq] at hcc
      obtain ⟨u0, e0, q0⟩ := hcc 0 _ rfl
      obtain rfl := q0.val
      clear q0
      have c_0 : wr.cell? ⟨bc, offc + k, none⟩ = some (.string y0) := (hb.cell (p := ⟨bc, _, none⟩) hblc).trans (by simpa using e0)
      clear hcc e0
      have hsm : y0.size ≤ maxLen := by unfold maxLen; omega
      by_cases e1 : hasS (snm z3 k) y0.toList = true
      · have HAS := Lib.hid e1
        clear e1
        go_wp2_with (at_lookup; refine wpList_look_seen _ rfl _ _ 62 rfl 9 4 Tryz.underlying9 Tryz.underlying4 zeroBl Tryz.underlying62 (w.heap.size + 1) k (snm z3 k) rfl SE.out y0 hsm rfl ?_; rw [HAS.out])
        go_ret
        exact ⟨ret_bool (RS.out k hlt (sl_1 HX.out HAS.out)).symm, hb⟩
      have HAS := Lib.hid (by simpa using e1 : hasS (snm z3 k) y0.toList = false)
      clear e1
      by_cases e2 : goodF y0 = true
      case neg =>
        have H2 := Lib.hid (by simpa using e2 : goodF y0 = false)
        clear e2
        go_wp2_with (first | (at_lookup; refine wpList_look_seen _ rfl _ _ 62 rfl 9 4 Tryz.underlying9 Tryz.underlying4 zeroBl Tryz.underlying62 (w.heap.size + 1) k (snm z3 k) rfl SE.out y0 hsm rfl ?_; rw [HAS.out]) | (go_at_call 20; refine (good_impl y0 _ hxo).mono ?_; rw [H2.out]; rintro e w' ⟨rfl, rfl⟩))
        go_ret
        exact ⟨ret_bool (RS.out k hlt (sl_2 HX.out H2.out)).symm, hb⟩
      have H2 := Lib.hid e2
      clear e2
      by_cases e3 : (y0.toList == thisL) = true
      · have E3 := Lib.hid e3
        have t1 : (y0.toList == [116, 104, 105, 115]) = true := e3
        have t2 : (y0.toList == (ByteArray.mk #[116, 104, 105, 115]).toList) = true := by rw [thisBA]; exact e3
        clear e3
        go_wp2_with (first | (at_lookup; refine wpList_look_seen _ rfl _ _ 62 rfl 9 4 Tryz.underlying9 Tryz.underlying4 zeroBl Tryz.underlying62 (w.heap.size + 1) k (snm z3 k) rfl SE.out y0 hsm rfl ?_; rw [HAS.out]) | (go_at_call 20; refine (good_impl y0 _ hxo).mono ?_; rw [H2.out]; rintro e w' ⟨rfl, rfl⟩))
        go_ret
        exact ⟨ret_bool (RS.out k hlt (sl_3 HX.out E3.out)).symm, hb⟩
      have e3' : (y0.toList == thisL) = false := by simpa using e3
      have E3 := Lib.hid e3'
      have t1 : (y0.toList == [116, 104, 105, 115]) = false := e3'
      have t2 : (y0.toList == (ByteArray.mk #[116, 104, 105, 115]).toList) = false := by rw [thisBA]; exact e3'
      clear e3 e3'
      go_wp2_with (first | (at_lookup; refine wpList_look_seen _ rfl _ _ 62 rfl 9 4 Tryz.underlying9 Tryz.underlying4 zeroBl Tryz.underlying62 (w.heap.size + 1) k (snm z3 k) rfl SE.out y0 hsm rfl ?_; rw [HAS.out]) | (go_at_call 20; refine (good_impl y0 _ hxo).mono ?_; rw [H2.out]; rintro e w' ⟨rfl, rfl⟩) | (at_mapUpdate; refine wpList_put_seen _ rfl _ _ _ 62 rfl 9 4 Tryz.underlying9 Tryz.underlying4 Tryz.underlying62 (w.heap.size + 1) k (snm z3 k) rfl SE.out hkm y0 hsm rfl rfl ?_; intro w3 hse3 hg3; have HG3 := Lib.hid hg3; clear hg3))
      go_roundw
      case rel =>
        have hsl := SE.out.lt
        refine ⟨k + 1, by omega, by go_num, on_succ HS.out (sl_t HX.out HAS.out H2.out E3.out), ?_, ba.grown HG3.out (by omega), hb.grown HG3.out (by omega) (fun g hg => by injection hg with hg; omega)⟩
        rw [snm_succ _ _ _ HX.out]
        exact hse3
      case measure => simp [intOf]; omega
    · obtain rfl : k = z3.length := by omega
      clear hlt SE
      have HS1 := Lib.hid HS.out
      clear HS
      have HFK := Lib.hid (fun (W : World) (h : Below wr.drew.heap.size wr.drew W) => (⟨ba.drew.below h (Nat.le_refl _), hb.drew.trans (h.mono hbs)⟩ : Blk W w.heap.size 51 #[.string z0, .slice A1 z1.length c1, .slice A2 z2.length c2, .slice A3 z3.length c3, .bool z4, .slice A5 z5.length c5] ∧ Below w.heap.size w W))
      have hrd1 := HC1.out.on hb.drew (Nat.le_refl _) hbs
      have HR1 := Lib.hid hrd1
      clear hrd1
      go_wp2_with fail
      refine wp_region_held_drew (S := (fun w_ => w_.cell? ⟨w.heap.size, 1, none⟩ = some (.slice A1 z1.length c1) ∧ w_.cell? ⟨w.heap.size, 2, none⟩ = some (.slice A2 z2.length c2))) (by kernel_rfl) ?_ (fun hHeld => ?_)
      · (try dsimp only)
        (first | exact ⟨ba_1, ba_2⟩ | exact ⟨F4.out.1.cell 1, F4.out.1.cell 2⟩ | exact ⟨F5.out.1.cell 1, F5.out.1.cell 2⟩)
      refine regTake (i := 0) (v := ?_) rfl (by kernel_rfl) (by kernel_rfl) (by kernel_rfl) (fun _ _ _ h => h) (by rfl) ?_ (by assumption) ?_
      rotate_left
      · intro w_ hSw
        (try dsimp only at hSw)
        go_simp
        (try with_reducible rfl)
      try simp only [Act.put, List.setIfInBounds_toArray, List.set_cons_zero, List.set_cons_succ]
      refine regTake (i := 1) (v := ?_) rfl (by kernel_rfl) (by kernel_rfl) (by kernel_rfl) (fun _ _ _ h => h) (by rfl) ?_ (by assumption) ?_
      rotate_left
      · intro w_ hSw
        (try dsimp only at hSw)
        go_simp
        (try with_reducible rfl)
      try simp only [Act.put, List.setIfInBounds_toArray, List.set_cons_zero, List.set_cons_succ]
      refine regTake (i := 3) (v := ?_) rfl (by kernel_rfl) (by kernel_rfl) (by kernel_rfl) (fun _ _ _ h => h) (by rfl) ?_ (by assumption) ?_
      rotate_left
      · intro w_ hSw
        (try dsimp only at hSw)
        go_simp
        (try with_reducible rfl)
      try simp only [Act.put, List.setIfInBounds_toArray, List.set_cons_zero, List.set_cons_succ]
      refine regTake (i := 4) (v := ?_) rfl (by kernel_rfl) (by kernel_rfl) (by kernel_rfl) (fun _ _ _ h => h) (by rfl) ?_ (by assumption) ?_
      rotate_left
      · intro w_ hSw
        (try dsimp only at hSw)
        go_simp
        (try with_reducible rfl)
      try simp only [Act.put, List.setIfInBounds_toArray, List.set_cons_zero, List.set_cons_succ]
      refine regTake (i := 7) (v := ?_) rfl (by kernel_rfl) (by kernel_rfl) (by kernel_rfl) (fun _ _ _ h => h) (by rfl) ?_ (by assumption) ?_
      rotate_left
      · intro w_ hSw
        (try dsimp only at hSw)
        go_simp
        (try with_reducible rfl)
      try simp only [Act.put, List.setIfInBounds_toArray, List.set_cons_zero, List.set_cons_succ]
      refine regCall (i := 2) (by kernel_rfl) rfl (by rfl) (fun K hK => ?_)
      go_simp
      (go_at_call 37; refine (Clone_impl z1 A1 c1 _ hl1 HR1.out).mono ?_; rintro e w4 ⟨A6, c6, rfl, own4, hb4⟩; have F4 := Lib.hid (HFK.out w4 hb4); have O4 := Lib.hid own4; have hs4 := hb4.size; clear own4 hb4)
      refine hK.out _ _ ?_ (fun hHeld => ?_)
      · (try dsimp only)
        (first | exact ⟨ba_1, ba_2⟩ | exact ⟨F4.out.1.cell 1, F4.out.1.cell 2⟩ | exact ⟨F5.out.1.cell 1, F5.out.1.cell 2⟩)
      clear hK K
      try simp only [Act.put, List.setIfInBounds_toArray, List.set_cons_zero, List.set_cons_succ]
      refine regCall (i := 5) (by kernel_rfl) rfl (by rfl) (fun K hK => ?_)
      refine wp_append_rd w4 (.tmp 67) (.tmp 69) _ rfl wr.heap.size 86 _ 2 24 Tryz.underlying47 infoParam rfl (by omega) (.slice A6 z1.length c6) z1.length (pvals z1) rfl O4.out w.heap.size A2 z2.length c2 (pvals z2) rfl (pvals_rd (HC2.out.on F4.out.2 (Nat.le_refl _) (Nat.le_refl _))) (pvals_one z2) (by unfold maxLen; omega) (by omega) hs4 ?_; intro v7 w5 own5 hg5 hat5; obtain ⟨A7, c7, rfl⟩ := own_form own5; have F5 := Lib.hid (show Blk w5 w.heap.size 51 #[.string z0, .slice A1 z1.length c1, .slice A2 z2.length c2, .slice A3 z3.length c3, .bool z4, .slice A5 z5.length c5] ∧ Below w.heap.size w w5 from ⟨(hg5.block w.heap.size F4.out.1.lt (fun e => by have h1 : wr.heap.size ≤ w.heap.size := (own_lt O4.out w.heap.size e.symm).1; omega)).trans F4.out.1, F4.out.2.grown hg5 F4.out.2.size (fun j hj => by have h1 : wr.heap.size ≤ j := (own_lt O4.out j hj).1; omega)⟩); rw [← pvals_app] at own5; have O5 := Lib.hid own5; clear own5 hg5 hat5
      refine hK.out _ _ ?_ (fun hHeld => ?_)
      · (try dsimp only)
        (first | exact ⟨ba_1, ba_2⟩ | exact ⟨F4.out.1.cell 1, F4.out.1.cell 2⟩ | exact ⟨F5.out.1.cell 1, F5.out.1.cell 2⟩)
      clear hK K
      try simp only [Act.put, List.setIfInBounds_toArray, List.set_cons_zero, List.set_cons_succ]
      refine regTake (i := 6) (v := ?_) rfl (by kernel_rfl) (by kernel_rfl) (by kernel_rfl) (fun _ _ _ h => h) (by rfl) ?_ (by assumption) ?_
      rotate_left
      · intro w_ hSw
        (try dsimp only at hSw)
        go_simp
        (try with_reducible rfl)
      try simp only [Act.put, List.setIfInBounds_toArray, List.set_cons_zero, List.set_cons_succ]
      refine wpAnyH_done (by kernel_rfl) ?_ _
      have hN : (z1 ++ z2).length = z1.length + z2.length := List.length_append
      have hwl : w.heap.size ≤ wr.heap.size := hbs
      obtain ⟨H, hH⟩ : ∃ H, H = wr.heap.size := ⟨_, rfl⟩
      have O6 := Lib.hid (show w5.ownsRow (w.heap.size + 1) 86 2 (.slice A7 (z1.length + z2.length) c7) (z1.length + z2.length) (pvals (z1 ++ z2)) from ownsRow_le O5.out (by omega))
      clear hH O5 O4 HR1 HFK ba hb ba_0 ba_1 ba_2 ba_3 ba_4 ba_5 hbs bal hwl hs4
      go_wp2_with fail
      go_loopw [72] (fun i wr => ∃ k : Nat, k ≤ z1.length + z2.length ∧ i = .int .i64 k ∧ (∀ j, j < k → prAt z1 z2 z3 j = true) ∧ wr.ownsRow (w.heap.size + 1) 86 2 (.slice A7 (z1.length + z2.length) c7) (z1.length + z2.length) (pvals (z1 ++ z2)) ∧ Blk wr w.heap.size 51 #[.string z0, .slice A1 z1.length c1, .slice A2 z2.length c2, .slice A3 z3.length c3, .bool z4, .slice A5 z5.length c5] ∧ Below w.heap.size w wr) (fun i _ => (z1.length + z2.length) - (intOf i).toNat)
      case atStart => exact ⟨0, Nat.zero_le _, rfl, fun j hj => absurd hj (by omega), O6.out, F5.out.1, F5.out.2⟩
      case round =>
        clear O6 F5
        obtain ⟨k, hk, rfl, hs, hown, ba, hb⟩ := hrel
        have HS2 := Lib.hid hs
        have OWN := Lib.hid hown
        have hbs := hb.size
        have bal := ba.lt
        have ba_3 : wr.cell? ⟨w.heap.size, 3, none⟩ = some (.slice A3 z3.length c3) := ba.cell 3
        have ba_5 : wr.cell? ⟨w.heap.size, 5, none⟩ = some (.slice A5 z5.length c5) := ba.cell 5
        clear hs hown
        by_cases hlt2 : k < z1.length + z2.length
        · have hlt : k < z3.length := by omega
          obtain ⟨p, hp⟩ : ∃ p, (z1 ++ z2)[k]? = some p := ⟨_, List.getElem?_eq_getElem (by rw [hN]; exact hlt2)⟩
          have HPP := Lib.hid hp
          obtain ⟨pv1, pv2⟩ := pvals_at _ _ _ hp
          clear hp
          rcases own_row OWN.out with ⟨_, h0, _⟩ | ⟨g7, cap7, f7, hv, _, _, _, _, _⟩
          · omega
          injection hv with e1 e2 e3
          subst e1 e3
          have d_0 := (World.ownsRow.cellAt OWN.out (k * 2) (by omega)).trans pv1
          have d_1 := (World.ownsRow.cellAt OWN.out (k * 2 + 1) (by omega)).trans pv2
          have hgl := (own_lt OWN.out g7 rfl).2
          clear pv1 pv2
          obtain ⟨p0, p1⟩ := p
          obtain ⟨x, hx⟩ : ∃ x, z3[k]? = some x := ⟨_, List.getElem?_eq_getElem hlt⟩
          obtain ⟨bc, offc, rfl, hblc, hcc⟩ := RdC.at_ FStr.len HC3.out hx
          have HX := Lib.hid hx
          have hxo := OK3.out x (List.mem_of_getElem? hx)
          clear hx
          obtain ⟨y0⟩ := x
          rw [FStr.ok_eq] at hxo
          rw [FStr.c_eq] at hcc
          obtain ⟨u0, e0, q0⟩ := hcc 0 _ rfl
          obtain rfl := q0.val
          clear q0
          have c_0 : wr.cell? ⟨bc, offc + k, none⟩ = some (.string y0) := (hb.cell (p := ⟨bc, _, none⟩) hblc).trans (by simpa using e0)
          clear hcc e0
          have a3 := (ba.alloc (.cells #[.string p0, .bool p1] 86)).cell 3
          have aS := (((Below.refl wr.heap.size wr).alloc (Nat.le_refl _) (.cells #[.string p0, .bool p1] 86)).cell (p := ⟨bc, offc + k, none⟩) (Nat.lt_of_lt_of_le hblc hbs)).trans c_0
          have ax := (Blk.new wr 86 #[.string p0, .bool p1]).cell 0
          have hk0 : (0 : Int) ≤ (k : Int) := by omega
          have hk3 : (k : Int) < (z3.length : Int) := by omega
          cases hpq : (y0.toList == p0.toList) with
          | false =>
            have HPQ := Lib.hid hpq
            go_wp2_with fail
            refine wp_region_held_drew (S := (fun w_ => w_.cell? ⟨w.heap.size, 3, none⟩ = some (.slice (some ⟨bc, offc, none⟩) z3.length c3) ∧ w_.cell? ⟨bc, offc + k, none⟩ = some (.string y0) ∧ w_.cell? ⟨wr.heap.size, 0, none⟩ = some (.string p0))) (by kernel_rfl) ?_ (fun hHeld => ?_)
            · (try dsimp only)
              (exact ⟨a3, aS, ax⟩)
            refine regTake (i := 0) (v := ?_) rfl (by kernel_rfl) (by kernel_rfl) (by kernel_rfl) (fun _ _ _ h => h) (by rfl) ?_ (by assumption) ?_
            rotate_left
            · intro w_ hSw
              (try dsimp only at hSw)
              go_simp
              (try with_reducible rfl)
            try simp only [Act.put, List.setIfInBounds_toArray, List.set_cons_zero, List.set_cons_succ]
            refine regTake (i := 1) (v := ?_) rfl (by kernel_rfl) (by kernel_rfl) (by kernel_rfl) (fun _ _ _ h => h) (by rfl) ?_ (by assumption) ?_
            rotate_left
            · intro w_ hSw
              (try dsimp only at hSw)
              go_simp
              (try with_reducible rfl)
            try simp only [Act.put, List.setIfInBounds_toArray, List.set_cons_zero, List.set_cons_succ]
            refine regTake (i := 2) (v := ?_) rfl (by kernel_rfl) (by kernel_rfl) (by kernel_rfl) (fun _ _ _ h => h) (by rfl) ?_ (by assumption) ?_
            rotate_left
            · intro w_ hSw
              (try dsimp only at hSw)
              go_simp
              (try with_reducible rfl)
            try simp only [Act.put, List.setIfInBounds_toArray, List.set_cons_zero, List.set_cons_succ]
            refine regTake (i := 3) (v := ?_) rfl (by kernel_rfl) (by kernel_rfl) (by kernel_rfl) (fun _ _ _ h => h) (by rfl) ?_ (by assumption) ?_
            rotate_left
            · intro w_ hSw
              (try dsimp only at hSw)
              go_simp
              (try with_reducible rfl)
            try simp only [Act.put, List.setIfInBounds_toArray, List.set_cons_zero, List.set_cons_succ]
            refine regTake (i := 4) (v := ?_) rfl (by kernel_rfl) (by kernel_rfl) (by kernel_rfl) (fun _ _ _ h => h) (by rfl) ?_ (by assumption) ?_
            rotate_left
            · intro w_ hSw
              (try dsimp only at hSw)
              go_simp
              (try with_reducible rfl)
            try simp only [Act.put, List.setIfInBounds_toArray, List.set_cons_zero, List.set_cons_succ]
            refine regTake (i := 5) (v := ?_) rfl (by kernel_rfl) (by kernel_rfl) (by kernel_rfl) (fun _ _ _ h => h) (by rfl) ?_ (by assumption) ?_
            rotate_left
            · intro w_ hSw
              (try dsimp only at hSw)
              go_simp
              (try with_reducible rfl)
            try simp only [Act.put, List.setIfInBounds_toArray, List.set_cons_zero, List.set_cons_succ]
            refine regTake (i := 6) (v := ?_) rfl (by kernel_rfl) (by kernel_rfl) (by kernel_rfl) (fun _ _ _ h => h) (by rfl) ?_ (by assumption) ?_
            rotate_left
            · intro w_ hSw
              (try dsimp only at hSw)
              go_simp
              (try with_reducible rfl)
            try simp only [Act.put, List.setIfInBounds_toArray, List.set_cons_zero, List.set_cons_succ]
            refine regTake (i := 7) (v := ?_) rfl (by kernel_rfl) (by kernel_rfl) (by kernel_rfl) (fun _ _ _ h => h) (by rfl) ?_ (by assumption) ?_
            rotate_left
            · intro w_ hSw
              (try dsimp only at hSw)
              go_simp
              (try with_reducible rfl)
            try simp only [Act.put, List.setIfInBounds_toArray, List.set_cons_zero, List.set_cons_succ]
            refine wpAnyH_done (by kernel_rfl) ?_ _
            go_wp2_with fail
            go_ret
            exact ⟨ret_bool (RP.out k hlt2 (pr_f HPP.out HX.out HPQ.out)).symm, (hb.alloc (by omega) _).drew⟩
          | true =>
            have HPQ := Lib.hid hpq
            go_wp2_with fail
            refine wp_region_held_drew (S := (fun w_ => w_.cell? ⟨w.heap.size, 3, none⟩ = some (.slice (some ⟨bc, offc, none⟩) z3.length c3) ∧ w_.cell? ⟨bc, offc + k, none⟩ = some (.string y0) ∧ w_.cell? ⟨wr.heap.size, 0, none⟩ = some (.string p0))) (by kernel_rfl) ?_ (fun hHeld => ?_)
            · (try dsimp only)
              (exact ⟨a3, aS, ax⟩)
            refine regTake (i := 0) (v := ?_) rfl (by kernel_rfl) (by kernel_rfl) (by kernel_rfl) (fun _ _ _ h => h) (by rfl) ?_ (by assumption) ?_
            rotate_left
            · intro w_ hSw
              (try dsimp only at hSw)
              go_simp
              (try with_reducible rfl)
            try simp only [Act.put, List.setIfInBounds_toArray, List.set_cons_zero, List.set_cons_succ]
            refine regTake (i := 1) (v := ?_) rfl (by kernel_rfl) (by kernel_rfl) (by kernel_rfl) (fun _ _ _ h => h) (by rfl) ?_ (by assumption) ?_
            rotate_left
            · intro w_ hSw
              (try dsimp only at hSw)
              go_simp
              (try with_reducible rfl)
            try simp only [Act.put, List.setIfInBounds_toArray, List.set_cons_zero, List.set_cons_succ]
            refine regTake (i := 2) (v := ?_) rfl (by kernel_rfl) (by kernel_rfl) (by kernel_rfl) (fun _ _ _ h => h) (by rfl) ?_ (by assumption) ?_
            rotate_left
            · intro w_ hSw
              (try dsimp only at hSw)
              go_simp
              (try with_reducible rfl)
            try simp only [Act.put, List.setIfInBounds_toArray, List.set_cons_zero, List.set_cons_succ]
            refine regTake (i := 3) (v := ?_) rfl (by kernel_rfl) (by kernel_rfl) (by kernel_rfl) (fun _ _ _ h => h) (by rfl) ?_ (by assumption) ?_
            rotate_left
            · intro w_ hSw
              (try dsimp only at hSw)
              go_simp
              (try with_reducible rfl)
            try simp only [Act.put, List.setIfInBounds_toArray, List.set_cons_zero, List.set_cons_succ]
            refine regTake (i := 4) (v := ?_) rfl (by kernel_rfl) (by kernel_rfl) (by kernel_rfl) (fun _ _ _ h => h) (by rfl) ?_ (by assumption) ?_
            rotate_left
            · intro w_ hSw
              (try dsimp only at hSw)
              go_simp
              (try with_reducible rfl)
            try simp only [Act.put, List.setIfInBounds_toArray, List.set_cons_zero, List.set_cons_succ]
            refine regTake (i := 5) (v := ?_) rfl (by kernel_rfl) (by kernel_rfl) (by kernel_rfl) (fun _ _ _ h => h) (by rfl) ?_ (by assumption) ?_
            rotate_left
            · intro w_ hSw
              (try dsimp only at hSw)
              go_simp
              (try with_reducible rfl)
            try simp only [Act.put, List.setIfInBounds_toArray, List.set_cons_zero, List.set_cons_succ]
            refine regTake (i := 6) (v := ?_) rfl (by kernel_rfl) (by kernel_rfl) (by kernel_rfl) (fun _ _ _ h => h) (by rfl) ?_ (by assumption) ?_
            rotate_left
            · intro w_ hSw
              (try dsimp only at hSw)
              go_simp
              (try with_reducible rfl)
            try simp only [Act.put, List.setIfInBounds_toArray, List.set_cons_zero, List.set_cons_succ]
            refine regTake (i := 7) (v := ?_) rfl (by kernel_rfl) (by kernel_rfl) (by kernel_rfl) (fun _ _ _ h => h) (by rfl) ?_ (by assumption) ?_
            rotate_left
            · intro w_ hSw
              (try dsimp only at hSw)
              go_simp
              (try with_reducible rfl)
            try simp only [Act.put, List.setIfInBounds_toArray, List.set_cons_zero, List.set_cons_succ]
            refine wpAnyH_done (by kernel_rfl) ?_ _
            go_wp2_with fail
            go_roundw
            case rel => exact ⟨k + 1, by omega, by go_num, on_succ HS2.out (pr_t HPP.out HX.out HPQ.out), own_keep (World.ownsRow.alloc OWN.out _) fun _ _ => rfl, ba.alloc _, (hb.alloc (by omega) _).drew⟩
            case measure => simp [intOf]; omega
        · obtain rfl : k = z1.length + z2.length := by omega
          clear hlt2 OWN
          go_wp2_with fail
          go_loopw [89] (fun i wr => ∃ k : Nat, k ≤ z5.length ∧ i = .int .i64 k ∧ (∀ j, j < k → opAt z5 z4 j = true) ∧ Blk wr w.heap.size 51 #[.string z0, .slice A1 z1.length c1, .slice A2 z2.length c2, .slice A3 z3.length c3, .bool z4, .slice A5 z5.length c5] ∧ Below w.heap.size w wr) (fun i _ => z5.length - (intOf i).toNat)
          case atStart => exact ⟨0, Nat.zero_le _, rfl, fun j hj => absurd hj (by omega), ba, hb⟩
          case round =>
            clear ba hb ba_3 ba_5 hbs bal
            obtain ⟨k, hk, rfl, hs, ba, hb⟩ := hrel
            have HS3 := Lib.hid hs
            have hbs := hb.size
            have bal := ba.lt
            have ba_0 : wr.cell? ⟨w.heap.size, 0, none⟩ = some (.string z0) := ba.cell 0
            have ba_1 : wr.cell? ⟨w.heap.size, 1, none⟩ = some (.slice A1 z1.length c1) := ba.cell 1
            have ba_2 : wr.cell? ⟨w.heap.size, 2, none⟩ = some (.slice A2 z2.length c2) := ba.cell 2
            have ba_3 : wr.cell? ⟨w.heap.size, 3, none⟩ = some (.slice A3 z3.length c3) := ba.cell 3
            have ba_4 : wr.cell? ⟨w.heap.size, 4, none⟩ = some (.bool z4) := ba.cell 4
            have ba_5 : wr.cell? ⟨w.heap.size, 5, none⟩ = some (.slice A5 z5.length c5) := ba.cell 5
            clear hs
            by_cases hlt : k < z5.length
            · obtain ⟨x, hx⟩ : ∃ x, z5[k]? = some x := ⟨_, List.getElem?_eq_getElem hlt⟩
              obtain ⟨bc, offc, rfl, hblc, hcc⟩ := RdC.at_ FIns.len HC5.out hx
              have HX := Lib.hid hx
              clear hx
              obtain ⟨y0, y1, y2, y3, y4⟩ := x
              rw [FIns.c_eq] at hcc
              obtain ⟨u0, e0, q0⟩ := hcc 0 _ rfl
              obtain rfl := q0.val
              have c_0 : wr.cell? ⟨bc, offc + k * 5, none⟩ = some (.int .i64 y0) := (hb.cell (p := ⟨bc, _, none⟩) hblc).trans (by simpa using e0)
              clear e0 q0
              obtain ⟨u1, e1, q1⟩ := hcc 1 _ rfl
              obtain rfl := q1.val
              have c_1 : wr.cell? ⟨bc, offc + k * 5 + 1, none⟩ = some (.int .i64 y1) := (hb.cell (p := ⟨bc, _, none⟩) hblc).trans (by simpa using e1)
              clear e1 q1
              obtain ⟨u2, e2, q2⟩ := hcc 2 _ rfl
              obtain rfl := q2.val
              have c_2 : wr.cell? ⟨bc, offc + k * 5 + 2, none⟩ = some (.int .i64 y2) := (hb.cell (p := ⟨bc, _, none⟩) hblc).trans (by simpa using e2)
              clear e2 q2
              obtain ⟨u3, e3, q3⟩ := hcc 3 _ rfl
              obtain rfl := q3.val
              have c_3 : wr.cell? ⟨bc, offc + k * 5 + 3, none⟩ = some (.string y3) := (hb.cell (p := ⟨bc, _, none⟩) hblc).trans (by simpa using e3)
              clear e3 q3
              obtain ⟨u4, e4, q4⟩ := hcc 4 _ rfl
              obtain rfl := q4.val
              have c_4 : wr.cell? ⟨bc, offc + k * 5 + 4, none⟩ = some (.string y4) := (hb.cell (p := ⟨bc, _, none⟩) hblc).trans (by simpa using e4)
              clear e4 q4
              clear hcc
              cases hop : (y0 == 54) with
              | false =>
                have HOP := Lib.hid hop
                go_wp2_with fail
                go_roundw
                case rel => exact ⟨k + 1, by omega, by go_num, on_succ HS3.out (op_t1 HX.out HOP.out), ba.alloc _, hb.alloc (by omega) _⟩
                case measure => simp [intOf]; omega
              | true =>
                have HOP := Lib.hid hop
                cases z4 with
                | false =>
                  go_wp2_with fail
                  go_ret
                  exact ⟨ret_bool (RO.out k hlt (op_f HX.out HOP.out rfl)).symm, hb.alloc (by omega) _⟩
                | true =>
                  go_wp2_with fail
                  go_roundw
                  case rel => exact ⟨k + 1, by omega, by go_num, on_succ HS3.out (op_t2 HX.out rfl), ba.alloc _, hb.alloc (by omega) _⟩
                  case measure => simp [intOf]; omega
            · obtain rfl : k = z5.length := by omega
              clear hlt
              cases hfl : (isFl z0 && (decide (0 < z3.length) || z4)) with
              | true =>
                have R := Lib.hid (RF.out hfl)
                have hfl1 : isFl z0 = true := by
                  cases h : isFl z0 with
                  | true => rfl
                  | false => rw [h] at hfl; cases hfl
                have FL1 := Lib.hid hfl1
                by_cases h4 : 0 < z3.length
                · have d4 : decide ((0 : Int) < (z3.length : Int)) = true := decide_eq_true (by omega)
                  clear hfl hfl1
                  go_wp2_with (go_at_call 23; refine (IsFile_impl z0 z1 z2 z3 _ z5 _ _ HW.out HOK.out (B := w.heap.size) hb.size (RV.out.on hb (Nat.le_refl _) (Nat.le_refl _))).mono ?_; rw [FL1.out]; rintro e w3 ⟨rfl, hb3⟩; have B3 := Lib.hid (hb.trans (hb3.mono hb.size)); have bl3 := ba.below hb3 (Nat.le_refl _); have d2_0 := bl3.cell 0; have d2_1 := bl3.cell 1; have d2_2 := bl3.cell 2; have d2_3 := bl3.cell 3; have d2_4 := bl3.cell 4; have d2_5 := bl3.cell 5; have hs3 := bl3.lt; clear hb3)
                  go_ret
                  exact ⟨ret_bool R.out.symm, B3.out⟩
                · have d4 : decide ((0 : Int) < (z3.length : Int)) = false := decide_eq_false (by omega)
                  have hz4 : z4 = true := by
                    rw [hfl1] at hfl
                    simpa [h4] using hfl
                  subst hz4
                  clear hfl hfl1
                  go_wp2_with (go_at_call 23; refine (IsFile_impl z0 z1 z2 z3 _ z5 _ _ HW.out HOK.out (B := w.heap.size) hb.size (RV.out.on hb (Nat.le_refl _) (Nat.le_refl _))).mono ?_; rw [FL1.out]; rintro e w3 ⟨rfl, hb3⟩; have B3 := Lib.hid (hb.trans (hb3.mono hb.size)); have bl3 := ba.below hb3 (Nat.le_refl _); have d2_0 := bl3.cell 0; have d2_1 := bl3.cell 1; have d2_2 := bl3.cell 2; have d2_3 := bl3.cell 3; have d2_4 := bl3.cell 4; have d2_5 := bl3.cell 5; have hs3 := bl3.lt; clear hb3)
                  go_ret
                  exact ⟨ret_bool R.out.symm, B3.out⟩
              | false =>
                have R := Lib.hid (RT.out HS1.out HS2.out HS3.out hfl)
                cases hfl1 : isFl z0 with
                | false =>
                  have FL1 := Lib.hid hfl1
                  clear hfl hfl1
                  go_wp2_with (first | (go_at_call 23; refine (IsFile_impl z0 z1 z2 z3 _ z5 _ _ HW.out HOK.out (B := w.heap.size) hb.size (RV.out.on hb (Nat.le_refl _) (Nat.le_refl _))).mono ?_; rw [FL1.out]; rintro e w3 ⟨rfl, hb3⟩; have B3 := Lib.hid (hb.trans (hb3.mono hb.size)); have bl3 := ba.below hb3 (Nat.le_refl _); have d2_0 := bl3.cell 0; have d2_1 := bl3.cell 1; have d2_2 := bl3.cell 2; have d2_3 := bl3.cell 3; have d2_4 := bl3.cell 4; have d2_5 := bl3.cell 5; have hs3 := bl3.lt; clear hb3) | (go_at_call 38; refine (HeightsOf_impl isIns_impl z0 z1 z2 z3 _ z5 _ _ hl5 hl3 OK5.out (B := w.heap.size) B3.out.size (RV.out.on B3.out (Nat.le_refl _) (Nat.le_refl _))).mono ?_; rintro e w4 ⟨A, c, rfl, own4, hb4⟩; have B4 := Lib.hid (B3.out.trans (hb4.mono B3.out.size)); clear own4))
                  go_ret
                  exact ⟨ret_bool R.out.symm, B4.out⟩
                | true =>
                  have FL1 := Lib.hid hfl1
                  have h4 : ¬ 0 < z3.length := by
                    intro h
                    rw [hfl1] at hfl
                    simp [h] at hfl
                  have hz4 : z4 = false := by
                    rw [hfl1] at hfl
                    simpa [h4] using hfl
                  subst hz4
                  have d4 : decide ((0 : Int) < (z3.length : Int)) = false := decide_eq_false (by omega)
                  clear hfl hfl1
                  go_wp2_with (first | (go_at_call 23; refine (IsFile_impl z0 z1 z2 z3 _ z5 _ _ HW.out HOK.out (B := w.heap.size) hb.size (RV.out.on hb (Nat.le_refl _) (Nat.le_refl _))).mono ?_; rw [FL1.out]; rintro e w3 ⟨rfl, hb3⟩; have B3 := Lib.hid (hb.trans (hb3.mono hb.size)); have bl3 := ba.below hb3 (Nat.le_refl _); have d2_0 := bl3.cell 0; have d2_1 := bl3.cell 1; have d2_2 := bl3.cell 2; have d2_3 := bl3.cell 3; have d2_4 := bl3.cell 4; have d2_5 := bl3.cell 5; have hs3 := bl3.lt; clear hb3) | (go_at_call 38; refine (HeightsOf_impl isIns_impl z0 z1 z2 z3 _ z5 _ _ hl5 hl3 OK5.out (B := w.heap.size) B3.out.size (RV.out.on B3.out (Nat.le_refl _) (Nat.le_refl _))).mono ?_; rintro e w4 ⟨A, c, rfl, own4, hb4⟩; have B4 := Lib.hid (B3.out.trans (hb4.mono B3.out.size)); clear own4))
                  go_ret
                  exact ⟨ret_bool R.out.symm, B4.out⟩
end Go.Proofs.YtdmbhmhfjappcaaGreatDoor
