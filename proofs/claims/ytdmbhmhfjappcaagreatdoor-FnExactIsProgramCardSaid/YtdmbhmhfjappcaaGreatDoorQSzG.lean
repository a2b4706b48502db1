/-
  Parts of the proof: SzG. Conditions: none.
-/
import Derived.Test.YtdmbhmhfjappcaaGreatDoorQDataG
namespace Go.Proofs.YtdmbhmhfjappcaaGreatDoor
open Go.ChangeShapes Go.WideShapes Go.ChangeAt Go.RowKit Go.Deep Go.Joins
open Go.ChangeMaps (open_string shut_string)
set_option linter.unusedVariables false
set_option linter.unusedSimpArgs false
set_option maxRecDepth 100000
def SzStringS (l : List FStr) : Prop := ∀ (u : Value) (left : Int) (w : World) (B : Nat), 0 ≤ left → left ≤ 1048576 → B ≤ w.heap.size → RdC w B (.s 9 1 l.length (FStr.flat l)) u → Calls Tryz.prog 47 #[u, .int .i64 left] w fun e w' => e = .returned (.int .i64 (bud left (l.length + FStr.wts l))) ∧ Below w.heap.size w w'
set_option maxHeartbeats 1000000 in
theorem szStringS_of (l : List FStr) (hok : FStr.oks l) : SzStringS l := by
  intro u left w B hl0 hl1 hB0 hr0
  have hr := hr0.up hB0
  clear hr0
  obtain ⟨A, c, rfl⟩ := hr.form
  have HC := Lib.hid hr
  have hcap := hr.cap
  have hcm : l.length ≤ 9223372036854775807 := by unfold maxLen at hcap; omega
  have HOK := Lib.hid hok
  clear hr hcap hok
  by_cases hfit : left - l.length < 0
  · go_enter Tryz.func47, Tryz.ntmps47
    go_wp2_with fail
    go_ret
    exact ⟨ret_int (by rw [bud_neg (by omega)]), Below.refl _ _⟩
  go_enter Tryz.func47, Tryz.ntmps47
  go_wp2_with fail
  go_loopw [1, 5] (fun lv i wr => ∃ k : Nat, k ≤ l.length ∧ i = .int .i64 k ∧ lv = .int .i64 (left - l.length - (FStr.wts (l.take k) : Nat)) ∧ ((FStr.wts (l.take k) : Nat) : Int) ≤ left - l.length ∧ Below w.heap.size w wr) (fun _ i _ => l.length - (intOf i).toNat)
  case atStart => exact ⟨0, Nat.zero_le _, rfl, by simp [FStr.wts], by simp [FStr.wts]; omega, Below.refl _ _⟩
  case round =>
    obtain ⟨k, hk, rfl, rfl, hw, hb⟩ := hrel
    by_cases hlt : k < l.length
    · obtain ⟨x, hx⟩ : ∃ x, l[k]? = some x := ⟨_, List.getElem?_eq_getElem hlt⟩
      obtain ⟨bc, offc, rfl, hblc, hcc⟩ := RdC.at_ FStr.len HC.out hx
      have hxo := FStr.oks_mem l HOK.out x (List.mem_of_getElem? hx)
      have HT := Lib.hid (FStr.wts_take l k x hx)
      have HL := Lib.hid (FStr.wts_le l (k + 1))
      clear hx
      obtain ⟨z0⟩ := x
      rw [FStr.c_eq] at hcc
      rw [FStr.ok_eq] at hxo
      obtain ⟨u0, e0, q0⟩ := hcc 0 _ rfl
      obtain rfl := q0.val
      clear q0
      have c_0 : wr.cell? ⟨bc, offc + k, none⟩ = some (.string z0) := (hb.cell (p := ⟨bc, _, none⟩) hblc).trans (by simpa using e0)
      clear hcc e0
      generalize hu : FStr.wts (l.take k) = U at *
      have HU := Lib.hid hu
      clear hu
      have HV := Lib.hid (FStr.wt_eq z0)
      by_cases hf : left - l.length - U - z0.size < 0
      · go_wp2_with fail
        go_ret
        refine ⟨ret_int ?_, hb⟩
        have e := HT.out
        have e2 := HL.out
        have e3 := HU.out
        have e4 := HV.out
        rw [bud_neg (by omega)]
      · go_wp2_with fail
        go_roundw
        case rel =>
          have e := HT.out
          have e4 := HV.out
          rw [← HU.out] at *
          refine ⟨k + 1, by omega, by go_num, ?_, by rw [e, HU.out, e4]; omega, hb⟩
          rw [e, HU.out, e4]
          congr 1
          omega
        case measure => simp [intOf]; omega
    · obtain rfl : k = l.length := by omega
      clear hlt
      go_wp2_with fail
      go_ret
      refine ⟨ret_int ?_, hb⟩
      rw [List.take_length] at *
      rw [bud_pos (by omega)]
      omega
theorem szStringS_any (l : List FStr) (hw : FStr.oks l) : SzStringS l := (szStringS_of l hw)
def SzKey (x : FKey) : Prop := ∀ (us : List Value) (left : Int) (w : World) (B : Nat), 0 ≤ left → left ≤ 1048576 → B ≤ w.heap.size → RdVs w B x.c us → Calls Tryz.prog 123 #[.agg us.toArray, .int .i64 left] w fun e w' => e = .returned (.int .i64 (bud left x.wt)) ∧ Below w.heap.size w w'
set_option maxHeartbeats 1000000 in
theorem szKey_of (z0 : Bool) (z1 : Int) (z2 : ByteArray) (hok : FKey.ok ⟨z0, z1, z2⟩)  : SzKey ⟨z0, z1, z2⟩ := by
  intro us left w B hl0 hl1 hB0 hr
  rw [FKey.c_eq] at hr
  rw [FKey.wt_eq]
  rw [FKey.ok_eq] at hok
  obtain ⟨us0, rfl, hr_0⟩ := hr.unv
  obtain ⟨us1, rfl, hr_1⟩ := hr_0.unv
  obtain ⟨us2, rfl, hr_2⟩ := hr_1.unv
  obtain rfl := hr_2.un0
  clear hr hr_0 hr_1 hr_2
  have ks2 := hok
  clear hok
  obtain ⟨W, hW⟩ : ∃ W : Nat, W = z2.size := ⟨_, rfl⟩
  rw [← hW]
  have HW := Lib.hid hW
  clear hW
  by_cases c2 : left - z2.size < 0
  case pos =>
    go_enter Tryz.func123, Tryz.ntmps123
    go_wp2_with fail
    go_ret
    exact ⟨ret_int (by rw [bud_neg (by have := HW.out; omega)]), (Below.refl _ _).alloc (Nat.le_refl _) _⟩
  go_enter Tryz.func123, Tryz.ntmps123
  go_wp2_with fail
  go_ret
  exact ⟨ret_int (by have := HW.out; rw [bud_pos (by omega)]; omega), (Below.refl _ _).alloc (Nat.le_refl _) _⟩
theorem szKey_any (x : FKey) (hw : x.ok) : SzKey x := by
  obtain ⟨z0, z1, z2⟩ := x
  have hw2 := hw
  rw [FKey.ok_eq] at hw2
  exact szKey_of z0 z1 z2 hw 
def SzEntry (x : FEntry) : Prop := ∀ (us : List Value) (left : Int) (w : World) (B : Nat), 0 ≤ left → left ≤ 1048576 → B ≤ w.heap.size → RdVs w B x.c us → Calls Tryz.prog 117 #[.agg us.toArray, .int .i64 left] w fun e w' => e = .returned (.int .i64 (bud left x.wt)) ∧ Below w.heap.size w w'
def SzEntryS (l : List FEntry) : Prop := ∀ (u : Value) (left : Int) (w : World) (B : Nat), 0 ≤ left → left ≤ 1048576 → B ≤ w.heap.size → RdC w B (.s 106 8 l.length (FEntry.flat l)) u → Calls Tryz.prog 111 #[u, .int .i64 left] w fun e w' => e = .returned (.int .i64 (bud left (l.length + FEntry.wts l))) ∧ Below w.heap.size w w'
def SzValue (x : FValue) : Prop := ∀ (us : List Value) (left : Int) (w : World) (B : Nat), 0 ≤ left → left ≤ 1048576 → B ≤ w.heap.size → RdVs w B x.c us → Calls Tryz.prog 105 #[.agg us.toArray, .int .i64 left] w fun e w' => e = .returned (.int .i64 (bud left x.wt)) ∧ Below w.heap.size w w'
set_option maxHeartbeats 1000000 in
theorem szEntry_of (z0 : Bool) (z1 : Int) (z2 : ByteArray) (z3 : Int) (z4 : Int) (z5 : ByteArray) (z6 : Int) (z7 : List FEntry) (hok : FEntry.ok ⟨⟨z0, z1, z2⟩, ⟨z3, z4, z5, z6, z7⟩⟩) (h0 : SzKey ⟨z0, z1, z2⟩) (h3 : SzValue ⟨z3, z4, z5, z6, z7⟩) : SzEntry ⟨⟨z0, z1, z2⟩, ⟨z3, z4, z5, z6, z7⟩⟩ := by
  intro us left w B hl0 hl1 hB0 hr
  rw [FEntry.c_eq] at hr
  rw [FEntry.wt_eq]
  rw [FEntry.ok_eq] at hok
  obtain ⟨us0, rfl, hr_0⟩ := hr.unv
  obtain ⟨us1, rfl, hr_1⟩ := hr_0.unv
  obtain ⟨us2, rfl, hr_2⟩ := hr_1.unv
  obtain ⟨us3, rfl, hr_3⟩ := hr_2.unv
  obtain ⟨us4, rfl, hr_4⟩ := hr_3.unv
  obtain ⟨us5, rfl, hr_5⟩ := hr_4.unv
  obtain ⟨us6, rfl, hr_6⟩ := hr_5.unv
  obtain ⟨A7, c7, us7, rfl, r7, hr_7⟩ := hr_6.uns
  obtain rfl := hr_7.un0
  clear hr hr_0 hr_1 hr_2 hr_3 hr_4 hr_5 hr_6 hr_7
  have R7 := Lib.hid r7
  clear r7
  have H0 := Lib.hid h0
  clear h0
  have H3 := Lib.hid h3
  clear h3
  have ks2 := hok.1
  have ks5 := hok.2.1
  clear hok
  obtain ⟨W, hW⟩ : ∃ W : Nat, W = z2.size + z5.size + (z7.length + FEntry.wts z7) := ⟨_, rfl⟩
  rw [← hW]
  have HW := Lib.hid hW
  clear hW
  go_enter Tryz.func117, Tryz.ntmps117
  go_wp2_with fail
  refine calls_worldD _ (fun X => Blk X w.heap.size 161 #[.bool z0, .int .i64 z1, .string z2, .int .i64 z3, .int .i64 z4, .string z5, .int .i64 z6, .slice A7 z7.length c7] ∧ Below w.heap.size w X) ⟨Blk.new w _ _, (Below.refl _ _).alloc (Nat.le_refl _) _⟩ ?_
  rintro X0 ⟨ba, hB⟩
  have s0 := ba.lt
  refine (H0.out [.bool z0, .int .i64 z1, .string z2] _ _ B (by omega) (by omega) (by omega) (by rw [FKey.c_eq]; exact (RdVs.cons (by unfold RdC; rfl) (RdVs.cons (by unfold RdC; rfl) (RdVs.cons (by unfold RdC; rfl) (RdVs.nil _ _)))))).mono ?_
  generalize hq0 : (FKey.wt ⟨z0, z1, z2⟩ : Nat) = q0 at *
  have Q0 := Lib.hid hq0
  clear hq0
  rintro e Y0 ⟨rfl, hb⟩
  replace ba := ba.below hb (Nat.le_refl _)
  replace hB := hB.trans (hb.mono (by omega))
  clear hb
  by_cases f0 : (q0 : Int) ≤ left
  case neg =>
    have e0 := bud_neg f0
    rw [e0]
    clear e0
    have ba_l := ba.lt
    go_wp2_with fail
    go_ret
    exact ⟨ret_int (by rw [bud_neg (by have := HW.out; have := Q0.out; have := FKey.wt_eq z0 z1 z2; have := FValue.wt_eq z3 z4 z5 z6 z7; omega)]), hB⟩
  have e0 := bud_pos f0
  rw [e0]
  clear e0
  have ba_3 : Y0.cell? ⟨w.heap.size, 3, none⟩ = some (.int .i64 z3) := ba.cell 3
  have ba_4 : Y0.cell? ⟨w.heap.size, 4, none⟩ = some (.int .i64 z4) := ba.cell 4
  have ba_5 : Y0.cell? ⟨w.heap.size, 5, none⟩ = some (.string z5) := ba.cell 5
  have ba_6 : Y0.cell? ⟨w.heap.size, 6, none⟩ = some (.int .i64 z6) := ba.cell 6
  have ba_7 : Y0.cell? ⟨w.heap.size, 7, none⟩ = some (.slice A7 z7.length c7) := ba.cell 7
  have ba_l := ba.lt
  go_wp2_with fail
  refine calls_worldD _ (fun X => Blk X w.heap.size 161 #[.bool z0, .int .i64 z1, .string z2, .int .i64 z3, .int .i64 z4, .string z5, .int .i64 z6, .slice A7 z7.length c7] ∧ Below w.heap.size w X) ⟨ba, hB⟩ ?_
  clear ba hB ba_3 ba_4 ba_5 ba_6 ba_7 ba_l
  rintro X1 ⟨ba, hB⟩
  have s1 := ba.lt
  refine (H3.out [.int .i64 z3, .int .i64 z4, .string z5, .int .i64 z6, .slice A7 z7.length c7] _ _ B (by omega) (by omega) (by omega) (by rw [FValue.c_eq]; exact (RdVs.cons (by unfold RdC; rfl) (RdVs.cons (by unfold RdC; rfl) (RdVs.cons (by unfold RdC; rfl) (RdVs.cons (by unfold RdC; rfl) (RdVs.cons (R7.out.below hB hB0) (RdVs.nil _ _)))))))).mono ?_
  generalize hq1 : (FValue.wt ⟨z3, z4, z5, z6, z7⟩ : Nat) = q1 at *
  have Q1 := Lib.hid hq1
  clear hq1
  rintro e Y1 ⟨rfl, hb⟩
  replace ba := ba.below hb (Nat.le_refl _)
  replace hB := hB.trans (hb.mono (by omega))
  clear hb
  by_cases f1 : (q1 : Int) ≤ left - q0
  case neg =>
    have e1 := bud_neg f1
    rw [e1]
    clear e1
    have ba_l := ba.lt
    go_wp2_with fail
    go_ret
    exact ⟨ret_int (by rw [bud_neg (by have := HW.out; have := Q0.out;  have := Q1.out; have := FKey.wt_eq z0 z1 z2; have := FValue.wt_eq z3 z4 z5 z6 z7; omega)]), hB⟩
  have e1 := bud_pos f1
  rw [e1]
  clear e1
  have ba_l := ba.lt
  go_wp2_with fail
  go_ret
  exact ⟨ret_int (by have := HW.out; have := Q0.out;  have := Q1.out; have := FKey.wt_eq z0 z1 z2; have := FValue.wt_eq z3 z4 z5 z6 z7; rw [bud_pos (by omega)]; omega), hB⟩
set_option maxHeartbeats 1000000 in
theorem szEntryS_of (l : List FEntry) (he : ∀ x, x ∈ l → SzEntry x) : SzEntryS l := by
  intro u left w B hl0 hl1 hB0 hr0
  have hr := hr0.up hB0
  clear hr0
  obtain ⟨A, c, rfl⟩ := hr.form
  have HC := Lib.hid hr
  have hcap := hr.cap
  have hcm : l.length ≤ 9223372036854775807 := by unfold maxLen at hcap; omega
  have HE := Lib.hid he
  clear hr hcap he
  by_cases hfit : left - l.length < 0
  · go_enter Tryz.func111, Tryz.ntmps111
    go_wp2_with fail
    go_ret
    exact ⟨ret_int (by rw [bud_neg (by omega)]), Below.refl _ _⟩
  go_enter Tryz.func111, Tryz.ntmps111
  go_wp2_with fail
  go_loopw [1, 5] (fun lv i wr => ∃ k : Nat, k ≤ l.length ∧ i = .int .i64 k ∧ lv = .int .i64 (left - l.length - (FEntry.wts (l.take k) : Nat)) ∧ ((FEntry.wts (l.take k) : Nat) : Int) ≤ left - l.length ∧ Below w.heap.size w wr) (fun _ i _ => l.length - (intOf i).toNat)
  case atStart => exact ⟨0, Nat.zero_le _, rfl, by simp [FEntry.wts], by simp [FEntry.wts]; omega, Below.refl _ _⟩
  case round =>
    obtain ⟨k, hk, rfl, rfl, hw, hb⟩ := hrel
    by_cases hlt : k < l.length
    · obtain ⟨x, hx⟩ : ∃ x, l[k]? = some x := ⟨_, List.getElem?_eq_getElem hlt⟩
      obtain ⟨bc, offc, rfl, hblc, hcc⟩ := RdC.at_ FEntry.len HC.out hx
      have HZ := Lib.hid (HE.out x (List.mem_of_getElem? hx))
      have HT := Lib.hid (FEntry.wts_take l k x hx)
      have HL := Lib.hid (FEntry.wts_le l (k + 1))
      clear hx
      obtain ⟨⟨z0, z1, z2⟩, ⟨z3, z4, z5, z6, z7⟩⟩ := x
      rw [FEntry.c_eq] at hcc
      obtain ⟨u0, e0, q0⟩ := hcc 0 _ rfl
      obtain rfl := q0.val
      clear q0
      have c_0 : wr.cell? ⟨bc, offc + k * 8, none⟩ = some (.bool z0) := (hb.cell (p := ⟨bc, _, none⟩) hblc).trans (by simpa using e0)
      obtain ⟨u1, e1, q1⟩ := hcc 1 _ rfl
      obtain rfl := q1.val
      clear q1
      have c_1 : wr.cell? ⟨bc, offc + k * 8 + 1, none⟩ = some (.int .i64 z1) := (hb.cell (p := ⟨bc, _, none⟩) hblc).trans (by simpa using e1)
      obtain ⟨u2, e2, q2⟩ := hcc 2 _ rfl
      obtain rfl := q2.val
      clear q2
      have c_2 : wr.cell? ⟨bc, offc + k * 8 + 2, none⟩ = some (.string z2) := (hb.cell (p := ⟨bc, _, none⟩) hblc).trans (by simpa using e2)
      obtain ⟨u3, e3, q3⟩ := hcc 3 _ rfl
      obtain rfl := q3.val
      clear q3
      have c_3 : wr.cell? ⟨bc, offc + k * 8 + 3, none⟩ = some (.int .i64 z3) := (hb.cell (p := ⟨bc, _, none⟩) hblc).trans (by simpa using e3)
      obtain ⟨u4, e4, q4⟩ := hcc 4 _ rfl
      obtain rfl := q4.val
      clear q4
      have c_4 : wr.cell? ⟨bc, offc + k * 8 + 4, none⟩ = some (.int .i64 z4) := (hb.cell (p := ⟨bc, _, none⟩) hblc).trans (by simpa using e4)
      obtain ⟨u5, e5, q5⟩ := hcc 5 _ rfl
      obtain rfl := q5.val
      clear q5
      have c_5 : wr.cell? ⟨bc, offc + k * 8 + 5, none⟩ = some (.string z5) := (hb.cell (p := ⟨bc, _, none⟩) hblc).trans (by simpa using e5)
      obtain ⟨u6, e6, q6⟩ := hcc 6 _ rfl
      obtain rfl := q6.val
      clear q6
      have c_6 : wr.cell? ⟨bc, offc + k * 8 + 6, none⟩ = some (.int .i64 z6) := (hb.cell (p := ⟨bc, _, none⟩) hblc).trans (by simpa using e6)
      obtain ⟨u7, e7, q7⟩ := hcc 7 _ rfl
      obtain ⟨A7, c7, rfl⟩ := q7.form
      have R7 := Lib.hid q7
      clear q7
      have c_7 : wr.cell? ⟨bc, offc + k * 8 + 7, none⟩ = some (.slice A7 z7.length c7) := (hb.cell (p := ⟨bc, _, none⟩) hblc).trans (by simpa using e7)
      clear hcc e0 e1 e2 e3 e4 e5 e6 e7
      generalize hu : FEntry.wts (l.take k) = U at *
      have HU := Lib.hid hu
      clear hu
      generalize hv : FEntry.wt ⟨⟨z0, z1, z2⟩, ⟨z3, z4, z5, z6, z7⟩⟩ = V at *
      have HV := Lib.hid hv
      clear hv
      by_cases hf : (V : Int) ≤ left - l.length - U
      · have hbp : 0 ≤ bud (left - l.length - U) V := by rw [bud_pos hf]; omega
        have HBP := Lib.hid (bud_pos hf)
        go_wp2_with fail
        refine (HZ.out [.bool z0, .int .i64 z1, .string z2, .int .i64 z3, .int .i64 z4, .string z5, .int .i64 z6, .slice A7 z7.length c7] _ _ w.heap.size (by omega) (by omega) (by have := hb.size; omega) (by rw [FEntry.c_eq]; exact (RdVs.cons (by unfold RdC; rfl) (RdVs.cons (by unfold RdC; rfl) (RdVs.cons (by unfold RdC; rfl) (RdVs.cons (by unfold RdC; rfl) (RdVs.cons (by unfold RdC; rfl) (RdVs.cons (by unfold RdC; rfl) (RdVs.cons (by unfold RdC; rfl) (RdVs.cons (R7.out.below hb (Nat.le_refl _)) (RdVs.nil _ _))))))))))).mono ?_
        rw [HV.out]
        rintro e w2 ⟨rfl, hb2⟩
        go_wp2_with fail
        go_roundw
        case rel =>
          have e := HT.out
          have e9 := HV.out
          rw [← HU.out] at *
          refine ⟨k + 1, by omega, by go_num, ?_, by rw [e, HU.out]; omega, hb.trans (hb2.mono hb.size)⟩
          rw [HBP.out, e, HU.out]
          congr 1
          omega
        case measure => simp [intOf]; omega
      · have hbp : bud (left - l.length - U) V = -1 := bud_neg hf
        have hbn : bud (left - l.length - U) V < 0 := by rw [hbp]; omega
        clear hbp
        go_wp2_with fail
        refine (HZ.out [.bool z0, .int .i64 z1, .string z2, .int .i64 z3, .int .i64 z4, .string z5, .int .i64 z6, .slice A7 z7.length c7] _ _ w.heap.size (by omega) (by omega) (by have := hb.size; omega) (by rw [FEntry.c_eq]; exact (RdVs.cons (by unfold RdC; rfl) (RdVs.cons (by unfold RdC; rfl) (RdVs.cons (by unfold RdC; rfl) (RdVs.cons (by unfold RdC; rfl) (RdVs.cons (by unfold RdC; rfl) (RdVs.cons (by unfold RdC; rfl) (RdVs.cons (by unfold RdC; rfl) (RdVs.cons (R7.out.below hb (Nat.le_refl _)) (RdVs.nil _ _))))))))))).mono ?_
        rw [HV.out]
        rintro e w2 ⟨rfl, hb2⟩
        go_wp2_with fail
        go_ret
        refine ⟨ret_int ?_, hb.trans (hb2.mono hb.size)⟩
        have e := HT.out
        have e2 := HL.out
        have e3 := HU.out
        have e4 := HV.out
        rw [bud_neg (by omega)]
    · obtain rfl : k = l.length := by omega
      clear hlt
      go_wp2_with fail
      go_ret
      refine ⟨ret_int ?_, hb⟩
      rw [List.take_length] at *
      rw [bud_pos (by omega)]
      omega
set_option maxHeartbeats 1000000 in
theorem szValue_of (z0 : Int) (z1 : Int) (z2 : ByteArray) (z3 : Int) (z4 : List FEntry) (hok : FValue.ok ⟨z0, z1, z2, z3, z4⟩) (h4 : SzEntryS z4) : SzValue ⟨z0, z1, z2, z3, z4⟩ := by
  intro us left w B hl0 hl1 hB0 hr
  rw [FValue.c_eq] at hr
  rw [FValue.wt_eq]
  rw [FValue.ok_eq] at hok
  obtain ⟨us0, rfl, hr_0⟩ := hr.unv
  obtain ⟨us1, rfl, hr_1⟩ := hr_0.unv
  obtain ⟨us2, rfl, hr_2⟩ := hr_1.unv
  obtain ⟨us3, rfl, hr_3⟩ := hr_2.unv
  obtain ⟨A4, c4, us4, rfl, r4, hr_4⟩ := hr_3.uns
  obtain rfl := hr_4.un0
  clear hr hr_0 hr_1 hr_2 hr_3 hr_4
  have R4 := Lib.hid r4
  clear r4
  have H4 := Lib.hid h4
  clear h4
  have ks2 := hok.1
  clear hok
  obtain ⟨W, hW⟩ : ∃ W : Nat, W = z2.size + (z4.length + FEntry.wts z4) := ⟨_, rfl⟩
  rw [← hW]
  have HW := Lib.hid hW
  clear hW
  by_cases c2 : left - z2.size < 0
  case pos =>
    go_enter Tryz.func105, Tryz.ntmps105
    go_wp2_with fail
    go_ret
    exact ⟨ret_int (by rw [bud_neg (by have := HW.out; omega)]), (Below.refl _ _).alloc (Nat.le_refl _) _⟩
  go_enter Tryz.func105, Tryz.ntmps105
  go_wp2_with fail
  refine calls_worldD _ (fun X => Blk X w.heap.size 130 #[.int .i64 z0, .int .i64 z1, .string z2, .int .i64 z3, .slice A4 z4.length c4] ∧ Below w.heap.size w X) ⟨Blk.new w _ _, (Below.refl _ _).alloc (Nat.le_refl _) _⟩ ?_
  rintro X0 ⟨ba, hB⟩
  have s0 := ba.lt
  refine (H4.out _ _ _ B (by omega) (by omega) (by omega) (R4.out.below hB hB0)).mono ?_
  generalize hq0 : (z4.length + FEntry.wts z4 : Nat) = q0 at *
  have Q0 := Lib.hid hq0
  clear hq0
  rintro e Y0 ⟨rfl, hb⟩
  replace ba := ba.below hb (Nat.le_refl _)
  replace hB := hB.trans (hb.mono (by omega))
  clear hb
  by_cases f0 : (q0 : Int) ≤ left - z2.size
  case neg =>
    have e0 := bud_neg f0
    rw [e0]
    clear e0
    have ba_l := ba.lt
    go_wp2_with fail
    go_ret
    exact ⟨ret_int (by rw [bud_neg (by have := HW.out; have := Q0.out; omega)]), hB⟩
  have e0 := bud_pos f0
  rw [e0]
  clear e0
  have ba_l := ba.lt
  go_wp2_with fail
  go_ret
  exact ⟨ret_int (by have := HW.out; have := Q0.out; rw [bud_pos (by omega)]; omega), hB⟩
mutual
theorem szEntry_any : ∀ (x : FEntry), x.ok → SzEntry x
  | .mk a0 a1, hw => by
    have hw2 := hw
    unfold FEntry.ok at hw2
    have k0 := szKey_any a0 hw2.1
    have k1 := szValue_any a1 hw2.2
    obtain ⟨b0_0, b0_1, b0_2⟩ := a0
    obtain ⟨b1_0, b1_1, b1_2, b1_3, b1_4⟩ := a1
    exact szEntry_of b0_0 b0_1 b0_2 b1_0 b1_1 b1_2 b1_3 b1_4 hw k0 k1
theorem szValue_any : ∀ (x : FValue), x.ok → SzValue x
  | .mk a0 a1 a2 a3 a4, hw => by
    have hw2 := hw
    unfold FValue.ok at hw2
    exact szValue_of a0 a1 a2 a3 a4 hw (szEntryS_of a4 (szEntry_all a4 hw2.2))
theorem szEntry_all : ∀ (l : List FEntry), FEntry.oks l → ∀ x, x ∈ l → SzEntry x
  | [], _, x, hx => by cases hx
  | y :: r, hw, x, hx => by
    unfold FEntry.oks at hw
    rcases List.mem_cons.1 hx with e | hx
    · rw [e]
      exact szEntry_any y hw.1
    · exact szEntry_all r hw.2 x hx
end
theorem szEntryS_any (l : List FEntry) (hw : FEntry.oks l) : SzEntryS l := (szEntryS_of l (szEntry_all l hw))
def SzIns (x : FIns) : Prop := ∀ (us : List Value) (left : Int) (w : World) (B : Nat), 0 ≤ left → left ≤ 1048576 → B ≤ w.heap.size → RdVs w B x.c us → Calls Tryz.prog 83 #[.agg us.toArray, .int .i64 left] w fun e w' => e = .returned (.int .i64 (bud left x.wt)) ∧ Below w.heap.size w w'
def SzInsS (l : List FIns) : Prop := ∀ (u : Value) (left : Int) (w : World) (B : Nat), 0 ≤ left → left ≤ 1048576 → B ≤ w.heap.size → RdC w B (.s 77 5 l.length (FIns.flat l)) u → Calls Tryz.prog 48 #[u, .int .i64 left] w fun e w' => e = .returned (.int .i64 (bud left (l.length + FIns.wts l))) ∧ Below w.heap.size w w'
set_option maxHeartbeats 1000000 in
theorem szIns_of (z0 : Int) (z1 : Int) (z2 : Int) (z3 : ByteArray) (z4 : ByteArray) (hok : FIns.ok ⟨z0, z1, z2, z3, z4⟩)  : SzIns ⟨z0, z1, z2, z3, z4⟩ := by
  intro us left w B hl0 hl1 hB0 hr
  rw [FIns.c_eq] at hr
  rw [FIns.wt_eq]
  rw [FIns.ok_eq] at hok
  obtain ⟨us0, rfl, hr_0⟩ := hr.unv
  obtain ⟨us1, rfl, hr_1⟩ := hr_0.unv
  obtain ⟨us2, rfl, hr_2⟩ := hr_1.unv
  obtain ⟨us3, rfl, hr_3⟩ := hr_2.unv
  obtain ⟨us4, rfl, hr_4⟩ := hr_3.unv
  obtain rfl := hr_4.un0
  clear hr hr_0 hr_1 hr_2 hr_3 hr_4
  have ks3 := hok.1
  have ks4 := hok.2
  clear hok
  obtain ⟨W, hW⟩ : ∃ W : Nat, W = z3.size + z4.size := ⟨_, rfl⟩
  rw [← hW]
  have HW := Lib.hid hW
  clear hW
  by_cases c3 : left - z3.size < 0
  case pos =>
    go_enter Tryz.func83, Tryz.ntmps83
    go_wp2_with fail
    go_ret
    exact ⟨ret_int (by rw [bud_neg (by have := HW.out; omega)]), (Below.refl _ _).alloc (Nat.le_refl _) _⟩
  by_cases c4 : left - z3.size - z4.size < 0
  case pos =>
    go_enter Tryz.func83, Tryz.ntmps83
    go_wp2_with fail
    go_ret
    exact ⟨ret_int (by rw [bud_neg (by have := HW.out; omega)]), (Below.refl _ _).alloc (Nat.le_refl _) _⟩
  go_enter Tryz.func83, Tryz.ntmps83
  go_wp2_with fail
  go_ret
  exact ⟨ret_int (by have := HW.out; rw [bud_pos (by omega)]; omega), (Below.refl _ _).alloc (Nat.le_refl _) _⟩
set_option maxHeartbeats 1000000 in
theorem szInsS_of (l : List FIns) (he : ∀ x, x ∈ l → SzIns x) : SzInsS l := by
  intro u left w B hl0 hl1 hB0 hr0
  have hr := hr0.up hB0
  clear hr0
  obtain ⟨A, c, rfl⟩ := hr.form
  have HC := Lib.hid hr
  have hcap := hr.cap
  have hcm : l.length ≤ 9223372036854775807 := by unfold maxLen at hcap; omega
  have HE := Lib.hid he
  clear hr hcap he
  by_cases hfit : left - l.length < 0
  · go_enter Tryz.func48, Tryz.ntmps48
    go_wp2_with fail
    go_ret
    exact ⟨ret_int (by rw [bud_neg (by omega)]), Below.refl _ _⟩
  go_enter Tryz.func48, Tryz.ntmps48
  go_wp2_with fail
  go_loopw [1, 5] (fun lv i wr => ∃ k : Nat, k ≤ l.length ∧ i = .int .i64 k ∧ lv = .int .i64 (left - l.length - (FIns.wts (l.take k) : Nat)) ∧ ((FIns.wts (l.take k) : Nat) : Int) ≤ left - l.length ∧ Below w.heap.size w wr) (fun _ i _ => l.length - (intOf i).toNat)
  case atStart => exact ⟨0, Nat.zero_le _, rfl, by simp [FIns.wts], by simp [FIns.wts]; omega, Below.refl _ _⟩
  case round =>
    obtain ⟨k, hk, rfl, rfl, hw, hb⟩ := hrel
    by_cases hlt : k < l.length
    · obtain ⟨x, hx⟩ : ∃ x, l[k]? = some x := ⟨_, List.getElem?_eq_getElem hlt⟩
      obtain ⟨bc, offc, rfl, hblc, hcc⟩ := RdC.at_ FIns.len HC.out hx
      have HZ := Lib.hid (HE.out x (List.mem_of_getElem? hx))
      have HT := Lib.hid (FIns.wts_take l k x hx)
      have HL := Lib.hid (FIns.wts_le l (k + 1))
      clear hx
      obtain ⟨z0, z1, z2, z3, z4⟩ := x
      rw [FIns.c_eq] at hcc
      obtain ⟨u0, e0, q0⟩ := hcc 0 _ rfl
      obtain rfl := q0.val
      clear q0
      have c_0 : wr.cell? ⟨bc, offc + k * 5, none⟩ = some (.int .i64 z0) := (hb.cell (p := ⟨bc, _, none⟩) hblc).trans (by simpa using e0)
      obtain ⟨u1, e1, q1⟩ := hcc 1 _ rfl
      obtain rfl := q1.val
      clear q1
      have c_1 : wr.cell? ⟨bc, offc + k * 5 + 1, none⟩ = some (.int .i64 z1) := (hb.cell (p := ⟨bc, _, none⟩) hblc).trans (by simpa using e1)
      obtain ⟨u2, e2, q2⟩ := hcc 2 _ rfl
      obtain rfl := q2.val
      clear q2
      have c_2 : wr.cell? ⟨bc, offc + k * 5 + 2, none⟩ = some (.int .i64 z2) := (hb.cell (p := ⟨bc, _, none⟩) hblc).trans (by simpa using e2)
      obtain ⟨u3, e3, q3⟩ := hcc 3 _ rfl
      obtain rfl := q3.val
      clear q3
      have c_3 : wr.cell? ⟨bc, offc + k * 5 + 3, none⟩ = some (.string z3) := (hb.cell (p := ⟨bc, _, none⟩) hblc).trans (by simpa using e3)
      obtain ⟨u4, e4, q4⟩ := hcc 4 _ rfl
      obtain rfl := q4.val
      clear q4
      have c_4 : wr.cell? ⟨bc, offc + k * 5 + 4, none⟩ = some (.string z4) := (hb.cell (p := ⟨bc, _, none⟩) hblc).trans (by simpa using e4)
      clear hcc e0 e1 e2 e3 e4
      generalize hu : FIns.wts (l.take k) = U at *
      have HU := Lib.hid hu
      clear hu
      generalize hv : FIns.wt ⟨z0, z1, z2, z3, z4⟩ = V at *
      have HV := Lib.hid hv
      clear hv
      by_cases hf : (V : Int) ≤ left - l.length - U
      · have hbp : 0 ≤ bud (left - l.length - U) V := by rw [bud_pos hf]; omega
        have HBP := Lib.hid (bud_pos hf)
        go_wp2_with fail
        refine (HZ.out [.int .i64 z0, .int .i64 z1, .int .i64 z2, .string z3, .string z4] _ _ w.heap.size (by omega) (by omega) (by have := hb.size; omega) (by rw [FIns.c_eq]; exact (RdVs.cons (by unfold RdC; rfl) (RdVs.cons (by unfold RdC; rfl) (RdVs.cons (by unfold RdC; rfl) (RdVs.cons (by unfold RdC; rfl) (RdVs.cons (by unfold RdC; rfl) (RdVs.nil _ _)))))))).mono ?_
        rw [HV.out]
        rintro e w2 ⟨rfl, hb2⟩
        go_wp2_with fail
        go_roundw
        case rel =>
          have e := HT.out
          have e9 := HV.out
          rw [← HU.out] at *
          refine ⟨k + 1, by omega, by go_num, ?_, by rw [e, HU.out]; omega, hb.trans (hb2.mono hb.size)⟩
          rw [HBP.out, e, HU.out]
          congr 1
          omega
        case measure => simp [intOf]; omega
      · have hbp : bud (left - l.length - U) V = -1 := bud_neg hf
        have hbn : bud (left - l.length - U) V < 0 := by rw [hbp]; omega
        clear hbp
        go_wp2_with fail
        refine (HZ.out [.int .i64 z0, .int .i64 z1, .int .i64 z2, .string z3, .string z4] _ _ w.heap.size (by omega) (by omega) (by have := hb.size; omega) (by rw [FIns.c_eq]; exact (RdVs.cons (by unfold RdC; rfl) (RdVs.cons (by unfold RdC; rfl) (RdVs.cons (by unfold RdC; rfl) (RdVs.cons (by unfold RdC; rfl) (RdVs.cons (by unfold RdC; rfl) (RdVs.nil _ _)))))))).mono ?_
        rw [HV.out]
        rintro e w2 ⟨rfl, hb2⟩
        go_wp2_with fail
        go_ret
        refine ⟨ret_int ?_, hb.trans (hb2.mono hb.size)⟩
        have e := HT.out
        have e2 := HL.out
        have e3 := HU.out
        have e4 := HV.out
        rw [bud_neg (by omega)]
    · obtain rfl : k = l.length := by omega
      clear hlt
      go_wp2_with fail
      go_ret
      refine ⟨ret_int ?_, hb⟩
      rw [List.take_length] at *
      rw [bud_pos (by omega)]
      omega
theorem szIns_any (x : FIns) (hw : x.ok) : SzIns x := by
  obtain ⟨z0, z1, z2, z3, z4⟩ := x
  have hw2 := hw
  rw [FIns.ok_eq] at hw2
  exact szIns_of z0 z1 z2 z3 z4 hw 
theorem szInsS_any (l : List FIns) (hw : FIns.oks l) : SzInsS l := (szInsS_of l (fun x hx => szIns_any x (FIns.oks_mem l hw x hx)))
def SzParam (x : FParam) : Prop := ∀ (us : List Value) (left : Int) (w : World) (B : Nat), 0 ≤ left → left ≤ 1048576 → B ≤ w.heap.size → RdVs w B x.c us → Calls Tryz.prog 82 #[.agg us.toArray, .int .i64 left] w fun e w' => e = .returned (.int .i64 (bud left x.wt)) ∧ Below w.heap.size w w'
def SzParamS (l : List FParam) : Prop := ∀ (u : Value) (left : Int) (w : World) (B : Nat), 0 ≤ left → left ≤ 1048576 → B ≤ w.heap.size → RdC w B (.s 86 2 l.length (FParam.flat l)) u → Calls Tryz.prog 46 #[u, .int .i64 left] w fun e w' => e = .returned (.int .i64 (bud left (l.length + FParam.wts l))) ∧ Below w.heap.size w w'
set_option maxHeartbeats 1000000 in
theorem szParam_of (z0 : ByteArray) (z1 : Bool) (hok : FParam.ok ⟨z0, z1⟩)  : SzParam ⟨z0, z1⟩ := by
  intro us left w B hl0 hl1 hB0 hr
  rw [FParam.c_eq] at hr
  rw [FParam.wt_eq]
  rw [FParam.ok_eq] at hok
  obtain ⟨us0, rfl, hr_0⟩ := hr.unv
  obtain ⟨us1, rfl, hr_1⟩ := hr_0.unv
  obtain rfl := hr_1.un0
  clear hr hr_0 hr_1
  have ks0 := hok
  clear hok
  obtain ⟨W, hW⟩ : ∃ W : Nat, W = z0.size := ⟨_, rfl⟩
  rw [← hW]
  have HW := Lib.hid hW
  clear hW
  by_cases c0 : left - z0.size < 0
  case pos =>
    go_enter Tryz.func82, Tryz.ntmps82
    go_wp2_with fail
    go_ret
    exact ⟨ret_int (by rw [bud_neg (by have := HW.out; omega)]), (Below.refl _ _).alloc (Nat.le_refl _) _⟩
  go_enter Tryz.func82, Tryz.ntmps82
  go_wp2_with fail
  go_ret
  exact ⟨ret_int (by have := HW.out; rw [bud_pos (by omega)]; omega), (Below.refl _ _).alloc (Nat.le_refl _) _⟩
set_option maxHeartbeats 1000000 in
theorem szParamS_of (l : List FParam) (he : ∀ x, x ∈ l → SzParam x) : SzParamS l := by
  intro u left w B hl0 hl1 hB0 hr0
  have hr := hr0.up hB0
  clear hr0
  obtain ⟨A, c, rfl⟩ := hr.form
  have HC := Lib.hid hr
  have hcap := hr.cap
  have hcm : l.length ≤ 9223372036854775807 := by unfold maxLen at hcap; omega
  have HE := Lib.hid he
  clear hr hcap he
  by_cases hfit : left - l.length < 0
  · go_enter Tryz.func46, Tryz.ntmps46
    go_wp2_with fail
    go_ret
    exact ⟨ret_int (by rw [bud_neg (by omega)]), Below.refl _ _⟩
  go_enter Tryz.func46, Tryz.ntmps46
  go_wp2_with fail
  go_loopw [1, 5] (fun lv i wr => ∃ k : Nat, k ≤ l.length ∧ i = .int .i64 k ∧ lv = .int .i64 (left - l.length - (FParam.wts (l.take k) : Nat)) ∧ ((FParam.wts (l.take k) : Nat) : Int) ≤ left - l.length ∧ Below w.heap.size w wr) (fun _ i _ => l.length - (intOf i).toNat)
  case atStart => exact ⟨0, Nat.zero_le _, rfl, by simp [FParam.wts], by simp [FParam.wts]; omega, Below.refl _ _⟩
  case round =>
    obtain ⟨k, hk, rfl, rfl, hw, hb⟩ := hrel
    by_cases hlt : k < l.length
    · obtain ⟨x, hx⟩ : ∃ x, l[k]? = some x := ⟨_, List.getElem?_eq_getElem hlt⟩
      obtain ⟨bc, offc, rfl, hblc, hcc⟩ := RdC.at_ FParam.len HC.out hx
      have HZ := Lib.hid (HE.out x (List.mem_of_getElem? hx))
      have HT := Lib.hid (FParam.wts_take l k x hx)
      have HL := Lib.hid (FParam.wts_le l (k + 1))
      clear hx
      obtain ⟨z0, z1⟩ := x
      rw [FParam.c_eq] at hcc
      obtain ⟨u0, e0, q0⟩ := hcc 0 _ rfl
      obtain rfl := q0.val
      clear q0
      have c_0 : wr.cell? ⟨bc, offc + k * 2, none⟩ = some (.string z0) := (hb.cell (p := ⟨bc, _, none⟩) hblc).trans (by simpa using e0)
      obtain ⟨u1, e1, q1⟩ := hcc 1 _ rfl
      obtain rfl := q1.val
      clear q1
      have c_1 : wr.cell? ⟨bc, offc + k * 2 + 1, none⟩ = some (.bool z1) := (hb.cell (p := ⟨bc, _, none⟩) hblc).trans (by simpa using e1)
      clear hcc e0 e1
      generalize hu : FParam.wts (l.take k) = U at *
      have HU := Lib.hid hu
      clear hu
      generalize hv : FParam.wt ⟨z0, z1⟩ = V at *
      have HV := Lib.hid hv
      clear hv
      by_cases hf : (V : Int) ≤ left - l.length - U
      · have hbp : 0 ≤ bud (left - l.length - U) V := by rw [bud_pos hf]; omega
        have HBP := Lib.hid (bud_pos hf)
        go_wp2_with fail
        refine (HZ.out [.string z0, .bool z1] _ _ w.heap.size (by omega) (by omega) (by have := hb.size; omega) (by rw [FParam.c_eq]; exact (RdVs.cons (by unfold RdC; rfl) (RdVs.cons (by unfold RdC; rfl) (RdVs.nil _ _))))).mono ?_
        rw [HV.out]
        rintro e w2 ⟨rfl, hb2⟩
        go_wp2_with fail
        go_roundw
        case rel =>
          have e := HT.out
          have e9 := HV.out
          rw [← HU.out] at *
          refine ⟨k + 1, by omega, by go_num, ?_, by rw [e, HU.out]; omega, hb.trans (hb2.mono hb.size)⟩
          rw [HBP.out, e, HU.out]
          congr 1
          omega
        case measure => simp [intOf]; omega
      · have hbp : bud (left - l.length - U) V = -1 := bud_neg hf
        have hbn : bud (left - l.length - U) V < 0 := by rw [hbp]; omega
        clear hbp
        go_wp2_with fail
        refine (HZ.out [.string z0, .bool z1] _ _ w.heap.size (by omega) (by omega) (by have := hb.size; omega) (by rw [FParam.c_eq]; exact (RdVs.cons (by unfold RdC; rfl) (RdVs.cons (by unfold RdC; rfl) (RdVs.nil _ _))))).mono ?_
        rw [HV.out]
        rintro e w2 ⟨rfl, hb2⟩
        go_wp2_with fail
        go_ret
        refine ⟨ret_int ?_, hb.trans (hb2.mono hb.size)⟩
        have e := HT.out
        have e2 := HL.out
        have e3 := HU.out
        have e4 := HV.out
        rw [bud_neg (by omega)]
    · obtain rfl : k = l.length := by omega
      clear hlt
      go_wp2_with fail
      go_ret
      refine ⟨ret_int ?_, hb⟩
      rw [List.take_length] at *
      rw [bud_pos (by omega)]
      omega
theorem szParam_any (x : FParam) (hw : x.ok) : SzParam x := by
  obtain ⟨z0, z1⟩ := x
  have hw2 := hw
  rw [FParam.ok_eq] at hw2
  exact szParam_of z0 z1 hw 
theorem szParamS_any (l : List FParam) (hw : FParam.oks l) : SzParamS l := (szParamS_of l (fun x hx => szParam_any x (FParam.oks_mem l hw x hx)))
def SzFunc (x : FFunc) : Prop := ∀ (us : List Value) (left : Int) (w : World) (B : Nat), 0 ≤ left → left ≤ 1048576 → B ≤ w.heap.size → RdVs w B x.c us → Calls Tryz.prog 26 #[.agg us.toArray, .int .i64 left] w fun e w' => e = .returned (.int .i64 (bud left x.wt)) ∧ Below w.heap.size w w'
def SzFuncS (l : List FFunc) : Prop := ∀ (u : Value) (left : Int) (w : World) (B : Nat), 0 ≤ left → left ≤ 1048576 → B ≤ w.heap.size → RdC w B (.s 51 6 l.length (FFunc.flat l)) u → Calls Tryz.prog 9 #[u, .int .i64 left] w fun e w' => e = .returned (.int .i64 (bud left (l.length + FFunc.wts l))) ∧ Below w.heap.size w w'
set_option maxHeartbeats 1000000 in
theorem szFunc_of (z0 : ByteArray) (z1 : List FParam) (z2 : List FParam) (z3 : List FStr) (z4 : Bool) (z5 : List FIns) (hok : FFunc.ok ⟨z0, z1, z2, z3, z4, z5⟩) (h1 : SzParamS z1) (h2 : SzParamS z2) (h3 : SzStringS z3) (h5 : SzInsS z5) : SzFunc ⟨z0, z1, z2, z3, z4, z5⟩ := by
  intro us left w B hl0 hl1 hB0 hr
  rw [FFunc.c_eq] at hr
  rw [FFunc.wt_eq]
  rw [FFunc.ok_eq] at hok
  obtain ⟨us0, rfl, hr_0⟩ := hr.unv
  obtain ⟨A1, c1, us1, rfl, r1, hr_1⟩ := hr_0.uns
  obtain ⟨A2, c2, us2, rfl, r2, hr_2⟩ := hr_1.uns
  obtain ⟨A3, c3, us3, rfl, r3, hr_3⟩ := hr_2.uns
  obtain ⟨us4, rfl, hr_4⟩ := hr_3.unv
  obtain ⟨A5, c5, us5, rfl, r5, hr_5⟩ := hr_4.uns
  obtain rfl := hr_5.un0
  clear hr hr_0 hr_1 hr_2 hr_3 hr_4 hr_5
  have R1 := Lib.hid r1
  clear r1
  have R2 := Lib.hid r2
  clear r2
  have R3 := Lib.hid r3
  clear r3
  have R5 := Lib.hid r5
  clear r5
  have H1 := Lib.hid h1
  clear h1
  have H2 := Lib.hid h2
  clear h2
  have H3 := Lib.hid h3
  clear h3
  have H5 := Lib.hid h5
  clear h5
  have ks0 := hok.1
  clear hok
  obtain ⟨W, hW⟩ : ∃ W : Nat, W = z0.size + (z1.length + FParam.wts z1) + (z2.length + FParam.wts z2) + (z3.length + FStr.wts z3) + (z5.length + FIns.wts z5) := ⟨_, rfl⟩
  rw [← hW]
  have HW := Lib.hid hW
  clear hW
  by_cases c0 : left - z0.size < 0
  case pos =>
    go_enter Tryz.func26, Tryz.ntmps26
    go_wp2_with fail
    go_ret
    exact ⟨ret_int (by rw [bud_neg (by have := HW.out; omega)]), (Below.refl _ _).alloc (Nat.le_refl _) _⟩
  go_enter Tryz.func26, Tryz.ntmps26
  go_wp2_with fail
  refine calls_worldD _ (fun X => Blk X w.heap.size 70 #[.string z0, .slice A1 z1.length c1, .slice A2 z2.length c2, .slice A3 z3.length c3, .bool z4, .slice A5 z5.length c5] ∧ Below w.heap.size w X) ⟨Blk.new w _ _, (Below.refl _ _).alloc (Nat.le_refl _) _⟩ ?_
  rintro X0 ⟨ba, hB⟩
  have s0 := ba.lt
  refine (H1.out _ _ _ B (by omega) (by omega) (by omega) (R1.out.below hB hB0)).mono ?_
  generalize hq0 : (z1.length + FParam.wts z1 : Nat) = q0 at *
  have Q0 := Lib.hid hq0
  clear hq0
  rintro e Y0 ⟨rfl, hb⟩
  replace ba := ba.below hb (Nat.le_refl _)
  replace hB := hB.trans (hb.mono (by omega))
  clear hb
  by_cases f0 : (q0 : Int) ≤ left - z0.size
  case neg =>
    have e0 := bud_neg f0
    rw [e0]
    clear e0
    have ba_l := ba.lt
    go_wp2_with fail
    go_ret
    exact ⟨ret_int (by rw [bud_neg (by have := HW.out; have := Q0.out; omega)]), hB⟩
  have e0 := bud_pos f0
  rw [e0]
  clear e0
  have ba_2 : Y0.cell? ⟨w.heap.size, 2, none⟩ = some (.slice A2 z2.length c2) := ba.cell 2
  have ba_l := ba.lt
  go_wp2_with fail
  refine calls_worldD _ (fun X => Blk X w.heap.size 70 #[.string z0, .slice A1 z1.length c1, .slice A2 z2.length c2, .slice A3 z3.length c3, .bool z4, .slice A5 z5.length c5] ∧ Below w.heap.size w X) ⟨ba, hB⟩ ?_
  clear ba hB ba_2 ba_l
  rintro X1 ⟨ba, hB⟩
  have s1 := ba.lt
  refine (H2.out _ _ _ B (by omega) (by omega) (by omega) (R2.out.below hB hB0)).mono ?_
  generalize hq1 : (z2.length + FParam.wts z2 : Nat) = q1 at *
  have Q1 := Lib.hid hq1
  clear hq1
  rintro e Y1 ⟨rfl, hb⟩
  replace ba := ba.below hb (Nat.le_refl _)
  replace hB := hB.trans (hb.mono (by omega))
  clear hb
  by_cases f1 : (q1 : Int) ≤ left - z0.size - q0
  case neg =>
    have e1 := bud_neg f1
    rw [e1]
    clear e1
    have ba_l := ba.lt
    go_wp2_with fail
    go_ret
    exact ⟨ret_int (by rw [bud_neg (by have := HW.out; have := Q0.out;  have := Q1.out; omega)]), hB⟩
  have e1 := bud_pos f1
  rw [e1]
  clear e1
  have ba_3 : Y1.cell? ⟨w.heap.size, 3, none⟩ = some (.slice A3 z3.length c3) := ba.cell 3
  have ba_l := ba.lt
  go_wp2_with fail
  refine calls_worldD _ (fun X => Blk X w.heap.size 70 #[.string z0, .slice A1 z1.length c1, .slice A2 z2.length c2, .slice A3 z3.length c3, .bool z4, .slice A5 z5.length c5] ∧ Below w.heap.size w X) ⟨ba, hB⟩ ?_
  clear ba hB ba_3 ba_l
  rintro X2 ⟨ba, hB⟩
  have s2 := ba.lt
  refine (H3.out _ _ _ B (by omega) (by omega) (by omega) (R3.out.below hB hB0)).mono ?_
  generalize hq2 : (z3.length + FStr.wts z3 : Nat) = q2 at *
  have Q2 := Lib.hid hq2
  clear hq2
  rintro e Y2 ⟨rfl, hb⟩
  replace ba := ba.below hb (Nat.le_refl _)
  replace hB := hB.trans (hb.mono (by omega))
  clear hb
  by_cases f2 : (q2 : Int) ≤ left - z0.size - q0 - q1
  case neg =>
    have e2 := bud_neg f2
    rw [e2]
    clear e2
    have ba_l := ba.lt
    go_wp2_with fail
    go_ret
    exact ⟨ret_int (by rw [bud_neg (by have := HW.out; have := Q0.out;  have := Q1.out;  have := Q2.out; omega)]), hB⟩
  have e2 := bud_pos f2
  rw [e2]
  clear e2
  have ba_4 : Y2.cell? ⟨w.heap.size, 4, none⟩ = some (.bool z4) := ba.cell 4
  have ba_5 : Y2.cell? ⟨w.heap.size, 5, none⟩ = some (.slice A5 z5.length c5) := ba.cell 5
  have ba_l := ba.lt
  go_wp2_with fail
  refine calls_worldD _ (fun X => Blk X w.heap.size 70 #[.string z0, .slice A1 z1.length c1, .slice A2 z2.length c2, .slice A3 z3.length c3, .bool z4, .slice A5 z5.length c5] ∧ Below w.heap.size w X) ⟨ba, hB⟩ ?_
  clear ba hB ba_4 ba_5 ba_l
  rintro X3 ⟨ba, hB⟩
  have s3 := ba.lt
  refine (H5.out _ _ _ B (by omega) (by omega) (by omega) (R5.out.below hB hB0)).mono ?_
  generalize hq3 : (z5.length + FIns.wts z5 : Nat) = q3 at *
  have Q3 := Lib.hid hq3
  clear hq3
  rintro e Y3 ⟨rfl, hb⟩
  replace ba := ba.below hb (Nat.le_refl _)
  replace hB := hB.trans (hb.mono (by omega))
  clear hb
  by_cases f3 : (q3 : Int) ≤ left - z0.size - q0 - q1 - q2
  case neg =>
    have e3 := bud_neg f3
    rw [e3]
    clear e3
    have ba_l := ba.lt
    go_wp2_with fail
    go_ret
    exact ⟨ret_int (by rw [bud_neg (by have := HW.out; have := Q0.out;  have := Q1.out;  have := Q2.out;  have := Q3.out; omega)]), hB⟩
  have e3 := bud_pos f3
  rw [e3]
  clear e3
  have ba_l := ba.lt
  go_wp2_with fail
  go_ret
  exact ⟨ret_int (by have := HW.out; have := Q0.out;  have := Q1.out;  have := Q2.out;  have := Q3.out; rw [bud_pos (by omega)]; omega), hB⟩
set_option maxHeartbeats 1000000 in
theorem szFuncS_of (l : List FFunc) (he : ∀ x, x ∈ l → SzFunc x) : SzFuncS l := by
  intro u left w B hl0 hl1 hB0 hr0
  have hr := hr0.up hB0
  clear hr0
  obtain ⟨A, c, rfl⟩ := hr.form
  have HC := Lib.hid hr
  have hcap := hr.cap
  have hcm : l.length ≤ 9223372036854775807 := by unfold maxLen at hcap; omega
  have HE := Lib.hid he
  clear hr hcap he
  by_cases hfit : left - l.length < 0
  · go_enter Tryz.func9, Tryz.ntmps9
    go_wp2_with fail
    go_ret
    exact ⟨ret_int (by rw [bud_neg (by omega)]), Below.refl _ _⟩
  go_enter Tryz.func9, Tryz.ntmps9
  go_wp2_with fail
  go_loopw [1, 5] (fun lv i wr => ∃ k : Nat, k ≤ l.length ∧ i = .int .i64 k ∧ lv = .int .i64 (left - l.length - (FFunc.wts (l.take k) : Nat)) ∧ ((FFunc.wts (l.take k) : Nat) : Int) ≤ left - l.length ∧ Below w.heap.size w wr) (fun _ i _ => l.length - (intOf i).toNat)
  case atStart => exact ⟨0, Nat.zero_le _, rfl, by simp [FFunc.wts], by simp [FFunc.wts]; omega, Below.refl _ _⟩
  case round =>
    obtain ⟨k, hk, rfl, rfl, hw, hb⟩ := hrel
    by_cases hlt : k < l.length
    · obtain ⟨x, hx⟩ : ∃ x, l[k]? = some x := ⟨_, List.getElem?_eq_getElem hlt⟩
      obtain ⟨bc, offc, rfl, hblc, hcc⟩ := RdC.at_ FFunc.len HC.out hx
      have HZ := Lib.hid (HE.out x (List.mem_of_getElem? hx))
      have HT := Lib.hid (FFunc.wts_take l k x hx)
      have HL := Lib.hid (FFunc.wts_le l (k + 1))
      clear hx
      obtain ⟨z0, z1, z2, z3, z4, z5⟩ := x
      rw [FFunc.c_eq] at hcc
      obtain ⟨u0, e0, q0⟩ := hcc 0 _ rfl
      obtain rfl := q0.val
      clear q0
      have c_0 : wr.cell? ⟨bc, offc + k * 6, none⟩ = some (.string z0) := (hb.cell (p := ⟨bc, _, none⟩) hblc).trans (by simpa using e0)
      obtain ⟨u1, e1, q1⟩ := hcc 1 _ rfl
      obtain ⟨A1, c1, rfl⟩ := q1.form
      have R1 := Lib.hid q1
      clear q1
      have c_1 : wr.cell? ⟨bc, offc + k * 6 + 1, none⟩ = some (.slice A1 z1.length c1) := (hb.cell (p := ⟨bc, _, none⟩) hblc).trans (by simpa using e1)
      obtain ⟨u2, e2, q2⟩ := hcc 2 _ rfl
      obtain ⟨A2, c2, rfl⟩ := q2.form
      have R2 := Lib.hid q2
      clear q2
      have c_2 : wr.cell? ⟨bc, offc + k * 6 + 2, none⟩ = some (.slice A2 z2.length c2) := (hb.cell (p := ⟨bc, _, none⟩) hblc).trans (by simpa using e2)
      obtain ⟨u3, e3, q3⟩ := hcc 3 _ rfl
      obtain ⟨A3, c3, rfl⟩ := q3.form
      have R3 := Lib.hid q3
      clear q3
      have c_3 : wr.cell? ⟨bc, offc + k * 6 + 3, none⟩ = some (.slice A3 z3.length c3) := (hb.cell (p := ⟨bc, _, none⟩) hblc).trans (by simpa using e3)
      obtain ⟨u4, e4, q4⟩ := hcc 4 _ rfl
      obtain rfl := q4.val
      clear q4
      have c_4 : wr.cell? ⟨bc, offc + k * 6 + 4, none⟩ = some (.bool z4) := (hb.cell (p := ⟨bc, _, none⟩) hblc).trans (by simpa using e4)
      obtain ⟨u5, e5, q5⟩ := hcc 5 _ rfl
      obtain ⟨A5, c5, rfl⟩ := q5.form
      have R5 := Lib.hid q5
      clear q5
      have c_5 : wr.cell? ⟨bc, offc + k * 6 + 5, none⟩ = some (.slice A5 z5.length c5) := (hb.cell (p := ⟨bc, _, none⟩) hblc).trans (by simpa using e5)
      clear hcc e0 e1 e2 e3 e4 e5
      generalize hu : FFunc.wts (l.take k) = U at *
      have HU := Lib.hid hu
      clear hu
      generalize hv : FFunc.wt ⟨z0, z1, z2, z3, z4, z5⟩ = V at *
      have HV := Lib.hid hv
      clear hv
      by_cases hf : (V : Int) ≤ left - l.length - U
      · have hbp : 0 ≤ bud (left - l.length - U) V := by rw [bud_pos hf]; omega
        have HBP := Lib.hid (bud_pos hf)
        go_wp2_with fail
        refine (HZ.out [.string z0, .slice A1 z1.length c1, .slice A2 z2.length c2, .slice A3 z3.length c3, .bool z4, .slice A5 z5.length c5] _ _ w.heap.size (by omega) (by omega) (by have := hb.size; omega) (by rw [FFunc.c_eq]; exact (RdVs.cons (by unfold RdC; rfl) (RdVs.cons (R1.out.below hb (Nat.le_refl _)) (RdVs.cons (R2.out.below hb (Nat.le_refl _)) (RdVs.cons (R3.out.below hb (Nat.le_refl _)) (RdVs.cons (by unfold RdC; rfl) (RdVs.cons (R5.out.below hb (Nat.le_refl _)) (RdVs.nil _ _))))))))).mono ?_
        rw [HV.out]
        rintro e w2 ⟨rfl, hb2⟩
        go_wp2_with fail
        go_roundw
        case rel =>
          have e := HT.out
          have e9 := HV.out
          rw [← HU.out] at *
          refine ⟨k + 1, by omega, by go_num, ?_, by rw [e, HU.out]; omega, hb.trans (hb2.mono hb.size)⟩
          rw [HBP.out, e, HU.out]
          congr 1
          omega
        case measure => simp [intOf]; omega
      · have hbp : bud (left - l.length - U) V = -1 := bud_neg hf
        have hbn : bud (left - l.length - U) V < 0 := by rw [hbp]; omega
        clear hbp
        go_wp2_with fail
        refine (HZ.out [.string z0, .slice A1 z1.length c1, .slice A2 z2.length c2, .slice A3 z3.length c3, .bool z4, .slice A5 z5.length c5] _ _ w.heap.size (by omega) (by omega) (by have := hb.size; omega) (by rw [FFunc.c_eq]; exact (RdVs.cons (by unfold RdC; rfl) (RdVs.cons (R1.out.below hb (Nat.le_refl _)) (RdVs.cons (R2.out.below hb (Nat.le_refl _)) (RdVs.cons (R3.out.below hb (Nat.le_refl _)) (RdVs.cons (by unfold RdC; rfl) (RdVs.cons (R5.out.below hb (Nat.le_refl _)) (RdVs.nil _ _))))))))).mono ?_
        rw [HV.out]
        rintro e w2 ⟨rfl, hb2⟩
        go_wp2_with fail
        go_ret
        refine ⟨ret_int ?_, hb.trans (hb2.mono hb.size)⟩
        have e := HT.out
        have e2 := HL.out
        have e3 := HU.out
        have e4 := HV.out
        rw [bud_neg (by omega)]
    · obtain rfl : k = l.length := by omega
      clear hlt
      go_wp2_with fail
      go_ret
      refine ⟨ret_int ?_, hb⟩
      rw [List.take_length] at *
      rw [bud_pos (by omega)]
      omega
theorem szFunc_any (x : FFunc) (hw : x.ok) : SzFunc x := by
  obtain ⟨z0, z1, z2, z3, z4, z5⟩ := x
  have hw2 := hw
  rw [FFunc.ok_eq] at hw2
  exact szFunc_of z0 z1 z2 z3 z4 z5 hw (szParamS_any z1 hw2.2.1) (szParamS_any z2 hw2.2.2.1) (szStringS_any z3 hw2.2.2.2.1) (szInsS_any z5 hw2.2.2.2.2)
theorem szFuncS_any (l : List FFunc) (hw : FFunc.oks l) : SzFuncS l := (szFuncS_of l (fun x hx => szFunc_any x (FFunc.oks_mem l hw x hx)))
def SzMethod (x : FMethod) : Prop := ∀ (us : List Value) (left : Int) (w : World) (B : Nat), 0 ≤ left → left ≤ 1048576 → B ≤ w.heap.size → RdVs w B x.c us → Calls Tryz.prog 85 #[.agg us.toArray, .int .i64 left] w fun e w' => e = .returned (.int .i64 (bud left x.wt)) ∧ Below w.heap.size w w'
def SzMethodS (l : List FMethod) : Prop := ∀ (u : Value) (left : Int) (w : World) (B : Nat), 0 ≤ left → left ≤ 1048576 → B ≤ w.heap.size → RdC w B (.s 57 5 l.length (FMethod.flat l)) u → Calls Tryz.prog 50 #[u, .int .i64 left] w fun e w' => e = .returned (.int .i64 (bud left (l.length + FMethod.wts l))) ∧ Below w.heap.size w w'
set_option maxHeartbeats 1000000 in
theorem szMethod_of (z0 : ByteArray) (z1 : ByteArray) (z2 : ByteArray) (z3 : Bool) (z4 : Bool) (hok : FMethod.ok ⟨z0, z1, z2, z3, z4⟩)  : SzMethod ⟨z0, z1, z2, z3, z4⟩ := by
  intro us left w B hl0 hl1 hB0 hr
  rw [FMethod.c_eq] at hr
  rw [FMethod.wt_eq]
  rw [FMethod.ok_eq] at hok
  obtain ⟨us0, rfl, hr_0⟩ := hr.unv
  obtain ⟨us1, rfl, hr_1⟩ := hr_0.unv
  obtain ⟨us2, rfl, hr_2⟩ := hr_1.unv
  obtain ⟨us3, rfl, hr_3⟩ := hr_2.unv
  obtain ⟨us4, rfl, hr_4⟩ := hr_3.unv
  obtain rfl := hr_4.un0
  clear hr hr_0 hr_1 hr_2 hr_3 hr_4
  have ks0 := hok.1
  have ks1 := hok.2.1
  have ks2 := hok.2.2
  clear hok
  obtain ⟨W, hW⟩ : ∃ W : Nat, W = z0.size + z1.size + z2.size := ⟨_, rfl⟩
  rw [← hW]
  have HW := Lib.hid hW
  clear hW
  by_cases c0 : left - z0.size < 0
  case pos =>
    go_enter Tryz.func85, Tryz.ntmps85
    go_wp2_with fail
    go_ret
    exact ⟨ret_int (by rw [bud_neg (by have := HW.out; omega)]), (Below.refl _ _).alloc (Nat.le_refl _) _⟩
  by_cases c1 : left - z0.size - z1.size < 0
  case pos =>
    go_enter Tryz.func85, Tryz.ntmps85
    go_wp2_with fail
    go_ret
    exact ⟨ret_int (by rw [bud_neg (by have := HW.out; omega)]), (Below.refl _ _).alloc (Nat.le_refl _) _⟩
  by_cases c2 : left - z0.size - z1.size - z2.size < 0
  case pos =>
    go_enter Tryz.func85, Tryz.ntmps85
    go_wp2_with fail
    go_ret
    exact ⟨ret_int (by rw [bud_neg (by have := HW.out; omega)]), (Below.refl _ _).alloc (Nat.le_refl _) _⟩
  go_enter Tryz.func85, Tryz.ntmps85
  go_wp2_with fail
  go_ret
  exact ⟨ret_int (by have := HW.out; rw [bud_pos (by omega)]; omega), (Below.refl _ _).alloc (Nat.le_refl _) _⟩
set_option maxHeartbeats 1000000 in
theorem szMethodS_of (l : List FMethod) (he : ∀ x, x ∈ l → SzMethod x) : SzMethodS l := by
  intro u left w B hl0 hl1 hB0 hr0
  have hr := hr0.up hB0
  clear hr0
  obtain ⟨A, c, rfl⟩ := hr.form
  have HC := Lib.hid hr
  have hcap := hr.cap
  have hcm : l.length ≤ 9223372036854775807 := by unfold maxLen at hcap; omega
  have HE := Lib.hid he
  clear hr hcap he
  by_cases hfit : left - l.length < 0
  · go_enter Tryz.func50, Tryz.ntmps50
    go_wp2_with fail
    go_ret
    exact ⟨ret_int (by rw [bud_neg (by omega)]), Below.refl _ _⟩
  go_enter Tryz.func50, Tryz.ntmps50
  go_wp2_with fail
  go_loopw [1, 5] (fun lv i wr => ∃ k : Nat, k ≤ l.length ∧ i = .int .i64 k ∧ lv = .int .i64 (left - l.length - (FMethod.wts (l.take k) : Nat)) ∧ ((FMethod.wts (l.take k) : Nat) : Int) ≤ left - l.length ∧ Below w.heap.size w wr) (fun _ i _ => l.length - (intOf i).toNat)
  case atStart => exact ⟨0, Nat.zero_le _, rfl, by simp [FMethod.wts], by simp [FMethod.wts]; omega, Below.refl _ _⟩
  case round =>
    obtain ⟨k, hk, rfl, rfl, hw, hb⟩ := hrel
    by_cases hlt : k < l.length
    · obtain ⟨x, hx⟩ : ∃ x, l[k]? = some x := ⟨_, List.getElem?_eq_getElem hlt⟩
      obtain ⟨bc, offc, rfl, hblc, hcc⟩ := RdC.at_ FMethod.len HC.out hx
      have HZ := Lib.hid (HE.out x (List.mem_of_getElem? hx))
      have HT := Lib.hid (FMethod.wts_take l k x hx)
      have HL := Lib.hid (FMethod.wts_le l (k + 1))
      clear hx
      obtain ⟨z0, z1, z2, z3, z4⟩ := x
      rw [FMethod.c_eq] at hcc
      obtain ⟨u0, e0, q0⟩ := hcc 0 _ rfl
      obtain rfl := q0.val
      clear q0
      have c_0 : wr.cell? ⟨bc, offc + k * 5, none⟩ = some (.string z0) := (hb.cell (p := ⟨bc, _, none⟩) hblc).trans (by simpa using e0)
      obtain ⟨u1, e1, q1⟩ := hcc 1 _ rfl
      obtain rfl := q1.val
      clear q1
      have c_1 : wr.cell? ⟨bc, offc + k * 5 + 1, none⟩ = some (.string z1) := (hb.cell (p := ⟨bc, _, none⟩) hblc).trans (by simpa using e1)
      obtain ⟨u2, e2, q2⟩ := hcc 2 _ rfl
      obtain rfl := q2.val
      clear q2
      have c_2 : wr.cell? ⟨bc, offc + k * 5 + 2, none⟩ = some (.string z2) := (hb.cell (p := ⟨bc, _, none⟩) hblc).trans (by simpa using e2)
      obtain ⟨u3, e3, q3⟩ := hcc 3 _ rfl
      obtain rfl := q3.val
      clear q3
      have c_3 : wr.cell? ⟨bc, offc + k * 5 + 3, none⟩ = some (.bool z3) := (hb.cell (p := ⟨bc, _, none⟩) hblc).trans (by simpa using e3)
      obtain ⟨u4, e4, q4⟩ := hcc 4 _ rfl
      obtain rfl := q4.val
      clear q4
      have c_4 : wr.cell? ⟨bc, offc + k * 5 + 4, none⟩ = some (.bool z4) := (hb.cell (p := ⟨bc, _, none⟩) hblc).trans (by simpa using e4)
      clear hcc e0 e1 e2 e3 e4
      generalize hu : FMethod.wts (l.take k) = U at *
      have HU := Lib.hid hu
      clear hu
      generalize hv : FMethod.wt ⟨z0, z1, z2, z3, z4⟩ = V at *
      have HV := Lib.hid hv
      clear hv
      by_cases hf : (V : Int) ≤ left - l.length - U
      · have hbp : 0 ≤ bud (left - l.length - U) V := by rw [bud_pos hf]; omega
        have HBP := Lib.hid (bud_pos hf)
        go_wp2_with fail
        refine (HZ.out [.string z0, .string z1, .string z2, .bool z3, .bool z4] _ _ w.heap.size (by omega) (by omega) (by have := hb.size; omega) (by rw [FMethod.c_eq]; exact (RdVs.cons (by unfold RdC; rfl) (RdVs.cons (by unfold RdC; rfl) (RdVs.cons (by unfold RdC; rfl) (RdVs.cons (by unfold RdC; rfl) (RdVs.cons (by unfold RdC; rfl) (RdVs.nil _ _)))))))).mono ?_
        rw [HV.out]
        rintro e w2 ⟨rfl, hb2⟩
        go_wp2_with fail
        go_roundw
        case rel =>
          have e := HT.out
          have e9 := HV.out
          rw [← HU.out] at *
          refine ⟨k + 1, by omega, by go_num, ?_, by rw [e, HU.out]; omega, hb.trans (hb2.mono hb.size)⟩
          rw [HBP.out, e, HU.out]
          congr 1
          omega
        case measure => simp [intOf]; omega
      · have hbp : bud (left - l.length - U) V = -1 := bud_neg hf
        have hbn : bud (left - l.length - U) V < 0 := by rw [hbp]; omega
        clear hbp
        go_wp2_with fail
        refine (HZ.out [.string z0, .string z1, .string z2, .bool z3, .bool z4] _ _ w.heap.size (by omega) (by omega) (by have := hb.size; omega) (by rw [FMethod.c_eq]; exact (RdVs.cons (by unfold RdC; rfl) (RdVs.cons (by unfold RdC; rfl) (RdVs.cons (by unfold RdC; rfl) (RdVs.cons (by unfold RdC; rfl) (RdVs.cons (by unfold RdC; rfl) (RdVs.nil _ _)))))))).mono ?_
        rw [HV.out]
        rintro e w2 ⟨rfl, hb2⟩
        go_wp2_with fail
        go_ret
        refine ⟨ret_int ?_, hb.trans (hb2.mono hb.size)⟩
        have e := HT.out
        have e2 := HL.out
        have e3 := HU.out
        have e4 := HV.out
        rw [bud_neg (by omega)]
    · obtain rfl : k = l.length := by omega
      clear hlt
      go_wp2_with fail
      go_ret
      refine ⟨ret_int ?_, hb⟩
      rw [List.take_length] at *
      rw [bud_pos (by omega)]
      omega
theorem szMethod_any (x : FMethod) (hw : x.ok) : SzMethod x := by
  obtain ⟨z0, z1, z2, z3, z4⟩ := x
  have hw2 := hw
  rw [FMethod.ok_eq] at hw2
  exact szMethod_of z0 z1 z2 z3 z4 hw 
theorem szMethodS_any (l : List FMethod) (hw : FMethod.oks l) : SzMethodS l := (szMethodS_of l (fun x hx => szMethod_any x (FMethod.oks_mem l hw x hx)))
def SzField (x : FField) : Prop := ∀ (us : List Value) (left : Int) (w : World) (B : Nat), 0 ≤ left → left ≤ 1048576 → B ≤ w.heap.size → RdVs w B x.c us → Calls Tryz.prog 84 #[.agg us.toArray, .int .i64 left] w fun e w' => e = .returned (.int .i64 (bud left x.wt)) ∧ Below w.heap.size w w'
def SzFieldS (l : List FField) : Prop := ∀ (u : Value) (left : Int) (w : World) (B : Nat), 0 ≤ left → left ≤ 1048576 → B ≤ w.heap.size → RdC w B (.s 45 8 l.length (FField.flat l)) u → Calls Tryz.prog 49 #[u, .int .i64 left] w fun e w' => e = .returned (.int .i64 (bud left (l.length + FField.wts l))) ∧ Below w.heap.size w w'
set_option maxHeartbeats 1000000 in
theorem szField_of (z0 : ByteArray) (z1 : ByteArray) (z2 : Bool) (z3 : Int) (z4 : Int) (z5 : ByteArray) (z6 : Int) (z7 : List FEntry) (hok : FField.ok ⟨z0, z1, z2, ⟨z3, z4, z5, z6, z7⟩⟩) (h3 : SzValue ⟨z3, z4, z5, z6, z7⟩) : SzField ⟨z0, z1, z2, ⟨z3, z4, z5, z6, z7⟩⟩ := by
  intro us left w B hl0 hl1 hB0 hr
  rw [FField.c_eq] at hr
  rw [FField.wt_eq]
  rw [FField.ok_eq] at hok
  obtain ⟨us0, rfl, hr_0⟩ := hr.unv
  obtain ⟨us1, rfl, hr_1⟩ := hr_0.unv
  obtain ⟨us2, rfl, hr_2⟩ := hr_1.unv
  obtain ⟨us3, rfl, hr_3⟩ := hr_2.unv
  obtain ⟨us4, rfl, hr_4⟩ := hr_3.unv
  obtain ⟨us5, rfl, hr_5⟩ := hr_4.unv
  obtain ⟨us6, rfl, hr_6⟩ := hr_5.unv
  obtain ⟨A7, c7, us7, rfl, r7, hr_7⟩ := hr_6.uns
  obtain rfl := hr_7.un0
  clear hr hr_0 hr_1 hr_2 hr_3 hr_4 hr_5 hr_6 hr_7
  have R7 := Lib.hid r7
  clear r7
  have H3 := Lib.hid h3
  clear h3
  have ks0 := hok.1
  have ks1 := hok.2.1
  have ks5 := hok.2.2.1
  clear hok
  obtain ⟨W, hW⟩ : ∃ W : Nat, W = z0.size + z1.size + z5.size + (z7.length + FEntry.wts z7) := ⟨_, rfl⟩
  rw [← hW]
  have HW := Lib.hid hW
  clear hW
  by_cases c0 : left - z0.size < 0
  case pos =>
    go_enter Tryz.func84, Tryz.ntmps84
    go_wp2_with fail
    go_ret
    exact ⟨ret_int (by rw [bud_neg (by have := HW.out; have := FValue.wt_eq z3 z4 z5 z6 z7; omega)]), (Below.refl _ _).alloc (Nat.le_refl _) _⟩
  by_cases c1 : left - z0.size - z1.size < 0
  case pos =>
    go_enter Tryz.func84, Tryz.ntmps84
    go_wp2_with fail
    go_ret
    exact ⟨ret_int (by rw [bud_neg (by have := HW.out; have := FValue.wt_eq z3 z4 z5 z6 z7; omega)]), (Below.refl _ _).alloc (Nat.le_refl _) _⟩
  go_enter Tryz.func84, Tryz.ntmps84
  go_wp2_with fail
  refine calls_worldD _ (fun X => Blk X w.heap.size 132 #[.string z0, .string z1, .bool z2, .int .i64 z3, .int .i64 z4, .string z5, .int .i64 z6, .slice A7 z7.length c7] ∧ Below w.heap.size w X) ⟨Blk.new w _ _, (Below.refl _ _).alloc (Nat.le_refl _) _⟩ ?_
  rintro X0 ⟨ba, hB⟩
  have s0 := ba.lt
  refine (H3.out [.int .i64 z3, .int .i64 z4, .string z5, .int .i64 z6, .slice A7 z7.length c7] _ _ B (by omega) (by omega) (by omega) (by rw [FValue.c_eq]; exact (RdVs.cons (by unfold RdC; rfl) (RdVs.cons (by unfold RdC; rfl) (RdVs.cons (by unfold RdC; rfl) (RdVs.cons (by unfold RdC; rfl) (RdVs.cons (R7.out.below hB hB0) (RdVs.nil _ _)))))))).mono ?_
  generalize hq0 : (FValue.wt ⟨z3, z4, z5, z6, z7⟩ : Nat) = q0 at *
  have Q0 := Lib.hid hq0
  clear hq0
  rintro e Y0 ⟨rfl, hb⟩
  replace ba := ba.below hb (Nat.le_refl _)
  replace hB := hB.trans (hb.mono (by omega))
  clear hb
  by_cases f0 : (q0 : Int) ≤ left - z0.size - z1.size
  case neg =>
    have e0 := bud_neg f0
    rw [e0]
    clear e0
    have ba_l := ba.lt
    go_wp2_with fail
    go_ret
    exact ⟨ret_int (by rw [bud_neg (by have := HW.out; have := Q0.out; have := FValue.wt_eq z3 z4 z5 z6 z7; omega)]), hB⟩
  have e0 := bud_pos f0
  rw [e0]
  clear e0
  have ba_l := ba.lt
  go_wp2_with fail
  go_ret
  exact ⟨ret_int (by have := HW.out; have := Q0.out; have := FValue.wt_eq z3 z4 z5 z6 z7; rw [bud_pos (by omega)]; omega), hB⟩
set_option maxHeartbeats 1000000 in
theorem szFieldS_of (l : List FField) (he : ∀ x, x ∈ l → SzField x) : SzFieldS l := by
  intro u left w B hl0 hl1 hB0 hr0
  have hr := hr0.up hB0
  clear hr0
  obtain ⟨A, c, rfl⟩ := hr.form
  have HC := Lib.hid hr
  have hcap := hr.cap
  have hcm : l.length ≤ 9223372036854775807 := by unfold maxLen at hcap; omega
  have HE := Lib.hid he
  clear hr hcap he
  by_cases hfit : left - l.length < 0
  · go_enter Tryz.func49, Tryz.ntmps49
    go_wp2_with fail
    go_ret
    exact ⟨ret_int (by rw [bud_neg (by omega)]), Below.refl _ _⟩
  go_enter Tryz.func49, Tryz.ntmps49
  go_wp2_with fail
  go_loopw [1, 5] (fun lv i wr => ∃ k : Nat, k ≤ l.length ∧ i = .int .i64 k ∧ lv = .int .i64 (left - l.length - (FField.wts (l.take k) : Nat)) ∧ ((FField.wts (l.take k) : Nat) : Int) ≤ left - l.length ∧ Below w.heap.size w wr) (fun _ i _ => l.length - (intOf i).toNat)
  case atStart => exact ⟨0, Nat.zero_le _, rfl, by simp [FField.wts], by simp [FField.wts]; omega, Below.refl _ _⟩
  case round =>
    obtain ⟨k, hk, rfl, rfl, hw, hb⟩ := hrel
    by_cases hlt : k < l.length
    · obtain ⟨x, hx⟩ : ∃ x, l[k]? = some x := ⟨_, List.getElem?_eq_getElem hlt⟩
      obtain ⟨bc, offc, rfl, hblc, hcc⟩ := RdC.at_ FField.len HC.out hx
      have HZ := Lib.hid (HE.out x (List.mem_of_getElem? hx))
      have HT := Lib.hid (FField.wts_take l k x hx)
      have HL := Lib.hid (FField.wts_le l (k + 1))
      clear hx
      obtain ⟨z0, z1, z2, ⟨z3, z4, z5, z6, z7⟩⟩ := x
      rw [FField.c_eq] at hcc
      obtain ⟨u0, e0, q0⟩ := hcc 0 _ rfl
      obtain rfl := q0.val
      clear q0
      have c_0 : wr.cell? ⟨bc, offc + k * 8, none⟩ = some (.string z0) := (hb.cell (p := ⟨bc, _, none⟩) hblc).trans (by simpa using e0)
      obtain ⟨u1, e1, q1⟩ := hcc 1 _ rfl
      obtain rfl := q1.val
      clear q1
      have c_1 : wr.cell? ⟨bc, offc + k * 8 + 1, none⟩ = some (.string z1) := (hb.cell (p := ⟨bc, _, none⟩) hblc).trans (by simpa using e1)
      obtain ⟨u2, e2, q2⟩ := hcc 2 _ rfl
      obtain rfl := q2.val
      clear q2
      have c_2 : wr.cell? ⟨bc, offc + k * 8 + 2, none⟩ = some (.bool z2) := (hb.cell (p := ⟨bc, _, none⟩) hblc).trans (by simpa using e2)
      obtain ⟨u3, e3, q3⟩ := hcc 3 _ rfl
      obtain rfl := q3.val
      clear q3
      have c_3 : wr.cell? ⟨bc, offc + k * 8 + 3, none⟩ = some (.int .i64 z3) := (hb.cell (p := ⟨bc, _, none⟩) hblc).trans (by simpa using e3)
      obtain ⟨u4, e4, q4⟩ := hcc 4 _ rfl
      obtain rfl := q4.val
      clear q4
      have c_4 : wr.cell? ⟨bc, offc + k * 8 + 4, none⟩ = some (.int .i64 z4) := (hb.cell (p := ⟨bc, _, none⟩) hblc).trans (by simpa using e4)
      obtain ⟨u5, e5, q5⟩ := hcc 5 _ rfl
      obtain rfl := q5.val
      clear q5
      have c_5 : wr.cell? ⟨bc, offc + k * 8 + 5, none⟩ = some (.string z5) := (hb.cell (p := ⟨bc, _, none⟩) hblc).trans (by simpa using e5)
      obtain ⟨u6, e6, q6⟩ := hcc 6 _ rfl
      obtain rfl := q6.val
      clear q6
      have c_6 : wr.cell? ⟨bc, offc + k * 8 + 6, none⟩ = some (.int .i64 z6) := (hb.cell (p := ⟨bc, _, none⟩) hblc).trans (by simpa using e6)
      obtain ⟨u7, e7, q7⟩ := hcc 7 _ rfl
      obtain ⟨A7, c7, rfl⟩ := q7.form
      have R7 := Lib.hid q7
      clear q7
      have c_7 : wr.cell? ⟨bc, offc + k * 8 + 7, none⟩ = some (.slice A7 z7.length c7) := (hb.cell (p := ⟨bc, _, none⟩) hblc).trans (by simpa using e7)
      clear hcc e0 e1 e2 e3 e4 e5 e6 e7
      generalize hu : FField.wts (l.take k) = U at *
      have HU := Lib.hid hu
      clear hu
      generalize hv : FField.wt ⟨z0, z1, z2, ⟨z3, z4, z5, z6, z7⟩⟩ = V at *
      have HV := Lib.hid hv
      clear hv
      by_cases hf : (V : Int) ≤ left - l.length - U
      · have hbp : 0 ≤ bud (left - l.length - U) V := by rw [bud_pos hf]; omega
        have HBP := Lib.hid (bud_pos hf)
        go_wp2_with fail
        refine (HZ.out [.string z0, .string z1, .bool z2, .int .i64 z3, .int .i64 z4, .string z5, .int .i64 z6, .slice A7 z7.length c7] _ _ w.heap.size (by omega) (by omega) (by have := hb.size; omega) (by rw [FField.c_eq]; exact (RdVs.cons (by unfold RdC; rfl) (RdVs.cons (by unfold RdC; rfl) (RdVs.cons (by unfold RdC; rfl) (RdVs.cons (by unfold RdC; rfl) (RdVs.cons (by unfold RdC; rfl) (RdVs.cons (by unfold RdC; rfl) (RdVs.cons (by unfold RdC; rfl) (RdVs.cons (R7.out.below hb (Nat.le_refl _)) (RdVs.nil _ _))))))))))).mono ?_
        rw [HV.out]
        rintro e w2 ⟨rfl, hb2⟩
        go_wp2_with fail
        go_roundw
        case rel =>
          have e := HT.out
          have e9 := HV.out
          rw [← HU.out] at *
          refine ⟨k + 1, by omega, by go_num, ?_, by rw [e, HU.out]; omega, hb.trans (hb2.mono hb.size)⟩
          rw [HBP.out, e, HU.out]
          congr 1
          omega
        case measure => simp [intOf]; omega
      · have hbp : bud (left - l.length - U) V = -1 := bud_neg hf
        have hbn : bud (left - l.length - U) V < 0 := by rw [hbp]; omega
        clear hbp
        go_wp2_with fail
        refine (HZ.out [.string z0, .string z1, .bool z2, .int .i64 z3, .int .i64 z4, .string z5, .int .i64 z6, .slice A7 z7.length c7] _ _ w.heap.size (by omega) (by omega) (by have := hb.size; omega) (by rw [FField.c_eq]; exact (RdVs.cons (by unfold RdC; rfl) (RdVs.cons (by unfold RdC; rfl) (RdVs.cons (by unfold RdC; rfl) (RdVs.cons (by unfold RdC; rfl) (RdVs.cons (by unfold RdC; rfl) (RdVs.cons (by unfold RdC; rfl) (RdVs.cons (by unfold RdC; rfl) (RdVs.cons (R7.out.below hb (Nat.le_refl _)) (RdVs.nil _ _))))))))))).mono ?_
        rw [HV.out]
        rintro e w2 ⟨rfl, hb2⟩
        go_wp2_with fail
        go_ret
        refine ⟨ret_int ?_, hb.trans (hb2.mono hb.size)⟩
        have e := HT.out
        have e2 := HL.out
        have e3 := HU.out
        have e4 := HV.out
        rw [bud_neg (by omega)]
    · obtain rfl : k = l.length := by omega
      clear hlt
      go_wp2_with fail
      go_ret
      refine ⟨ret_int ?_, hb⟩
      rw [List.take_length] at *
      rw [bud_pos (by omega)]
      omega
theorem szField_any (x : FField) (hw : x.ok) : SzField x := by
  obtain ⟨z0, z1, z2, ⟨z3, z4, z5, z6, z7⟩⟩ := x
  have hw2 := hw
  rw [FField.ok_eq] at hw2
  exact szField_of z0 z1 z2 z3 z4 z5 z6 z7 hw (szValue_any _ (by rw [FValue.ok_eq]; exact ⟨hw2.2.2.1, hw2.2.2.2⟩))
theorem szFieldS_any (l : List FField) (hw : FField.oks l) : SzFieldS l := (szFieldS_of l (fun x hx => szField_any x (FField.oks_mem l hw x hx)))
def SzClass (x : FClass) : Prop := ∀ (us : List Value) (left : Int) (w : World) (B : Nat), 0 ≤ left → left ≤ 1048576 → B ≤ w.heap.size → RdVs w B x.c us → Calls Tryz.prog 27 #[.agg us.toArray, .int .i64 left] w fun e w' => e = .returned (.int .i64 (bud left x.wt)) ∧ Below w.heap.size w w'
def SzClassS (l : List FClass) : Prop := ∀ (u : Value) (left : Int) (w : World) (B : Nat), 0 ≤ left → left ≤ 1048576 → B ≤ w.heap.size → RdC w B (.s 40 4 l.length (FClass.flat l)) u → Calls Tryz.prog 10 #[u, .int .i64 left] w fun e w' => e = .returned (.int .i64 (bud left (l.length + FClass.wts l))) ∧ Below w.heap.size w w'
set_option maxHeartbeats 1000000 in
theorem szClass_of (z0 : ByteArray) (z1 : ByteArray) (z2 : List FField) (z3 : List FMethod) (hok : FClass.ok ⟨z0, z1, z2, z3⟩) (h2 : SzFieldS z2) (h3 : SzMethodS z3) : SzClass ⟨z0, z1, z2, z3⟩ := by
  intro us left w B hl0 hl1 hB0 hr
  rw [FClass.c_eq] at hr
  rw [FClass.wt_eq]
  rw [FClass.ok_eq] at hok
  obtain ⟨us0, rfl, hr_0⟩ := hr.unv
  obtain ⟨us1, rfl, hr_1⟩ := hr_0.unv
  obtain ⟨A2, c2, us2, rfl, r2, hr_2⟩ := hr_1.uns
  obtain ⟨A3, c3, us3, rfl, r3, hr_3⟩ := hr_2.uns
  obtain rfl := hr_3.un0
  clear hr hr_0 hr_1 hr_2 hr_3
  have R2 := Lib.hid r2
  clear r2
  have R3 := Lib.hid r3
  clear r3
  have H2 := Lib.hid h2
  clear h2
  have H3 := Lib.hid h3
  clear h3
  have ks0 := hok.1
  have ks1 := hok.2.1
  clear hok
  obtain ⟨W, hW⟩ : ∃ W : Nat, W = z0.size + z1.size + (z2.length + FField.wts z2) + (z3.length + FMethod.wts z3) := ⟨_, rfl⟩
  rw [← hW]
  have HW := Lib.hid hW
  clear hW
  by_cases c0 : left - z0.size < 0
  case pos =>
    go_enter Tryz.func27, Tryz.ntmps27
    go_wp2_with fail
    go_ret
    exact ⟨ret_int (by rw [bud_neg (by have := HW.out; omega)]), (Below.refl _ _).alloc (Nat.le_refl _) _⟩
  by_cases c1 : left - z0.size - z1.size < 0
  case pos =>
    go_enter Tryz.func27, Tryz.ntmps27
    go_wp2_with fail
    go_ret
    exact ⟨ret_int (by rw [bud_neg (by have := HW.out; omega)]), (Below.refl _ _).alloc (Nat.le_refl _) _⟩
  go_enter Tryz.func27, Tryz.ntmps27
  go_wp2_with fail
  refine calls_worldD _ (fun X => Blk X w.heap.size 75 #[.string z0, .string z1, .slice A2 z2.length c2, .slice A3 z3.length c3] ∧ Below w.heap.size w X) ⟨Blk.new w _ _, (Below.refl _ _).alloc (Nat.le_refl _) _⟩ ?_
  rintro X0 ⟨ba, hB⟩
  have s0 := ba.lt
  refine (H2.out _ _ _ B (by omega) (by omega) (by omega) (R2.out.below hB hB0)).mono ?_
  generalize hq0 : (z2.length + FField.wts z2 : Nat) = q0 at *
  have Q0 := Lib.hid hq0
  clear hq0
  rintro e Y0 ⟨rfl, hb⟩
  replace ba := ba.below hb (Nat.le_refl _)
  replace hB := hB.trans (hb.mono (by omega))
  clear hb
  by_cases f0 : (q0 : Int) ≤ left - z0.size - z1.size
  case neg =>
    have e0 := bud_neg f0
    rw [e0]
    clear e0
    have ba_l := ba.lt
    go_wp2_with fail
    go_ret
    exact ⟨ret_int (by rw [bud_neg (by have := HW.out; have := Q0.out; omega)]), hB⟩
  have e0 := bud_pos f0
  rw [e0]
  clear e0
  have ba_3 : Y0.cell? ⟨w.heap.size, 3, none⟩ = some (.slice A3 z3.length c3) := ba.cell 3
  have ba_l := ba.lt
  go_wp2_with fail
  refine calls_worldD _ (fun X => Blk X w.heap.size 75 #[.string z0, .string z1, .slice A2 z2.length c2, .slice A3 z3.length c3] ∧ Below w.heap.size w X) ⟨ba, hB⟩ ?_
  clear ba hB ba_3 ba_l
  rintro X1 ⟨ba, hB⟩
  have s1 := ba.lt
  refine (H3.out _ _ _ B (by omega) (by omega) (by omega) (R3.out.below hB hB0)).mono ?_
  generalize hq1 : (z3.length + FMethod.wts z3 : Nat) = q1 at *
  have Q1 := Lib.hid hq1
  clear hq1
  rintro e Y1 ⟨rfl, hb⟩
  replace ba := ba.below hb (Nat.le_refl _)
  replace hB := hB.trans (hb.mono (by omega))
  clear hb
  by_cases f1 : (q1 : Int) ≤ left - z0.size - z1.size - q0
  case neg =>
    have e1 := bud_neg f1
    rw [e1]
    clear e1
    have ba_l := ba.lt
    go_wp2_with fail
    go_ret
    exact ⟨ret_int (by rw [bud_neg (by have := HW.out; have := Q0.out;  have := Q1.out; omega)]), hB⟩
  have e1 := bud_pos f1
  rw [e1]
  clear e1
  have ba_l := ba.lt
  go_wp2_with fail
  go_ret
  exact ⟨ret_int (by have := HW.out; have := Q0.out;  have := Q1.out; rw [bud_pos (by omega)]; omega), hB⟩
set_option maxHeartbeats 1000000 in
theorem szClassS_of (l : List FClass) (he : ∀ x, x ∈ l → SzClass x) : SzClassS l := by
  intro u left w B hl0 hl1 hB0 hr0
  have hr := hr0.up hB0
  clear hr0
  obtain ⟨A, c, rfl⟩ := hr.form
  have HC := Lib.hid hr
  have hcap := hr.cap
  have hcm : l.length ≤ 9223372036854775807 := by unfold maxLen at hcap; omega
  have HE := Lib.hid he
  clear hr hcap he
  by_cases hfit : left - l.length < 0
  · go_enter Tryz.func10, Tryz.ntmps10
    go_wp2_with fail
    go_ret
    exact ⟨ret_int (by rw [bud_neg (by omega)]), Below.refl _ _⟩
  go_enter Tryz.func10, Tryz.ntmps10
  go_wp2_with fail
  go_loopw [1, 5] (fun lv i wr => ∃ k : Nat, k ≤ l.length ∧ i = .int .i64 k ∧ lv = .int .i64 (left - l.length - (FClass.wts (l.take k) : Nat)) ∧ ((FClass.wts (l.take k) : Nat) : Int) ≤ left - l.length ∧ Below w.heap.size w wr) (fun _ i _ => l.length - (intOf i).toNat)
  case atStart => exact ⟨0, Nat.zero_le _, rfl, by simp [FClass.wts], by simp [FClass.wts]; omega, Below.refl _ _⟩
  case round =>
    obtain ⟨k, hk, rfl, rfl, hw, hb⟩ := hrel
    by_cases hlt : k < l.length
    · obtain ⟨x, hx⟩ : ∃ x, l[k]? = some x := ⟨_, List.getElem?_eq_getElem hlt⟩
      obtain ⟨bc, offc, rfl, hblc, hcc⟩ := RdC.at_ FClass.len HC.out hx
      have HZ := Lib.hid (HE.out x (List.mem_of_getElem? hx))
      have HT := Lib.hid (FClass.wts_take l k x hx)
      have HL := Lib.hid (FClass.wts_le l (k + 1))
      clear hx
      obtain ⟨z0, z1, z2, z3⟩ := x
      rw [FClass.c_eq] at hcc
      obtain ⟨u0, e0, q0⟩ := hcc 0 _ rfl
      obtain rfl := q0.val
      clear q0
      have c_0 : wr.cell? ⟨bc, offc + k * 4, none⟩ = some (.string z0) := (hb.cell (p := ⟨bc, _, none⟩) hblc).trans (by simpa using e0)
      obtain ⟨u1, e1, q1⟩ := hcc 1 _ rfl
      obtain rfl := q1.val
      clear q1
      have c_1 : wr.cell? ⟨bc, offc + k * 4 + 1, none⟩ = some (.string z1) := (hb.cell (p := ⟨bc, _, none⟩) hblc).trans (by simpa using e1)
      obtain ⟨u2, e2, q2⟩ := hcc 2 _ rfl
      obtain ⟨A2, c2, rfl⟩ := q2.form
      have R2 := Lib.hid q2
      clear q2
      have c_2 : wr.cell? ⟨bc, offc + k * 4 + 2, none⟩ = some (.slice A2 z2.length c2) := (hb.cell (p := ⟨bc, _, none⟩) hblc).trans (by simpa using e2)
      obtain ⟨u3, e3, q3⟩ := hcc 3 _ rfl
      obtain ⟨A3, c3, rfl⟩ := q3.form
      have R3 := Lib.hid q3
      clear q3
      have c_3 : wr.cell? ⟨bc, offc + k * 4 + 3, none⟩ = some (.slice A3 z3.length c3) := (hb.cell (p := ⟨bc, _, none⟩) hblc).trans (by simpa using e3)
      clear hcc e0 e1 e2 e3
      generalize hu : FClass.wts (l.take k) = U at *
      have HU := Lib.hid hu
      clear hu
      generalize hv : FClass.wt ⟨z0, z1, z2, z3⟩ = V at *
      have HV := Lib.hid hv
      clear hv
      by_cases hf : (V : Int) ≤ left - l.length - U
      · have hbp : 0 ≤ bud (left - l.length - U) V := by rw [bud_pos hf]; omega
        have HBP := Lib.hid (bud_pos hf)
        go_wp2_with fail
        refine (HZ.out [.string z0, .string z1, .slice A2 z2.length c2, .slice A3 z3.length c3] _ _ w.heap.size (by omega) (by omega) (by have := hb.size; omega) (by rw [FClass.c_eq]; exact (RdVs.cons (by unfold RdC; rfl) (RdVs.cons (by unfold RdC; rfl) (RdVs.cons (R2.out.below hb (Nat.le_refl _)) (RdVs.cons (R3.out.below hb (Nat.le_refl _)) (RdVs.nil _ _))))))).mono ?_
        rw [HV.out]
        rintro e w2 ⟨rfl, hb2⟩
        go_wp2_with fail
        go_roundw
        case rel =>
          have e := HT.out
          have e9 := HV.out
          rw [← HU.out] at *
          refine ⟨k + 1, by omega, by go_num, ?_, by rw [e, HU.out]; omega, hb.trans (hb2.mono hb.size)⟩
          rw [HBP.out, e, HU.out]
          congr 1
          omega
        case measure => simp [intOf]; omega
      · have hbp : bud (left - l.length - U) V = -1 := bud_neg hf
        have hbn : bud (left - l.length - U) V < 0 := by rw [hbp]; omega
        clear hbp
        go_wp2_with fail
        refine (HZ.out [.string z0, .string z1, .slice A2 z2.length c2, .slice A3 z3.length c3] _ _ w.heap.size (by omega) (by omega) (by have := hb.size; omega) (by rw [FClass.c_eq]; exact (RdVs.cons (by unfold RdC; rfl) (RdVs.cons (by unfold RdC; rfl) (RdVs.cons (R2.out.below hb (Nat.le_refl _)) (RdVs.cons (R3.out.below hb (Nat.le_refl _)) (RdVs.nil _ _))))))).mono ?_
        rw [HV.out]
        rintro e w2 ⟨rfl, hb2⟩
        go_wp2_with fail
        go_ret
        refine ⟨ret_int ?_, hb.trans (hb2.mono hb.size)⟩
        have e := HT.out
        have e2 := HL.out
        have e3 := HU.out
        have e4 := HV.out
        rw [bud_neg (by omega)]
    · obtain rfl : k = l.length := by omega
      clear hlt
      go_wp2_with fail
      go_ret
      refine ⟨ret_int ?_, hb⟩
      rw [List.take_length] at *
      rw [bud_pos (by omega)]
      omega
theorem szClass_any (x : FClass) (hw : x.ok) : SzClass x := by
  obtain ⟨z0, z1, z2, z3⟩ := x
  have hw2 := hw
  rw [FClass.ok_eq] at hw2
  exact szClass_of z0 z1 z2 z3 hw (szFieldS_any z2 hw2.2.2.1) (szMethodS_any z3 hw2.2.2.2)
theorem szClassS_any (l : List FClass) (hw : FClass.oks l) : SzClassS l := (szClassS_of l (fun x hx => szClass_any x (FClass.oks_mem l hw x hx)))
def SzProgram (x : FProgram) : Prop := ∀ (us : List Value) (left : Int) (w : World) (B : Nat), 0 ≤ left → left ≤ 1048576 → B ≤ w.heap.size → RdVs w B x.c us → Calls Tryz.prog 4 #[.agg us.toArray, .int .i64 left] w fun e w' => e = .returned (.int .i64 (bud left x.wt)) ∧ Below w.heap.size w w'
set_option maxHeartbeats 1000000 in
theorem szProgram_of (z0 : List FFunc) (z1 : List FClass) (hok : FProgram.ok ⟨z0, z1⟩) (h0 : SzFuncS z0) (h1 : SzClassS z1) : SzProgram ⟨z0, z1⟩ := by
  intro us left w B hl0 hl1 hB0 hr
  rw [FProgram.c_eq] at hr
  rw [FProgram.wt_eq]
  rw [FProgram.ok_eq] at hok
  obtain ⟨A0, c0, us0, rfl, r0, hr_0⟩ := hr.uns
  obtain ⟨A1, c1, us1, rfl, r1, hr_1⟩ := hr_0.uns
  obtain rfl := hr_1.un0
  clear hr hr_0 hr_1
  have R0 := Lib.hid r0
  clear r0
  have R1 := Lib.hid r1
  clear r1
  have H0 := Lib.hid h0
  clear h0
  have H1 := Lib.hid h1
  clear h1
  clear hok
  obtain ⟨W, hW⟩ : ∃ W : Nat, W = (z0.length + FFunc.wts z0) + (z1.length + FClass.wts z1) := ⟨_, rfl⟩
  rw [← hW]
  have HW := Lib.hid hW
  clear hW
  go_enter Tryz.func4, Tryz.ntmps4
  go_wp2_with fail
  refine calls_worldD _ (fun X => Blk X w.heap.size 25 #[.slice A0 z0.length c0, .slice A1 z1.length c1] ∧ Below w.heap.size w X) ⟨Blk.new w _ _, (Below.refl _ _).alloc (Nat.le_refl _) _⟩ ?_
  rintro X0 ⟨ba, hB⟩
  have s0 := ba.lt
  refine (H0.out _ _ _ B (by omega) (by omega) (by omega) (R0.out.below hB hB0)).mono ?_
  generalize hq0 : (z0.length + FFunc.wts z0 : Nat) = q0 at *
  have Q0 := Lib.hid hq0
  clear hq0
  rintro e Y0 ⟨rfl, hb⟩
  replace ba := ba.below hb (Nat.le_refl _)
  replace hB := hB.trans (hb.mono (by omega))
  clear hb
  by_cases f0 : (q0 : Int) ≤ left
  case neg =>
    have e0 := bud_neg f0
    rw [e0]
    clear e0
    have ba_l := ba.lt
    go_wp2_with fail
    go_ret
    exact ⟨ret_int (by rw [bud_neg (by have := HW.out; have := Q0.out; omega)]), hB⟩
  have e0 := bud_pos f0
  rw [e0]
  clear e0
  have ba_1 : Y0.cell? ⟨w.heap.size, 1, none⟩ = some (.slice A1 z1.length c1) := ba.cell 1
  have ba_l := ba.lt
  go_wp2_with fail
  refine calls_worldD _ (fun X => Blk X w.heap.size 25 #[.slice A0 z0.length c0, .slice A1 z1.length c1] ∧ Below w.heap.size w X) ⟨ba, hB⟩ ?_
  clear ba hB ba_1 ba_l
  rintro X1 ⟨ba, hB⟩
  have s1 := ba.lt
  refine (H1.out _ _ _ B (by omega) (by omega) (by omega) (R1.out.below hB hB0)).mono ?_
  generalize hq1 : (z1.length + FClass.wts z1 : Nat) = q1 at *
  have Q1 := Lib.hid hq1
  clear hq1
  rintro e Y1 ⟨rfl, hb⟩
  replace ba := ba.below hb (Nat.le_refl _)
  replace hB := hB.trans (hb.mono (by omega))
  clear hb
  by_cases f1 : (q1 : Int) ≤ left - q0
  case neg =>
    have e1 := bud_neg f1
    rw [e1]
    clear e1
    have ba_l := ba.lt
    go_wp2_with fail
    go_ret
    exact ⟨ret_int (by rw [bud_neg (by have := HW.out; have := Q0.out;  have := Q1.out; omega)]), hB⟩
  have e1 := bud_pos f1
  rw [e1]
  clear e1
  have ba_l := ba.lt
  go_wp2_with fail
  go_ret
  exact ⟨ret_int (by have := HW.out; have := Q0.out;  have := Q1.out; rw [bud_pos (by omega)]; omega), hB⟩
theorem szProgram_any (x : FProgram) (hw : x.ok) : SzProgram x := by
  obtain ⟨z0, z1⟩ := x
  have hw2 := hw
  rw [FProgram.ok_eq] at hw2
  exact szProgram_of z0 z1 hw (szFuncS_any z0 hw2.1) (szClassS_any z1 hw2.2)
end Go.Proofs.YtdmbhmhfjappcaaGreatDoor
