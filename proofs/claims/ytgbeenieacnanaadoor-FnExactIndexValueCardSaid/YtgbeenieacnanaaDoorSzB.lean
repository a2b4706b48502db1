/-
  string, int, Key, Entry, Value, Binding: the sizes that the laws reckon. Conditions: none.
-/
import Derived.Test.YtgbeenieacnanaaDoorDataB
namespace Go.Proofs.YtgbeenieacnanaaDoor
open Go.ChangeShapes Go.WideShapes Go.ChangeAt Go.RowKit Go.Deep Go.Joins
open Go.ChangeMaps (open_string shut_string)
set_option linter.unusedVariables false
set_option linter.unusedSimpArgs false
set_option maxRecDepth 100000
def SzKey (x : FKey) : Prop := ∀ (us : List Value) (left : Int) (w : World) (B : Nat), 0 ≤ left → left ≤ 1048576 → B ≤ w.heap.size → RdVs w B x.c us → Calls Tryd.prog 59 #[.agg us.toArray, .int .i64 left] w fun e w' => e = .returned (.int .i64 (bud left x.wt)) ∧ Below w.heap.size w w'
set_option maxHeartbeats 1000000 in
theorem szKey_of (z0 : Bool) (z1 : Int) (z2 : ByteArray) (hok : FKey.ok ⟨z0, z1, z2⟩)  : SzKey ⟨z0, z1, z2⟩ := by
  intro us left w B hl0 hl1 hB0 hr
  rw [FKey.c_eq] at hr
  rw [FKey.wt_eq]
  rw [FKey.ok_eq] at hok
  obtain ⟨us0, rfl, hr_0⟩ := hr.unv
  obtain ⟨us1, rfl, hr_1⟩ := hr_0.unv
  obtain ⟨us2, rfl, hr_2⟩ := hr_1.unv
  obtain rfl := hr_2.un0
  clear hr hr_0 hr_1 hr_2
  have ks2 := hok
  clear hok
  obtain ⟨W, hW⟩ : ∃ W : Nat, W = z2.size := ⟨_, rfl⟩
  rw [← hW]
  have HW := Lib.hid hW
  clear hW
  by_cases c2 : left - z2.size < 0
  case pos =>
    go_enter Tryd.func59, Tryd.ntmps59
    go_wp2_with fail
    go_ret
    exact ⟨ret_int (by rw [bud_neg (by have := HW.out; omega)]), (Below.refl _ _).alloc (Nat.le_refl _) _⟩
  go_enter Tryd.func59, Tryd.ntmps59
  go_wp2_with fail
  go_ret
  exact ⟨ret_int (by have := HW.out; rw [bud_pos (by omega)]; omega), (Below.refl _ _).alloc (Nat.le_refl _) _⟩
theorem szKey_any (x : FKey) (hw : x.ok) : SzKey x := by
  obtain ⟨z0, z1, z2⟩ := x
  have hw2 := hw
  rw [FKey.ok_eq] at hw2
  exact szKey_of z0 z1 z2 hw 
def SzEntry (x : FEntry) : Prop := ∀ (us : List Value) (left : Int) (w : World) (B : Nat), 0 ≤ left → left ≤ 1048576 → B ≤ w.heap.size → RdVs w B x.c us → Calls Tryd.prog 41 #[.agg us.toArray, .int .i64 left] w fun e w' => e = .returned (.int .i64 (bud left x.wt)) ∧ Below w.heap.size w w'
def SzEntryS (l : List FEntry) : Prop := ∀ (u : Value) (left : Int) (w : World) (B : Nat), 0 ≤ left → left ≤ 1048576 → B ≤ w.heap.size → RdC w B (.s 73 8 l.length (FEntry.flat l)) u → Calls Tryd.prog 17 #[u, .int .i64 left] w fun e w' => e = .returned (.int .i64 (bud left (l.length + FEntry.wts l))) ∧ Below w.heap.size w w'
def SzValue (x : FValue) : Prop := ∀ (us : List Value) (left : Int) (w : World) (B : Nat), 0 ≤ left → left ≤ 1048576 → B ≤ w.heap.size → RdVs w B x.c us → Calls Tryd.prog 5 #[.agg us.toArray, .int .i64 left] w fun e w' => e = .returned (.int .i64 (bud left x.wt)) ∧ Below w.heap.size w w'
set_option maxHeartbeats 1000000 in
theorem szEntry_of (z0 : Bool) (z1 : Int) (z2 : ByteArray) (z3 : Int) (z4 : Int) (z5 : ByteArray) (z6 : Int) (z7 : List FEntry) (hok : FEntry.ok ⟨⟨z0, z1, z2⟩, ⟨z3, z4, z5, z6, z7⟩⟩) (h0 : SzKey ⟨z0, z1, z2⟩) (h3 : SzValue ⟨z3, z4, z5, z6, z7⟩) : SzEntry ⟨⟨z0, z1, z2⟩, ⟨z3, z4, z5, z6, z7⟩⟩ := by
  intro us left w B hl0 hl1 hB0 hr
  rw [FEntry.c_eq] at hr
  rw [FEntry.wt_eq]
  rw [FEntry.ok_eq] at hok
  obtain ⟨us0, rfl, hr_0⟩ := hr.unv
  obtain ⟨us1, rfl, hr_1⟩ := hr_0.unv
  obtain ⟨us2, rfl, hr_2⟩ := hr_1.unv
  obtain ⟨us3, rfl, hr_3⟩ := hr_2.unv
  obtain ⟨us4, rfl, hr_4⟩ := hr_3.unv
  obtain ⟨us5, rfl, hr_5⟩ := hr_4.unv
  obtain ⟨us6, rfl, hr_6⟩ := hr_5.unv
  obtain ⟨A7, c7, us7, rfl, r7, hr_7⟩ := hr_6.uns
  obtain rfl := hr_7.un0
  clear hr hr_0 hr_1 hr_2 hr_3 hr_4 hr_5 hr_6 hr_7
  have R7 := Lib.hid r7
  clear r7
  have H0 := Lib.hid h0
  clear h0
  have H3 := Lib.hid h3
  clear h3
  have ks2 := hok.1
  have ks5 := hok.2.1
  clear hok
  obtain ⟨W, hW⟩ : ∃ W : Nat, W = z2.size + z5.size + (z7.length + FEntry.wts z7) := ⟨_, rfl⟩
  rw [← hW]
  have HW := Lib.hid hW
  clear hW
  go_enter Tryd.func41, Tryd.ntmps41
  go_wp2_with fail
  refine calls_worldD _ (fun X => Blk X w.heap.size 69 #[.bool z0, .int .i64 z1, .string z2, .int .i64 z3, .int .i64 z4, .string z5, .int .i64 z6, .slice A7 z7.length c7] ∧ Below w.heap.size w X) ⟨Blk.new w _ _, (Below.refl _ _).alloc (Nat.le_refl _) _⟩ ?_
  rintro X0 ⟨ba, hB⟩
  have s0 := ba.lt
  refine (H0.out [.bool z0, .int .i64 z1, .string z2] _ _ B (by omega) (by omega) (by omega) (by rw [FKey.c_eq]; exact (RdVs.cons (by unfold RdC; rfl) (RdVs.cons (by unfold RdC; rfl) (RdVs.cons (by unfold RdC; rfl) (RdVs.nil _ _)))))).mono ?_
  generalize hq0 : (FKey.wt ⟨z0, z1, z2⟩ : Nat) = q0 at *
  have Q0 := Lib.hid hq0
  clear hq0
  rintro e Y0 ⟨rfl, hb⟩
  replace ba := ba.below hb (Nat.le_refl _)
  replace hB := hB.trans (hb.mono (by omega))
  clear hb
  by_cases f0 : (q0 : Int) ≤ left
  case neg =>
    have e0 := bud_neg f0
    rw [e0]
    clear e0
    have ba_l := ba.lt
    go_wp2_with fail
    go_ret
    exact ⟨ret_int (by rw [bud_neg (by have := HW.out; have := Q0.out; have := FKey.wt_eq z0 z1 z2; have := FValue.wt_eq z3 z4 z5 z6 z7; omega)]), hB⟩
  have e0 := bud_pos f0
  rw [e0]
  clear e0
  have ba_3 : Y0.cell? ⟨w.heap.size, 3, none⟩ = some (.int .i64 z3) := ba.cell 3
  have ba_4 : Y0.cell? ⟨w.heap.size, 4, none⟩ = some (.int .i64 z4) := ba.cell 4
  have ba_5 : Y0.cell? ⟨w.heap.size, 5, none⟩ = some (.string z5) := ba.cell 5
  have ba_6 : Y0.cell? ⟨w.heap.size, 6, none⟩ = some (.int .i64 z6) := ba.cell 6
  have ba_7 : Y0.cell? ⟨w.heap.size, 7, none⟩ = some (.slice A7 z7.length c7) := ba.cell 7
  have ba_l := ba.lt
  go_wp2_with fail
  refine calls_worldD _ (fun X => Blk X w.heap.size 69 #[.bool z0, .int .i64 z1, .string z2, .int .i64 z3, .int .i64 z4, .string z5, .int .i64 z6, .slice A7 z7.length c7] ∧ Below w.heap.size w X) ⟨ba, hB⟩ ?_
  clear ba hB ba_3 ba_4 ba_5 ba_6 ba_7 ba_l
  rintro X1 ⟨ba, hB⟩
  have s1 := ba.lt
  refine (H3.out [.int .i64 z3, .int .i64 z4, .string z5, .int .i64 z6, .slice A7 z7.length c7] _ _ B (by omega) (by omega) (by omega) (by rw [FValue.c_eq]; exact (RdVs.cons (by unfold RdC; rfl) (RdVs.cons (by unfold RdC; rfl) (RdVs.cons (by unfold RdC; rfl) (RdVs.cons (by unfold RdC; rfl) (RdVs.cons (R7.out.below hB hB0) (RdVs.nil _ _)))))))).mono ?_
  generalize hq1 : (FValue.wt ⟨z3, z4, z5, z6, z7⟩ : Nat) = q1 at *
  have Q1 := Lib.hid hq1
  clear hq1
  rintro e Y1 ⟨rfl, hb⟩
  replace ba := ba.below hb (Nat.le_refl _)
  replace hB := hB.trans (hb.mono (by omega))
  clear hb
  by_cases f1 : (q1 : Int) ≤ left - q0
  case neg =>
    have e1 := bud_neg f1
    rw [e1]
    clear e1
    have ba_l := ba.lt
    go_wp2_with fail
    go_ret
    exact ⟨ret_int (by rw [bud_neg (by have := HW.out; have := Q0.out;  have := Q1.out; have := FKey.wt_eq z0 z1 z2; have := FValue.wt_eq z3 z4 z5 z6 z7; omega)]), hB⟩
  have e1 := bud_pos f1
  rw [e1]
  clear e1
  have ba_l := ba.lt
  go_wp2_with fail
  go_ret
  exact ⟨ret_int (by have := HW.out; have := Q0.out;  have := Q1.out; have := FKey.wt_eq z0 z1 z2; have := FValue.wt_eq z3 z4 z5 z6 z7; rw [bud_pos (by omega)]; omega), hB⟩
set_option maxHeartbeats 1000000 in
theorem szEntryS_of (l : List FEntry) (he : ∀ x, x ∈ l → SzEntry x) : SzEntryS l := by
  intro u left w B hl0 hl1 hB0 hr0
  have hr := hr0.up hB0
  clear hr0
  obtain ⟨A, c, rfl⟩ := hr.form
  have HC := Lib.hid hr
  have hcap := hr.cap
  have hcm : l.length ≤ 9223372036854775807 := by unfold maxLen at hcap; omega
  have HE := Lib.hid he
  clear hr hcap he
  by_cases hfit : left - l.length < 0
  · go_enter Tryd.func17, Tryd.ntmps17
    go_wp2_with fail
    go_ret
    exact ⟨ret_int (by rw [bud_neg (by omega)]), Below.refl _ _⟩
  go_enter Tryd.func17, Tryd.ntmps17
  go_wp2_with fail
  go_loopw [1, 5] (fun lv i wr => ∃ k : Nat, k ≤ l.length ∧ i = .int .i64 k ∧ lv = .int .i64 (left - l.length - (FEntry.wts (l.take k) : Nat)) ∧ ((FEntry.wts (l.take k) : Nat) : Int) ≤ left - l.length ∧ Below w.heap.size w wr) (fun _ i _ => l.length - (intOf i).toNat)
  case atStart => exact ⟨0, Nat.zero_le _, rfl, by simp [FEntry.wts], by simp [FEntry.wts]; omega, Below.refl _ _⟩
  case round =>
    obtain ⟨k, hk, rfl, rfl, hw, hb⟩ := hrel
    by_cases hlt : k < l.length
    · obtain ⟨x, hx⟩ : ∃ x, l[k]? = some x := ⟨_, List.getElem?_eq_getElem hlt⟩
      obtain ⟨bc, offc, rfl, hblc, hcc⟩ := RdC.at_ FEntry.len HC.out hx
      have HZ := Lib.hid (HE.out x (List.mem_of_getElem? hx))
      have HT := Lib.hid (FEntry.wts_take l k x hx)
      have HL := Lib.hid (FEntry.wts_le l (k + 1))
      clear hx
      obtain ⟨⟨z0, z1, z2⟩, ⟨z3, z4, z5, z6, z7⟩⟩ := x
      rw [FEntry.c_eq] at hcc
      obtain ⟨u0, e0, q0⟩ := hcc 0 _ rfl
      obtain rfl := q0.val
      clear q0
      have c_0 : wr.cell? ⟨bc, offc + k * 8, none⟩ = some (.bool z0) := (hb.cell (p := ⟨bc, _, none⟩) hblc).trans (by simpa using e0)
      obtain ⟨u1, e1, q1⟩ := hcc 1 _ rfl
      obtain rfl := q1.val
      clear q1
      have c_1 : wr.cell? ⟨bc, offc + k * 8 + 1, none⟩ = some (.int .i64 z1) := (hb.cell (p := ⟨bc, _, none⟩) hblc).trans (by simpa using e1)
      obtain ⟨u2, e2, q2⟩ := hcc 2 _ rfl
      obtain rfl := q2.val
      clear q2
      have c_2 : wr.cell? ⟨bc, offc + k * 8 + 2, none⟩ = some (.string z2) := (hb.cell (p := ⟨bc, _, none⟩) hblc).trans (by simpa using e2)
      obtain ⟨u3, e3, q3⟩ := hcc 3 _ rfl
      obtain rfl := q3.val
      clear q3
      have c_3 : wr.cell? ⟨bc, offc + k * 8 + 3, none⟩ = some (.int .i64 z3) := (hb.cell (p := ⟨bc, _, none⟩) hblc).trans (by simpa using e3)
      obtain ⟨u4, e4, q4⟩ := hcc 4 _ rfl
      obtain rfl := q4.val
      clear q4
      have c_4 : wr.cell? ⟨bc, offc + k * 8 + 4, none⟩ = some (.int .i64 z4) := (hb.cell (p := ⟨bc, _, none⟩) hblc).trans (by simpa using e4)
      obtain ⟨u5, e5, q5⟩ := hcc 5 _ rfl
      obtain rfl := q5.val
      clear q5
      have c_5 : wr.cell? ⟨bc, offc + k * 8 + 5, none⟩ = some (.string z5) := (hb.cell (p := ⟨bc, _, none⟩) hblc).trans (by simpa using e5)
      obtain ⟨u6, e6, q6⟩ := hcc 6 _ rfl
      obtain rfl := q6.val
      clear q6
      have c_6 : wr.cell? ⟨bc, offc + k * 8 + 6, none⟩ = some (.int .i64 z6) := (hb.cell (p := ⟨bc, _, none⟩) hblc).trans (by simpa using e6)
      obtain ⟨u7, e7, q7⟩ := hcc 7 _ rfl
      obtain ⟨A7, c7, rfl⟩ := q7.form
      have R7 := Lib.hid q7
      clear q7
      have c_7 : wr.cell? ⟨bc, offc + k * 8 + 7, none⟩ = some (.slice A7 z7.length c7) := (hb.cell (p := ⟨bc, _, none⟩) hblc).trans (by simpa using e7)
      clear hcc e0 e1 e2 e3 e4 e5 e6 e7
      generalize hu : FEntry.wts (l.take k) = U at *
      have HU := Lib.hid hu
      clear hu
      generalize hv : FEntry.wt ⟨⟨z0, z1, z2⟩, ⟨z3, z4, z5, z6, z7⟩⟩ = V at *
      have HV := Lib.hid hv
      clear hv
      by_cases hf : (V : Int) ≤ left - l.length - U
      · have hbp : 0 ≤ bud (left - l.length - U) V := by rw [bud_pos hf]; omega
        have HBP := Lib.hid (bud_pos hf)
        go_wp2_with fail
        refine (HZ.out [.bool z0, .int .i64 z1, .string z2, .int .i64 z3, .int .i64 z4, .string z5, .int .i64 z6, .slice A7 z7.length c7] _ _ w.heap.size (by omega) (by omega) (by have := hb.size; omega) (by rw [FEntry.c_eq]; exact (RdVs.cons (by unfold RdC; rfl) (RdVs.cons (by unfold RdC; rfl) (RdVs.cons (by unfold RdC; rfl) (RdVs.cons (by unfold RdC; rfl) (RdVs.cons (by unfold RdC; rfl) (RdVs.cons (by unfold RdC; rfl) (RdVs.cons (by unfold RdC; rfl) (RdVs.cons (R7.out.below hb (Nat.le_refl _)) (RdVs.nil _ _))))))))))).mono ?_
        rw [HV.out]
        rintro e w2 ⟨rfl, hb2⟩
        go_wp2_with fail
        go_roundw
        case rel =>
          have e := HT.out
          have e9 := HV.out
          rw [← HU.out] at *
          refine ⟨k + 1, by omega, by go_num, ?_, by rw [e, HU.out]; omega, hb.trans (hb2.mono hb.size)⟩
          rw [HBP.out, e, HU.out]
          congr 1
          omega
        case measure => simp [intOf]; omega
      · have hbp : bud (left - l.length - U) V = -1 := bud_neg hf
        have hbn : bud (left - l.length - U) V < 0 := by rw [hbp]; omega
        clear hbp
        go_wp2_with fail
        refine (HZ.out [.bool z0, .int .i64 z1, .string z2, .int .i64 z3, .int .i64 z4, .string z5, .int .i64 z6, .slice A7 z7.length c7] _ _ w.heap.size (by omega) (by omega) (by have := hb.size; omega) (by rw [FEntry.c_eq]; exact (RdVs.cons (by unfold RdC; rfl) (RdVs.cons (by unfold RdC; rfl) (RdVs.cons (by unfold RdC; rfl) (RdVs.cons (by unfold RdC; rfl) (RdVs.cons (by unfold RdC; rfl) (RdVs.cons (by unfold RdC; rfl) (RdVs.cons (by unfold RdC; rfl) (RdVs.cons (R7.out.below hb (Nat.le_refl _)) (RdVs.nil _ _))))))))))).mono ?_
        rw [HV.out]
        rintro e w2 ⟨rfl, hb2⟩
        go_wp2_with fail
        go_ret
        refine ⟨ret_int ?_, hb.trans (hb2.mono hb.size)⟩
        have e := HT.out
        have e2 := HL.out
        have e3 := HU.out
        have e4 := HV.out
        rw [bud_neg (by omega)]
    · obtain rfl : k = l.length := by omega
      clear hlt
      go_wp2_with fail
      go_ret
      refine ⟨ret_int ?_, hb⟩
      rw [List.take_length] at *
      rw [bud_pos (by omega)]
      omega
set_option maxHeartbeats 1000000 in
theorem szValue_of (z0 : Int) (z1 : Int) (z2 : ByteArray) (z3 : Int) (z4 : List FEntry) (hok : FValue.ok ⟨z0, z1, z2, z3, z4⟩) (h4 : SzEntryS z4) : SzValue ⟨z0, z1, z2, z3, z4⟩ := by
  intro us left w B hl0 hl1 hB0 hr
  rw [FValue.c_eq] at hr
  rw [FValue.wt_eq]
  rw [FValue.ok_eq] at hok
  obtain ⟨us0, rfl, hr_0⟩ := hr.unv
  obtain ⟨us1, rfl, hr_1⟩ := hr_0.unv
  obtain ⟨us2, rfl, hr_2⟩ := hr_1.unv
  obtain ⟨us3, rfl, hr_3⟩ := hr_2.unv
  obtain ⟨A4, c4, us4, rfl, r4, hr_4⟩ := hr_3.uns
  obtain rfl := hr_4.un0
  clear hr hr_0 hr_1 hr_2 hr_3 hr_4
  have R4 := Lib.hid r4
  clear r4
  have H4 := Lib.hid h4
  clear h4
  have ks2 := hok.1
  clear hok
  obtain ⟨W, hW⟩ : ∃ W : Nat, W = z2.size + (z4.length + FEntry.wts z4) := ⟨_, rfl⟩
  rw [← hW]
  have HW := Lib.hid hW
  clear hW
  by_cases c2 : left - z2.size < 0
  case pos =>
    go_enter Tryd.func5, Tryd.ntmps5
    go_wp2_with fail
    go_ret
    exact ⟨ret_int (by rw [bud_neg (by have := HW.out; omega)]), (Below.refl _ _).alloc (Nat.le_refl _) _⟩
  go_enter Tryd.func5, Tryd.ntmps5
  go_wp2_with fail
  refine calls_worldD _ (fun X => Blk X w.heap.size 24 #[.int .i64 z0, .int .i64 z1, .string z2, .int .i64 z3, .slice A4 z4.length c4] ∧ Below w.heap.size w X) ⟨Blk.new w _ _, (Below.refl _ _).alloc (Nat.le_refl _) _⟩ ?_
  rintro X0 ⟨ba, hB⟩
  have s0 := ba.lt
  refine (H4.out _ _ _ B (by omega) (by omega) (by omega) (R4.out.below hB hB0)).mono ?_
  generalize hq0 : (z4.length + FEntry.wts z4 : Nat) = q0 at *
  have Q0 := Lib.hid hq0
  clear hq0
  rintro e Y0 ⟨rfl, hb⟩
  replace ba := ba.below hb (Nat.le_refl _)
  replace hB := hB.trans (hb.mono (by omega))
  clear hb
  by_cases f0 : (q0 : Int) ≤ left - z2.size
  case neg =>
    have e0 := bud_neg f0
    rw [e0]
    clear e0
    have ba_l := ba.lt
    go_wp2_with fail
    go_ret
    exact ⟨ret_int (by rw [bud_neg (by have := HW.out; have := Q0.out; omega)]), hB⟩
  have e0 := bud_pos f0
  rw [e0]
  clear e0
  have ba_l := ba.lt
  go_wp2_with fail
  go_ret
  exact ⟨ret_int (by have := HW.out; have := Q0.out; rw [bud_pos (by omega)]; omega), hB⟩
mutual
theorem szEntry_any : ∀ (x : FEntry), x.ok → SzEntry x
  | .mk a0 a1, hw => by
    have hw2 := hw
    unfold FEntry.ok at hw2
    have k0 := szKey_any a0 hw2.1
    have k1 := szValue_any a1 hw2.2
    obtain ⟨b0_0, b0_1, b0_2⟩ := a0
    obtain ⟨b1_0, b1_1, b1_2, b1_3, b1_4⟩ := a1
    exact szEntry_of b0_0 b0_1 b0_2 b1_0 b1_1 b1_2 b1_3 b1_4 hw k0 k1
theorem szValue_any : ∀ (x : FValue), x.ok → SzValue x
  | .mk a0 a1 a2 a3 a4, hw => by
    have hw2 := hw
    unfold FValue.ok at hw2
    exact szValue_of a0 a1 a2 a3 a4 hw (szEntryS_of a4 (szEntry_all a4 hw2.2))
theorem szEntry_all : ∀ (l : List FEntry), FEntry.oks l → ∀ x, x ∈ l → SzEntry x
  | [], _, x, hx => by cases hx
  | y :: r, hw, x, hx => by
    unfold FEntry.oks at hw
    rcases List.mem_cons.1 hx with e | hx
    · rw [e]
      exact szEntry_any y hw.1
    · exact szEntry_all r hw.2 x hx
end
theorem szEntryS_any (l : List FEntry) (hw : FEntry.oks l) : SzEntryS l := (szEntryS_of l (szEntry_all l hw))
def SzBinding (x : FBinding) : Prop := ∀ (us : List Value) (left : Int) (w : World) (B : Nat), 0 ≤ left → left ≤ 1048576 → B ≤ w.heap.size → RdVs w B x.c us → Calls Tryd.prog 32 #[.agg us.toArray, .int .i64 left] w fun e w' => e = .returned (.int .i64 (bud left x.wt)) ∧ Below w.heap.size w w'
def SzBindingS (l : List FBinding) : Prop := ∀ (u : Value) (left : Int) (w : World) (B : Nat), 0 ≤ left → left ≤ 1048576 → B ≤ w.heap.size → RdC w B (.s 60 6 l.length (FBinding.flat l)) u → Calls Tryd.prog 12 #[u, .int .i64 left] w fun e w' => e = .returned (.int .i64 (bud left (l.length + FBinding.wts l))) ∧ Below w.heap.size w w'
set_option maxHeartbeats 1000000 in
theorem szBinding_of (z0 : ByteArray) (z1 : Int) (z2 : Int) (z3 : ByteArray) (z4 : Int) (z5 : List FEntry) (hok : FBinding.ok ⟨z0, ⟨z1, z2, z3, z4, z5⟩⟩) (h1 : SzValue ⟨z1, z2, z3, z4, z5⟩) : SzBinding ⟨z0, ⟨z1, z2, z3, z4, z5⟩⟩ := by
  intro us left w B hl0 hl1 hB0 hr
  rw [FBinding.c_eq] at hr
  rw [FBinding.wt_eq]
  rw [FBinding.ok_eq] at hok
  obtain ⟨us0, rfl, hr_0⟩ := hr.unv
  obtain ⟨us1, rfl, hr_1⟩ := hr_0.unv
  obtain ⟨us2, rfl, hr_2⟩ := hr_1.unv
  obtain ⟨us3, rfl, hr_3⟩ := hr_2.unv
  obtain ⟨us4, rfl, hr_4⟩ := hr_3.unv
  obtain ⟨A5, c5, us5, rfl, r5, hr_5⟩ := hr_4.uns
  obtain rfl := hr_5.un0
  clear hr hr_0 hr_1 hr_2 hr_3 hr_4 hr_5
  have R5 := Lib.hid r5
  clear r5
  have H1 := Lib.hid h1
  clear h1
  have ks0 := hok.1
  have ks3 := hok.2.1
  clear hok
  obtain ⟨W, hW⟩ : ∃ W : Nat, W = z0.size + z3.size + (z5.length + FEntry.wts z5) := ⟨_, rfl⟩
  rw [← hW]
  have HW := Lib.hid hW
  clear hW
  by_cases c0 : left - z0.size < 0
  case pos =>
    go_enter Tryd.func32, Tryd.ntmps32
    go_wp2_with fail
    go_ret
    exact ⟨ret_int (by rw [bud_neg (by have := HW.out; have := FValue.wt_eq z1 z2 z3 z4 z5; omega)]), (Below.refl _ _).alloc (Nat.le_refl _) _⟩
  go_enter Tryd.func32, Tryd.ntmps32
  go_wp2_with fail
  refine calls_worldD _ (fun X => Blk X w.heap.size 58 #[.string z0, .int .i64 z1, .int .i64 z2, .string z3, .int .i64 z4, .slice A5 z5.length c5] ∧ Below w.heap.size w X) ⟨Blk.new w _ _, (Below.refl _ _).alloc (Nat.le_refl _) _⟩ ?_
  rintro X0 ⟨ba, hB⟩
  have s0 := ba.lt
  refine (H1.out [.int .i64 z1, .int .i64 z2, .string z3, .int .i64 z4, .slice A5 z5.length c5] _ _ B (by omega) (by omega) (by omega) (by rw [FValue.c_eq]; exact (RdVs.cons (by unfold RdC; rfl) (RdVs.cons (by unfold RdC; rfl) (RdVs.cons (by unfold RdC; rfl) (RdVs.cons (by unfold RdC; rfl) (RdVs.cons (R5.out.below hB hB0) (RdVs.nil _ _)))))))).mono ?_
  generalize hq0 : (FValue.wt ⟨z1, z2, z3, z4, z5⟩ : Nat) = q0 at *
  have Q0 := Lib.hid hq0
  clear hq0
  rintro e Y0 ⟨rfl, hb⟩
  replace ba := ba.below hb (Nat.le_refl _)
  replace hB := hB.trans (hb.mono (by omega))
  clear hb
  by_cases f0 : (q0 : Int) ≤ left - z0.size
  case neg =>
    have e0 := bud_neg f0
    rw [e0]
    clear e0
    have ba_l := ba.lt
    go_wp2_with fail
    go_ret
    exact ⟨ret_int (by rw [bud_neg (by have := HW.out; have := Q0.out; have := FValue.wt_eq z1 z2 z3 z4 z5; omega)]), hB⟩
  have e0 := bud_pos f0
  rw [e0]
  clear e0
  have ba_l := ba.lt
  go_wp2_with fail
  go_ret
  exact ⟨ret_int (by have := HW.out; have := Q0.out; have := FValue.wt_eq z1 z2 z3 z4 z5; rw [bud_pos (by omega)]; omega), hB⟩
set_option maxHeartbeats 1000000 in
theorem szBindingS_of (l : List FBinding) (he : ∀ x, x ∈ l → SzBinding x) : SzBindingS l := by
  intro u left w B hl0 hl1 hB0 hr0
  have hr := hr0.up hB0
  clear hr0
  obtain ⟨A, c, rfl⟩ := hr.form
  have HC := Lib.hid hr
  have hcap := hr.cap
  have hcm : l.length ≤ 9223372036854775807 := by unfold maxLen at hcap; omega
  have HE := Lib.hid he
  clear hr hcap he
  by_cases hfit : left - l.length < 0
  · go_enter Tryd.func12, Tryd.ntmps12
    go_wp2_with fail
    go_ret
    exact ⟨ret_int (by rw [bud_neg (by omega)]), Below.refl _ _⟩
  go_enter Tryd.func12, Tryd.ntmps12
  go_wp2_with fail
  go_loopw [1, 5] (fun lv i wr => ∃ k : Nat, k ≤ l.length ∧ i = .int .i64 k ∧ lv = .int .i64 (left - l.length - (FBinding.wts (l.take k) : Nat)) ∧ ((FBinding.wts (l.take k) : Nat) : Int) ≤ left - l.length ∧ Below w.heap.size w wr) (fun _ i _ => l.length - (intOf i).toNat)
  case atStart => exact ⟨0, Nat.zero_le _, rfl, by simp [FBinding.wts], by simp [FBinding.wts]; omega, Below.refl _ _⟩
  case round =>
    obtain ⟨k, hk, rfl, rfl, hw, hb⟩ := hrel
    by_cases hlt : k < l.length
    · obtain ⟨x, hx⟩ : ∃ x, l[k]? = some x := ⟨_, List.getElem?_eq_getElem hlt⟩
      obtain ⟨bc, offc, rfl, hblc, hcc⟩ := RdC.at_ FBinding.len HC.out hx
      have HZ := Lib.hid (HE.out x (List.mem_of_getElem? hx))
      have HT := Lib.hid (FBinding.wts_take l k x hx)
      have HL := Lib.hid (FBinding.wts_le l (k + 1))
      clear hx
      obtain ⟨z0, ⟨z1, z2, z3, z4, z5⟩⟩ := x
      rw [FBinding.c_eq] at hcc
      obtain ⟨u0, e0, q0⟩ := hcc 0 _ rfl
      obtain rfl := q0.val
      clear q0
      have c_0 : wr.cell? ⟨bc, offc + k * 6, none⟩ = some (.string z0) := (hb.cell (p := ⟨bc, _, none⟩) hblc).trans (by simpa using e0)
      obtain ⟨u1, e1, q1⟩ := hcc 1 _ rfl
      obtain rfl := q1.val
      clear q1
      have c_1 : wr.cell? ⟨bc, offc + k * 6 + 1, none⟩ = some (.int .i64 z1) := (hb.cell (p := ⟨bc, _, none⟩) hblc).trans (by simpa using e1)
      obtain ⟨u2, e2, q2⟩ := hcc 2 _ rfl
      obtain rfl := q2.val
      clear q2
      have c_2 : wr.cell? ⟨bc, offc + k * 6 + 2, none⟩ = some (.int .i64 z2) := (hb.cell (p := ⟨bc, _, none⟩) hblc).trans (by simpa using e2)
      obtain ⟨u3, e3, q3⟩ := hcc 3 _ rfl
      obtain rfl := q3.val
      clear q3
      have c_3 : wr.cell? ⟨bc, offc + k * 6 + 3, none⟩ = some (.string z3) := (hb.cell (p := ⟨bc, _, none⟩) hblc).trans (by simpa using e3)
      obtain ⟨u4, e4, q4⟩ := hcc 4 _ rfl
      obtain rfl := q4.val
      clear q4
      have c_4 : wr.cell? ⟨bc, offc + k * 6 + 4, none⟩ = some (.int .i64 z4) := (hb.cell (p := ⟨bc, _, none⟩) hblc).trans (by simpa using e4)
      obtain ⟨u5, e5, q5⟩ := hcc 5 _ rfl
      obtain ⟨A5, c5, rfl⟩ := q5.form
      have R5 := Lib.hid q5
      clear q5
      have c_5 : wr.cell? ⟨bc, offc + k * 6 + 5, none⟩ = some (.slice A5 z5.length c5) := (hb.cell (p := ⟨bc, _, none⟩) hblc).trans (by simpa using e5)
      clear hcc e0 e1 e2 e3 e4 e5
      generalize hu : FBinding.wts (l.take k) = U at *
      have HU := Lib.hid hu
      clear hu
      generalize hv : FBinding.wt ⟨z0, ⟨z1, z2, z3, z4, z5⟩⟩ = V at *
      have HV := Lib.hid hv
      clear hv
      by_cases hf : (V : Int) ≤ left - l.length - U
      · have hbp : 0 ≤ bud (left - l.length - U) V := by rw [bud_pos hf]; omega
        have HBP := Lib.hid (bud_pos hf)
        go_wp2_with fail
        refine (HZ.out [.string z0, .int .i64 z1, .int .i64 z2, .string z3, .int .i64 z4, .slice A5 z5.length c5] _ _ w.heap.size (by omega) (by omega) (by have := hb.size; omega) (by rw [FBinding.c_eq]; exact (RdVs.cons (by unfold RdC; rfl) (RdVs.cons (by unfold RdC; rfl) (RdVs.cons (by unfold RdC; rfl) (RdVs.cons (by unfold RdC; rfl) (RdVs.cons (by unfold RdC; rfl) (RdVs.cons (R5.out.below hb (Nat.le_refl _)) (RdVs.nil _ _))))))))).mono ?_
        rw [HV.out]
        rintro e w2 ⟨rfl, hb2⟩
        go_wp2_with fail
        go_roundw
        case rel =>
          have e := HT.out
          have e9 := HV.out
          rw [← HU.out] at *
          refine ⟨k + 1, by omega, by go_num, ?_, by rw [e, HU.out]; omega, hb.trans (hb2.mono hb.size)⟩
          rw [HBP.out, e, HU.out]
          congr 1
          omega
        case measure => simp [intOf]; omega
      · have hbp : bud (left - l.length - U) V = -1 := bud_neg hf
        have hbn : bud (left - l.length - U) V < 0 := by rw [hbp]; omega
        clear hbp
        go_wp2_with fail
        refine (HZ.out [.string z0, .int .i64 z1, .int .i64 z2, .string z3, .int .i64 z4, .slice A5 z5.length c5] _ _ w.heap.size (by omega) (by omega) (by have := hb.size; omega) (by rw [FBinding.c_eq]; exact (RdVs.cons (by unfold RdC; rfl) (RdVs.cons (by unfold RdC; rfl) (RdVs.cons (by unfold RdC; rfl) (RdVs.cons (by unfold RdC; rfl) (RdVs.cons (by unfold RdC; rfl) (RdVs.cons (R5.out.below hb (Nat.le_refl _)) (RdVs.nil _ _))))))))).mono ?_
        rw [HV.out]
        rintro e w2 ⟨rfl, hb2⟩
        go_wp2_with fail
        go_ret
        refine ⟨ret_int ?_, hb.trans (hb2.mono hb.size)⟩
        have e := HT.out
        have e2 := HL.out
        have e3 := HU.out
        have e4 := HV.out
        rw [bud_neg (by omega)]
    · obtain rfl : k = l.length := by omega
      clear hlt
      go_wp2_with fail
      go_ret
      refine ⟨ret_int ?_, hb⟩
      rw [List.take_length] at *
      rw [bud_pos (by omega)]
      omega
theorem szBinding_any (x : FBinding) (hw : x.ok) : SzBinding x := by
  obtain ⟨z0, ⟨z1, z2, z3, z4, z5⟩⟩ := x
  have hw2 := hw
  rw [FBinding.ok_eq] at hw2
  exact szBinding_of z0 z1 z2 z3 z4 z5 hw (szValue_any _ (by rw [FValue.ok_eq]; exact ⟨hw2.2.1, hw2.2.2⟩))
theorem szBindingS_any (l : List FBinding) (hw : FBinding.oks l) : SzBindingS l := (szBindingS_of l (fun x hx => szBinding_any x (FBinding.oks_mem l hw x hx)))
end Go.Proofs.YtgbeenieacnanaaDoor
