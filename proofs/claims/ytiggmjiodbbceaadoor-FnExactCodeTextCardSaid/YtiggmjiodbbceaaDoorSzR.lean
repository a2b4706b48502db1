/-
  string, int, Ins, Param, Func: the sizes that the laws reckon. Conditions: none.
-/
import Derived.Test.YtiggmjiodbbceaaDoorDataR
namespace Go.Proofs.YtiggmjiodbbceaaDoor
open Go.ChangeShapes Go.WideShapes Go.ChangeAt Go.RowKit Go.Deep Go.Joins
open Go.ChangeMaps (open_string shut_string)
set_option linter.unusedVariables false
set_option linter.unusedSimpArgs false
set_option maxRecDepth 100000
def SzStringS (l : List FStr) : Prop := ∀ (u : Value) (left : Int) (w : World) (B : Nat), 0 ≤ left → left ≤ 1048576 → B ≤ w.heap.size → RdC w B (.s 9 1 l.length (FStr.flat l)) u → Calls Tryd.prog 47 #[u, .int .i64 left] w fun e w' => e = .returned (.int .i64 (bud left (l.length + FStr.wts l))) ∧ Below w.heap.size w w'
set_option maxHeartbeats 1000000 in
theorem szStringS_of (l : List FStr) (hok : FStr.oks l) : SzStringS l := by
  intro u left w B hl0 hl1 hB0 hr0
  have hr := hr0.up hB0
  clear hr0
  obtain ⟨A, c, rfl⟩ := hr.form
  have HC := Lib.hid hr
  have hcap := hr.cap
  have hcm : l.length ≤ 9223372036854775807 := by unfold maxLen at hcap; omega
  have HOK := Lib.hid hok
  clear hr hcap hok
  by_cases hfit : left - l.length < 0
  · go_enter Tryd.func47, Tryd.ntmps47
    go_wp2_with fail
    go_ret
    exact ⟨ret_int (by rw [bud_neg (by omega)]), Below.refl _ _⟩
  go_enter Tryd.func47, Tryd.ntmps47
  go_wp2_with fail
  go_loopw [1, 5] (fun lv i wr => ∃ k : Nat, k ≤ l.length ∧ i = .int .i64 k ∧ lv = .int .i64 (left - l.length - (FStr.wts (l.take k) : Nat)) ∧ ((FStr.wts (l.take k) : Nat) : Int) ≤ left - l.length ∧ Below w.heap.size w wr) (fun _ i _ => l.length - (intOf i).toNat)
  case atStart => exact ⟨0, Nat.zero_le _, rfl, by simp [FStr.wts], by simp [FStr.wts]; omega, Below.refl _ _⟩
  case round =>
    obtain ⟨k, hk, rfl, rfl, hw, hb⟩ := hrel
    by_cases hlt : k < l.length
    · obtain ⟨x, hx⟩ : ∃ x, l[k]? = some x := ⟨_, List.getElem?_eq_getElem hlt⟩
      obtain ⟨bc, offc, rfl, hblc, hcc⟩ := RdC.at_ FStr.len HC.out hx
      have hxo := FStr.oks_mem l HOK.out x (List.mem_of_getElem? hx)
      have HT := Lib.hid (FStr.wts_take l k x hx)
      have HL := Lib.hid (FStr.wts_le l (k + 1))
      clear hx
      obtain ⟨z0⟩ := x
      rw [FStr.c_eq] at hcc
      rw [FStr.ok_eq] at hxo
      obtain ⟨u0, e0, q0⟩ := hcc 0 _ rfl
      obtain rfl := q0.val
      clear q0
      have c_0 : wr.cell? ⟨bc, offc + k, none⟩ = some (.string z0) := (hb.cell (p := ⟨bc, _, none⟩) hblc).trans (by simpa using e0)
      clear hcc e0
      generalize hu : FStr.wts (l.take k) = U at *
      have HU := Lib.hid hu
      clear hu
      have HV := Lib.hid (FStr.wt_eq z0)
      by_cases hf : left - l.length - U - z0.size < 0
      · go_wp2_with fail
        go_ret
        refine ⟨ret_int ?_, hb⟩
        have e := HT.out
        have e2 := HL.out
        have e3 := HU.out
        have e4 := HV.out
        rw [bud_neg (by omega)]
      · go_wp2_with fail
        go_roundw
        case rel =>
          have e := HT.out
          have e4 := HV.out
          rw [← HU.out] at *
          refine ⟨k + 1, by omega, by go_num, ?_, by rw [e, HU.out, e4]; omega, hb⟩
          rw [e, HU.out, e4]
          congr 1
          omega
        case measure => simp [intOf]; omega
    · obtain rfl : k = l.length := by omega
      clear hlt
      go_wp2_with fail
      go_ret
      refine ⟨ret_int ?_, hb⟩
      rw [List.take_length] at *
      rw [bud_pos (by omega)]
      omega
theorem szStringS_any (l : List FStr) (hw : FStr.oks l) : SzStringS l := (szStringS_of l hw)
def SzIns (x : FIns) : Prop := ∀ (us : List Value) (left : Int) (w : World) (B : Nat), 0 ≤ left → left ≤ 1048576 → B ≤ w.heap.size → RdVs w B x.c us → Calls Tryd.prog 9 #[.agg us.toArray, .int .i64 left] w fun e w' => e = .returned (.int .i64 (bud left x.wt)) ∧ Below w.heap.size w w'
def SzInsS (l : List FIns) : Prop := ∀ (u : Value) (left : Int) (w : World) (B : Nat), 0 ≤ left → left ≤ 1048576 → B ≤ w.heap.size → RdC w B (.s 28 5 l.length (FIns.flat l)) u → Calls Tryd.prog 48 #[u, .int .i64 left] w fun e w' => e = .returned (.int .i64 (bud left (l.length + FIns.wts l))) ∧ Below w.heap.size w w'
set_option maxHeartbeats 1000000 in
theorem szIns_of (z0 : Int) (z1 : Int) (z2 : Int) (z3 : ByteArray) (z4 : ByteArray) (hok : FIns.ok ⟨z0, z1, z2, z3, z4⟩)  : SzIns ⟨z0, z1, z2, z3, z4⟩ := by
  intro us left w B hl0 hl1 hB0 hr
  rw [FIns.c_eq] at hr
  rw [FIns.wt_eq]
  rw [FIns.ok_eq] at hok
  replace hok := hok.1
  obtain ⟨us0, rfl, hr_0⟩ := hr.unv
  obtain ⟨us1, rfl, hr_1⟩ := hr_0.unv
  obtain ⟨us2, rfl, hr_2⟩ := hr_1.unv
  obtain ⟨us3, rfl, hr_3⟩ := hr_2.unv
  obtain ⟨us4, rfl, hr_4⟩ := hr_3.unv
  obtain rfl := hr_4.un0
  clear hr hr_0 hr_1 hr_2 hr_3 hr_4
  have ks3 := hok.1
  have ks4 := hok.2
  clear hok
  obtain ⟨W, hW⟩ : ∃ W : Nat, W = z3.size + z4.size := ⟨_, rfl⟩
  rw [← hW]
  have HW := Lib.hid hW
  clear hW
  by_cases c3 : left - z3.size < 0
  case pos =>
    go_enter Tryd.func9, Tryd.ntmps9
    go_wp2_with fail
    go_ret
    exact ⟨ret_int (by rw [bud_neg (by have := HW.out; omega)]), (Below.refl _ _).alloc (Nat.le_refl _) _⟩
  by_cases c4 : left - z3.size - z4.size < 0
  case pos =>
    go_enter Tryd.func9, Tryd.ntmps9
    go_wp2_with fail
    go_ret
    exact ⟨ret_int (by rw [bud_neg (by have := HW.out; omega)]), (Below.refl _ _).alloc (Nat.le_refl _) _⟩
  go_enter Tryd.func9, Tryd.ntmps9
  go_wp2_with fail
  go_ret
  exact ⟨ret_int (by have := HW.out; rw [bud_pos (by omega)]; omega), (Below.refl _ _).alloc (Nat.le_refl _) _⟩
set_option maxHeartbeats 1000000 in
theorem szInsS_of (l : List FIns) (he : ∀ x, x ∈ l → SzIns x) : SzInsS l := by
  intro u left w B hl0 hl1 hB0 hr0
  have hr := hr0.up hB0
  clear hr0
  obtain ⟨A, c, rfl⟩ := hr.form
  have HC := Lib.hid hr
  have hcap := hr.cap
  have hcm : l.length ≤ 9223372036854775807 := by unfold maxLen at hcap; omega
  have HE := Lib.hid he
  clear hr hcap he
  by_cases hfit : left - l.length < 0
  · go_enter Tryd.func48, Tryd.ntmps48
    go_wp2_with fail
    go_ret
    exact ⟨ret_int (by rw [bud_neg (by omega)]), Below.refl _ _⟩
  go_enter Tryd.func48, Tryd.ntmps48
  go_wp2_with fail
  go_loopw [1, 5] (fun lv i wr => ∃ k : Nat, k ≤ l.length ∧ i = .int .i64 k ∧ lv = .int .i64 (left - l.length - (FIns.wts (l.take k) : Nat)) ∧ ((FIns.wts (l.take k) : Nat) : Int) ≤ left - l.length ∧ Below w.heap.size w wr) (fun _ i _ => l.length - (intOf i).toNat)
  case atStart => exact ⟨0, Nat.zero_le _, rfl, by simp [FIns.wts], by simp [FIns.wts]; omega, Below.refl _ _⟩
  case round =>
    obtain ⟨k, hk, rfl, rfl, hw, hb⟩ := hrel
    by_cases hlt : k < l.length
    · obtain ⟨x, hx⟩ : ∃ x, l[k]? = some x := ⟨_, List.getElem?_eq_getElem hlt⟩
      obtain ⟨bc, offc, rfl, hblc, hcc⟩ := RdC.at_ FIns.len HC.out hx
      have HZ := Lib.hid (HE.out x (List.mem_of_getElem? hx))
      have HT := Lib.hid (FIns.wts_take l k x hx)
      have HL := Lib.hid (FIns.wts_le l (k + 1))
      clear hx
      obtain ⟨z0, z1, z2, z3, z4⟩ := x
      rw [FIns.c_eq] at hcc
      obtain ⟨u0, e0, q0⟩ := hcc 0 _ rfl
      obtain rfl := q0.val
      clear q0
      have c_0 : wr.cell? ⟨bc, offc + k * 5, none⟩ = some (.int .i64 z0) := (hb.cell (p := ⟨bc, _, none⟩) hblc).trans (by simpa using e0)
      obtain ⟨u1, e1, q1⟩ := hcc 1 _ rfl
      obtain rfl := q1.val
      clear q1
      have c_1 : wr.cell? ⟨bc, offc + k * 5 + 1, none⟩ = some (.int .i64 z1) := (hb.cell (p := ⟨bc, _, none⟩) hblc).trans (by simpa using e1)
      obtain ⟨u2, e2, q2⟩ := hcc 2 _ rfl
      obtain rfl := q2.val
      clear q2
      have c_2 : wr.cell? ⟨bc, offc + k * 5 + 2, none⟩ = some (.int .i64 z2) := (hb.cell (p := ⟨bc, _, none⟩) hblc).trans (by simpa using e2)
      obtain ⟨u3, e3, q3⟩ := hcc 3 _ rfl
      obtain rfl := q3.val
      clear q3
      have c_3 : wr.cell? ⟨bc, offc + k * 5 + 3, none⟩ = some (.string z3) := (hb.cell (p := ⟨bc, _, none⟩) hblc).trans (by simpa using e3)
      obtain ⟨u4, e4, q4⟩ := hcc 4 _ rfl
      obtain rfl := q4.val
      clear q4
      have c_4 : wr.cell? ⟨bc, offc + k * 5 + 4, none⟩ = some (.string z4) := (hb.cell (p := ⟨bc, _, none⟩) hblc).trans (by simpa using e4)
      clear hcc e0 e1 e2 e3 e4
      generalize hu : FIns.wts (l.take k) = U at *
      have HU := Lib.hid hu
      clear hu
      generalize hv : FIns.wt ⟨z0, z1, z2, z3, z4⟩ = V at *
      have HV := Lib.hid hv
      clear hv
      by_cases hf : (V : Int) ≤ left - l.length - U
      · have hbp : 0 ≤ bud (left - l.length - U) V := by rw [bud_pos hf]; omega
        have HBP := Lib.hid (bud_pos hf)
        go_wp2_with fail
        refine (HZ.out [.int .i64 z0, .int .i64 z1, .int .i64 z2, .string z3, .string z4] _ _ w.heap.size (by omega) (by omega) (by have := hb.size; omega) (by rw [FIns.c_eq]; exact (RdVs.cons (by unfold RdC; rfl) (RdVs.cons (by unfold RdC; rfl) (RdVs.cons (by unfold RdC; rfl) (RdVs.cons (by unfold RdC; rfl) (RdVs.cons (by unfold RdC; rfl) (RdVs.nil _ _)))))))).mono ?_
        rw [HV.out]
        rintro e w2 ⟨rfl, hb2⟩
        go_wp2_with fail
        go_roundw
        case rel =>
          have e := HT.out
          have e9 := HV.out
          rw [← HU.out] at *
          refine ⟨k + 1, by omega, by go_num, ?_, by rw [e, HU.out]; omega, hb.trans (hb2.mono hb.size)⟩
          rw [HBP.out, e, HU.out]
          congr 1
          omega
        case measure => simp [intOf]; omega
      · have hbp : bud (left - l.length - U) V = -1 := bud_neg hf
        have hbn : bud (left - l.length - U) V < 0 := by rw [hbp]; omega
        clear hbp
        go_wp2_with fail
        refine (HZ.out [.int .i64 z0, .int .i64 z1, .int .i64 z2, .string z3, .string z4] _ _ w.heap.size (by omega) (by omega) (by have := hb.size; omega) (by rw [FIns.c_eq]; exact (RdVs.cons (by unfold RdC; rfl) (RdVs.cons (by unfold RdC; rfl) (RdVs.cons (by unfold RdC; rfl) (RdVs.cons (by unfold RdC; rfl) (RdVs.cons (by unfold RdC; rfl) (RdVs.nil _ _)))))))).mono ?_
        rw [HV.out]
        rintro e w2 ⟨rfl, hb2⟩
        go_wp2_with fail
        go_ret
        refine ⟨ret_int ?_, hb.trans (hb2.mono hb.size)⟩
        have e := HT.out
        have e2 := HL.out
        have e3 := HU.out
        have e4 := HV.out
        rw [bud_neg (by omega)]
    · obtain rfl : k = l.length := by omega
      clear hlt
      go_wp2_with fail
      go_ret
      refine ⟨ret_int ?_, hb⟩
      rw [List.take_length] at *
      rw [bud_pos (by omega)]
      omega
theorem szIns_any (x : FIns) (hw : x.ok) : SzIns x := by
  obtain ⟨z0, z1, z2, z3, z4⟩ := x
  have hw2 := hw
  rw [FIns.ok_eq] at hw2
  replace hw2 := hw2.1
  exact szIns_of z0 z1 z2 z3 z4 hw 
theorem szInsS_any (l : List FIns) (hw : FIns.oks l) : SzInsS l := (szInsS_of l (fun x hx => szIns_any x (FIns.oks_mem l hw x hx)))
def SzParam (x : FParam) : Prop := ∀ (us : List Value) (left : Int) (w : World) (B : Nat), 0 ≤ left → left ≤ 1048576 → B ≤ w.heap.size → RdVs w B x.c us → Calls Tryd.prog 69 #[.agg us.toArray, .int .i64 left] w fun e w' => e = .returned (.int .i64 (bud left x.wt)) ∧ Below w.heap.size w w'
def SzParamS (l : List FParam) : Prop := ∀ (u : Value) (left : Int) (w : World) (B : Nat), 0 ≤ left → left ≤ 1048576 → B ≤ w.heap.size → RdC w B (.s 90 2 l.length (FParam.flat l)) u → Calls Tryd.prog 46 #[u, .int .i64 left] w fun e w' => e = .returned (.int .i64 (bud left (l.length + FParam.wts l))) ∧ Below w.heap.size w w'
set_option maxHeartbeats 1000000 in
theorem szParam_of (z0 : ByteArray) (z1 : Bool) (hok : FParam.ok ⟨z0, z1⟩)  : SzParam ⟨z0, z1⟩ := by
  intro us left w B hl0 hl1 hB0 hr
  rw [FParam.c_eq] at hr
  rw [FParam.wt_eq]
  rw [FParam.ok_eq] at hok
  obtain ⟨us0, rfl, hr_0⟩ := hr.unv
  obtain ⟨us1, rfl, hr_1⟩ := hr_0.unv
  obtain rfl := hr_1.un0
  clear hr hr_0 hr_1
  have ks0 := hok
  clear hok
  obtain ⟨W, hW⟩ : ∃ W : Nat, W = z0.size := ⟨_, rfl⟩
  rw [← hW]
  have HW := Lib.hid hW
  clear hW
  by_cases c0 : left - z0.size < 0
  case pos =>
    go_enter Tryd.func69, Tryd.ntmps69
    go_wp2_with fail
    go_ret
    exact ⟨ret_int (by rw [bud_neg (by have := HW.out; omega)]), (Below.refl _ _).alloc (Nat.le_refl _) _⟩
  go_enter Tryd.func69, Tryd.ntmps69
  go_wp2_with fail
  go_ret
  exact ⟨ret_int (by have := HW.out; rw [bud_pos (by omega)]; omega), (Below.refl _ _).alloc (Nat.le_refl _) _⟩
set_option maxHeartbeats 1000000 in
theorem szParamS_of (l : List FParam) (he : ∀ x, x ∈ l → SzParam x) : SzParamS l := by
  intro u left w B hl0 hl1 hB0 hr0
  have hr := hr0.up hB0
  clear hr0
  obtain ⟨A, c, rfl⟩ := hr.form
  have HC := Lib.hid hr
  have hcap := hr.cap
  have hcm : l.length ≤ 9223372036854775807 := by unfold maxLen at hcap; omega
  have HE := Lib.hid he
  clear hr hcap he
  by_cases hfit : left - l.length < 0
  · go_enter Tryd.func46, Tryd.ntmps46
    go_wp2_with fail
    go_ret
    exact ⟨ret_int (by rw [bud_neg (by omega)]), Below.refl _ _⟩
  go_enter Tryd.func46, Tryd.ntmps46
  go_wp2_with fail
  go_loopw [1, 5] (fun lv i wr => ∃ k : Nat, k ≤ l.length ∧ i = .int .i64 k ∧ lv = .int .i64 (left - l.length - (FParam.wts (l.take k) : Nat)) ∧ ((FParam.wts (l.take k) : Nat) : Int) ≤ left - l.length ∧ Below w.heap.size w wr) (fun _ i _ => l.length - (intOf i).toNat)
  case atStart => exact ⟨0, Nat.zero_le _, rfl, by simp [FParam.wts], by simp [FParam.wts]; omega, Below.refl _ _⟩
  case round =>
    obtain ⟨k, hk, rfl, rfl, hw, hb⟩ := hrel
    by_cases hlt : k < l.length
    · obtain ⟨x, hx⟩ : ∃ x, l[k]? = some x := ⟨_, List.getElem?_eq_getElem hlt⟩
      obtain ⟨bc, offc, rfl, hblc, hcc⟩ := RdC.at_ FParam.len HC.out hx
      have HZ := Lib.hid (HE.out x (List.mem_of_getElem? hx))
      have HT := Lib.hid (FParam.wts_take l k x hx)
      have HL := Lib.hid (FParam.wts_le l (k + 1))
      clear hx
      obtain ⟨z0, z1⟩ := x
      rw [FParam.c_eq] at hcc
      obtain ⟨u0, e0, q0⟩ := hcc 0 _ rfl
      obtain rfl := q0.val
      clear q0
      have c_0 : wr.cell? ⟨bc, offc + k * 2, none⟩ = some (.string z0) := (hb.cell (p := ⟨bc, _, none⟩) hblc).trans (by simpa using e0)
      obtain ⟨u1, e1, q1⟩ := hcc 1 _ rfl
      obtain rfl := q1.val
      clear q1
      have c_1 : wr.cell? ⟨bc, offc + k * 2 + 1, none⟩ = some (.bool z1) := (hb.cell (p := ⟨bc, _, none⟩) hblc).trans (by simpa using e1)
      clear hcc e0 e1
      generalize hu : FParam.wts (l.take k) = U at *
      have HU := Lib.hid hu
      clear hu
      generalize hv : FParam.wt ⟨z0, z1⟩ = V at *
      have HV := Lib.hid hv
      clear hv
      by_cases hf : (V : Int) ≤ left - l.length - U
      · have hbp : 0 ≤ bud (left - l.length - U) V := by rw [bud_pos hf]; omega
        have HBP := Lib.hid (bud_pos hf)
        go_wp2_with fail
        refine (HZ.out [.string z0, .bool z1] _ _ w.heap.size (by omega) (by omega) (by have := hb.size; omega) (by rw [FParam.c_eq]; exact (RdVs.cons (by unfold RdC; rfl) (RdVs.cons (by unfold RdC; rfl) (RdVs.nil _ _))))).mono ?_
        rw [HV.out]
        rintro e w2 ⟨rfl, hb2⟩
        go_wp2_with fail
        go_roundw
        case rel =>
          have e := HT.out
          have e9 := HV.out
          rw [← HU.out] at *
          refine ⟨k + 1, by omega, by go_num, ?_, by rw [e, HU.out]; omega, hb.trans (hb2.mono hb.size)⟩
          rw [HBP.out, e, HU.out]
          congr 1
          omega
        case measure => simp [intOf]; omega
      · have hbp : bud (left - l.length - U) V = -1 := bud_neg hf
        have hbn : bud (left - l.length - U) V < 0 := by rw [hbp]; omega
        clear hbp
        go_wp2_with fail
        refine (HZ.out [.string z0, .bool z1] _ _ w.heap.size (by omega) (by omega) (by have := hb.size; omega) (by rw [FParam.c_eq]; exact (RdVs.cons (by unfold RdC; rfl) (RdVs.cons (by unfold RdC; rfl) (RdVs.nil _ _))))).mono ?_
        rw [HV.out]
        rintro e w2 ⟨rfl, hb2⟩
        go_wp2_with fail
        go_ret
        refine ⟨ret_int ?_, hb.trans (hb2.mono hb.size)⟩
        have e := HT.out
        have e2 := HL.out
        have e3 := HU.out
        have e4 := HV.out
        rw [bud_neg (by omega)]
    · obtain rfl : k = l.length := by omega
      clear hlt
      go_wp2_with fail
      go_ret
      refine ⟨ret_int ?_, hb⟩
      rw [List.take_length] at *
      rw [bud_pos (by omega)]
      omega
theorem szParam_any (x : FParam) (hw : x.ok) : SzParam x := by
  obtain ⟨z0, z1⟩ := x
  have hw2 := hw
  rw [FParam.ok_eq] at hw2
  exact szParam_of z0 z1 hw 
theorem szParamS_any (l : List FParam) (hw : FParam.oks l) : SzParamS l := (szParamS_of l (fun x hx => szParam_any x (FParam.oks_mem l hw x hx)))
def SzFunc (x : FFunc) : Prop := ∀ (us : List Value) (left : Int) (w : World) (B : Nat), 0 ≤ left → left ≤ 1048576 → B ≤ w.heap.size → RdVs w B x.c us → Calls Tryd.prog 22 #[.agg us.toArray, .int .i64 left] w fun e w' => e = .returned (.int .i64 (bud left x.wt)) ∧ Below w.heap.size w w'
set_option maxHeartbeats 1000000 in
theorem szFunc_of (z0 : ByteArray) (z1 : List FParam) (z2 : List FParam) (z3 : List FStr) (z4 : Bool) (z5 : List FIns) (hok : FFunc.ok ⟨z0, z1, z2, z3, z4, z5⟩) (h1 : SzParamS z1) (h2 : SzParamS z2) (h3 : SzStringS z3) (h5 : SzInsS z5) : SzFunc ⟨z0, z1, z2, z3, z4, z5⟩ := by
  intro us left w B hl0 hl1 hB0 hr
  rw [FFunc.c_eq] at hr
  rw [FFunc.wt_eq]
  rw [FFunc.ok_eq] at hok
  obtain ⟨us0, rfl, hr_0⟩ := hr.unv
  obtain ⟨A1, c1, us1, rfl, r1, hr_1⟩ := hr_0.uns
  obtain ⟨A2, c2, us2, rfl, r2, hr_2⟩ := hr_1.uns
  obtain ⟨A3, c3, us3, rfl, r3, hr_3⟩ := hr_2.uns
  obtain ⟨us4, rfl, hr_4⟩ := hr_3.unv
  obtain ⟨A5, c5, us5, rfl, r5, hr_5⟩ := hr_4.uns
  obtain rfl := hr_5.un0
  clear hr hr_0 hr_1 hr_2 hr_3 hr_4 hr_5
  have R1 := Lib.hid r1
  clear r1
  have R2 := Lib.hid r2
  clear r2
  have R3 := Lib.hid r3
  clear r3
  have R5 := Lib.hid r5
  clear r5
  have H1 := Lib.hid h1
  clear h1
  have H2 := Lib.hid h2
  clear h2
  have H3 := Lib.hid h3
  clear h3
  have H5 := Lib.hid h5
  clear h5
  have ks0 := hok.1
  clear hok
  obtain ⟨W, hW⟩ : ∃ W : Nat, W = z0.size + (z1.length + FParam.wts z1) + (z2.length + FParam.wts z2) + (z3.length + FStr.wts z3) + (z5.length + FIns.wts z5) := ⟨_, rfl⟩
  rw [← hW]
  have HW := Lib.hid hW
  clear hW
  by_cases c0 : left - z0.size < 0
  case pos =>
    go_enter Tryd.func22, Tryd.ntmps22
    go_wp2_with fail
    go_ret
    exact ⟨ret_int (by rw [bud_neg (by have := HW.out; omega)]), (Below.refl _ _).alloc (Nat.le_refl _) _⟩
  go_enter Tryd.func22, Tryd.ntmps22
  go_wp2_with fail
  refine calls_worldD _ (fun X => Blk X w.heap.size 42 #[.string z0, .slice A1 z1.length c1, .slice A2 z2.length c2, .slice A3 z3.length c3, .bool z4, .slice A5 z5.length c5] ∧ Below w.heap.size w X) ⟨Blk.new w _ _, (Below.refl _ _).alloc (Nat.le_refl _) _⟩ ?_
  rintro X0 ⟨ba, hB⟩
  have s0 := ba.lt
  refine (H1.out _ _ _ B (by omega) (by omega) (by omega) (R1.out.below hB hB0)).mono ?_
  generalize hq0 : (z1.length + FParam.wts z1 : Nat) = q0 at *
  have Q0 := Lib.hid hq0
  clear hq0
  rintro e Y0 ⟨rfl, hb⟩
  replace ba := ba.below hb (Nat.le_refl _)
  replace hB := hB.trans (hb.mono (by omega))
  clear hb
  by_cases f0 : (q0 : Int) ≤ left - z0.size
  case neg =>
    have e0 := bud_neg f0
    rw [e0]
    clear e0
    have ba_0 : Y0.cell? ⟨w.heap.size, 0, none⟩ = some (.string z0) := ba.cell 0
    have ba_1 : Y0.cell? ⟨w.heap.size, 1, none⟩ = some (.slice A1 z1.length c1) := ba.cell 1
    have ba_2 : Y0.cell? ⟨w.heap.size, 2, none⟩ = some (.slice A2 z2.length c2) := ba.cell 2
    have ba_3 : Y0.cell? ⟨w.heap.size, 3, none⟩ = some (.slice A3 z3.length c3) := ba.cell 3
    have ba_4 : Y0.cell? ⟨w.heap.size, 4, none⟩ = some (.bool z4) := ba.cell 4
    have ba_5 : Y0.cell? ⟨w.heap.size, 5, none⟩ = some (.slice A5 z5.length c5) := ba.cell 5
    have ba_l := ba.lt
    go_wp2_with fail
    go_ret
    exact ⟨ret_int (by rw [bud_neg (by have := HW.out; have := Q0.out; omega)]), hB⟩
  have e0 := bud_pos f0
  rw [e0]
  clear e0
  have ba_0 : Y0.cell? ⟨w.heap.size, 0, none⟩ = some (.string z0) := ba.cell 0
  have ba_1 : Y0.cell? ⟨w.heap.size, 1, none⟩ = some (.slice A1 z1.length c1) := ba.cell 1
  have ba_2 : Y0.cell? ⟨w.heap.size, 2, none⟩ = some (.slice A2 z2.length c2) := ba.cell 2
  have ba_3 : Y0.cell? ⟨w.heap.size, 3, none⟩ = some (.slice A3 z3.length c3) := ba.cell 3
  have ba_4 : Y0.cell? ⟨w.heap.size, 4, none⟩ = some (.bool z4) := ba.cell 4
  have ba_5 : Y0.cell? ⟨w.heap.size, 5, none⟩ = some (.slice A5 z5.length c5) := ba.cell 5
  have ba_l := ba.lt
  go_wp2_with fail
  refine calls_worldD _ (fun X => Blk X w.heap.size 42 #[.string z0, .slice A1 z1.length c1, .slice A2 z2.length c2, .slice A3 z3.length c3, .bool z4, .slice A5 z5.length c5] ∧ Below w.heap.size w X) ⟨ba, hB⟩ ?_
  clear ba hB ba_0 ba_1 ba_2 ba_3 ba_4 ba_5 ba_l
  rintro X1 ⟨ba, hB⟩
  have s1 := ba.lt
  refine (H2.out _ _ _ B (by omega) (by omega) (by omega) (R2.out.below hB hB0)).mono ?_
  generalize hq1 : (z2.length + FParam.wts z2 : Nat) = q1 at *
  have Q1 := Lib.hid hq1
  clear hq1
  rintro e Y1 ⟨rfl, hb⟩
  replace ba := ba.below hb (Nat.le_refl _)
  replace hB := hB.trans (hb.mono (by omega))
  clear hb
  by_cases f1 : (q1 : Int) ≤ left - z0.size - q0
  case neg =>
    have e1 := bud_neg f1
    rw [e1]
    clear e1
    have ba_0 : Y1.cell? ⟨w.heap.size, 0, none⟩ = some (.string z0) := ba.cell 0
    have ba_1 : Y1.cell? ⟨w.heap.size, 1, none⟩ = some (.slice A1 z1.length c1) := ba.cell 1
    have ba_2 : Y1.cell? ⟨w.heap.size, 2, none⟩ = some (.slice A2 z2.length c2) := ba.cell 2
    have ba_3 : Y1.cell? ⟨w.heap.size, 3, none⟩ = some (.slice A3 z3.length c3) := ba.cell 3
    have ba_4 : Y1.cell? ⟨w.heap.size, 4, none⟩ = some (.bool z4) := ba.cell 4
    have ba_5 : Y1.cell? ⟨w.heap.size, 5, none⟩ = some (.slice A5 z5.length c5) := ba.cell 5
    have ba_l := ba.lt
    go_wp2_with fail
    go_ret
    exact ⟨ret_int (by rw [bud_neg (by have := HW.out; have := Q0.out;  have := Q1.out; omega)]), hB⟩
  have e1 := bud_pos f1
  rw [e1]
  clear e1
  have ba_0 : Y1.cell? ⟨w.heap.size, 0, none⟩ = some (.string z0) := ba.cell 0
  have ba_1 : Y1.cell? ⟨w.heap.size, 1, none⟩ = some (.slice A1 z1.length c1) := ba.cell 1
  have ba_2 : Y1.cell? ⟨w.heap.size, 2, none⟩ = some (.slice A2 z2.length c2) := ba.cell 2
  have ba_3 : Y1.cell? ⟨w.heap.size, 3, none⟩ = some (.slice A3 z3.length c3) := ba.cell 3
  have ba_4 : Y1.cell? ⟨w.heap.size, 4, none⟩ = some (.bool z4) := ba.cell 4
  have ba_5 : Y1.cell? ⟨w.heap.size, 5, none⟩ = some (.slice A5 z5.length c5) := ba.cell 5
  have ba_l := ba.lt
  go_wp2_with fail
  refine calls_worldD _ (fun X => Blk X w.heap.size 42 #[.string z0, .slice A1 z1.length c1, .slice A2 z2.length c2, .slice A3 z3.length c3, .bool z4, .slice A5 z5.length c5] ∧ Below w.heap.size w X) ⟨ba, hB⟩ ?_
  clear ba hB ba_0 ba_1 ba_2 ba_3 ba_4 ba_5 ba_l
  rintro X2 ⟨ba, hB⟩
  have s2 := ba.lt
  refine (H3.out _ _ _ B (by omega) (by omega) (by omega) (R3.out.below hB hB0)).mono ?_
  generalize hq2 : (z3.length + FStr.wts z3 : Nat) = q2 at *
  have Q2 := Lib.hid hq2
  clear hq2
  rintro e Y2 ⟨rfl, hb⟩
  replace ba := ba.below hb (Nat.le_refl _)
  replace hB := hB.trans (hb.mono (by omega))
  clear hb
  by_cases f2 : (q2 : Int) ≤ left - z0.size - q0 - q1
  case neg =>
    have e2 := bud_neg f2
    rw [e2]
    clear e2
    have ba_0 : Y2.cell? ⟨w.heap.size, 0, none⟩ = some (.string z0) := ba.cell 0
    have ba_1 : Y2.cell? ⟨w.heap.size, 1, none⟩ = some (.slice A1 z1.length c1) := ba.cell 1
    have ba_2 : Y2.cell? ⟨w.heap.size, 2, none⟩ = some (.slice A2 z2.length c2) := ba.cell 2
    have ba_3 : Y2.cell? ⟨w.heap.size, 3, none⟩ = some (.slice A3 z3.length c3) := ba.cell 3
    have ba_4 : Y2.cell? ⟨w.heap.size, 4, none⟩ = some (.bool z4) := ba.cell 4
    have ba_5 : Y2.cell? ⟨w.heap.size, 5, none⟩ = some (.slice A5 z5.length c5) := ba.cell 5
    have ba_l := ba.lt
    go_wp2_with fail
    go_ret
    exact ⟨ret_int (by rw [bud_neg (by have := HW.out; have := Q0.out;  have := Q1.out;  have := Q2.out; omega)]), hB⟩
  have e2 := bud_pos f2
  rw [e2]
  clear e2
  have ba_0 : Y2.cell? ⟨w.heap.size, 0, none⟩ = some (.string z0) := ba.cell 0
  have ba_1 : Y2.cell? ⟨w.heap.size, 1, none⟩ = some (.slice A1 z1.length c1) := ba.cell 1
  have ba_2 : Y2.cell? ⟨w.heap.size, 2, none⟩ = some (.slice A2 z2.length c2) := ba.cell 2
  have ba_3 : Y2.cell? ⟨w.heap.size, 3, none⟩ = some (.slice A3 z3.length c3) := ba.cell 3
  have ba_4 : Y2.cell? ⟨w.heap.size, 4, none⟩ = some (.bool z4) := ba.cell 4
  have ba_5 : Y2.cell? ⟨w.heap.size, 5, none⟩ = some (.slice A5 z5.length c5) := ba.cell 5
  have ba_l := ba.lt
  go_wp2_with fail
  refine calls_worldD _ (fun X => Blk X w.heap.size 42 #[.string z0, .slice A1 z1.length c1, .slice A2 z2.length c2, .slice A3 z3.length c3, .bool z4, .slice A5 z5.length c5] ∧ Below w.heap.size w X) ⟨ba, hB⟩ ?_
  clear ba hB ba_0 ba_1 ba_2 ba_3 ba_4 ba_5 ba_l
  rintro X3 ⟨ba, hB⟩
  have s3 := ba.lt
  refine (H5.out _ _ _ B (by omega) (by omega) (by omega) (R5.out.below hB hB0)).mono ?_
  generalize hq3 : (z5.length + FIns.wts z5 : Nat) = q3 at *
  have Q3 := Lib.hid hq3
  clear hq3
  rintro e Y3 ⟨rfl, hb⟩
  replace ba := ba.below hb (Nat.le_refl _)
  replace hB := hB.trans (hb.mono (by omega))
  clear hb
  by_cases f3 : (q3 : Int) ≤ left - z0.size - q0 - q1 - q2
  case neg =>
    have e3 := bud_neg f3
    rw [e3]
    clear e3
    have ba_0 : Y3.cell? ⟨w.heap.size, 0, none⟩ = some (.string z0) := ba.cell 0
    have ba_1 : Y3.cell? ⟨w.heap.size, 1, none⟩ = some (.slice A1 z1.length c1) := ba.cell 1
    have ba_2 : Y3.cell? ⟨w.heap.size, 2, none⟩ = some (.slice A2 z2.length c2) := ba.cell 2
    have ba_3 : Y3.cell? ⟨w.heap.size, 3, none⟩ = some (.slice A3 z3.length c3) := ba.cell 3
    have ba_4 : Y3.cell? ⟨w.heap.size, 4, none⟩ = some (.bool z4) := ba.cell 4
    have ba_5 : Y3.cell? ⟨w.heap.size, 5, none⟩ = some (.slice A5 z5.length c5) := ba.cell 5
    have ba_l := ba.lt
    go_wp2_with fail
    go_ret
    exact ⟨ret_int (by rw [bud_neg (by have := HW.out; have := Q0.out;  have := Q1.out;  have := Q2.out;  have := Q3.out; omega)]), hB⟩
  have e3 := bud_pos f3
  rw [e3]
  clear e3
  have ba_0 : Y3.cell? ⟨w.heap.size, 0, none⟩ = some (.string z0) := ba.cell 0
  have ba_1 : Y3.cell? ⟨w.heap.size, 1, none⟩ = some (.slice A1 z1.length c1) := ba.cell 1
  have ba_2 : Y3.cell? ⟨w.heap.size, 2, none⟩ = some (.slice A2 z2.length c2) := ba.cell 2
  have ba_3 : Y3.cell? ⟨w.heap.size, 3, none⟩ = some (.slice A3 z3.length c3) := ba.cell 3
  have ba_4 : Y3.cell? ⟨w.heap.size, 4, none⟩ = some (.bool z4) := ba.cell 4
  have ba_5 : Y3.cell? ⟨w.heap.size, 5, none⟩ = some (.slice A5 z5.length c5) := ba.cell 5
  have ba_l := ba.lt
  go_wp2_with fail
  go_ret
  exact ⟨ret_int (by have := HW.out; have := Q0.out;  have := Q1.out;  have := Q2.out;  have := Q3.out; rw [bud_pos (by omega)]; omega), hB⟩
theorem szFunc_any (x : FFunc) (hw : x.ok) : SzFunc x := by
  obtain ⟨z0, z1, z2, z3, z4, z5⟩ := x
  have hw2 := hw
  rw [FFunc.ok_eq] at hw2
  exact szFunc_of z0 z1 z2 z3 z4 z5 hw (szParamS_any z1 hw2.2.1) (szParamS_any z2 hw2.2.2.1) (szStringS_any z3 hw2.2.2.2.1) (szInsS_any z5 hw2.2.2.2.2)
end Go.Proofs.YtiggmjiodbbceaaDoor
