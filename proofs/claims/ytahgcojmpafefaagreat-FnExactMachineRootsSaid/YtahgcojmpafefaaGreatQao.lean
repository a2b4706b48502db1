/-
  Parts of the proof: SzM. Conditions: none.
-/
import Derived.Test.YtahgcojmpafefaaGreatQab
import Derived.Test.YtahgcojmpafefaaGreatQac
set_option linter.unusedVariables false
set_option linter.unusedSimpArgs false
namespace Go.Proofs.YtahgcojmpafefaaGreat
set_option maxHeartbeats 40000000
open Lib (hid)
open Go.ChangeShapes Go.WideShapes Go.ChangeAt Go.RowKit Go.Deep Go.Joins
open Go.ChangeMaps (open_string shut_string)
set_option maxRecDepth 100000
def SzIntS (l : List FInt) : Prop := ∀ (u : Value) (left : Int) (w : World) (B : Nat), 0 ≤ left → left ≤ 1048576 → B ≤ w.heap.size → RdC w B (.s 3 1 l.length (FInt.flat l)) u → Calls Tryz.prog 92 #[u, .int .i64 left] w fun e w' => e = .returned (.int .i64 (bud left (l.length + FInt.wts l))) ∧ Below w.heap.size w w'
theorem szIntS_of (l : List FInt) : SzIntS l := by
  intro u left w B hl0 hl1 hB0 hr0
  obtain ⟨A, c, rfl⟩ := hr0.form
  have hcap := hr0.cap
  have hcm : l.length ≤ 9223372036854775807 := by unfold maxLen at hcap; omega
  clear hr0 hcap
  have hz : FInt.wts l = 0 := by
    clear hcm
    induction l with
    | nil => rfl
    | cons x r ih => unfold FInt.wts; rw [ih]; rfl
  rw [hz]
  clear hz
  by_cases hfit : left - l.length < 0
  · go_enter Tryz.func92, Tryz.ntmps92
    go_wp2_with fail
    go_ret
    exact ⟨ret_int (by rw [bud_neg (by omega)]), Below.refl _ _⟩
  go_enter Tryz.func92, Tryz.ntmps92
  go_wp2_with fail
  go_ret
  exact ⟨ret_int (by first | (rw [bud_pos (by omega)]; done) | (rw [bud_pos (by omega)]; omega)), Below.refl _ _⟩
theorem szIntS_any (l : List FInt) (hw : FInt.oks l) : SzIntS l := (szIntS_of l)
def SzKey (x : FKey) : Prop := ∀ (us : List Value) (left : Int) (w : World) (B : Nat), 0 ≤ left → left ≤ 1048576 → B ≤ w.heap.size → RdVs w B x.c us → Calls Tryz.prog 136 #[.agg us.toArray, .int .i64 left] w fun e w' => e = .returned (.int .i64 (bud left x.wt)) ∧ Below w.heap.size w w'
theorem szKey_of (z0 : Bool) (z1 : Int) (z2 : ByteArray) (hok : FKey.ok ⟨z0, z1, z2⟩)  : SzKey ⟨z0, z1, z2⟩ := by
  intro us left w B hl0 hl1 hB0 hr
  rw [FKey.c_eq] at hr
  rw [FKey.wt_eq]
  rw [FKey.ok_eq] at hok
  obtain ⟨us0, rfl, hr_0⟩ := hr.unv
  obtain ⟨us1, rfl, hr_1⟩ := hr_0.unv
  obtain ⟨us2, rfl, hr_2⟩ := hr_1.unv
  obtain rfl := hr_2.un0
  clear hr hr_0 hr_1 hr_2
  have ks2 := hok
  clear hok
  obtain ⟨W, hW⟩ : ∃ W : Nat, W = z2.size := ⟨_, rfl⟩
  rw [← hW]
  have HW := hid hW
  clear hW
  by_cases c2 : left - z2.size < 0
  case pos =>
    go_enter Tryz.func136, Tryz.ntmps136
    go_wp2_with fail
    go_ret
    exact ⟨ret_int (by rw [bud_neg (by have := HW.out; omega)]), (Below.refl _ _).alloc (Nat.le_refl _) _⟩
  go_enter Tryz.func136, Tryz.ntmps136
  go_wp2_with fail
  go_ret
  exact ⟨ret_int (by have := HW.out; rw [bud_pos (by omega)]; omega), (Below.refl _ _).alloc (Nat.le_refl _) _⟩
theorem szKey_any (x : FKey) (hw : x.ok) : SzKey x := by
  obtain ⟨z0, z1, z2⟩ := x
  have hw2 := hw
  rw [FKey.ok_eq] at hw2
  exact szKey_of z0 z1 z2 hw 
def SzEntry (x : FEntry) : Prop := ∀ (us : List Value) (left : Int) (w : World) (B : Nat), 0 ≤ left → left ≤ 1048576 → B ≤ w.heap.size → RdVs w B x.c us → Calls Tryz.prog 118 #[.agg us.toArray, .int .i64 left] w fun e w' => e = .returned (.int .i64 (bud left x.wt)) ∧ Below w.heap.size w w'
def SzEntryS (l : List FEntry) : Prop := ∀ (u : Value) (left : Int) (w : World) (B : Nat), 0 ≤ left → left ≤ 1048576 → B ≤ w.heap.size → RdC w B (.s 153 8 l.length (FEntry.flat l)) u → Calls Tryz.prog 89 #[u, .int .i64 left] w fun e w' => e = .returned (.int .i64 (bud left (l.length + FEntry.wts l))) ∧ Below w.heap.size w w'
def SzValue (x : FValue) : Prop := ∀ (us : List Value) (left : Int) (w : World) (B : Nat), 0 ≤ left → left ≤ 1048576 → B ≤ w.heap.size → RdVs w B x.c us → Calls Tryz.prog 52 #[.agg us.toArray, .int .i64 left] w fun e w' => e = .returned (.int .i64 (bud left x.wt)) ∧ Below w.heap.size w w'
def SzValueS (l : List FValue) : Prop := ∀ (u : Value) (left : Int) (w : World) (B : Nat), 0 ≤ left → left ≤ 1048576 → B ≤ w.heap.size → RdC w B (.s 82 5 l.length (FValue.flat l)) u → Calls Tryz.prog 13 #[u, .int .i64 left] w fun e w' => e = .returned (.int .i64 (bud left (l.length + FValue.wts l))) ∧ Below w.heap.size w w'
theorem szEntry_of (z0 : Bool) (z1 : Int) (z2 : ByteArray) (z3 : Int) (z4 : Int) (z5 : ByteArray) (z6 : Int) (z7 : List FEntry) (hok : FEntry.ok ⟨⟨z0, z1, z2⟩, ⟨z3, z4, z5, z6, z7⟩⟩) (h0 : SzKey ⟨z0, z1, z2⟩) (h3 : SzValue ⟨z3, z4, z5, z6, z7⟩) : SzEntry ⟨⟨z0, z1, z2⟩, ⟨z3, z4, z5, z6, z7⟩⟩ := by
  intro us left w B hl0 hl1 hB0 hr
  rw [FEntry.c_eq] at hr
  rw [FEntry.wt_eq]
  rw [FEntry.ok_eq] at hok
  obtain ⟨us0, rfl, hr_0⟩ := hr.unv
  obtain ⟨us1, rfl, hr_1⟩ := hr_0.unv
  obtain ⟨us2, rfl, hr_2⟩ := hr_1.unv
  obtain ⟨us3, rfl, hr_3⟩ := hr_2.unv
  obtain ⟨us4, rfl, hr_4⟩ := hr_3.unv
  obtain ⟨us5, rfl, hr_5⟩ := hr_4.unv
  obtain ⟨us6, rfl, hr_6⟩ := hr_5.unv
  obtain ⟨A7, c7, us7, rfl, r7, hr_7⟩ := hr_6.uns
  obtain rfl := hr_7.un0
  clear hr hr_0 hr_1 hr_2 hr_3 hr_4 hr_5 hr_6 hr_7
  have R7 := hid r7
  clear r7
  have H0 := hid h0
  clear h0
  have H3 := hid h3
  clear h3
  have ks2 := hok.1
  have ks5 := hok.2.1
  clear hok
  obtain ⟨W, hW⟩ : ∃ W : Nat, W = z2.size + z5.size + (z7.length + FEntry.wts z7) := ⟨_, rfl⟩
  rw [← hW]
  have HW := hid hW
  clear hW
  go_enter Tryz.func118, Tryz.ntmps118
  go_wp2_with fail
  refine calls_worldD _ (fun X => Blk X w.heap.size 228 #[.bool z0, .int .i64 z1, .string z2, .int .i64 z3, .int .i64 z4, .string z5, .int .i64 z6, .slice A7 z7.length c7] ∧ Below w.heap.size w X) ⟨Blk.new w _ _, (Below.refl _ _).alloc (Nat.le_refl _) _⟩ ?_
  rintro X0 ⟨ba, hB⟩
  have s0 := ba.lt
  refine (H0.out [.bool z0, .int .i64 z1, .string z2] _ _ B (by omega) (by omega) (by omega) (by rw [FKey.c_eq]; exact (RdVs.cons (by unfold RdC; rfl) (RdVs.cons (by unfold RdC; rfl) (RdVs.cons (by unfold RdC; rfl) (RdVs.nil _ _)))))).mono ?_
  generalize hq0 : (FKey.wt ⟨z0, z1, z2⟩ : Nat) = q0 at *
  have Q0 := hid hq0
  clear hq0
  rintro e Y0 ⟨rfl, hb⟩
  replace ba := ba.below hb (Nat.le_refl _)
  replace hB := hB.trans (hb.mono (by omega))
  clear hb
  by_cases f0 : (q0 : Int) ≤ left
  case neg =>
    have e0 := bud_neg f0
    rw [e0]
    clear e0
    have ba_l := ba.lt
    go_wp2_with fail
    go_ret
    exact ⟨ret_int (by rw [bud_neg (by have := HW.out; have := Q0.out; have := FKey.wt_eq z0 z1 z2; have := FValue.wt_eq z3 z4 z5 z6 z7; omega)]), hB⟩
  have e0 := bud_pos f0
  rw [e0]
  clear e0
  have ba_3 : Y0.cell? ⟨w.heap.size, 3, none⟩ = some (.int .i64 z3) := ba.cell 3
  have ba_4 : Y0.cell? ⟨w.heap.size, 4, none⟩ = some (.int .i64 z4) := ba.cell 4
  have ba_5 : Y0.cell? ⟨w.heap.size, 5, none⟩ = some (.string z5) := ba.cell 5
  have ba_6 : Y0.cell? ⟨w.heap.size, 6, none⟩ = some (.int .i64 z6) := ba.cell 6
  have ba_7 : Y0.cell? ⟨w.heap.size, 7, none⟩ = some (.slice A7 z7.length c7) := ba.cell 7
  have ba_l := ba.lt
  go_wp2_with fail
  refine calls_worldD _ (fun X => Blk X w.heap.size 228 #[.bool z0, .int .i64 z1, .string z2, .int .i64 z3, .int .i64 z4, .string z5, .int .i64 z6, .slice A7 z7.length c7] ∧ Below w.heap.size w X) ⟨ba, hB⟩ ?_
  clear ba hB ba_3 ba_4 ba_5 ba_6 ba_7 ba_l
  rintro X1 ⟨ba, hB⟩
  have s1 := ba.lt
  refine (H3.out [.int .i64 z3, .int .i64 z4, .string z5, .int .i64 z6, .slice A7 z7.length c7] _ _ B (by omega) (by omega) (by omega) (by rw [FValue.c_eq]; exact (RdVs.cons (by unfold RdC; rfl) (RdVs.cons (by unfold RdC; rfl) (RdVs.cons (by unfold RdC; rfl) (RdVs.cons (by unfold RdC; rfl) (RdVs.cons (R7.out.below hB hB0) (RdVs.nil _ _)))))))).mono ?_
  generalize hq1 : (FValue.wt ⟨z3, z4, z5, z6, z7⟩ : Nat) = q1 at *
  have Q1 := hid hq1
  clear hq1
  rintro e Y1 ⟨rfl, hb⟩
  replace ba := ba.below hb (Nat.le_refl _)
  replace hB := hB.trans (hb.mono (by omega))
  clear hb
  by_cases f1 : (q1 : Int) ≤ left - q0
  case neg =>
    have e1 := bud_neg f1
    rw [e1]
    clear e1
    have ba_l := ba.lt
    go_wp2_with fail
    go_ret
    exact ⟨ret_int (by rw [bud_neg (by have := HW.out; have := Q0.out;  have := Q1.out; have := FKey.wt_eq z0 z1 z2; have := FValue.wt_eq z3 z4 z5 z6 z7; omega)]), hB⟩
  have e1 := bud_pos f1
  rw [e1]
  clear e1
  have ba_l := ba.lt
  go_wp2_with fail
  go_ret
  exact ⟨ret_int (by have := HW.out; have := Q0.out;  have := Q1.out; have := FKey.wt_eq z0 z1 z2; have := FValue.wt_eq z3 z4 z5 z6 z7; rw [bud_pos (by omega)]; omega), hB⟩
theorem szEntryS_of (l : List FEntry) (he : ∀ x, x ∈ l → SzEntry x) : SzEntryS l := by
  intro u left w B hl0 hl1 hB0 hr0
  have hr := hr0.up hB0
  clear hr0
  obtain ⟨A, c, rfl⟩ := hr.form
  have HC := hid hr
  have hcap := hr.cap
  have hcm : l.length ≤ 9223372036854775807 := by unfold maxLen at hcap; omega
  have HE := hid he
  clear hr hcap he
  by_cases hfit : left - l.length < 0
  · go_enter Tryz.func89, Tryz.ntmps89
    go_wp2_with fail
    go_ret
    exact ⟨ret_int (by rw [bud_neg (by omega)]), Below.refl _ _⟩
  go_enter Tryz.func89, Tryz.ntmps89
  go_wp2_with fail
  go_loopw [1, 5] (fun lv i wr => ∃ k : Nat, k ≤ l.length ∧ i = .int .i64 k ∧ lv = .int .i64 (left - l.length - (FEntry.wts (l.take k) : Nat)) ∧ ((FEntry.wts (l.take k) : Nat) : Int) ≤ left - l.length ∧ Below w.heap.size w wr) (fun _ i _ => l.length - (intOf i).toNat)
  case atStart => exact ⟨0, Nat.zero_le _, rfl, by simp [FEntry.wts], by simp [FEntry.wts]; omega, Below.refl _ _⟩
  case round =>
    obtain ⟨k, hk, rfl, rfl, hw, hb⟩ := hrel
    by_cases hlt : k < l.length
    · obtain ⟨x, hx⟩ : ∃ x, l[k]? = some x := ⟨_, List.getElem?_eq_getElem hlt⟩
      obtain ⟨bc, offc, vs, rfl, hblc, hvl, hvv, hra⟩ := RdC.elem FEntry.len HC.out hx
      have HVV := hid (hvv.on hb (Nat.le_refl _) (Nat.le_refl _))
      have HRA := hid (range_below hra hb hblc)
      have HZ := hid (HE.out x (List.mem_of_getElem? hx))
      have HT := hid (FEntry.wts_take l k x hx)
      have HL := hid (FEntry.wts_le l (k + 1))
      clear hx
      clear hvv hra
      generalize hu : FEntry.wts (l.take k) = U at *
      have HU := hid hu
      clear hu
      generalize hv : FEntry.wt x = V at *
      have HV := hid hv
      clear hv
      by_cases hf : (V : Int) ≤ left - l.length - U
      · have hbp : 0 ≤ bud (left - l.length - U) V := by rw [bud_pos hf]; omega
        have HBP := hid (bud_pos hf)
        go_wp2_with (first | (refine wpList_load_elem 228 _ bc (offc + k * 8) vs (.struct (flds Tryz.prog 228)) HRA.out rfl rfl (by kernel_rfl) rfl hvl (by kernel_rfl) rfl ?_) | (go_at_call 118; refine (HZ.out vs _ _ w.heap.size (by omega) (by omega) (by have := hb.size; omega) HVV.out).mono ?_; rw [HV.out]; rintro e w2 ⟨rfl, hb2⟩))
        go_roundw
        case rel =>
          have e := HT.out
          have e9 := HV.out
          rw [← HU.out] at *
          refine ⟨k + 1, by omega, by go_num, ?_, by rw [e, HU.out]; omega, hb.trans (hb2.mono hb.size)⟩
          rw [HBP.out, e, HU.out]
          congr 1
          omega
        case measure => simp [intOf]; omega
      · have hbp : bud (left - l.length - U) V = -1 := bud_neg hf
        have hbn : bud (left - l.length - U) V < 0 := by rw [hbp]; omega
        clear hbp
        go_wp2_with (first | (refine wpList_load_elem 228 _ bc (offc + k * 8) vs (.struct (flds Tryz.prog 228)) HRA.out rfl rfl (by kernel_rfl) rfl hvl (by kernel_rfl) rfl ?_) | (go_at_call 118; refine (HZ.out vs _ _ w.heap.size (by omega) (by omega) (by have := hb.size; omega) HVV.out).mono ?_; rw [HV.out]; rintro e w2 ⟨rfl, hb2⟩))
        go_ret
        refine ⟨ret_int ?_, hb.trans (hb2.mono hb.size)⟩
        have e := HT.out
        have e2 := HL.out
        have e3 := HU.out
        have e4 := HV.out
        rw [bud_neg (by omega)]
    · obtain rfl : k = l.length := by omega
      clear hlt
      go_wp2_with fail
      go_ret
      refine ⟨ret_int ?_, hb⟩
      rw [List.take_length] at *
      rw [bud_pos (by omega)]
      omega
theorem szValue_of (z0 : Int) (z1 : Int) (z2 : ByteArray) (z3 : Int) (z4 : List FEntry) (hok : FValue.ok ⟨z0, z1, z2, z3, z4⟩) (h4 : SzEntryS z4) : SzValue ⟨z0, z1, z2, z3, z4⟩ := by
  intro us left w B hl0 hl1 hB0 hr
  rw [FValue.c_eq] at hr
  rw [FValue.wt_eq]
  rw [FValue.ok_eq] at hok
  obtain ⟨us0, rfl, hr_0⟩ := hr.unv
  obtain ⟨us1, rfl, hr_1⟩ := hr_0.unv
  obtain ⟨us2, rfl, hr_2⟩ := hr_1.unv
  obtain ⟨us3, rfl, hr_3⟩ := hr_2.unv
  obtain ⟨A4, c4, us4, rfl, r4, hr_4⟩ := hr_3.uns
  obtain rfl := hr_4.un0
  clear hr hr_0 hr_1 hr_2 hr_3 hr_4
  have R4 := hid r4
  clear r4
  have H4 := hid h4
  clear h4
  have ks2 := hok.1
  clear hok
  obtain ⟨W, hW⟩ : ∃ W : Nat, W = z2.size + (z4.length + FEntry.wts z4) := ⟨_, rfl⟩
  rw [← hW]
  have HW := hid hW
  clear hW
  by_cases c2 : left - z2.size < 0
  case pos =>
    go_enter Tryz.func52, Tryz.ntmps52
    go_wp2_with fail
    go_ret
    exact ⟨ret_int (by rw [bud_neg (by have := HW.out; omega)]), (Below.refl _ _).alloc (Nat.le_refl _) _⟩
  go_enter Tryz.func52, Tryz.ntmps52
  go_wp2_with fail
  refine calls_worldD _ (fun X => Blk X w.heap.size 115 #[.int .i64 z0, .int .i64 z1, .string z2, .int .i64 z3, .slice A4 z4.length c4] ∧ Below w.heap.size w X) ⟨Blk.new w _ _, (Below.refl _ _).alloc (Nat.le_refl _) _⟩ ?_
  rintro X0 ⟨ba, hB⟩
  have s0 := ba.lt
  refine (H4.out _ _ _ B (by omega) (by omega) (by omega) (R4.out.below hB hB0)).mono ?_
  generalize hq0 : (z4.length + FEntry.wts z4 : Nat) = q0 at *
  have Q0 := hid hq0
  clear hq0
  rintro e Y0 ⟨rfl, hb⟩
  replace ba := ba.below hb (Nat.le_refl _)
  replace hB := hB.trans (hb.mono (by omega))
  clear hb
  by_cases f0 : (q0 : Int) ≤ left - z2.size
  case neg =>
    have e0 := bud_neg f0
    rw [e0]
    clear e0
    have ba_l := ba.lt
    go_wp2_with fail
    go_ret
    exact ⟨ret_int (by rw [bud_neg (by have := HW.out; have := Q0.out; omega)]), hB⟩
  have e0 := bud_pos f0
  rw [e0]
  clear e0
  have ba_l := ba.lt
  go_wp2_with fail
  go_ret
  exact ⟨ret_int (by have := HW.out; have := Q0.out; rw [bud_pos (by omega)]; omega), hB⟩
theorem szValueS_of (l : List FValue) (he : ∀ x, x ∈ l → SzValue x) : SzValueS l := by
  intro u left w B hl0 hl1 hB0 hr0
  have hr := hr0.up hB0
  clear hr0
  obtain ⟨A, c, rfl⟩ := hr.form
  have HC := hid hr
  have hcap := hr.cap
  have hcm : l.length ≤ 9223372036854775807 := by unfold maxLen at hcap; omega
  have HE := hid he
  clear hr hcap he
  by_cases hfit : left - l.length < 0
  · go_enter Tryz.func13, Tryz.ntmps13
    go_wp2_with fail
    go_ret
    exact ⟨ret_int (by rw [bud_neg (by omega)]), Below.refl _ _⟩
  go_enter Tryz.func13, Tryz.ntmps13
  go_wp2_with fail
  go_loopw [1, 5] (fun lv i wr => ∃ k : Nat, k ≤ l.length ∧ i = .int .i64 k ∧ lv = .int .i64 (left - l.length - (FValue.wts (l.take k) : Nat)) ∧ ((FValue.wts (l.take k) : Nat) : Int) ≤ left - l.length ∧ Below w.heap.size w wr) (fun _ i _ => l.length - (intOf i).toNat)
  case atStart => exact ⟨0, Nat.zero_le _, rfl, by simp [FValue.wts], by simp [FValue.wts]; omega, Below.refl _ _⟩
  case round =>
    obtain ⟨k, hk, rfl, rfl, hw, hb⟩ := hrel
    by_cases hlt : k < l.length
    · obtain ⟨x, hx⟩ : ∃ x, l[k]? = some x := ⟨_, List.getElem?_eq_getElem hlt⟩
      obtain ⟨bc, offc, vs, rfl, hblc, hvl, hvv, hra⟩ := RdC.elem FValue.len HC.out hx
      have HVV := hid (hvv.on hb (Nat.le_refl _) (Nat.le_refl _))
      have HRA := hid (range_below hra hb hblc)
      have HZ := hid (HE.out x (List.mem_of_getElem? hx))
      have HT := hid (FValue.wts_take l k x hx)
      have HL := hid (FValue.wts_le l (k + 1))
      clear hx
      clear hvv hra
      generalize hu : FValue.wts (l.take k) = U at *
      have HU := hid hu
      clear hu
      generalize hv : FValue.wt x = V at *
      have HV := hid hv
      clear hv
      by_cases hf : (V : Int) ≤ left - l.length - U
      · have hbp : 0 ≤ bud (left - l.length - U) V := by rw [bud_pos hf]; omega
        have HBP := hid (bud_pos hf)
        go_wp2_with (first | (refine wpList_load_elem 115 _ bc (offc + k * 5) vs (.struct (flds Tryz.prog 115)) HRA.out rfl rfl (by kernel_rfl) rfl hvl (by kernel_rfl) rfl ?_) | (go_at_call 52; refine (HZ.out vs _ _ w.heap.size (by omega) (by omega) (by have := hb.size; omega) HVV.out).mono ?_; rw [HV.out]; rintro e w2 ⟨rfl, hb2⟩))
        go_roundw
        case rel =>
          have e := HT.out
          have e9 := HV.out
          rw [← HU.out] at *
          refine ⟨k + 1, by omega, by go_num, ?_, by rw [e, HU.out]; omega, hb.trans (hb2.mono hb.size)⟩
          rw [HBP.out, e, HU.out]
          congr 1
          omega
        case measure => simp [intOf]; omega
      · have hbp : bud (left - l.length - U) V = -1 := bud_neg hf
        have hbn : bud (left - l.length - U) V < 0 := by rw [hbp]; omega
        clear hbp
        go_wp2_with (first | (refine wpList_load_elem 115 _ bc (offc + k * 5) vs (.struct (flds Tryz.prog 115)) HRA.out rfl rfl (by kernel_rfl) rfl hvl (by kernel_rfl) rfl ?_) | (go_at_call 52; refine (HZ.out vs _ _ w.heap.size (by omega) (by omega) (by have := hb.size; omega) HVV.out).mono ?_; rw [HV.out]; rintro e w2 ⟨rfl, hb2⟩))
        go_ret
        refine ⟨ret_int ?_, hb.trans (hb2.mono hb.size)⟩
        have e := HT.out
        have e2 := HL.out
        have e3 := HU.out
        have e4 := HV.out
        rw [bud_neg (by omega)]
    · obtain rfl : k = l.length := by omega
      clear hlt
      go_wp2_with fail
      go_ret
      refine ⟨ret_int ?_, hb⟩
      rw [List.take_length] at *
      rw [bud_pos (by omega)]
      omega
mutual
theorem szEntry_any : ∀ (x : FEntry), x.ok → SzEntry x
  | .mk a0 a1, hw => by
    have hw2 := hw
    unfold FEntry.ok at hw2
    have k0 := szKey_any a0 hw2.1
    have k1 := szValue_any a1 hw2.2
    obtain ⟨b0_0, b0_1, b0_2⟩ := a0
    obtain ⟨b1_0, b1_1, b1_2, b1_3, b1_4⟩ := a1
    exact szEntry_of b0_0 b0_1 b0_2 b1_0 b1_1 b1_2 b1_3 b1_4 hw k0 k1
theorem szValue_any : ∀ (x : FValue), x.ok → SzValue x
  | .mk a0 a1 a2 a3 a4, hw => by
    have hw2 := hw
    unfold FValue.ok at hw2
    exact szValue_of a0 a1 a2 a3 a4 hw (szEntryS_of a4 (szEntry_all a4 hw2.2))
theorem szEntry_all : ∀ (l : List FEntry), FEntry.oks l → ∀ x, x ∈ l → SzEntry x
  | [], _, x, hx => by cases hx
  | y :: r, hw, x, hx => by
    unfold FEntry.oks at hw
    rcases List.mem_cons.1 hx with e | hx
    · rw [e]
      exact szEntry_any y hw.1
    · exact szEntry_all r hw.2 x hx
end
theorem szValueS_any (l : List FValue) (hw : FValue.oks l) : SzValueS l := (szValueS_of l (fun x hx => szValue_any x (FValue.oks_mem l hw x hx)))
def SzPlace (x : FPlace) : Prop := ∀ (us : List Value) (left : Int) (w : World) (B : Nat), 0 ≤ left → left ≤ 1048576 → B ≤ w.heap.size → RdVs w B x.c us → Calls Tryz.prog 53 #[.agg us.toArray, .int .i64 left] w fun e w' => e = .returned (.int .i64 (bud left x.wt)) ∧ Below w.heap.size w w'
def SzPlaceS (l : List FPlace) : Prop := ∀ (u : Value) (left : Int) (w : World) (B : Nat), 0 ≤ left → left ≤ 1048576 → B ≤ w.heap.size → RdC w B (.s 140 2 l.length (FPlace.flat l)) u → Calls Tryz.prog 14 #[u, .int .i64 left] w fun e w' => e = .returned (.int .i64 (bud left (l.length + FPlace.wts l))) ∧ Below w.heap.size w w'
theorem szPlace_of (z0 : ByteArray) (z1 : Int) (hok : FPlace.ok ⟨z0, z1⟩)  : SzPlace ⟨z0, z1⟩ := by
  intro us left w B hl0 hl1 hB0 hr
  rw [FPlace.c_eq] at hr
  rw [FPlace.wt_eq]
  rw [FPlace.ok_eq] at hok
  obtain ⟨us0, rfl, hr_0⟩ := hr.unv
  obtain ⟨us1, rfl, hr_1⟩ := hr_0.unv
  obtain rfl := hr_1.un0
  clear hr hr_0 hr_1
  have ks0 := hok
  clear hok
  obtain ⟨W, hW⟩ : ∃ W : Nat, W = z0.size := ⟨_, rfl⟩
  rw [← hW]
  have HW := hid hW
  clear hW
  by_cases c0 : left - z0.size < 0
  case pos =>
    go_enter Tryz.func53, Tryz.ntmps53
    go_wp2_with fail
    go_ret
    exact ⟨ret_int (by rw [bud_neg (by have := HW.out; omega)]), (Below.refl _ _).alloc (Nat.le_refl _) _⟩
  go_enter Tryz.func53, Tryz.ntmps53
  go_wp2_with fail
  go_ret
  exact ⟨ret_int (by have := HW.out; rw [bud_pos (by omega)]; omega), (Below.refl _ _).alloc (Nat.le_refl _) _⟩
theorem szPlaceS_of (l : List FPlace) (he : ∀ x, x ∈ l → SzPlace x) : SzPlaceS l := by
  intro u left w B hl0 hl1 hB0 hr0
  have hr := hr0.up hB0
  clear hr0
  obtain ⟨A, c, rfl⟩ := hr.form
  have HC := hid hr
  have hcap := hr.cap
  have hcm : l.length ≤ 9223372036854775807 := by unfold maxLen at hcap; omega
  have HE := hid he
  clear hr hcap he
  by_cases hfit : left - l.length < 0
  · go_enter Tryz.func14, Tryz.ntmps14
    go_wp2_with fail
    go_ret
    exact ⟨ret_int (by rw [bud_neg (by omega)]), Below.refl _ _⟩
  go_enter Tryz.func14, Tryz.ntmps14
  go_wp2_with fail
  go_loopw [1, 5] (fun lv i wr => ∃ k : Nat, k ≤ l.length ∧ i = .int .i64 k ∧ lv = .int .i64 (left - l.length - (FPlace.wts (l.take k) : Nat)) ∧ ((FPlace.wts (l.take k) : Nat) : Int) ≤ left - l.length ∧ Below w.heap.size w wr) (fun _ i _ => l.length - (intOf i).toNat)
  case atStart => exact ⟨0, Nat.zero_le _, rfl, by simp [FPlace.wts], by simp [FPlace.wts]; omega, Below.refl _ _⟩
  case round =>
    obtain ⟨k, hk, rfl, rfl, hw, hb⟩ := hrel
    by_cases hlt : k < l.length
    · obtain ⟨x, hx⟩ : ∃ x, l[k]? = some x := ⟨_, List.getElem?_eq_getElem hlt⟩
      obtain ⟨bc, offc, vs, rfl, hblc, hvl, hvv, hra⟩ := RdC.elem FPlace.len HC.out hx
      have HVV := hid (hvv.on hb (Nat.le_refl _) (Nat.le_refl _))
      have HRA := hid (range_below hra hb hblc)
      have HZ := hid (HE.out x (List.mem_of_getElem? hx))
      have HT := hid (FPlace.wts_take l k x hx)
      have HL := hid (FPlace.wts_le l (k + 1))
      clear hx
      clear hvv hra
      generalize hu : FPlace.wts (l.take k) = U at *
      have HU := hid hu
      clear hu
      generalize hv : FPlace.wt x = V at *
      have HV := hid hv
      clear hv
      by_cases hf : (V : Int) ≤ left - l.length - U
      · have hbp : 0 ≤ bud (left - l.length - U) V := by rw [bud_pos hf]; omega
        have HBP := hid (bud_pos hf)
        go_wp2_with (first | (refine wpList_load_elem 118 _ bc (offc + k * 2) vs (.struct (flds Tryz.prog 118)) HRA.out rfl rfl (by kernel_rfl) rfl hvl (by kernel_rfl) rfl ?_) | (go_at_call 53; refine (HZ.out vs _ _ w.heap.size (by omega) (by omega) (by have := hb.size; omega) HVV.out).mono ?_; rw [HV.out]; rintro e w2 ⟨rfl, hb2⟩))
        go_roundw
        case rel =>
          have e := HT.out
          have e9 := HV.out
          rw [← HU.out] at *
          refine ⟨k + 1, by omega, by go_num, ?_, by rw [e, HU.out]; omega, hb.trans (hb2.mono hb.size)⟩
          rw [HBP.out, e, HU.out]
          congr 1
          omega
        case measure => simp [intOf]; omega
      · have hbp : bud (left - l.length - U) V = -1 := bud_neg hf
        have hbn : bud (left - l.length - U) V < 0 := by rw [hbp]; omega
        clear hbp
        go_wp2_with (first | (refine wpList_load_elem 118 _ bc (offc + k * 2) vs (.struct (flds Tryz.prog 118)) HRA.out rfl rfl (by kernel_rfl) rfl hvl (by kernel_rfl) rfl ?_) | (go_at_call 53; refine (HZ.out vs _ _ w.heap.size (by omega) (by omega) (by have := hb.size; omega) HVV.out).mono ?_; rw [HV.out]; rintro e w2 ⟨rfl, hb2⟩))
        go_ret
        refine ⟨ret_int ?_, hb.trans (hb2.mono hb.size)⟩
        have e := HT.out
        have e2 := HL.out
        have e3 := HU.out
        have e4 := HV.out
        rw [bud_neg (by omega)]
    · obtain rfl : k = l.length := by omega
      clear hlt
      go_wp2_with fail
      go_ret
      refine ⟨ret_int ?_, hb⟩
      rw [List.take_length] at *
      rw [bud_pos (by omega)]
      omega
theorem szPlace_any (x : FPlace) (hw : x.ok) : SzPlace x := by
  obtain ⟨z0, z1⟩ := x
  have hw2 := hw
  rw [FPlace.ok_eq] at hw2
  exact szPlace_of z0 z1 hw 
theorem szPlaceS_any (l : List FPlace) (hw : FPlace.oks l) : SzPlaceS l := (szPlaceS_of l (fun x hx => szPlace_any x (FPlace.oks_mem l hw x hx)))
def SzSlot (x : FSlot) : Prop := ∀ (us : List Value) (left : Int) (w : World) (B : Nat), 0 ≤ left → left ≤ 1048576 → B ≤ w.heap.size → RdVs w B x.c us → Calls Tryz.prog 144 #[.agg us.toArray, .int .i64 left] w fun e w' => e = .returned (.int .i64 (bud left x.wt)) ∧ Below w.heap.size w w'
def SzSlotS (l : List FSlot) : Prop := ∀ (u : Value) (left : Int) (w : World) (B : Nat), 0 ≤ left → left ≤ 1048576 → B ≤ w.heap.size → RdC w B (.s 255 10 l.length (FSlot.flat l)) u → Calls Tryz.prog 137 #[u, .int .i64 left] w fun e w' => e = .returned (.int .i64 (bud left (l.length + FSlot.wts l))) ∧ Below w.heap.size w w'
theorem szSlot_of (z0 : Bool) (z1 : Int) (z2 : ByteArray) (z3 : Int) (z4 : Int) (z5 : ByteArray) (z6 : Int) (z7 : List FEntry) (z8 : Bool) (z9 : Int) (hok : FSlot.ok ⟨⟨z0, z1, z2⟩, ⟨z3, z4, z5, z6, z7⟩, z8, z9⟩) (h0 : SzKey ⟨z0, z1, z2⟩) (h3 : SzValue ⟨z3, z4, z5, z6, z7⟩) : SzSlot ⟨⟨z0, z1, z2⟩, ⟨z3, z4, z5, z6, z7⟩, z8, z9⟩ := by
  intro us left w B hl0 hl1 hB0 hr
  rw [FSlot.c_eq] at hr
  rw [FSlot.wt_eq]
  rw [FSlot.ok_eq] at hok
  obtain ⟨us0, rfl, hr_0⟩ := hr.unv
  obtain ⟨us1, rfl, hr_1⟩ := hr_0.unv
  obtain ⟨us2, rfl, hr_2⟩ := hr_1.unv
  obtain ⟨us3, rfl, hr_3⟩ := hr_2.unv
  obtain ⟨us4, rfl, hr_4⟩ := hr_3.unv
  obtain ⟨us5, rfl, hr_5⟩ := hr_4.unv
  obtain ⟨us6, rfl, hr_6⟩ := hr_5.unv
  obtain ⟨A7, c7, us7, rfl, r7, hr_7⟩ := hr_6.uns
  obtain ⟨us8, rfl, hr_8⟩ := hr_7.unv
  obtain ⟨us9, rfl, hr_9⟩ := hr_8.unv
  obtain rfl := hr_9.un0
  clear hr hr_0 hr_1 hr_2 hr_3 hr_4 hr_5 hr_6 hr_7 hr_8 hr_9
  have R7 := hid r7
  clear r7
  have H0 := hid h0
  clear h0
  have H3 := hid h3
  clear h3
  have ks2 := hok.1
  have ks5 := hok.2.1
  clear hok
  obtain ⟨W, hW⟩ : ∃ W : Nat, W = z2.size + z5.size + (z7.length + FEntry.wts z7) := ⟨_, rfl⟩
  rw [← hW]
  have HW := hid hW
  clear hW
  go_enter Tryz.func144, Tryz.ntmps144
  go_wp2_with fail
  refine calls_worldD _ (fun X => Blk X w.heap.size 266 #[.bool z0, .int .i64 z1, .string z2, .int .i64 z3, .int .i64 z4, .string z5, .int .i64 z6, .slice A7 z7.length c7, .bool z8, .int .i64 z9] ∧ Below w.heap.size w X) ⟨Blk.new w _ _, (Below.refl _ _).alloc (Nat.le_refl _) _⟩ ?_
  rintro X0 ⟨ba, hB⟩
  have s0 := ba.lt
  refine (H0.out [.bool z0, .int .i64 z1, .string z2] _ _ B (by omega) (by omega) (by omega) (by rw [FKey.c_eq]; exact (RdVs.cons (by unfold RdC; rfl) (RdVs.cons (by unfold RdC; rfl) (RdVs.cons (by unfold RdC; rfl) (RdVs.nil _ _)))))).mono ?_
  generalize hq0 : (FKey.wt ⟨z0, z1, z2⟩ : Nat) = q0 at *
  have Q0 := hid hq0
  clear hq0
  rintro e Y0 ⟨rfl, hb⟩
  replace ba := ba.below hb (Nat.le_refl _)
  replace hB := hB.trans (hb.mono (by omega))
  clear hb
  by_cases f0 : (q0 : Int) ≤ left
  case neg =>
    have e0 := bud_neg f0
    rw [e0]
    clear e0
    have ba_l := ba.lt
    go_wp2_with fail
    go_ret
    exact ⟨ret_int (by rw [bud_neg (by have := HW.out; have := Q0.out; have := FKey.wt_eq z0 z1 z2; have := FValue.wt_eq z3 z4 z5 z6 z7; omega)]), hB⟩
  have e0 := bud_pos f0
  rw [e0]
  clear e0
  have ba_3 : Y0.cell? ⟨w.heap.size, 3, none⟩ = some (.int .i64 z3) := ba.cell 3
  have ba_4 : Y0.cell? ⟨w.heap.size, 4, none⟩ = some (.int .i64 z4) := ba.cell 4
  have ba_5 : Y0.cell? ⟨w.heap.size, 5, none⟩ = some (.string z5) := ba.cell 5
  have ba_6 : Y0.cell? ⟨w.heap.size, 6, none⟩ = some (.int .i64 z6) := ba.cell 6
  have ba_7 : Y0.cell? ⟨w.heap.size, 7, none⟩ = some (.slice A7 z7.length c7) := ba.cell 7
  have ba_l := ba.lt
  go_wp2_with fail
  refine calls_worldD _ (fun X => Blk X w.heap.size 266 #[.bool z0, .int .i64 z1, .string z2, .int .i64 z3, .int .i64 z4, .string z5, .int .i64 z6, .slice A7 z7.length c7, .bool z8, .int .i64 z9] ∧ Below w.heap.size w X) ⟨ba, hB⟩ ?_
  clear ba hB ba_3 ba_4 ba_5 ba_6 ba_7 ba_l
  rintro X1 ⟨ba, hB⟩
  have s1 := ba.lt
  refine (H3.out [.int .i64 z3, .int .i64 z4, .string z5, .int .i64 z6, .slice A7 z7.length c7] _ _ B (by omega) (by omega) (by omega) (by rw [FValue.c_eq]; exact (RdVs.cons (by unfold RdC; rfl) (RdVs.cons (by unfold RdC; rfl) (RdVs.cons (by unfold RdC; rfl) (RdVs.cons (by unfold RdC; rfl) (RdVs.cons (R7.out.below hB hB0) (RdVs.nil _ _)))))))).mono ?_
  generalize hq1 : (FValue.wt ⟨z3, z4, z5, z6, z7⟩ : Nat) = q1 at *
  have Q1 := hid hq1
  clear hq1
  rintro e Y1 ⟨rfl, hb⟩
  replace ba := ba.below hb (Nat.le_refl _)
  replace hB := hB.trans (hb.mono (by omega))
  clear hb
  by_cases f1 : (q1 : Int) ≤ left - q0
  case neg =>
    have e1 := bud_neg f1
    rw [e1]
    clear e1
    have ba_l := ba.lt
    go_wp2_with fail
    go_ret
    exact ⟨ret_int (by rw [bud_neg (by have := HW.out; have := Q0.out;  have := Q1.out; have := FKey.wt_eq z0 z1 z2; have := FValue.wt_eq z3 z4 z5 z6 z7; omega)]), hB⟩
  have e1 := bud_pos f1
  rw [e1]
  clear e1
  have ba_8 : Y1.cell? ⟨w.heap.size, 8, none⟩ = some (.bool z8) := ba.cell 8
  have ba_9 : Y1.cell? ⟨w.heap.size, 9, none⟩ = some (.int .i64 z9) := ba.cell 9
  have ba_l := ba.lt
  go_wp2_with fail
  go_ret
  exact ⟨ret_int (by have := HW.out; have := Q0.out;  have := Q1.out; have := FKey.wt_eq z0 z1 z2; have := FValue.wt_eq z3 z4 z5 z6 z7; rw [bud_pos (by omega)]; omega), hB⟩
theorem szSlotS_of (l : List FSlot) (he : ∀ x, x ∈ l → SzSlot x) : SzSlotS l := by
  intro u left w B hl0 hl1 hB0 hr0
  have hr := hr0.up hB0
  clear hr0
  obtain ⟨A, c, rfl⟩ := hr.form
  have HC := hid hr
  have hcap := hr.cap
  have hcm : l.length ≤ 9223372036854775807 := by unfold maxLen at hcap; omega
  have HE := hid he
  clear hr hcap he
  by_cases hfit : left - l.length < 0
  · go_enter Tryz.func137, Tryz.ntmps137
    go_wp2_with fail
    go_ret
    exact ⟨ret_int (by rw [bud_neg (by omega)]), Below.refl _ _⟩
  go_enter Tryz.func137, Tryz.ntmps137
  go_wp2_with fail
  go_loopw [1, 5] (fun lv i wr => ∃ k : Nat, k ≤ l.length ∧ i = .int .i64 k ∧ lv = .int .i64 (left - l.length - (FSlot.wts (l.take k) : Nat)) ∧ ((FSlot.wts (l.take k) : Nat) : Int) ≤ left - l.length ∧ Below w.heap.size w wr) (fun _ i _ => l.length - (intOf i).toNat)
  case atStart => exact ⟨0, Nat.zero_le _, rfl, by simp [FSlot.wts], by simp [FSlot.wts]; omega, Below.refl _ _⟩
  case round =>
    obtain ⟨k, hk, rfl, rfl, hw, hb⟩ := hrel
    by_cases hlt : k < l.length
    · obtain ⟨x, hx⟩ : ∃ x, l[k]? = some x := ⟨_, List.getElem?_eq_getElem hlt⟩
      obtain ⟨bc, offc, vs, rfl, hblc, hvl, hvv, hra⟩ := RdC.elem FSlot.len HC.out hx
      have HVV := hid (hvv.on hb (Nat.le_refl _) (Nat.le_refl _))
      have HRA := hid (range_below hra hb hblc)
      have HZ := hid (HE.out x (List.mem_of_getElem? hx))
      have HT := hid (FSlot.wts_take l k x hx)
      have HL := hid (FSlot.wts_le l (k + 1))
      clear hx
      clear hvv hra
      generalize hu : FSlot.wts (l.take k) = U at *
      have HU := hid hu
      clear hu
      generalize hv : FSlot.wt x = V at *
      have HV := hid hv
      clear hv
      by_cases hf : (V : Int) ≤ left - l.length - U
      · have hbp : 0 ≤ bud (left - l.length - U) V := by rw [bud_pos hf]; omega
        have HBP := hid (bud_pos hf)
        go_wp2_with (first | (refine wpList_load_elem 266 _ bc (offc + k * 10) vs (.struct (flds Tryz.prog 266)) HRA.out rfl rfl (by kernel_rfl) rfl hvl (by kernel_rfl) rfl ?_) | (go_at_call 144; refine (HZ.out vs _ _ w.heap.size (by omega) (by omega) (by have := hb.size; omega) HVV.out).mono ?_; rw [HV.out]; rintro e w2 ⟨rfl, hb2⟩))
        go_roundw
        case rel =>
          have e := HT.out
          have e9 := HV.out
          rw [← HU.out] at *
          refine ⟨k + 1, by omega, by go_num, ?_, by rw [e, HU.out]; omega, hb.trans (hb2.mono hb.size)⟩
          rw [HBP.out, e, HU.out]
          congr 1
          omega
        case measure => simp [intOf]; omega
      · have hbp : bud (left - l.length - U) V = -1 := bud_neg hf
        have hbn : bud (left - l.length - U) V < 0 := by rw [hbp]; omega
        clear hbp
        go_wp2_with (first | (refine wpList_load_elem 266 _ bc (offc + k * 10) vs (.struct (flds Tryz.prog 266)) HRA.out rfl rfl (by kernel_rfl) rfl hvl (by kernel_rfl) rfl ?_) | (go_at_call 144; refine (HZ.out vs _ _ w.heap.size (by omega) (by omega) (by have := hb.size; omega) HVV.out).mono ?_; rw [HV.out]; rintro e w2 ⟨rfl, hb2⟩))
        go_ret
        refine ⟨ret_int ?_, hb.trans (hb2.mono hb.size)⟩
        have e := HT.out
        have e2 := HL.out
        have e3 := HU.out
        have e4 := HV.out
        rw [bud_neg (by omega)]
    · obtain rfl : k = l.length := by omega
      clear hlt
      go_wp2_with fail
      go_ret
      refine ⟨ret_int ?_, hb⟩
      rw [List.take_length] at *
      rw [bud_pos (by omega)]
      omega
theorem szSlot_any (x : FSlot) (hw : x.ok) : SzSlot x := by
  obtain ⟨⟨z0, z1, z2⟩, ⟨z3, z4, z5, z6, z7⟩, z8, z9⟩ := x
  have hw2 := hw
  rw [FSlot.ok_eq] at hw2
  exact szSlot_of z0 z1 z2 z3 z4 z5 z6 z7 z8 z9 hw (szKey_any _ (by rw [FKey.ok_eq]; exact hw2.1)) (szValue_any _ (by rw [FValue.ok_eq]; exact ⟨hw2.2.1, hw2.2.2⟩))
theorem szSlotS_any (l : List FSlot) (hw : FSlot.oks l) : SzSlotS l := (szSlotS_of l (fun x hx => szSlot_any x (FSlot.oks_mem l hw x hx)))
def SzTable (x : FTable) : Prop := ∀ (us : List Value) (left : Int) (w : World) (B : Nat), 0 ≤ left → left ≤ 1048576 → B ≤ w.heap.size → RdVs w B x.c us → Calls Tryz.prog 119 #[.agg us.toArray, .int .i64 left] w fun e w' => e = .returned (.int .i64 (bud left x.wt)) ∧ Below w.heap.size w w'
theorem szTable_of (z0 : Bool) (z1 : List FInt) (z2 : List FSlot) (z3 : Int) (z4 : Int) (hok : FTable.ok ⟨z0, z1, z2, z3, z4⟩) (h1 : SzIntS z1) (h2 : SzSlotS z2) : SzTable ⟨z0, z1, z2, z3, z4⟩ := by
  intro us left w B hl0 hl1 hB0 hr
  rw [FTable.c_eq] at hr
  rw [FTable.wt_eq]
  rw [FTable.ok_eq] at hok
  obtain ⟨us0, rfl, hr_0⟩ := hr.unv
  obtain ⟨A1, c1, us1, rfl, r1, hr_1⟩ := hr_0.uns
  obtain ⟨A2, c2, us2, rfl, r2, hr_2⟩ := hr_1.uns
  obtain ⟨us3, rfl, hr_3⟩ := hr_2.unv
  obtain ⟨us4, rfl, hr_4⟩ := hr_3.unv
  obtain rfl := hr_4.un0
  clear hr hr_0 hr_1 hr_2 hr_3 hr_4
  have R1 := hid r1
  clear r1
  have R2 := hid r2
  clear r2
  have H1 := hid h1
  clear h1
  have H2 := hid h2
  clear h2
  clear hok
  obtain ⟨W, hW⟩ : ∃ W : Nat, W = (z1.length + FInt.wts z1) + (z2.length + FSlot.wts z2) := ⟨_, rfl⟩
  rw [← hW]
  have HW := hid hW
  clear hW
  go_enter Tryz.func119, Tryz.ntmps119
  go_wp2_with fail
  refine calls_worldD _ (fun X => Blk X w.heap.size 183 #[.bool z0, .slice A1 z1.length c1, .slice A2 z2.length c2, .int .i64 z3, .int .i64 z4] ∧ Below w.heap.size w X) ⟨Blk.new w _ _, (Below.refl _ _).alloc (Nat.le_refl _) _⟩ ?_
  rintro X0 ⟨ba, hB⟩
  have s0 := ba.lt
  refine (H1.out _ _ _ B (by omega) (by omega) (by omega) (R1.out.below hB hB0)).mono ?_
  generalize hq0 : (z1.length + FInt.wts z1 : Nat) = q0 at *
  have Q0 := hid hq0
  clear hq0
  rintro e Y0 ⟨rfl, hb⟩
  replace ba := ba.below hb (Nat.le_refl _)
  replace hB := hB.trans (hb.mono (by omega))
  clear hb
  by_cases f0 : (q0 : Int) ≤ left
  case neg =>
    have e0 := bud_neg f0
    rw [e0]
    clear e0
    have ba_l := ba.lt
    go_wp2_with fail
    go_ret
    exact ⟨ret_int (by rw [bud_neg (by have := HW.out; have := Q0.out; omega)]), hB⟩
  have e0 := bud_pos f0
  rw [e0]
  clear e0
  have ba_2 : Y0.cell? ⟨w.heap.size, 2, none⟩ = some (.slice A2 z2.length c2) := ba.cell 2
  have ba_l := ba.lt
  go_wp2_with fail
  refine calls_worldD _ (fun X => Blk X w.heap.size 183 #[.bool z0, .slice A1 z1.length c1, .slice A2 z2.length c2, .int .i64 z3, .int .i64 z4] ∧ Below w.heap.size w X) ⟨ba, hB⟩ ?_
  clear ba hB ba_2 ba_l
  rintro X1 ⟨ba, hB⟩
  have s1 := ba.lt
  refine (H2.out _ _ _ B (by omega) (by omega) (by omega) (R2.out.below hB hB0)).mono ?_
  generalize hq1 : (z2.length + FSlot.wts z2 : Nat) = q1 at *
  have Q1 := hid hq1
  clear hq1
  rintro e Y1 ⟨rfl, hb⟩
  replace ba := ba.below hb (Nat.le_refl _)
  replace hB := hB.trans (hb.mono (by omega))
  clear hb
  by_cases f1 : (q1 : Int) ≤ left - q0
  case neg =>
    have e1 := bud_neg f1
    rw [e1]
    clear e1
    have ba_l := ba.lt
    go_wp2_with fail
    go_ret
    exact ⟨ret_int (by rw [bud_neg (by have := HW.out; have := Q0.out;  have := Q1.out; omega)]), hB⟩
  have e1 := bud_pos f1
  rw [e1]
  clear e1
  have ba_3 : Y1.cell? ⟨w.heap.size, 3, none⟩ = some (.int .i64 z3) := ba.cell 3
  have ba_4 : Y1.cell? ⟨w.heap.size, 4, none⟩ = some (.int .i64 z4) := ba.cell 4
  have ba_l := ba.lt
  go_wp2_with fail
  go_ret
  exact ⟨ret_int (by have := HW.out; have := Q0.out;  have := Q1.out; rw [bud_pos (by omega)]; omega), hB⟩
theorem szTable_any (x : FTable) (hw : x.ok) : SzTable x := by
  obtain ⟨z0, z1, z2, z3, z4⟩ := x
  have hw2 := hw
  rw [FTable.ok_eq] at hw2
  exact szTable_of z0 z1 z2 z3 z4 hw (szIntS_any z1 hw2.1) (szSlotS_any z2 hw2.2)
def SzBlock (x : FBlock) : Prop := ∀ (us : List Value) (left : Int) (w : World) (B : Nat), 0 ≤ left → left ≤ 1048576 → B ≤ w.heap.size → RdVs w B x.c us → Calls Tryz.prog 90 #[.agg us.toArray, .int .i64 left] w fun e w' => e = .returned (.int .i64 (bud left x.wt)) ∧ Below w.heap.size w w'
def SzBlockS (l : List FBlock) : Prop := ∀ (u : Value) (left : Int) (w : World) (B : Nat), 0 ≤ left → left ≤ 1048576 → B ≤ w.heap.size → RdC w B (.s 201 6 l.length (FBlock.flat l)) u → Calls Tryz.prog 54 #[u, .int .i64 left] w fun e w' => e = .returned (.int .i64 (bud left (l.length + FBlock.wts l))) ∧ Below w.heap.size w w'
theorem szBlock_of (z0 : Int) (z1 : Bool) (z2 : List FInt) (z3 : List FSlot) (z4 : Int) (z5 : Int) (hok : FBlock.ok ⟨z0, ⟨z1, z2, z3, z4, z5⟩⟩) (h1 : SzTable ⟨z1, z2, z3, z4, z5⟩) : SzBlock ⟨z0, ⟨z1, z2, z3, z4, z5⟩⟩ := by
  intro us left w B hl0 hl1 hB0 hr
  rw [FBlock.c_eq] at hr
  rw [FBlock.wt_eq]
  rw [FBlock.ok_eq] at hok
  obtain ⟨us0, rfl, hr_0⟩ := hr.unv
  obtain ⟨us1, rfl, hr_1⟩ := hr_0.unv
  obtain ⟨A2, c2, us2, rfl, r2, hr_2⟩ := hr_1.uns
  obtain ⟨A3, c3, us3, rfl, r3, hr_3⟩ := hr_2.uns
  obtain ⟨us4, rfl, hr_4⟩ := hr_3.unv
  obtain ⟨us5, rfl, hr_5⟩ := hr_4.unv
  obtain rfl := hr_5.un0
  clear hr hr_0 hr_1 hr_2 hr_3 hr_4 hr_5
  have R2 := hid r2
  clear r2
  have R3 := hid r3
  clear r3
  have H1 := hid h1
  clear h1
  clear hok
  obtain ⟨W, hW⟩ : ∃ W : Nat, W = (z2.length + FInt.wts z2) + (z3.length + FSlot.wts z3) := ⟨_, rfl⟩
  rw [← hW]
  have HW := hid hW
  clear hW
  go_enter Tryz.func90, Tryz.ntmps90
  go_wp2_with fail
  refine calls_worldD _ (fun X => Blk X w.heap.size 185 #[.int .i64 z0, .bool z1, .slice A2 z2.length c2, .slice A3 z3.length c3, .int .i64 z4, .int .i64 z5] ∧ Below w.heap.size w X) ⟨Blk.new w _ _, (Below.refl _ _).alloc (Nat.le_refl _) _⟩ ?_
  rintro X0 ⟨ba, hB⟩
  have s0 := ba.lt
  refine (H1.out [.bool z1, .slice A2 z2.length c2, .slice A3 z3.length c3, .int .i64 z4, .int .i64 z5] _ _ B (by omega) (by omega) (by omega) (by rw [FTable.c_eq]; exact (RdVs.cons (by unfold RdC; rfl) (RdVs.cons (R2.out.below hB hB0) (RdVs.cons (R3.out.below hB hB0) (RdVs.cons (by unfold RdC; rfl) (RdVs.cons (by unfold RdC; rfl) (RdVs.nil _ _)))))))).mono ?_
  generalize hq0 : (FTable.wt ⟨z1, z2, z3, z4, z5⟩ : Nat) = q0 at *
  have Q0 := hid hq0
  clear hq0
  rintro e Y0 ⟨rfl, hb⟩
  replace ba := ba.below hb (Nat.le_refl _)
  replace hB := hB.trans (hb.mono (by omega))
  clear hb
  by_cases f0 : (q0 : Int) ≤ left
  case neg =>
    have e0 := bud_neg f0
    rw [e0]
    clear e0
    have ba_l := ba.lt
    go_wp2_with fail
    go_ret
    exact ⟨ret_int (by rw [bud_neg (by have := HW.out; have := Q0.out; have := FTable.wt_eq z1 z2 z3 z4 z5; omega)]), hB⟩
  have e0 := bud_pos f0
  rw [e0]
  clear e0
  have ba_l := ba.lt
  go_wp2_with fail
  go_ret
  exact ⟨ret_int (by have := HW.out; have := Q0.out; have := FTable.wt_eq z1 z2 z3 z4 z5; rw [bud_pos (by omega)]; omega), hB⟩
theorem szBlockS_of (l : List FBlock) (he : ∀ x, x ∈ l → SzBlock x) : SzBlockS l := by
  intro u left w B hl0 hl1 hB0 hr0
  have hr := hr0.up hB0
  clear hr0
  obtain ⟨A, c, rfl⟩ := hr.form
  have HC := hid hr
  have hcap := hr.cap
  have hcm : l.length ≤ 9223372036854775807 := by unfold maxLen at hcap; omega
  have HE := hid he
  clear hr hcap he
  by_cases hfit : left - l.length < 0
  · go_enter Tryz.func54, Tryz.ntmps54
    go_wp2_with fail
    go_ret
    exact ⟨ret_int (by rw [bud_neg (by omega)]), Below.refl _ _⟩
  go_enter Tryz.func54, Tryz.ntmps54
  go_wp2_with fail
  go_loopw [1, 5] (fun lv i wr => ∃ k : Nat, k ≤ l.length ∧ i = .int .i64 k ∧ lv = .int .i64 (left - l.length - (FBlock.wts (l.take k) : Nat)) ∧ ((FBlock.wts (l.take k) : Nat) : Int) ≤ left - l.length ∧ Below w.heap.size w wr) (fun _ i _ => l.length - (intOf i).toNat)
  case atStart => exact ⟨0, Nat.zero_le _, rfl, by simp [FBlock.wts], by simp [FBlock.wts]; omega, Below.refl _ _⟩
  case round =>
    obtain ⟨k, hk, rfl, rfl, hw, hb⟩ := hrel
    by_cases hlt : k < l.length
    · obtain ⟨x, hx⟩ : ∃ x, l[k]? = some x := ⟨_, List.getElem?_eq_getElem hlt⟩
      obtain ⟨bc, offc, vs, rfl, hblc, hvl, hvv, hra⟩ := RdC.elem FBlock.len HC.out hx
      have HVV := hid (hvv.on hb (Nat.le_refl _) (Nat.le_refl _))
      have HRA := hid (range_below hra hb hblc)
      have HZ := hid (HE.out x (List.mem_of_getElem? hx))
      have HT := hid (FBlock.wts_take l k x hx)
      have HL := hid (FBlock.wts_le l (k + 1))
      clear hx
      clear hvv hra
      generalize hu : FBlock.wts (l.take k) = U at *
      have HU := hid hu
      clear hu
      generalize hv : FBlock.wt x = V at *
      have HV := hid hv
      clear hv
      by_cases hf : (V : Int) ≤ left - l.length - U
      · have hbp : 0 ≤ bud (left - l.length - U) V := by rw [bud_pos hf]; omega
        have HBP := hid (bud_pos hf)
        go_wp2_with (first | (refine wpList_load_elem 185 _ bc (offc + k * 6) vs (.struct (flds Tryz.prog 185)) HRA.out rfl rfl (by kernel_rfl) rfl hvl (by kernel_rfl) rfl ?_) | (go_at_call 90; refine (HZ.out vs _ _ w.heap.size (by omega) (by omega) (by have := hb.size; omega) HVV.out).mono ?_; rw [HV.out]; rintro e w2 ⟨rfl, hb2⟩))
        go_roundw
        case rel =>
          have e := HT.out
          have e9 := HV.out
          rw [← HU.out] at *
          refine ⟨k + 1, by omega, by go_num, ?_, by rw [e, HU.out]; omega, hb.trans (hb2.mono hb.size)⟩
          rw [HBP.out, e, HU.out]
          congr 1
          omega
        case measure => simp [intOf]; omega
      · have hbp : bud (left - l.length - U) V = -1 := bud_neg hf
        have hbn : bud (left - l.length - U) V < 0 := by rw [hbp]; omega
        clear hbp
        go_wp2_with (first | (refine wpList_load_elem 185 _ bc (offc + k * 6) vs (.struct (flds Tryz.prog 185)) HRA.out rfl rfl (by kernel_rfl) rfl hvl (by kernel_rfl) rfl ?_) | (go_at_call 90; refine (HZ.out vs _ _ w.heap.size (by omega) (by omega) (by have := hb.size; omega) HVV.out).mono ?_; rw [HV.out]; rintro e w2 ⟨rfl, hb2⟩))
        go_ret
        refine ⟨ret_int ?_, hb.trans (hb2.mono hb.size)⟩
        have e := HT.out
        have e2 := HL.out
        have e3 := HU.out
        have e4 := HV.out
        rw [bud_neg (by omega)]
    · obtain rfl : k = l.length := by omega
      clear hlt
      go_wp2_with fail
      go_ret
      refine ⟨ret_int ?_, hb⟩
      rw [List.take_length] at *
      rw [bud_pos (by omega)]
      omega
theorem szBlock_any (x : FBlock) (hw : x.ok) : SzBlock x := by
  obtain ⟨z0, ⟨z1, z2, z3, z4, z5⟩⟩ := x
  have hw2 := hw
  rw [FBlock.ok_eq] at hw2
  exact szBlock_of z0 z1 z2 z3 z4 z5 hw (szTable_any _ (by rw [FTable.ok_eq]; exact ⟨hw2.1, hw2.2⟩))
theorem szBlockS_any (l : List FBlock) (hw : FBlock.oks l) : SzBlockS l := (szBlockS_of l (fun x hx => szBlock_any x (FBlock.oks_mem l hw x hx)))
def SzHeap (x : FHeap) : Prop := ∀ (us : List Value) (left : Int) (w : World) (B : Nat), 0 ≤ left → left ≤ 1048576 → B ≤ w.heap.size → RdVs w B x.c us → Calls Tryz.prog 15 #[.agg us.toArray, .int .i64 left] w fun e w' => e = .returned (.int .i64 (bud left x.wt)) ∧ Below w.heap.size w w'
theorem szHeap_of (z0 : List FBlock) (hok : FHeap.ok ⟨z0⟩) (h0 : SzBlockS z0) : SzHeap ⟨z0⟩ := by
  intro us left w B hl0 hl1 hB0 hr
  rw [FHeap.c_eq] at hr
  rw [FHeap.wt_eq]
  rw [FHeap.ok_eq] at hok
  obtain ⟨A0, c0, us0, rfl, r0, hr_0⟩ := hr.uns
  obtain rfl := hr_0.un0
  clear hr hr_0
  have R0 := hid r0
  clear r0
  have H0 := hid h0
  clear h0
  clear hok
  obtain ⟨W, hW⟩ : ∃ W : Nat, W = (z0.length + FBlock.wts z0) := ⟨_, rfl⟩
  rw [← hW]
  have HW := hid hW
  clear hW
  go_enter Tryz.func15, Tryz.ntmps15
  go_wp2_with fail
  refine calls_worldD _ (fun X => Blk X w.heap.size 26 #[.slice A0 z0.length c0] ∧ Below w.heap.size w X) ⟨Blk.new w _ _, (Below.refl _ _).alloc (Nat.le_refl _) _⟩ ?_
  rintro X0 ⟨ba, hB⟩
  have s0 := ba.lt
  refine (H0.out _ _ _ B (by omega) (by omega) (by omega) (R0.out.below hB hB0)).mono ?_
  generalize hq0 : (z0.length + FBlock.wts z0 : Nat) = q0 at *
  have Q0 := hid hq0
  clear hq0
  rintro e Y0 ⟨rfl, hb⟩
  replace ba := ba.below hb (Nat.le_refl _)
  replace hB := hB.trans (hb.mono (by omega))
  clear hb
  by_cases f0 : (q0 : Int) ≤ left
  case neg =>
    have e0 := bud_neg f0
    rw [e0]
    clear e0
    have ba_l := ba.lt
    go_wp2_with fail
    go_ret
    exact ⟨ret_int (by rw [bud_neg (by have := HW.out; have := Q0.out; omega)]), hB⟩
  have e0 := bud_pos f0
  rw [e0]
  clear e0
  have ba_l := ba.lt
  go_wp2_with fail
  go_ret
  exact ⟨ret_int (by have := HW.out; have := Q0.out; rw [bud_pos (by omega)]; omega), hB⟩
theorem szHeap_any (x : FHeap) (hw : x.ok) : SzHeap x := by
  obtain ⟨z0⟩ := x
  have hw2 := hw
  rw [FHeap.ok_eq] at hw2
  exact szHeap_of z0 hw (szBlockS_any z0 hw2)
def SzBinding (x : FBinding) : Prop := ∀ (us : List Value) (left : Int) (w : World) (B : Nat), 0 ≤ left → left ≤ 1048576 → B ≤ w.heap.size → RdVs w B x.c us → Calls Tryz.prog 120 #[.agg us.toArray, .int .i64 left] w fun e w' => e = .returned (.int .i64 (bud left x.wt)) ∧ Below w.heap.size w w'
def SzBindingS (l : List FBinding) : Prop := ∀ (u : Value) (left : Int) (w : World) (B : Nat), 0 ≤ left → left ≤ 1048576 → B ≤ w.heap.size → RdC w B (.s 84 6 l.length (FBinding.flat l)) u → Calls Tryz.prog 91 #[u, .int .i64 left] w fun e w' => e = .returned (.int .i64 (bud left (l.length + FBinding.wts l))) ∧ Below w.heap.size w w'
theorem szBinding_of (z0 : ByteArray) (z1 : Int) (z2 : Int) (z3 : ByteArray) (z4 : Int) (z5 : List FEntry) (hok : FBinding.ok ⟨z0, ⟨z1, z2, z3, z4, z5⟩⟩) (h1 : SzValue ⟨z1, z2, z3, z4, z5⟩) : SzBinding ⟨z0, ⟨z1, z2, z3, z4, z5⟩⟩ := by
  intro us left w B hl0 hl1 hB0 hr
  rw [FBinding.c_eq] at hr
  rw [FBinding.wt_eq]
  rw [FBinding.ok_eq] at hok
  obtain ⟨us0, rfl, hr_0⟩ := hr.unv
  obtain ⟨us1, rfl, hr_1⟩ := hr_0.unv
  obtain ⟨us2, rfl, hr_2⟩ := hr_1.unv
  obtain ⟨us3, rfl, hr_3⟩ := hr_2.unv
  obtain ⟨us4, rfl, hr_4⟩ := hr_3.unv
  obtain ⟨A5, c5, us5, rfl, r5, hr_5⟩ := hr_4.uns
  obtain rfl := hr_5.un0
  clear hr hr_0 hr_1 hr_2 hr_3 hr_4 hr_5
  have R5 := hid r5
  clear r5
  have H1 := hid h1
  clear h1
  have ks0 := hok.1
  have ks3 := hok.2.1
  clear hok
  obtain ⟨W, hW⟩ : ∃ W : Nat, W = z0.size + z3.size + (z5.length + FEntry.wts z5) := ⟨_, rfl⟩
  rw [← hW]
  have HW := hid hW
  clear hW
  by_cases c0 : left - z0.size < 0
  case pos =>
    go_enter Tryz.func120, Tryz.ntmps120
    go_wp2_with fail
    go_ret
    exact ⟨ret_int (by rw [bud_neg (by have := HW.out; have := FValue.wt_eq z1 z2 z3 z4 z5; omega)]), (Below.refl _ _).alloc (Nat.le_refl _) _⟩
  go_enter Tryz.func120, Tryz.ntmps120
  go_wp2_with fail
  refine calls_worldD _ (fun X => Blk X w.heap.size 232 #[.string z0, .int .i64 z1, .int .i64 z2, .string z3, .int .i64 z4, .slice A5 z5.length c5] ∧ Below w.heap.size w X) ⟨Blk.new w _ _, (Below.refl _ _).alloc (Nat.le_refl _) _⟩ ?_
  rintro X0 ⟨ba, hB⟩
  have s0 := ba.lt
  refine (H1.out [.int .i64 z1, .int .i64 z2, .string z3, .int .i64 z4, .slice A5 z5.length c5] _ _ B (by omega) (by omega) (by omega) (by rw [FValue.c_eq]; exact (RdVs.cons (by unfold RdC; rfl) (RdVs.cons (by unfold RdC; rfl) (RdVs.cons (by unfold RdC; rfl) (RdVs.cons (by unfold RdC; rfl) (RdVs.cons (R5.out.below hB hB0) (RdVs.nil _ _)))))))).mono ?_
  generalize hq0 : (FValue.wt ⟨z1, z2, z3, z4, z5⟩ : Nat) = q0 at *
  have Q0 := hid hq0
  clear hq0
  rintro e Y0 ⟨rfl, hb⟩
  replace ba := ba.below hb (Nat.le_refl _)
  replace hB := hB.trans (hb.mono (by omega))
  clear hb
  by_cases f0 : (q0 : Int) ≤ left - z0.size
  case neg =>
    have e0 := bud_neg f0
    rw [e0]
    clear e0
    have ba_l := ba.lt
    go_wp2_with fail
    go_ret
    exact ⟨ret_int (by rw [bud_neg (by have := HW.out; have := Q0.out; have := FValue.wt_eq z1 z2 z3 z4 z5; omega)]), hB⟩
  have e0 := bud_pos f0
  rw [e0]
  clear e0
  have ba_l := ba.lt
  go_wp2_with fail
  go_ret
  exact ⟨ret_int (by have := HW.out; have := Q0.out; have := FValue.wt_eq z1 z2 z3 z4 z5; rw [bud_pos (by omega)]; omega), hB⟩
theorem szBindingS_of (l : List FBinding) (he : ∀ x, x ∈ l → SzBinding x) : SzBindingS l := by
  intro u left w B hl0 hl1 hB0 hr0
  have hr := hr0.up hB0
  clear hr0
  obtain ⟨A, c, rfl⟩ := hr.form
  have HC := hid hr
  have hcap := hr.cap
  have hcm : l.length ≤ 9223372036854775807 := by unfold maxLen at hcap; omega
  have HE := hid he
  clear hr hcap he
  by_cases hfit : left - l.length < 0
  · go_enter Tryz.func91, Tryz.ntmps91
    go_wp2_with fail
    go_ret
    exact ⟨ret_int (by rw [bud_neg (by omega)]), Below.refl _ _⟩
  go_enter Tryz.func91, Tryz.ntmps91
  go_wp2_with fail
  go_loopw [1, 5] (fun lv i wr => ∃ k : Nat, k ≤ l.length ∧ i = .int .i64 k ∧ lv = .int .i64 (left - l.length - (FBinding.wts (l.take k) : Nat)) ∧ ((FBinding.wts (l.take k) : Nat) : Int) ≤ left - l.length ∧ Below w.heap.size w wr) (fun _ i _ => l.length - (intOf i).toNat)
  case atStart => exact ⟨0, Nat.zero_le _, rfl, by simp [FBinding.wts], by simp [FBinding.wts]; omega, Below.refl _ _⟩
  case round =>
    obtain ⟨k, hk, rfl, rfl, hw, hb⟩ := hrel
    by_cases hlt : k < l.length
    · obtain ⟨x, hx⟩ : ∃ x, l[k]? = some x := ⟨_, List.getElem?_eq_getElem hlt⟩
      obtain ⟨bc, offc, vs, rfl, hblc, hvl, hvv, hra⟩ := RdC.elem FBinding.len HC.out hx
      have HVV := hid (hvv.on hb (Nat.le_refl _) (Nat.le_refl _))
      have HRA := hid (range_below hra hb hblc)
      have HZ := hid (HE.out x (List.mem_of_getElem? hx))
      have HT := hid (FBinding.wts_take l k x hx)
      have HL := hid (FBinding.wts_le l (k + 1))
      clear hx
      clear hvv hra
      generalize hu : FBinding.wts (l.take k) = U at *
      have HU := hid hu
      clear hu
      generalize hv : FBinding.wt x = V at *
      have HV := hid hv
      clear hv
      by_cases hf : (V : Int) ≤ left - l.length - U
      · have hbp : 0 ≤ bud (left - l.length - U) V := by rw [bud_pos hf]; omega
        have HBP := hid (bud_pos hf)
        go_wp2_with (first | (refine wpList_load_elem 232 _ bc (offc + k * 6) vs (.struct (flds Tryz.prog 232)) HRA.out rfl rfl (by kernel_rfl) rfl hvl (by kernel_rfl) rfl ?_) | (go_at_call 120; refine (HZ.out vs _ _ w.heap.size (by omega) (by omega) (by have := hb.size; omega) HVV.out).mono ?_; rw [HV.out]; rintro e w2 ⟨rfl, hb2⟩))
        go_roundw
        case rel =>
          have e := HT.out
          have e9 := HV.out
          rw [← HU.out] at *
          refine ⟨k + 1, by omega, by go_num, ?_, by rw [e, HU.out]; omega, hb.trans (hb2.mono hb.size)⟩
          rw [HBP.out, e, HU.out]
          congr 1
          omega
        case measure => simp [intOf]; omega
      · have hbp : bud (left - l.length - U) V = -1 := bud_neg hf
        have hbn : bud (left - l.length - U) V < 0 := by rw [hbp]; omega
        clear hbp
        go_wp2_with (first | (refine wpList_load_elem 232 _ bc (offc + k * 6) vs (.struct (flds Tryz.prog 232)) HRA.out rfl rfl (by kernel_rfl) rfl hvl (by kernel_rfl) rfl ?_) | (go_at_call 120; refine (HZ.out vs _ _ w.heap.size (by omega) (by omega) (by have := hb.size; omega) HVV.out).mono ?_; rw [HV.out]; rintro e w2 ⟨rfl, hb2⟩))
        go_ret
        refine ⟨ret_int ?_, hb.trans (hb2.mono hb.size)⟩
        have e := HT.out
        have e2 := HL.out
        have e3 := HU.out
        have e4 := HV.out
        rw [bud_neg (by omega)]
    · obtain rfl : k = l.length := by omega
      clear hlt
      go_wp2_with fail
      go_ret
      refine ⟨ret_int ?_, hb⟩
      rw [List.take_length] at *
      rw [bud_pos (by omega)]
      omega
theorem szBinding_any (x : FBinding) (hw : x.ok) : SzBinding x := by
  obtain ⟨z0, ⟨z1, z2, z3, z4, z5⟩⟩ := x
  have hw2 := hw
  rw [FBinding.ok_eq] at hw2
  exact szBinding_of z0 z1 z2 z3 z4 z5 hw (szValue_any _ (by rw [FValue.ok_eq]; exact ⟨hw2.2.1, hw2.2.2⟩))
theorem szBindingS_any (l : List FBinding) (hw : FBinding.oks l) : SzBindingS l := (szBindingS_of l (fun x hx => szBinding_any x (FBinding.oks_mem l hw x hx)))
def SzObject (x : FObject) : Prop := ∀ (us : List Value) (left : Int) (w : World) (B : Nat), 0 ≤ left → left ≤ 1048576 → B ≤ w.heap.size → RdVs w B x.c us → Calls Tryz.prog 55 #[.agg us.toArray, .int .i64 left] w fun e w' => e = .returned (.int .i64 (bud left x.wt)) ∧ Below w.heap.size w w'
def SzObjectS (l : List FObject) : Prop := ∀ (u : Value) (left : Int) (w : World) (B : Nat), 0 ≤ left → left ≤ 1048576 → B ≤ w.heap.size → RdC w B (.s 79 3 l.length (FObject.flat l)) u → Calls Tryz.prog 16 #[u, .int .i64 left] w fun e w' => e = .returned (.int .i64 (bud left (l.length + FObject.wts l))) ∧ Below w.heap.size w w'
theorem szObject_of (z0 : ByteArray) (z1 : Bool) (z2 : List FBinding) (hok : FObject.ok ⟨z0, z1, z2⟩) (h2 : SzBindingS z2) : SzObject ⟨z0, z1, z2⟩ := by
  intro us left w B hl0 hl1 hB0 hr
  rw [FObject.c_eq] at hr
  rw [FObject.wt_eq]
  rw [FObject.ok_eq] at hok
  obtain ⟨us0, rfl, hr_0⟩ := hr.unv
  obtain ⟨us1, rfl, hr_1⟩ := hr_0.unv
  obtain ⟨A2, c2, us2, rfl, r2, hr_2⟩ := hr_1.uns
  obtain rfl := hr_2.un0
  clear hr hr_0 hr_1 hr_2
  have R2 := hid r2
  clear r2
  have H2 := hid h2
  clear h2
  have ks0 := hok.1
  clear hok
  obtain ⟨W, hW⟩ : ∃ W : Nat, W = z0.size + (z2.length + FBinding.wts z2) := ⟨_, rfl⟩
  rw [← hW]
  have HW := hid hW
  clear hW
  by_cases c0 : left - z0.size < 0
  case pos =>
    go_enter Tryz.func55, Tryz.ntmps55
    go_wp2_with fail
    go_ret
    exact ⟨ret_int (by rw [bud_neg (by have := HW.out; omega)]), (Below.refl _ _).alloc (Nat.le_refl _) _⟩
  go_enter Tryz.func55, Tryz.ntmps55
  go_wp2_with fail
  refine calls_worldD _ (fun X => Blk X w.heap.size 123 #[.string z0, .bool z1, .slice A2 z2.length c2] ∧ Below w.heap.size w X) ⟨Blk.new w _ _, (Below.refl _ _).alloc (Nat.le_refl _) _⟩ ?_
  rintro X0 ⟨ba, hB⟩
  have s0 := ba.lt
  refine (H2.out _ _ _ B (by omega) (by omega) (by omega) (R2.out.below hB hB0)).mono ?_
  generalize hq0 : (z2.length + FBinding.wts z2 : Nat) = q0 at *
  have Q0 := hid hq0
  clear hq0
  rintro e Y0 ⟨rfl, hb⟩
  replace ba := ba.below hb (Nat.le_refl _)
  replace hB := hB.trans (hb.mono (by omega))
  clear hb
  by_cases f0 : (q0 : Int) ≤ left - z0.size
  case neg =>
    have e0 := bud_neg f0
    rw [e0]
    clear e0
    have ba_l := ba.lt
    go_wp2_with fail
    go_ret
    exact ⟨ret_int (by rw [bud_neg (by have := HW.out; have := Q0.out; omega)]), hB⟩
  have e0 := bud_pos f0
  rw [e0]
  clear e0
  have ba_l := ba.lt
  go_wp2_with fail
  go_ret
  exact ⟨ret_int (by have := HW.out; have := Q0.out; rw [bud_pos (by omega)]; omega), hB⟩
theorem szObjectS_of (l : List FObject) (he : ∀ x, x ∈ l → SzObject x) : SzObjectS l := by
  intro u left w B hl0 hl1 hB0 hr0
  have hr := hr0.up hB0
  clear hr0
  obtain ⟨A, c, rfl⟩ := hr.form
  have HC := hid hr
  have hcap := hr.cap
  have hcm : l.length ≤ 9223372036854775807 := by unfold maxLen at hcap; omega
  have HE := hid he
  clear hr hcap he
  by_cases hfit : left - l.length < 0
  · go_enter Tryz.func16, Tryz.ntmps16
    go_wp2_with fail
    go_ret
    exact ⟨ret_int (by rw [bud_neg (by omega)]), Below.refl _ _⟩
  go_enter Tryz.func16, Tryz.ntmps16
  go_wp2_with fail
  go_loopw [1, 5] (fun lv i wr => ∃ k : Nat, k ≤ l.length ∧ i = .int .i64 k ∧ lv = .int .i64 (left - l.length - (FObject.wts (l.take k) : Nat)) ∧ ((FObject.wts (l.take k) : Nat) : Int) ≤ left - l.length ∧ Below w.heap.size w wr) (fun _ i _ => l.length - (intOf i).toNat)
  case atStart => exact ⟨0, Nat.zero_le _, rfl, by simp [FObject.wts], by simp [FObject.wts]; omega, Below.refl _ _⟩
  case round =>
    obtain ⟨k, hk, rfl, rfl, hw, hb⟩ := hrel
    by_cases hlt : k < l.length
    · obtain ⟨x, hx⟩ : ∃ x, l[k]? = some x := ⟨_, List.getElem?_eq_getElem hlt⟩
      obtain ⟨bc, offc, vs, rfl, hblc, hvl, hvv, hra⟩ := RdC.elem FObject.len HC.out hx
      have HVV := hid (hvv.on hb (Nat.le_refl _) (Nat.le_refl _))
      have HRA := hid (range_below hra hb hblc)
      have HZ := hid (HE.out x (List.mem_of_getElem? hx))
      have HT := hid (FObject.wts_take l k x hx)
      have HL := hid (FObject.wts_le l (k + 1))
      clear hx
      clear hvv hra
      generalize hu : FObject.wts (l.take k) = U at *
      have HU := hid hu
      clear hu
      generalize hv : FObject.wt x = V at *
      have HV := hid hv
      clear hv
      by_cases hf : (V : Int) ≤ left - l.length - U
      · have hbp : 0 ≤ bud (left - l.length - U) V := by rw [bud_pos hf]; omega
        have HBP := hid (bud_pos hf)
        go_wp2_with (first | (refine wpList_load_elem 123 _ bc (offc + k * 3) vs (.struct (flds Tryz.prog 123)) HRA.out rfl rfl (by kernel_rfl) rfl hvl (by kernel_rfl) rfl ?_) | (go_at_call 55; refine (HZ.out vs _ _ w.heap.size (by omega) (by omega) (by have := hb.size; omega) HVV.out).mono ?_; rw [HV.out]; rintro e w2 ⟨rfl, hb2⟩))
        go_roundw
        case rel =>
          have e := HT.out
          have e9 := HV.out
          rw [← HU.out] at *
          refine ⟨k + 1, by omega, by go_num, ?_, by rw [e, HU.out]; omega, hb.trans (hb2.mono hb.size)⟩
          rw [HBP.out, e, HU.out]
          congr 1
          omega
        case measure => simp [intOf]; omega
      · have hbp : bud (left - l.length - U) V = -1 := bud_neg hf
        have hbn : bud (left - l.length - U) V < 0 := by rw [hbp]; omega
        clear hbp
        go_wp2_with (first | (refine wpList_load_elem 123 _ bc (offc + k * 3) vs (.struct (flds Tryz.prog 123)) HRA.out rfl rfl (by kernel_rfl) rfl hvl (by kernel_rfl) rfl ?_) | (go_at_call 55; refine (HZ.out vs _ _ w.heap.size (by omega) (by omega) (by have := hb.size; omega) HVV.out).mono ?_; rw [HV.out]; rintro e w2 ⟨rfl, hb2⟩))
        go_ret
        refine ⟨ret_int ?_, hb.trans (hb2.mono hb.size)⟩
        have e := HT.out
        have e2 := HL.out
        have e3 := HU.out
        have e4 := HV.out
        rw [bud_neg (by omega)]
    · obtain rfl : k = l.length := by omega
      clear hlt
      go_wp2_with fail
      go_ret
      refine ⟨ret_int ?_, hb⟩
      rw [List.take_length] at *
      rw [bud_pos (by omega)]
      omega
theorem szObject_any (x : FObject) (hw : x.ok) : SzObject x := by
  obtain ⟨z0, z1, z2⟩ := x
  have hw2 := hw
  rw [FObject.ok_eq] at hw2
  exact szObject_of z0 z1 z2 hw (szBindingS_any z2 hw2.2)
theorem szObjectS_any (l : List FObject) (hw : FObject.oks l) : SzObjectS l := (szObjectS_of l (fun x hx => szObject_any x (FObject.oks_mem l hw x hx)))
def SzClosure (x : FClosure) : Prop := ∀ (us : List Value) (left : Int) (w : World) (B : Nat), 0 ≤ left → left ≤ 1048576 → B ≤ w.heap.size → RdVs w B x.c us → Calls Tryz.prog 56 #[.agg us.toArray, .int .i64 left] w fun e w' => e = .returned (.int .i64 (bud left x.wt)) ∧ Below w.heap.size w w'
def SzClosureS (l : List FClosure) : Prop := ∀ (u : Value) (left : Int) (w : World) (B : Nat), 0 ≤ left → left ≤ 1048576 → B ≤ w.heap.size → RdC w B (.s 144 5 l.length (FClosure.flat l)) u → Calls Tryz.prog 17 #[u, .int .i64 left] w fun e w' => e = .returned (.int .i64 (bud left (l.length + FClosure.wts l))) ∧ Below w.heap.size w w'
theorem szClosure_of (z0 : Int) (z1 : List FInt) (z2 : Int) (z3 : ByteArray) (z4 : ByteArray) (hok : FClosure.ok ⟨z0, z1, z2, z3, z4⟩) (h1 : SzIntS z1) : SzClosure ⟨z0, z1, z2, z3, z4⟩ := by
  intro us left w B hl0 hl1 hB0 hr
  rw [FClosure.c_eq] at hr
  rw [FClosure.wt_eq]
  rw [FClosure.ok_eq] at hok
  obtain ⟨us0, rfl, hr_0⟩ := hr.unv
  obtain ⟨A1, c1, us1, rfl, r1, hr_1⟩ := hr_0.uns
  obtain ⟨us2, rfl, hr_2⟩ := hr_1.unv
  obtain ⟨us3, rfl, hr_3⟩ := hr_2.unv
  obtain ⟨us4, rfl, hr_4⟩ := hr_3.unv
  obtain rfl := hr_4.un0
  clear hr hr_0 hr_1 hr_2 hr_3 hr_4
  have R1 := hid r1
  clear r1
  have H1 := hid h1
  clear h1
  have ks3 := hok.2.1
  have ks4 := hok.2.2
  clear hok
  obtain ⟨W, hW⟩ : ∃ W : Nat, W = (z1.length + FInt.wts z1) + z3.size + z4.size := ⟨_, rfl⟩
  rw [← hW]
  have HW := hid hW
  clear hW
  go_enter Tryz.func56, Tryz.ntmps56
  go_wp2_with fail
  refine calls_worldD _ (fun X => Blk X w.heap.size 126 #[.int .i64 z0, .slice A1 z1.length c1, .int .i64 z2, .string z3, .string z4] ∧ Below w.heap.size w X) ⟨Blk.new w _ _, (Below.refl _ _).alloc (Nat.le_refl _) _⟩ ?_
  rintro X0 ⟨ba, hB⟩
  have s0 := ba.lt
  refine (H1.out _ _ _ B (by omega) (by omega) (by omega) (R1.out.below hB hB0)).mono ?_
  generalize hq0 : (z1.length + FInt.wts z1 : Nat) = q0 at *
  have Q0 := hid hq0
  clear hq0
  rintro e Y0 ⟨rfl, hb⟩
  replace ba := ba.below hb (Nat.le_refl _)
  replace hB := hB.trans (hb.mono (by omega))
  clear hb
  by_cases f0 : (q0 : Int) ≤ left
  case neg =>
    have e0 := bud_neg f0
    rw [e0]
    clear e0
    have ba_l := ba.lt
    go_wp2_with fail
    go_ret
    exact ⟨ret_int (by rw [bud_neg (by have := HW.out; have := Q0.out; omega)]), hB⟩
  have e0 := bud_pos f0
  rw [e0]
  clear e0
  have ba_2 : Y0.cell? ⟨w.heap.size, 2, none⟩ = some (.int .i64 z2) := ba.cell 2
  have ba_3 : Y0.cell? ⟨w.heap.size, 3, none⟩ = some (.string z3) := ba.cell 3
  have ba_4 : Y0.cell? ⟨w.heap.size, 4, none⟩ = some (.string z4) := ba.cell 4
  have ba_l := ba.lt
  by_cases c3 : left - q0 - z3.size < 0
  case pos =>
    go_wp2_with fail
    go_ret
    exact ⟨ret_int (by rw [bud_neg (by have := HW.out; have := Q0.out; omega)]), hB⟩
  by_cases c4 : left - q0 - z3.size - z4.size < 0
  case pos =>
    go_wp2_with fail
    go_ret
    exact ⟨ret_int (by rw [bud_neg (by have := HW.out; have := Q0.out; omega)]), hB⟩
  go_wp2_with fail
  go_ret
  exact ⟨ret_int (by have := HW.out; have := Q0.out; rw [bud_pos (by omega)]; omega), hB⟩
theorem szClosureS_of (l : List FClosure) (he : ∀ x, x ∈ l → SzClosure x) : SzClosureS l := by
  intro u left w B hl0 hl1 hB0 hr0
  have hr := hr0.up hB0
  clear hr0
  obtain ⟨A, c, rfl⟩ := hr.form
  have HC := hid hr
  have hcap := hr.cap
  have hcm : l.length ≤ 9223372036854775807 := by unfold maxLen at hcap; omega
  have HE := hid he
  clear hr hcap he
  by_cases hfit : left - l.length < 0
  · go_enter Tryz.func17, Tryz.ntmps17
    go_wp2_with fail
    go_ret
    exact ⟨ret_int (by rw [bud_neg (by omega)]), Below.refl _ _⟩
  go_enter Tryz.func17, Tryz.ntmps17
  go_wp2_with fail
  go_loopw [1, 5] (fun lv i wr => ∃ k : Nat, k ≤ l.length ∧ i = .int .i64 k ∧ lv = .int .i64 (left - l.length - (FClosure.wts (l.take k) : Nat)) ∧ ((FClosure.wts (l.take k) : Nat) : Int) ≤ left - l.length ∧ Below w.heap.size w wr) (fun _ i _ => l.length - (intOf i).toNat)
  case atStart => exact ⟨0, Nat.zero_le _, rfl, by simp [FClosure.wts], by simp [FClosure.wts]; omega, Below.refl _ _⟩
  case round =>
    obtain ⟨k, hk, rfl, rfl, hw, hb⟩ := hrel
    by_cases hlt : k < l.length
    · obtain ⟨x, hx⟩ : ∃ x, l[k]? = some x := ⟨_, List.getElem?_eq_getElem hlt⟩
      obtain ⟨bc, offc, vs, rfl, hblc, hvl, hvv, hra⟩ := RdC.elem FClosure.len HC.out hx
      have HVV := hid (hvv.on hb (Nat.le_refl _) (Nat.le_refl _))
      have HRA := hid (range_below hra hb hblc)
      have HZ := hid (HE.out x (List.mem_of_getElem? hx))
      have HT := hid (FClosure.wts_take l k x hx)
      have HL := hid (FClosure.wts_le l (k + 1))
      clear hx
      clear hvv hra
      generalize hu : FClosure.wts (l.take k) = U at *
      have HU := hid hu
      clear hu
      generalize hv : FClosure.wt x = V at *
      have HV := hid hv
      clear hv
      by_cases hf : (V : Int) ≤ left - l.length - U
      · have hbp : 0 ≤ bud (left - l.length - U) V := by rw [bud_pos hf]; omega
        have HBP := hid (bud_pos hf)
        go_wp2_with (first | (refine wpList_load_elem 126 _ bc (offc + k * 5) vs (.struct (flds Tryz.prog 126)) HRA.out rfl rfl (by kernel_rfl) rfl hvl (by kernel_rfl) rfl ?_) | (go_at_call 56; refine (HZ.out vs _ _ w.heap.size (by omega) (by omega) (by have := hb.size; omega) HVV.out).mono ?_; rw [HV.out]; rintro e w2 ⟨rfl, hb2⟩))
        go_roundw
        case rel =>
          have e := HT.out
          have e9 := HV.out
          rw [← HU.out] at *
          refine ⟨k + 1, by omega, by go_num, ?_, by rw [e, HU.out]; omega, hb.trans (hb2.mono hb.size)⟩
          rw [HBP.out, e, HU.out]
          congr 1
          omega
        case measure => simp [intOf]; omega
      · have hbp : bud (left - l.length - U) V = -1 := bud_neg hf
        have hbn : bud (left - l.length - U) V < 0 := by rw [hbp]; omega
        clear hbp
        go_wp2_with (first | (refine wpList_load_elem 126 _ bc (offc + k * 5) vs (.struct (flds Tryz.prog 126)) HRA.out rfl rfl (by kernel_rfl) rfl hvl (by kernel_rfl) rfl ?_) | (go_at_call 56; refine (HZ.out vs _ _ w.heap.size (by omega) (by omega) (by have := hb.size; omega) HVV.out).mono ?_; rw [HV.out]; rintro e w2 ⟨rfl, hb2⟩))
        go_ret
        refine ⟨ret_int ?_, hb.trans (hb2.mono hb.size)⟩
        have e := HT.out
        have e2 := HL.out
        have e3 := HU.out
        have e4 := HV.out
        rw [bud_neg (by omega)]
    · obtain rfl : k = l.length := by omega
      clear hlt
      go_wp2_with fail
      go_ret
      refine ⟨ret_int ?_, hb⟩
      rw [List.take_length] at *
      rw [bud_pos (by omega)]
      omega
theorem szClosure_any (x : FClosure) (hw : x.ok) : SzClosure x := by
  obtain ⟨z0, z1, z2, z3, z4⟩ := x
  have hw2 := hw
  rw [FClosure.ok_eq] at hw2
  exact szClosure_of z0 z1 z2 z3 z4 hw (szIntS_any z1 hw2.1)
theorem szClosureS_any (l : List FClosure) (hw : FClosure.oks l) : SzClosureS l := (szClosureS_of l (fun x hx => szClosure_any x (FClosure.oks_mem l hw x hx)))
def SzArg (x : FArg) : Prop := ∀ (us : List Value) (left : Int) (w : World) (B : Nat), 0 ≤ left → left ≤ 1048576 → B ≤ w.heap.size → RdVs w B x.c us → Calls Tryz.prog 145 #[.agg us.toArray, .int .i64 left] w fun e w' => e = .returned (.int .i64 (bud left x.wt)) ∧ Below w.heap.size w w'
def SzArgS (l : List FArg) : Prop := ∀ (u : Value) (left : Int) (w : World) (B : Nat), 0 ≤ left → left ≤ 1048576 → B ≤ w.heap.size → RdC w B (.s 158 6 l.length (FArg.flat l)) u → Calls Tryz.prog 138 #[u, .int .i64 left] w fun e w' => e = .returned (.int .i64 (bud left (l.length + FArg.wts l))) ∧ Below w.heap.size w w'
theorem szArg_of (z0 : Int) (z1 : Int) (z2 : Int) (z3 : ByteArray) (z4 : Int) (z5 : List FEntry) (hok : FArg.ok ⟨z0, ⟨z1, z2, z3, z4, z5⟩⟩) (h1 : SzValue ⟨z1, z2, z3, z4, z5⟩) : SzArg ⟨z0, ⟨z1, z2, z3, z4, z5⟩⟩ := by
  intro us left w B hl0 hl1 hB0 hr
  rw [FArg.c_eq] at hr
  rw [FArg.wt_eq]
  rw [FArg.ok_eq] at hok
  obtain ⟨us0, rfl, hr_0⟩ := hr.unv
  obtain ⟨us1, rfl, hr_1⟩ := hr_0.unv
  obtain ⟨us2, rfl, hr_2⟩ := hr_1.unv
  obtain ⟨us3, rfl, hr_3⟩ := hr_2.unv
  obtain ⟨us4, rfl, hr_4⟩ := hr_3.unv
  obtain ⟨A5, c5, us5, rfl, r5, hr_5⟩ := hr_4.uns
  obtain rfl := hr_5.un0
  clear hr hr_0 hr_1 hr_2 hr_3 hr_4 hr_5
  have R5 := hid r5
  clear r5
  have H1 := hid h1
  clear h1
  have ks3 := hok.1
  clear hok
  obtain ⟨W, hW⟩ : ∃ W : Nat, W = z3.size + (z5.length + FEntry.wts z5) := ⟨_, rfl⟩
  rw [← hW]
  have HW := hid hW
  clear hW
  go_enter Tryz.func145, Tryz.ntmps145
  go_wp2_with fail
  refine calls_worldD _ (fun X => Blk X w.heap.size 269 #[.int .i64 z0, .int .i64 z1, .int .i64 z2, .string z3, .int .i64 z4, .slice A5 z5.length c5] ∧ Below w.heap.size w X) ⟨Blk.new w _ _, (Below.refl _ _).alloc (Nat.le_refl _) _⟩ ?_
  rintro X0 ⟨ba, hB⟩
  have s0 := ba.lt
  refine (H1.out [.int .i64 z1, .int .i64 z2, .string z3, .int .i64 z4, .slice A5 z5.length c5] _ _ B (by omega) (by omega) (by omega) (by rw [FValue.c_eq]; exact (RdVs.cons (by unfold RdC; rfl) (RdVs.cons (by unfold RdC; rfl) (RdVs.cons (by unfold RdC; rfl) (RdVs.cons (by unfold RdC; rfl) (RdVs.cons (R5.out.below hB hB0) (RdVs.nil _ _)))))))).mono ?_
  generalize hq0 : (FValue.wt ⟨z1, z2, z3, z4, z5⟩ : Nat) = q0 at *
  have Q0 := hid hq0
  clear hq0
  rintro e Y0 ⟨rfl, hb⟩
  replace ba := ba.below hb (Nat.le_refl _)
  replace hB := hB.trans (hb.mono (by omega))
  clear hb
  by_cases f0 : (q0 : Int) ≤ left
  case neg =>
    have e0 := bud_neg f0
    rw [e0]
    clear e0
    have ba_l := ba.lt
    go_wp2_with fail
    go_ret
    exact ⟨ret_int (by rw [bud_neg (by have := HW.out; have := Q0.out; have := FValue.wt_eq z1 z2 z3 z4 z5; omega)]), hB⟩
  have e0 := bud_pos f0
  rw [e0]
  clear e0
  have ba_l := ba.lt
  go_wp2_with fail
  go_ret
  exact ⟨ret_int (by have := HW.out; have := Q0.out; have := FValue.wt_eq z1 z2 z3 z4 z5; rw [bud_pos (by omega)]; omega), hB⟩
theorem szArgS_of (l : List FArg) (he : ∀ x, x ∈ l → SzArg x) : SzArgS l := by
  intro u left w B hl0 hl1 hB0 hr0
  have hr := hr0.up hB0
  clear hr0
  obtain ⟨A, c, rfl⟩ := hr.form
  have HC := hid hr
  have hcap := hr.cap
  have hcm : l.length ≤ 9223372036854775807 := by unfold maxLen at hcap; omega
  have HE := hid he
  clear hr hcap he
  by_cases hfit : left - l.length < 0
  · go_enter Tryz.func138, Tryz.ntmps138
    go_wp2_with fail
    go_ret
    exact ⟨ret_int (by rw [bud_neg (by omega)]), Below.refl _ _⟩
  go_enter Tryz.func138, Tryz.ntmps138
  go_wp2_with fail
  go_loopw [1, 5] (fun lv i wr => ∃ k : Nat, k ≤ l.length ∧ i = .int .i64 k ∧ lv = .int .i64 (left - l.length - (FArg.wts (l.take k) : Nat)) ∧ ((FArg.wts (l.take k) : Nat) : Int) ≤ left - l.length ∧ Below w.heap.size w wr) (fun _ i _ => l.length - (intOf i).toNat)
  case atStart => exact ⟨0, Nat.zero_le _, rfl, by simp [FArg.wts], by simp [FArg.wts]; omega, Below.refl _ _⟩
  case round =>
    obtain ⟨k, hk, rfl, rfl, hw, hb⟩ := hrel
    by_cases hlt : k < l.length
    · obtain ⟨x, hx⟩ : ∃ x, l[k]? = some x := ⟨_, List.getElem?_eq_getElem hlt⟩
      obtain ⟨bc, offc, vs, rfl, hblc, hvl, hvv, hra⟩ := RdC.elem FArg.len HC.out hx
      have HVV := hid (hvv.on hb (Nat.le_refl _) (Nat.le_refl _))
      have HRA := hid (range_below hra hb hblc)
      have HZ := hid (HE.out x (List.mem_of_getElem? hx))
      have HT := hid (FArg.wts_take l k x hx)
      have HL := hid (FArg.wts_le l (k + 1))
      clear hx
      clear hvv hra
      generalize hu : FArg.wts (l.take k) = U at *
      have HU := hid hu
      clear hu
      generalize hv : FArg.wt x = V at *
      have HV := hid hv
      clear hv
      by_cases hf : (V : Int) ≤ left - l.length - U
      · have hbp : 0 ≤ bud (left - l.length - U) V := by rw [bud_pos hf]; omega
        have HBP := hid (bud_pos hf)
        go_wp2_with (first | (refine wpList_load_elem 269 _ bc (offc + k * 6) vs (.struct (flds Tryz.prog 269)) HRA.out rfl rfl (by kernel_rfl) rfl hvl (by kernel_rfl) rfl ?_) | (go_at_call 145; refine (HZ.out vs _ _ w.heap.size (by omega) (by omega) (by have := hb.size; omega) HVV.out).mono ?_; rw [HV.out]; rintro e w2 ⟨rfl, hb2⟩))
        go_roundw
        case rel =>
          have e := HT.out
          have e9 := HV.out
          rw [← HU.out] at *
          refine ⟨k + 1, by omega, by go_num, ?_, by rw [e, HU.out]; omega, hb.trans (hb2.mono hb.size)⟩
          rw [HBP.out, e, HU.out]
          congr 1
          omega
        case measure => simp [intOf]; omega
      · have hbp : bud (left - l.length - U) V = -1 := bud_neg hf
        have hbn : bud (left - l.length - U) V < 0 := by rw [hbp]; omega
        clear hbp
        go_wp2_with (first | (refine wpList_load_elem 269 _ bc (offc + k * 6) vs (.struct (flds Tryz.prog 269)) HRA.out rfl rfl (by kernel_rfl) rfl hvl (by kernel_rfl) rfl ?_) | (go_at_call 145; refine (HZ.out vs _ _ w.heap.size (by omega) (by omega) (by have := hb.size; omega) HVV.out).mono ?_; rw [HV.out]; rintro e w2 ⟨rfl, hb2⟩))
        go_ret
        refine ⟨ret_int ?_, hb.trans (hb2.mono hb.size)⟩
        have e := HT.out
        have e2 := HL.out
        have e3 := HU.out
        have e4 := HV.out
        rw [bud_neg (by omega)]
    · obtain rfl : k = l.length := by omega
      clear hlt
      go_wp2_with fail
      go_ret
      refine ⟨ret_int ?_, hb⟩
      rw [List.take_length] at *
      rw [bud_pos (by omega)]
      omega
theorem szArg_any (x : FArg) (hw : x.ok) : SzArg x := by
  obtain ⟨z0, ⟨z1, z2, z3, z4, z5⟩⟩ := x
  have hw2 := hw
  rw [FArg.ok_eq] at hw2
  exact szArg_of z0 z1 z2 z3 z4 z5 hw (szValue_any _ (by rw [FValue.ok_eq]; exact ⟨hw2.1, hw2.2⟩))
theorem szArgS_any (l : List FArg) (hw : FArg.oks l) : SzArgS l := (szArgS_of l (fun x hx => szArg_any x (FArg.oks_mem l hw x hx)))
def SzCall (x : FCall) : Prop := ∀ (us : List Value) (left : Int) (w : World) (B : Nat), 0 ≤ left → left ≤ 1048576 → B ≤ w.heap.size → RdVs w B x.c us → Calls Tryz.prog 121 #[.agg us.toArray, .int .i64 left] w fun e w' => e = .returned (.int .i64 (bud left x.wt)) ∧ Below w.heap.size w w'
def SzCallS (l : List FCall) : Prop := ∀ (u : Value) (left : Int) (w : World) (B : Nat), 0 ≤ left → left ≤ 1048576 → B ≤ w.heap.size → RdC w B (.s 156 9 l.length (FCall.flat l)) u → Calls Tryz.prog 93 #[u, .int .i64 left] w fun e w' => e = .returned (.int .i64 (bud left (l.length + FCall.wts l))) ∧ Below w.heap.size w w'
theorem szCall_of (z0 : Int) (z1 : ByteArray) (z2 : Bool) (z3 : Int) (z4 : Int) (z5 : ByteArray) (z6 : ByteArray) (z7 : List FInt) (z8 : List FArg) (hok : FCall.ok ⟨z0, z1, z2, z3, z4, z5, z6, z7, z8⟩) (h7 : SzIntS z7) (h8 : SzArgS z8) : SzCall ⟨z0, z1, z2, z3, z4, z5, z6, z7, z8⟩ := by
  intro us left w B hl0 hl1 hB0 hr
  rw [FCall.c_eq] at hr
  rw [FCall.wt_eq]
  rw [FCall.ok_eq] at hok
  obtain ⟨us0, rfl, hr_0⟩ := hr.unv
  obtain ⟨us1, rfl, hr_1⟩ := hr_0.unv
  obtain ⟨us2, rfl, hr_2⟩ := hr_1.unv
  obtain ⟨us3, rfl, hr_3⟩ := hr_2.unv
  obtain ⟨us4, rfl, hr_4⟩ := hr_3.unv
  obtain ⟨us5, rfl, hr_5⟩ := hr_4.unv
  obtain ⟨us6, rfl, hr_6⟩ := hr_5.unv
  obtain ⟨A7, c7, us7, rfl, r7, hr_7⟩ := hr_6.uns
  obtain ⟨A8, c8, us8, rfl, r8, hr_8⟩ := hr_7.uns
  obtain rfl := hr_8.un0
  clear hr hr_0 hr_1 hr_2 hr_3 hr_4 hr_5 hr_6 hr_7 hr_8
  have R7 := hid r7
  clear r7
  have R8 := hid r8
  clear r8
  have H7 := hid h7
  clear h7
  have H8 := hid h8
  clear h8
  have ks1 := hok.1
  have ks5 := hok.2.1
  have ks6 := hok.2.2.1
  clear hok
  obtain ⟨W, hW⟩ : ∃ W : Nat, W = z1.size + z5.size + z6.size + (z7.length + FInt.wts z7) + (z8.length + FArg.wts z8) := ⟨_, rfl⟩
  rw [← hW]
  have HW := hid hW
  clear hW
  by_cases c1 : left - z1.size < 0
  case pos =>
    go_enter Tryz.func121, Tryz.ntmps121
    go_wp2_with fail
    go_ret
    exact ⟨ret_int (by rw [bud_neg (by have := HW.out; omega)]), (Below.refl _ _).alloc (Nat.le_refl _) _⟩
  by_cases c5 : left - z1.size - z5.size < 0
  case pos =>
    go_enter Tryz.func121, Tryz.ntmps121
    go_wp2_with fail
    go_ret
    exact ⟨ret_int (by rw [bud_neg (by have := HW.out; omega)]), (Below.refl _ _).alloc (Nat.le_refl _) _⟩
  by_cases c6 : left - z1.size - z5.size - z6.size < 0
  case pos =>
    go_enter Tryz.func121, Tryz.ntmps121
    go_wp2_with fail
    go_ret
    exact ⟨ret_int (by rw [bud_neg (by have := HW.out; omega)]), (Below.refl _ _).alloc (Nat.le_refl _) _⟩
  go_enter Tryz.func121, Tryz.ntmps121
  go_wp2_with fail
  refine calls_worldD _ (fun X => Blk X w.heap.size 236 #[.int .i64 z0, .string z1, .bool z2, .int .i64 z3, .int .i64 z4, .string z5, .string z6, .slice A7 z7.length c7, .slice A8 z8.length c8] ∧ Below w.heap.size w X) ⟨Blk.new w _ _, (Below.refl _ _).alloc (Nat.le_refl _) _⟩ ?_
  rintro X0 ⟨ba, hB⟩
  have s0 := ba.lt
  refine (H7.out _ _ _ B (by omega) (by omega) (by omega) (R7.out.below hB hB0)).mono ?_
  generalize hq0 : (z7.length + FInt.wts z7 : Nat) = q0 at *
  have Q0 := hid hq0
  clear hq0
  rintro e Y0 ⟨rfl, hb⟩
  replace ba := ba.below hb (Nat.le_refl _)
  replace hB := hB.trans (hb.mono (by omega))
  clear hb
  by_cases f0 : (q0 : Int) ≤ left - z1.size - z5.size - z6.size
  case neg =>
    have e0 := bud_neg f0
    rw [e0]
    clear e0
    have ba_l := ba.lt
    go_wp2_with fail
    go_ret
    exact ⟨ret_int (by rw [bud_neg (by have := HW.out; have := Q0.out; omega)]), hB⟩
  have e0 := bud_pos f0
  rw [e0]
  clear e0
  have ba_8 : Y0.cell? ⟨w.heap.size, 8, none⟩ = some (.slice A8 z8.length c8) := ba.cell 8
  have ba_l := ba.lt
  go_wp2_with fail
  refine calls_worldD _ (fun X => Blk X w.heap.size 236 #[.int .i64 z0, .string z1, .bool z2, .int .i64 z3, .int .i64 z4, .string z5, .string z6, .slice A7 z7.length c7, .slice A8 z8.length c8] ∧ Below w.heap.size w X) ⟨ba, hB⟩ ?_
  clear ba hB ba_8 ba_l
  rintro X1 ⟨ba, hB⟩
  have s1 := ba.lt
  refine (H8.out _ _ _ B (by omega) (by omega) (by omega) (R8.out.below hB hB0)).mono ?_
  generalize hq1 : (z8.length + FArg.wts z8 : Nat) = q1 at *
  have Q1 := hid hq1
  clear hq1
  rintro e Y1 ⟨rfl, hb⟩
  replace ba := ba.below hb (Nat.le_refl _)
  replace hB := hB.trans (hb.mono (by omega))
  clear hb
  by_cases f1 : (q1 : Int) ≤ left - z1.size - z5.size - z6.size - q0
  case neg =>
    have e1 := bud_neg f1
    rw [e1]
    clear e1
    have ba_l := ba.lt
    go_wp2_with fail
    go_ret
    exact ⟨ret_int (by rw [bud_neg (by have := HW.out; have := Q0.out;  have := Q1.out; omega)]), hB⟩
  have e1 := bud_pos f1
  rw [e1]
  clear e1
  have ba_l := ba.lt
  go_wp2_with fail
  go_ret
  exact ⟨ret_int (by have := HW.out; have := Q0.out;  have := Q1.out; rw [bud_pos (by omega)]; omega), hB⟩
theorem szCallS_of (l : List FCall) (he : ∀ x, x ∈ l → SzCall x) : SzCallS l := by
  intro u left w B hl0 hl1 hB0 hr0
  have hr := hr0.up hB0
  clear hr0
  obtain ⟨A, c, rfl⟩ := hr.form
  have HC := hid hr
  have hcap := hr.cap
  have hcm : l.length ≤ 9223372036854775807 := by unfold maxLen at hcap; omega
  have HE := hid he
  clear hr hcap he
  by_cases hfit : left - l.length < 0
  · go_enter Tryz.func93, Tryz.ntmps93
    go_wp2_with fail
    go_ret
    exact ⟨ret_int (by rw [bud_neg (by omega)]), Below.refl _ _⟩
  go_enter Tryz.func93, Tryz.ntmps93
  go_wp2_with fail
  go_loopw [1, 5] (fun lv i wr => ∃ k : Nat, k ≤ l.length ∧ i = .int .i64 k ∧ lv = .int .i64 (left - l.length - (FCall.wts (l.take k) : Nat)) ∧ ((FCall.wts (l.take k) : Nat) : Int) ≤ left - l.length ∧ Below w.heap.size w wr) (fun _ i _ => l.length - (intOf i).toNat)
  case atStart => exact ⟨0, Nat.zero_le _, rfl, by simp [FCall.wts], by simp [FCall.wts]; omega, Below.refl _ _⟩
  case round =>
    obtain ⟨k, hk, rfl, rfl, hw, hb⟩ := hrel
    by_cases hlt : k < l.length
    · obtain ⟨x, hx⟩ : ∃ x, l[k]? = some x := ⟨_, List.getElem?_eq_getElem hlt⟩
      obtain ⟨bc, offc, vs, rfl, hblc, hvl, hvv, hra⟩ := RdC.elem FCall.len HC.out hx
      have HVV := hid (hvv.on hb (Nat.le_refl _) (Nat.le_refl _))
      have HRA := hid (range_below hra hb hblc)
      have HZ := hid (HE.out x (List.mem_of_getElem? hx))
      have HT := hid (FCall.wts_take l k x hx)
      have HL := hid (FCall.wts_le l (k + 1))
      clear hx
      clear hvv hra
      generalize hu : FCall.wts (l.take k) = U at *
      have HU := hid hu
      clear hu
      generalize hv : FCall.wt x = V at *
      have HV := hid hv
      clear hv
      by_cases hf : (V : Int) ≤ left - l.length - U
      · have hbp : 0 ≤ bud (left - l.length - U) V := by rw [bud_pos hf]; omega
        have HBP := hid (bud_pos hf)
        go_wp2_with (first | (refine wpList_load_elem 236 _ bc (offc + k * 9) vs (.struct (flds Tryz.prog 236)) HRA.out rfl rfl (by kernel_rfl) rfl hvl (by kernel_rfl) rfl ?_) | (go_at_call 121; refine (HZ.out vs _ _ w.heap.size (by omega) (by omega) (by have := hb.size; omega) HVV.out).mono ?_; rw [HV.out]; rintro e w2 ⟨rfl, hb2⟩))
        go_roundw
        case rel =>
          have e := HT.out
          have e9 := HV.out
          rw [← HU.out] at *
          refine ⟨k + 1, by omega, by go_num, ?_, by rw [e, HU.out]; omega, hb.trans (hb2.mono hb.size)⟩
          rw [HBP.out, e, HU.out]
          congr 1
          omega
        case measure => simp [intOf]; omega
      · have hbp : bud (left - l.length - U) V = -1 := bud_neg hf
        have hbn : bud (left - l.length - U) V < 0 := by rw [hbp]; omega
        clear hbp
        go_wp2_with (first | (refine wpList_load_elem 236 _ bc (offc + k * 9) vs (.struct (flds Tryz.prog 236)) HRA.out rfl rfl (by kernel_rfl) rfl hvl (by kernel_rfl) rfl ?_) | (go_at_call 121; refine (HZ.out vs _ _ w.heap.size (by omega) (by omega) (by have := hb.size; omega) HVV.out).mono ?_; rw [HV.out]; rintro e w2 ⟨rfl, hb2⟩))
        go_ret
        refine ⟨ret_int ?_, hb.trans (hb2.mono hb.size)⟩
        have e := HT.out
        have e2 := HL.out
        have e3 := HU.out
        have e4 := HV.out
        rw [bud_neg (by omega)]
    · obtain rfl : k = l.length := by omega
      clear hlt
      go_wp2_with fail
      go_ret
      refine ⟨ret_int ?_, hb⟩
      rw [List.take_length] at *
      rw [bud_pos (by omega)]
      omega
theorem szCall_any (x : FCall) (hw : x.ok) : SzCall x := by
  obtain ⟨z0, z1, z2, z3, z4, z5, z6, z7, z8⟩ := x
  have hw2 := hw
  rw [FCall.ok_eq] at hw2
  exact szCall_of z0 z1 z2 z3 z4 z5 z6 z7 z8 hw (szIntS_any z7 hw2.2.2.2.1) (szArgS_any z8 hw2.2.2.2.2)
theorem szCallS_any (l : List FCall) (hw : FCall.oks l) : SzCallS l := (szCallS_of l (fun x hx => szCall_any x (FCall.oks_mem l hw x hx)))
def SzTry (x : FTry) : Prop := ∀ (us : List Value) (left : Int) (w : World) (B : Nat), 0 ≤ left → left ≤ 1048576 → B ≤ w.heap.size → RdVs w B x.c us → Calls Tryz.prog 122 #[.agg us.toArray, .int .i64 left] w fun e w' => e = .returned (.int .i64 (bud left x.wt)) ∧ Below w.heap.size w w'
def SzTryS (l : List FTry) : Prop := ∀ (u : Value) (left : Int) (w : World) (B : Nat), 0 ≤ left → left ≤ 1048576 → B ≤ w.heap.size → RdC w B (.s 224 6 l.length (FTry.flat l)) u → Calls Tryz.prog 94 #[u, .int .i64 left] w fun e w' => e = .returned (.int .i64 (bud left (l.length + FTry.wts l))) ∧ Below w.heap.size w w'
theorem szTry_of (z0 : Bool) (z1 : ByteArray) (z2 : Int) (z3 : Int) (z4 : Int) (z5 : Int) (hok : FTry.ok ⟨z0, z1, z2, z3, z4, z5⟩)  : SzTry ⟨z0, z1, z2, z3, z4, z5⟩ := by
  intro us left w B hl0 hl1 hB0 hr
  rw [FTry.c_eq] at hr
  rw [FTry.wt_eq]
  rw [FTry.ok_eq] at hok
  obtain ⟨us0, rfl, hr_0⟩ := hr.unv
  obtain ⟨us1, rfl, hr_1⟩ := hr_0.unv
  obtain ⟨us2, rfl, hr_2⟩ := hr_1.unv
  obtain ⟨us3, rfl, hr_3⟩ := hr_2.unv
  obtain ⟨us4, rfl, hr_4⟩ := hr_3.unv
  obtain ⟨us5, rfl, hr_5⟩ := hr_4.unv
  obtain rfl := hr_5.un0
  clear hr hr_0 hr_1 hr_2 hr_3 hr_4 hr_5
  have ks1 := hok
  clear hok
  obtain ⟨W, hW⟩ : ∃ W : Nat, W = z1.size := ⟨_, rfl⟩
  rw [← hW]
  have HW := hid hW
  clear hW
  by_cases c1 : left - z1.size < 0
  case pos =>
    go_enter Tryz.func122, Tryz.ntmps122
    go_wp2_with fail
    go_ret
    exact ⟨ret_int (by rw [bud_neg (by have := HW.out; omega)]), (Below.refl _ _).alloc (Nat.le_refl _) _⟩
  go_enter Tryz.func122, Tryz.ntmps122
  go_wp2_with fail
  go_ret
  exact ⟨ret_int (by have := HW.out; rw [bud_pos (by omega)]; omega), (Below.refl _ _).alloc (Nat.le_refl _) _⟩
theorem szTryS_of (l : List FTry) (he : ∀ x, x ∈ l → SzTry x) : SzTryS l := by
  intro u left w B hl0 hl1 hB0 hr0
  have hr := hr0.up hB0
  clear hr0
  obtain ⟨A, c, rfl⟩ := hr.form
  have HC := hid hr
  have hcap := hr.cap
  have hcm : l.length ≤ 9223372036854775807 := by unfold maxLen at hcap; omega
  have HE := hid he
  clear hr hcap he
  by_cases hfit : left - l.length < 0
  · go_enter Tryz.func94, Tryz.ntmps94
    go_wp2_with fail
    go_ret
    exact ⟨ret_int (by rw [bud_neg (by omega)]), Below.refl _ _⟩
  go_enter Tryz.func94, Tryz.ntmps94
  go_wp2_with fail
  go_loopw [1, 5] (fun lv i wr => ∃ k : Nat, k ≤ l.length ∧ i = .int .i64 k ∧ lv = .int .i64 (left - l.length - (FTry.wts (l.take k) : Nat)) ∧ ((FTry.wts (l.take k) : Nat) : Int) ≤ left - l.length ∧ Below w.heap.size w wr) (fun _ i _ => l.length - (intOf i).toNat)
  case atStart => exact ⟨0, Nat.zero_le _, rfl, by simp [FTry.wts], by simp [FTry.wts]; omega, Below.refl _ _⟩
  case round =>
    obtain ⟨k, hk, rfl, rfl, hw, hb⟩ := hrel
    by_cases hlt : k < l.length
    · obtain ⟨x, hx⟩ : ∃ x, l[k]? = some x := ⟨_, List.getElem?_eq_getElem hlt⟩
      obtain ⟨bc, offc, vs, rfl, hblc, hvl, hvv, hra⟩ := RdC.elem FTry.len HC.out hx
      have HVV := hid (hvv.on hb (Nat.le_refl _) (Nat.le_refl _))
      have HRA := hid (range_below hra hb hblc)
      have HZ := hid (HE.out x (List.mem_of_getElem? hx))
      have HT := hid (FTry.wts_take l k x hx)
      have HL := hid (FTry.wts_le l (k + 1))
      clear hx
      clear hvv hra
      generalize hu : FTry.wts (l.take k) = U at *
      have HU := hid hu
      clear hu
      generalize hv : FTry.wt x = V at *
      have HV := hid hv
      clear hv
      by_cases hf : (V : Int) ≤ left - l.length - U
      · have hbp : 0 ≤ bud (left - l.length - U) V := by rw [bud_pos hf]; omega
        have HBP := hid (bud_pos hf)
        go_wp2_with (first | (refine wpList_load_elem 238 _ bc (offc + k * 6) vs (.struct (flds Tryz.prog 238)) HRA.out rfl rfl (by kernel_rfl) rfl hvl (by kernel_rfl) rfl ?_) | (go_at_call 122; refine (HZ.out vs _ _ w.heap.size (by omega) (by omega) (by have := hb.size; omega) HVV.out).mono ?_; rw [HV.out]; rintro e w2 ⟨rfl, hb2⟩))
        go_roundw
        case rel =>
          have e := HT.out
          have e9 := HV.out
          rw [← HU.out] at *
          refine ⟨k + 1, by omega, by go_num, ?_, by rw [e, HU.out]; omega, hb.trans (hb2.mono hb.size)⟩
          rw [HBP.out, e, HU.out]
          congr 1
          omega
        case measure => simp [intOf]; omega
      · have hbp : bud (left - l.length - U) V = -1 := bud_neg hf
        have hbn : bud (left - l.length - U) V < 0 := by rw [hbp]; omega
        clear hbp
        go_wp2_with (first | (refine wpList_load_elem 238 _ bc (offc + k * 6) vs (.struct (flds Tryz.prog 238)) HRA.out rfl rfl (by kernel_rfl) rfl hvl (by kernel_rfl) rfl ?_) | (go_at_call 122; refine (HZ.out vs _ _ w.heap.size (by omega) (by omega) (by have := hb.size; omega) HVV.out).mono ?_; rw [HV.out]; rintro e w2 ⟨rfl, hb2⟩))
        go_ret
        refine ⟨ret_int ?_, hb.trans (hb2.mono hb.size)⟩
        have e := HT.out
        have e2 := HL.out
        have e3 := HU.out
        have e4 := HV.out
        rw [bud_neg (by omega)]
    · obtain rfl : k = l.length := by omega
      clear hlt
      go_wp2_with fail
      go_ret
      refine ⟨ret_int ?_, hb⟩
      rw [List.take_length] at *
      rw [bud_pos (by omega)]
      omega
theorem szTry_any (x : FTry) (hw : x.ok) : SzTry x := by
  obtain ⟨z0, z1, z2, z3, z4, z5⟩ := x
  have hw2 := hw
  rw [FTry.ok_eq] at hw2
  exact szTry_of z0 z1 z2 z3 z4 z5 hw 
theorem szTryS_any (l : List FTry) (hw : FTry.oks l) : SzTryS l := (szTryS_of l (fun x hx => szTry_any x (FTry.oks_mem l hw x hx)))
def SzEnd (x : FEnd) : Prop := ∀ (us : List Value) (left : Int) (w : World) (B : Nat), 0 ≤ left → left ≤ 1048576 → B ≤ w.heap.size → RdVs w B x.c us → Calls Tryz.prog 123 #[.agg us.toArray, .int .i64 left] w fun e w' => e = .returned (.int .i64 (bud left x.wt)) ∧ Below w.heap.size w w'
def SzEndS (l : List FEnd) : Prop := ∀ (u : Value) (left : Int) (w : World) (B : Nat), 0 ≤ left → left ≤ 1048576 → B ≤ w.heap.size → RdC w B (.s 160 9 l.length (FEnd.flat l)) u → Calls Tryz.prog 95 #[u, .int .i64 left] w fun e w' => e = .returned (.int .i64 (bud left (l.length + FEnd.wts l))) ∧ Below w.heap.size w w'
theorem szEnd_of (z0 : Int) (z1 : Int) (z2 : Int) (z3 : ByteArray) (z4 : Int) (z5 : List FEntry) (z6 : Int) (z7 : Int) (z8 : Int) (hok : FEnd.ok ⟨z0, ⟨z1, z2, z3, z4, z5⟩, z6, z7, z8⟩) (h1 : SzValue ⟨z1, z2, z3, z4, z5⟩) : SzEnd ⟨z0, ⟨z1, z2, z3, z4, z5⟩, z6, z7, z8⟩ := by
  intro us left w B hl0 hl1 hB0 hr
  rw [FEnd.c_eq] at hr
  rw [FEnd.wt_eq]
  rw [FEnd.ok_eq] at hok
  obtain ⟨us0, rfl, hr_0⟩ := hr.unv
  obtain ⟨us1, rfl, hr_1⟩ := hr_0.unv
  obtain ⟨us2, rfl, hr_2⟩ := hr_1.unv
  obtain ⟨us3, rfl, hr_3⟩ := hr_2.unv
  obtain ⟨us4, rfl, hr_4⟩ := hr_3.unv
  obtain ⟨A5, c5, us5, rfl, r5, hr_5⟩ := hr_4.uns
  obtain ⟨us6, rfl, hr_6⟩ := hr_5.unv
  obtain ⟨us7, rfl, hr_7⟩ := hr_6.unv
  obtain ⟨us8, rfl, hr_8⟩ := hr_7.unv
  obtain rfl := hr_8.un0
  clear hr hr_0 hr_1 hr_2 hr_3 hr_4 hr_5 hr_6 hr_7 hr_8
  have R5 := hid r5
  clear r5
  have H1 := hid h1
  clear h1
  have ks3 := hok.1
  clear hok
  obtain ⟨W, hW⟩ : ∃ W : Nat, W = z3.size + (z5.length + FEntry.wts z5) := ⟨_, rfl⟩
  rw [← hW]
  have HW := hid hW
  clear hW
  go_enter Tryz.func123, Tryz.ntmps123
  go_wp2_with fail
  refine calls_worldD _ (fun X => Blk X w.heap.size 241 #[.int .i64 z0, .int .i64 z1, .int .i64 z2, .string z3, .int .i64 z4, .slice A5 z5.length c5, .int .i64 z6, .int .i64 z7, .int .i64 z8] ∧ Below w.heap.size w X) ⟨Blk.new w _ _, (Below.refl _ _).alloc (Nat.le_refl _) _⟩ ?_
  rintro X0 ⟨ba, hB⟩
  have s0 := ba.lt
  refine (H1.out [.int .i64 z1, .int .i64 z2, .string z3, .int .i64 z4, .slice A5 z5.length c5] _ _ B (by omega) (by omega) (by omega) (by rw [FValue.c_eq]; exact (RdVs.cons (by unfold RdC; rfl) (RdVs.cons (by unfold RdC; rfl) (RdVs.cons (by unfold RdC; rfl) (RdVs.cons (by unfold RdC; rfl) (RdVs.cons (R5.out.below hB hB0) (RdVs.nil _ _)))))))).mono ?_
  generalize hq0 : (FValue.wt ⟨z1, z2, z3, z4, z5⟩ : Nat) = q0 at *
  have Q0 := hid hq0
  clear hq0
  rintro e Y0 ⟨rfl, hb⟩
  replace ba := ba.below hb (Nat.le_refl _)
  replace hB := hB.trans (hb.mono (by omega))
  clear hb
  by_cases f0 : (q0 : Int) ≤ left
  case neg =>
    have e0 := bud_neg f0
    rw [e0]
    clear e0
    have ba_l := ba.lt
    go_wp2_with fail
    go_ret
    exact ⟨ret_int (by rw [bud_neg (by have := HW.out; have := Q0.out; have := FValue.wt_eq z1 z2 z3 z4 z5; omega)]), hB⟩
  have e0 := bud_pos f0
  rw [e0]
  clear e0
  have ba_6 : Y0.cell? ⟨w.heap.size, 6, none⟩ = some (.int .i64 z6) := ba.cell 6
  have ba_7 : Y0.cell? ⟨w.heap.size, 7, none⟩ = some (.int .i64 z7) := ba.cell 7
  have ba_8 : Y0.cell? ⟨w.heap.size, 8, none⟩ = some (.int .i64 z8) := ba.cell 8
  have ba_l := ba.lt
  go_wp2_with fail
  go_ret
  exact ⟨ret_int (by have := HW.out; have := Q0.out; have := FValue.wt_eq z1 z2 z3 z4 z5; rw [bud_pos (by omega)]; omega), hB⟩
theorem szEndS_of (l : List FEnd) (he : ∀ x, x ∈ l → SzEnd x) : SzEndS l := by
  intro u left w B hl0 hl1 hB0 hr0
  have hr := hr0.up hB0
  clear hr0
  obtain ⟨A, c, rfl⟩ := hr.form
  have HC := hid hr
  have hcap := hr.cap
  have hcm : l.length ≤ 9223372036854775807 := by unfold maxLen at hcap; omega
  have HE := hid he
  clear hr hcap he
  by_cases hfit : left - l.length < 0
  · go_enter Tryz.func95, Tryz.ntmps95
    go_wp2_with fail
    go_ret
    exact ⟨ret_int (by rw [bud_neg (by omega)]), Below.refl _ _⟩
  go_enter Tryz.func95, Tryz.ntmps95
  go_wp2_with fail
  go_loopw [1, 5] (fun lv i wr => ∃ k : Nat, k ≤ l.length ∧ i = .int .i64 k ∧ lv = .int .i64 (left - l.length - (FEnd.wts (l.take k) : Nat)) ∧ ((FEnd.wts (l.take k) : Nat) : Int) ≤ left - l.length ∧ Below w.heap.size w wr) (fun _ i _ => l.length - (intOf i).toNat)
  case atStart => exact ⟨0, Nat.zero_le _, rfl, by simp [FEnd.wts], by simp [FEnd.wts]; omega, Below.refl _ _⟩
  case round =>
    obtain ⟨k, hk, rfl, rfl, hw, hb⟩ := hrel
    by_cases hlt : k < l.length
    · obtain ⟨x, hx⟩ : ∃ x, l[k]? = some x := ⟨_, List.getElem?_eq_getElem hlt⟩
      obtain ⟨bc, offc, vs, rfl, hblc, hvl, hvv, hra⟩ := RdC.elem FEnd.len HC.out hx
      have HVV := hid (hvv.on hb (Nat.le_refl _) (Nat.le_refl _))
      have HRA := hid (range_below hra hb hblc)
      have HZ := hid (HE.out x (List.mem_of_getElem? hx))
      have HT := hid (FEnd.wts_take l k x hx)
      have HL := hid (FEnd.wts_le l (k + 1))
      clear hx
      clear hvv hra
      generalize hu : FEnd.wts (l.take k) = U at *
      have HU := hid hu
      clear hu
      generalize hv : FEnd.wt x = V at *
      have HV := hid hv
      clear hv
      by_cases hf : (V : Int) ≤ left - l.length - U
      · have hbp : 0 ≤ bud (left - l.length - U) V := by rw [bud_pos hf]; omega
        have HBP := hid (bud_pos hf)
        go_wp2_with (first | (refine wpList_load_elem 241 _ bc (offc + k * 9) vs (.struct (flds Tryz.prog 241)) HRA.out rfl rfl (by kernel_rfl) rfl hvl (by kernel_rfl) rfl ?_) | (go_at_call 123; refine (HZ.out vs _ _ w.heap.size (by omega) (by omega) (by have := hb.size; omega) HVV.out).mono ?_; rw [HV.out]; rintro e w2 ⟨rfl, hb2⟩))
        go_roundw
        case rel =>
          have e := HT.out
          have e9 := HV.out
          rw [← HU.out] at *
          refine ⟨k + 1, by omega, by go_num, ?_, by rw [e, HU.out]; omega, hb.trans (hb2.mono hb.size)⟩
          rw [HBP.out, e, HU.out]
          congr 1
          omega
        case measure => simp [intOf]; omega
      · have hbp : bud (left - l.length - U) V = -1 := bud_neg hf
        have hbn : bud (left - l.length - U) V < 0 := by rw [hbp]; omega
        clear hbp
        go_wp2_with (first | (refine wpList_load_elem 241 _ bc (offc + k * 9) vs (.struct (flds Tryz.prog 241)) HRA.out rfl rfl (by kernel_rfl) rfl hvl (by kernel_rfl) rfl ?_) | (go_at_call 123; refine (HZ.out vs _ _ w.heap.size (by omega) (by omega) (by have := hb.size; omega) HVV.out).mono ?_; rw [HV.out]; rintro e w2 ⟨rfl, hb2⟩))
        go_ret
        refine ⟨ret_int ?_, hb.trans (hb2.mono hb.size)⟩
        have e := HT.out
        have e2 := HL.out
        have e3 := HU.out
        have e4 := HV.out
        rw [bud_neg (by omega)]
    · obtain rfl : k = l.length := by omega
      clear hlt
      go_wp2_with fail
      go_ret
      refine ⟨ret_int ?_, hb⟩
      rw [List.take_length] at *
      rw [bud_pos (by omega)]
      omega
theorem szEnd_any (x : FEnd) (hw : x.ok) : SzEnd x := by
  obtain ⟨z0, ⟨z1, z2, z3, z4, z5⟩, z6, z7, z8⟩ := x
  have hw2 := hw
  rw [FEnd.ok_eq] at hw2
  exact szEnd_of z0 z1 z2 z3 z4 z5 z6 z7 z8 hw (szValue_any _ (by rw [FValue.ok_eq]; exact ⟨hw2.1, hw2.2⟩))
theorem szEndS_any (l : List FEnd) (hw : FEnd.oks l) : SzEndS l := (szEndS_of l (fun x hx => szEnd_any x (FEnd.oks_mem l hw x hx)))
def SzFrame (x : FFrame) : Prop := ∀ (us : List Value) (left : Int) (w : World) (B : Nat), 0 ≤ left → left ≤ 1048576 → B ≤ w.heap.size → RdVs w B x.c us → Calls Tryz.prog 58 #[.agg us.toArray, .int .i64 left] w fun e w' => e = .returned (.int .i64 (bud left x.wt)) ∧ Below w.heap.size w w'
def SzFrameS (l : List FFrame) : Prop := ∀ (u : Value) (left : Int) (w : World) (B : Nat), 0 ≤ left → left ≤ 1048576 → B ≤ w.heap.size → RdC w B (.s 91 13 l.length (FFrame.flat l)) u → Calls Tryz.prog 19 #[u, .int .i64 left] w fun e w' => e = .returned (.int .i64 (bud left (l.length + FFrame.wts l))) ∧ Below w.heap.size w w'
theorem szFrame_of (z0 : Int) (z1 : Int) (z2 : List FInt) (z3 : List FValue) (z4 : List FCall) (z5 : List FTry) (z6 : List FEnd) (z7 : Int) (z8 : ByteArray) (z9 : ByteArray) (z10 : Int) (z11 : Int) (z12 : Int) (hok : FFrame.ok ⟨z0, z1, z2, z3, z4, z5, z6, z7, z8, z9, z10, z11, z12⟩) (h2 : SzIntS z2) (h3 : SzValueS z3) (h4 : SzCallS z4) (h5 : SzTryS z5) (h6 : SzEndS z6) : SzFrame ⟨z0, z1, z2, z3, z4, z5, z6, z7, z8, z9, z10, z11, z12⟩ := by
  intro us left w B hl0 hl1 hB0 hr
  rw [FFrame.c_eq] at hr
  rw [FFrame.wt_eq]
  rw [FFrame.ok_eq] at hok
  obtain ⟨us0, rfl, hr_0⟩ := hr.unv
  obtain ⟨us1, rfl, hr_1⟩ := hr_0.unv
  obtain ⟨A2, c2, us2, rfl, r2, hr_2⟩ := hr_1.uns
  obtain ⟨A3, c3, us3, rfl, r3, hr_3⟩ := hr_2.uns
  obtain ⟨A4, c4, us4, rfl, r4, hr_4⟩ := hr_3.uns
  obtain ⟨A5, c5, us5, rfl, r5, hr_5⟩ := hr_4.uns
  obtain ⟨A6, c6, us6, rfl, r6, hr_6⟩ := hr_5.uns
  obtain ⟨us7, rfl, hr_7⟩ := hr_6.unv
  obtain ⟨us8, rfl, hr_8⟩ := hr_7.unv
  obtain ⟨us9, rfl, hr_9⟩ := hr_8.unv
  obtain ⟨us10, rfl, hr_10⟩ := hr_9.unv
  obtain ⟨us11, rfl, hr_11⟩ := hr_10.unv
  obtain ⟨us12, rfl, hr_12⟩ := hr_11.unv
  obtain rfl := hr_12.un0
  clear hr hr_0 hr_1 hr_2 hr_3 hr_4 hr_5 hr_6 hr_7 hr_8 hr_9 hr_10 hr_11 hr_12
  have R2 := hid r2
  clear r2
  have R3 := hid r3
  clear r3
  have R4 := hid r4
  clear r4
  have R5 := hid r5
  clear r5
  have R6 := hid r6
  clear r6
  have H2 := hid h2
  clear h2
  have H3 := hid h3
  clear h3
  have H4 := hid h4
  clear h4
  have H5 := hid h5
  clear h5
  have H6 := hid h6
  clear h6
  have ks8 := hok.2.2.2.2.2.1
  have ks9 := hok.2.2.2.2.2.2
  clear hok
  obtain ⟨W, hW⟩ : ∃ W : Nat, W = (z2.length + FInt.wts z2) + (z3.length + FValue.wts z3) + (z4.length + FCall.wts z4) + (z5.length + FTry.wts z5) + (z6.length + FEnd.wts z6) + z8.size + z9.size := ⟨_, rfl⟩
  rw [← hW]
  have HW := hid hW
  clear hW
  go_enter Tryz.func58, Tryz.ntmps58
  go_wp2_with fail
  refine calls_worldD _ (fun X => Blk X w.heap.size 132 #[.int .i64 z0, .int .i64 z1, .slice A2 z2.length c2, .slice A3 z3.length c3, .slice A4 z4.length c4, .slice A5 z5.length c5, .slice A6 z6.length c6, .int .i64 z7, .string z8, .string z9, .int .i64 z10, .int .i64 z11, .int .i64 z12] ∧ Below w.heap.size w X) ⟨Blk.new w _ _, (Below.refl _ _).alloc (Nat.le_refl _) _⟩ ?_
  rintro X0 ⟨ba, hB⟩
  have s0 := ba.lt
  refine (H2.out _ _ _ B (by omega) (by omega) (by omega) (R2.out.below hB hB0)).mono ?_
  generalize hq0 : (z2.length + FInt.wts z2 : Nat) = q0 at *
  have Q0 := hid hq0
  clear hq0
  rintro e Y0 ⟨rfl, hb⟩
  replace ba := ba.below hb (Nat.le_refl _)
  replace hB := hB.trans (hb.mono (by omega))
  clear hb
  by_cases f0 : (q0 : Int) ≤ left
  case neg =>
    have e0 := bud_neg f0
    rw [e0]
    clear e0
    have ba_l := ba.lt
    go_wp2_with fail
    go_ret
    exact ⟨ret_int (by rw [bud_neg (by have := HW.out; have := Q0.out; omega)]), hB⟩
  have e0 := bud_pos f0
  rw [e0]
  clear e0
  have ba_3 : Y0.cell? ⟨w.heap.size, 3, none⟩ = some (.slice A3 z3.length c3) := ba.cell 3
  have ba_l := ba.lt
  go_wp2_with fail
  refine calls_worldD _ (fun X => Blk X w.heap.size 132 #[.int .i64 z0, .int .i64 z1, .slice A2 z2.length c2, .slice A3 z3.length c3, .slice A4 z4.length c4, .slice A5 z5.length c5, .slice A6 z6.length c6, .int .i64 z7, .string z8, .string z9, .int .i64 z10, .int .i64 z11, .int .i64 z12] ∧ Below w.heap.size w X) ⟨ba, hB⟩ ?_
  clear ba hB ba_3 ba_l
  rintro X1 ⟨ba, hB⟩
  have s1 := ba.lt
  refine (H3.out _ _ _ B (by omega) (by omega) (by omega) (R3.out.below hB hB0)).mono ?_
  generalize hq1 : (z3.length + FValue.wts z3 : Nat) = q1 at *
  have Q1 := hid hq1
  clear hq1
  rintro e Y1 ⟨rfl, hb⟩
  replace ba := ba.below hb (Nat.le_refl _)
  replace hB := hB.trans (hb.mono (by omega))
  clear hb
  by_cases f1 : (q1 : Int) ≤ left - q0
  case neg =>
    have e1 := bud_neg f1
    rw [e1]
    clear e1
    have ba_l := ba.lt
    go_wp2_with fail
    go_ret
    exact ⟨ret_int (by rw [bud_neg (by have := HW.out; have := Q0.out;  have := Q1.out; omega)]), hB⟩
  have e1 := bud_pos f1
  rw [e1]
  clear e1
  have ba_4 : Y1.cell? ⟨w.heap.size, 4, none⟩ = some (.slice A4 z4.length c4) := ba.cell 4
  have ba_l := ba.lt
  go_wp2_with fail
  refine calls_worldD _ (fun X => Blk X w.heap.size 132 #[.int .i64 z0, .int .i64 z1, .slice A2 z2.length c2, .slice A3 z3.length c3, .slice A4 z4.length c4, .slice A5 z5.length c5, .slice A6 z6.length c6, .int .i64 z7, .string z8, .string z9, .int .i64 z10, .int .i64 z11, .int .i64 z12] ∧ Below w.heap.size w X) ⟨ba, hB⟩ ?_
  clear ba hB ba_4 ba_l
  rintro X2 ⟨ba, hB⟩
  have s2 := ba.lt
  refine (H4.out _ _ _ B (by omega) (by omega) (by omega) (R4.out.below hB hB0)).mono ?_
  generalize hq2 : (z4.length + FCall.wts z4 : Nat) = q2 at *
  have Q2 := hid hq2
  clear hq2
  rintro e Y2 ⟨rfl, hb⟩
  replace ba := ba.below hb (Nat.le_refl _)
  replace hB := hB.trans (hb.mono (by omega))
  clear hb
  by_cases f2 : (q2 : Int) ≤ left - q0 - q1
  case neg =>
    have e2 := bud_neg f2
    rw [e2]
    clear e2
    have ba_l := ba.lt
    go_wp2_with fail
    go_ret
    exact ⟨ret_int (by rw [bud_neg (by have := HW.out; have := Q0.out;  have := Q1.out;  have := Q2.out; omega)]), hB⟩
  have e2 := bud_pos f2
  rw [e2]
  clear e2
  have ba_5 : Y2.cell? ⟨w.heap.size, 5, none⟩ = some (.slice A5 z5.length c5) := ba.cell 5
  have ba_l := ba.lt
  go_wp2_with fail
  refine calls_worldD _ (fun X => Blk X w.heap.size 132 #[.int .i64 z0, .int .i64 z1, .slice A2 z2.length c2, .slice A3 z3.length c3, .slice A4 z4.length c4, .slice A5 z5.length c5, .slice A6 z6.length c6, .int .i64 z7, .string z8, .string z9, .int .i64 z10, .int .i64 z11, .int .i64 z12] ∧ Below w.heap.size w X) ⟨ba, hB⟩ ?_
  clear ba hB ba_5 ba_l
  rintro X3 ⟨ba, hB⟩
  have s3 := ba.lt
  refine (H5.out _ _ _ B (by omega) (by omega) (by omega) (R5.out.below hB hB0)).mono ?_
  generalize hq3 : (z5.length + FTry.wts z5 : Nat) = q3 at *
  have Q3 := hid hq3
  clear hq3
  rintro e Y3 ⟨rfl, hb⟩
  replace ba := ba.below hb (Nat.le_refl _)
  replace hB := hB.trans (hb.mono (by omega))
  clear hb
  by_cases f3 : (q3 : Int) ≤ left - q0 - q1 - q2
  case neg =>
    have e3 := bud_neg f3
    rw [e3]
    clear e3
    have ba_l := ba.lt
    go_wp2_with fail
    go_ret
    exact ⟨ret_int (by rw [bud_neg (by have := HW.out; have := Q0.out;  have := Q1.out;  have := Q2.out;  have := Q3.out; omega)]), hB⟩
  have e3 := bud_pos f3
  rw [e3]
  clear e3
  have ba_6 : Y3.cell? ⟨w.heap.size, 6, none⟩ = some (.slice A6 z6.length c6) := ba.cell 6
  have ba_l := ba.lt
  go_wp2_with fail
  refine calls_worldD _ (fun X => Blk X w.heap.size 132 #[.int .i64 z0, .int .i64 z1, .slice A2 z2.length c2, .slice A3 z3.length c3, .slice A4 z4.length c4, .slice A5 z5.length c5, .slice A6 z6.length c6, .int .i64 z7, .string z8, .string z9, .int .i64 z10, .int .i64 z11, .int .i64 z12] ∧ Below w.heap.size w X) ⟨ba, hB⟩ ?_
  clear ba hB ba_6 ba_l
  rintro X4 ⟨ba, hB⟩
  have s4 := ba.lt
  refine (H6.out _ _ _ B (by omega) (by omega) (by omega) (R6.out.below hB hB0)).mono ?_
  generalize hq4 : (z6.length + FEnd.wts z6 : Nat) = q4 at *
  have Q4 := hid hq4
  clear hq4
  rintro e Y4 ⟨rfl, hb⟩
  replace ba := ba.below hb (Nat.le_refl _)
  replace hB := hB.trans (hb.mono (by omega))
  clear hb
  by_cases f4 : (q4 : Int) ≤ left - q0 - q1 - q2 - q3
  case neg =>
    have e4 := bud_neg f4
    rw [e4]
    clear e4
    have ba_l := ba.lt
    go_wp2_with fail
    go_ret
    exact ⟨ret_int (by rw [bud_neg (by have := HW.out; have := Q0.out;  have := Q1.out;  have := Q2.out;  have := Q3.out;  have := Q4.out; omega)]), hB⟩
  have e4 := bud_pos f4
  rw [e4]
  clear e4
  have ba_7 : Y4.cell? ⟨w.heap.size, 7, none⟩ = some (.int .i64 z7) := ba.cell 7
  have ba_8 : Y4.cell? ⟨w.heap.size, 8, none⟩ = some (.string z8) := ba.cell 8
  have ba_9 : Y4.cell? ⟨w.heap.size, 9, none⟩ = some (.string z9) := ba.cell 9
  have ba_10 : Y4.cell? ⟨w.heap.size, 10, none⟩ = some (.int .i64 z10) := ba.cell 10
  have ba_11 : Y4.cell? ⟨w.heap.size, 11, none⟩ = some (.int .i64 z11) := ba.cell 11
  have ba_12 : Y4.cell? ⟨w.heap.size, 12, none⟩ = some (.int .i64 z12) := ba.cell 12
  have ba_l := ba.lt
  by_cases c8 : left - q0 - q1 - q2 - q3 - q4 - z8.size < 0
  case pos =>
    go_wp2_with fail
    go_ret
    exact ⟨ret_int (by rw [bud_neg (by have := HW.out; have := Q0.out;  have := Q1.out;  have := Q2.out;  have := Q3.out;  have := Q4.out; omega)]), hB⟩
  by_cases c9 : left - q0 - q1 - q2 - q3 - q4 - z8.size - z9.size < 0
  case pos =>
    go_wp2_with fail
    go_ret
    exact ⟨ret_int (by rw [bud_neg (by have := HW.out; have := Q0.out;  have := Q1.out;  have := Q2.out;  have := Q3.out;  have := Q4.out; omega)]), hB⟩
  go_wp2_with fail
  go_ret
  exact ⟨ret_int (by have := HW.out; have := Q0.out;  have := Q1.out;  have := Q2.out;  have := Q3.out;  have := Q4.out; rw [bud_pos (by omega)]; omega), hB⟩
theorem szFrameS_of (l : List FFrame) (he : ∀ x, x ∈ l → SzFrame x) : SzFrameS l := by
  intro u left w B hl0 hl1 hB0 hr0
  have hr := hr0.up hB0
  clear hr0
  obtain ⟨A, c, rfl⟩ := hr.form
  have HC := hid hr
  have hcap := hr.cap
  have hcm : l.length ≤ 9223372036854775807 := by unfold maxLen at hcap; omega
  have HE := hid he
  clear hr hcap he
  by_cases hfit : left - l.length < 0
  · go_enter Tryz.func19, Tryz.ntmps19
    go_wp2_with fail
    go_ret
    exact ⟨ret_int (by rw [bud_neg (by omega)]), Below.refl _ _⟩
  go_enter Tryz.func19, Tryz.ntmps19
  go_wp2_with fail
  go_loopw [1, 5] (fun lv i wr => ∃ k : Nat, k ≤ l.length ∧ i = .int .i64 k ∧ lv = .int .i64 (left - l.length - (FFrame.wts (l.take k) : Nat)) ∧ ((FFrame.wts (l.take k) : Nat) : Int) ≤ left - l.length ∧ Below w.heap.size w wr) (fun _ i _ => l.length - (intOf i).toNat)
  case atStart => exact ⟨0, Nat.zero_le _, rfl, by simp [FFrame.wts], by simp [FFrame.wts]; omega, Below.refl _ _⟩
  case round =>
    obtain ⟨k, hk, rfl, rfl, hw, hb⟩ := hrel
    by_cases hlt : k < l.length
    · obtain ⟨x, hx⟩ : ∃ x, l[k]? = some x := ⟨_, List.getElem?_eq_getElem hlt⟩
      obtain ⟨bc, offc, vs, rfl, hblc, hvl, hvv, hra⟩ := RdC.elem FFrame.len HC.out hx
      have HVV := hid (hvv.on hb (Nat.le_refl _) (Nat.le_refl _))
      have HRA := hid (range_below hra hb hblc)
      have HZ := hid (HE.out x (List.mem_of_getElem? hx))
      have HT := hid (FFrame.wts_take l k x hx)
      have HL := hid (FFrame.wts_le l (k + 1))
      clear hx
      clear hvv hra
      generalize hu : FFrame.wts (l.take k) = U at *
      have HU := hid hu
      clear hu
      generalize hv : FFrame.wt x = V at *
      have HV := hid hv
      clear hv
      by_cases hf : (V : Int) ≤ left - l.length - U
      · have hbp : 0 ≤ bud (left - l.length - U) V := by rw [bud_pos hf]; omega
        have HBP := hid (bud_pos hf)
        go_wp2_with (first | (refine wpList_load_elem 132 _ bc (offc + k * 13) vs (.struct (flds Tryz.prog 132)) HRA.out rfl rfl (by kernel_rfl) rfl hvl (by kernel_rfl) rfl ?_) | (go_at_call 58; refine (HZ.out vs _ _ w.heap.size (by omega) (by omega) (by have := hb.size; omega) HVV.out).mono ?_; rw [HV.out]; rintro e w2 ⟨rfl, hb2⟩))
        go_roundw
        case rel =>
          have e := HT.out
          have e9 := HV.out
          rw [← HU.out] at *
          refine ⟨k + 1, by omega, by go_num, ?_, by rw [e, HU.out]; omega, hb.trans (hb2.mono hb.size)⟩
          rw [HBP.out, e, HU.out]
          congr 1
          omega
        case measure => simp [intOf]; omega
      · have hbp : bud (left - l.length - U) V = -1 := bud_neg hf
        have hbn : bud (left - l.length - U) V < 0 := by rw [hbp]; omega
        clear hbp
        go_wp2_with (first | (refine wpList_load_elem 132 _ bc (offc + k * 13) vs (.struct (flds Tryz.prog 132)) HRA.out rfl rfl (by kernel_rfl) rfl hvl (by kernel_rfl) rfl ?_) | (go_at_call 58; refine (HZ.out vs _ _ w.heap.size (by omega) (by omega) (by have := hb.size; omega) HVV.out).mono ?_; rw [HV.out]; rintro e w2 ⟨rfl, hb2⟩))
        go_ret
        refine ⟨ret_int ?_, hb.trans (hb2.mono hb.size)⟩
        have e := HT.out
        have e2 := HL.out
        have e3 := HU.out
        have e4 := HV.out
        rw [bud_neg (by omega)]
    · obtain rfl : k = l.length := by omega
      clear hlt
      go_wp2_with fail
      go_ret
      refine ⟨ret_int ?_, hb⟩
      rw [List.take_length] at *
      rw [bud_pos (by omega)]
      omega
theorem szFrame_any (x : FFrame) (hw : x.ok) : SzFrame x := by
  obtain ⟨z0, z1, z2, z3, z4, z5, z6, z7, z8, z9, z10, z11, z12⟩ := x
  have hw2 := hw
  rw [FFrame.ok_eq] at hw2
  exact szFrame_of z0 z1 z2 z3 z4 z5 z6 z7 z8 z9 z10 z11 z12 hw (szIntS_any z2 hw2.1) (szValueS_any z3 hw2.2.1) (szCallS_any z4 hw2.2.2.1) (szTryS_any z5 hw2.2.2.2.1) (szEndS_any z6 hw2.2.2.2.2.1)
theorem szFrameS_any (l : List FFrame) (hw : FFrame.oks l) : SzFrameS l := (szFrameS_of l (fun x hx => szFrame_any x (FFrame.oks_mem l hw x hx)))
def SzGen (x : FGen) : Prop := ∀ (us : List Value) (left : Int) (w : World) (B : Nat), 0 ≤ left → left ≤ 1048576 → B ≤ w.heap.size → RdVs w B x.c us → Calls Tryz.prog 57 #[.agg us.toArray, .int .i64 left] w fun e w' => e = .returned (.int .i64 (bud left x.wt)) ∧ Below w.heap.size w w'
def SzGenS (l : List FGen) : Prop := ∀ (u : Value) (left : Int) (w : World) (B : Nat), 0 ≤ left → left ≤ 1048576 → B ≤ w.heap.size → RdC w B (.s 93 19 l.length (FGen.flat l)) u → Calls Tryz.prog 18 #[u, .int .i64 left] w fun e w' => e = .returned (.int .i64 (bud left (l.length + FGen.wts l))) ∧ Below w.heap.size w w'
theorem szGen_of (z0 : Int) (z1 : Int) (z2 : Int) (z3 : ByteArray) (z4 : Int) (z5 : List FEntry) (z6 : Int) (z7 : Int) (z8 : List FInt) (z9 : List FValue) (z10 : List FCall) (z11 : List FTry) (z12 : List FEnd) (z13 : Int) (z14 : ByteArray) (z15 : ByteArray) (z16 : Int) (z17 : Int) (z18 : Int) (hok : FGen.ok ⟨z0, ⟨z1, z2, z3, z4, z5⟩, ⟨z6, z7, z8, z9, z10, z11, z12, z13, z14, z15, z16, z17, z18⟩⟩) (h1 : SzValue ⟨z1, z2, z3, z4, z5⟩) (h6 : SzFrame ⟨z6, z7, z8, z9, z10, z11, z12, z13, z14, z15, z16, z17, z18⟩) : SzGen ⟨z0, ⟨z1, z2, z3, z4, z5⟩, ⟨z6, z7, z8, z9, z10, z11, z12, z13, z14, z15, z16, z17, z18⟩⟩ := by
  intro us left w B hl0 hl1 hB0 hr
  rw [FGen.c_eq] at hr
  rw [FGen.wt_eq]
  rw [FGen.ok_eq] at hok
  obtain ⟨us0, rfl, hr_0⟩ := hr.unv
  obtain ⟨us1, rfl, hr_1⟩ := hr_0.unv
  obtain ⟨us2, rfl, hr_2⟩ := hr_1.unv
  obtain ⟨us3, rfl, hr_3⟩ := hr_2.unv
  obtain ⟨us4, rfl, hr_4⟩ := hr_3.unv
  obtain ⟨A5, c5, us5, rfl, r5, hr_5⟩ := hr_4.uns
  obtain ⟨us6, rfl, hr_6⟩ := hr_5.unv
  obtain ⟨us7, rfl, hr_7⟩ := hr_6.unv
  obtain ⟨A8, c8, us8, rfl, r8, hr_8⟩ := hr_7.uns
  obtain ⟨A9, c9, us9, rfl, r9, hr_9⟩ := hr_8.uns
  obtain ⟨A10, c10, us10, rfl, r10, hr_10⟩ := hr_9.uns
  obtain ⟨A11, c11, us11, rfl, r11, hr_11⟩ := hr_10.uns
  obtain ⟨A12, c12, us12, rfl, r12, hr_12⟩ := hr_11.uns
  obtain ⟨us13, rfl, hr_13⟩ := hr_12.unv
  obtain ⟨us14, rfl, hr_14⟩ := hr_13.unv
  obtain ⟨us15, rfl, hr_15⟩ := hr_14.unv
  obtain ⟨us16, rfl, hr_16⟩ := hr_15.unv
  obtain ⟨us17, rfl, hr_17⟩ := hr_16.unv
  obtain ⟨us18, rfl, hr_18⟩ := hr_17.unv
  obtain rfl := hr_18.un0
  clear hr hr_0 hr_1 hr_2 hr_3 hr_4 hr_5 hr_6 hr_7 hr_8 hr_9 hr_10 hr_11 hr_12 hr_13 hr_14 hr_15 hr_16 hr_17 hr_18
  have R5 := hid r5
  clear r5
  have R8 := hid r8
  clear r8
  have R9 := hid r9
  clear r9
  have R10 := hid r10
  clear r10
  have R11 := hid r11
  clear r11
  have R12 := hid r12
  clear r12
  have H1 := hid h1
  clear h1
  have H6 := hid h6
  clear h6
  have ks3 := hok.1
  have ks14 := hok.2.2.2.2.2.2.2.1
  have ks15 := hok.2.2.2.2.2.2.2.2
  clear hok
  obtain ⟨W, hW⟩ : ∃ W : Nat, W = z3.size + (z5.length + FEntry.wts z5) + (z8.length + FInt.wts z8) + (z9.length + FValue.wts z9) + (z10.length + FCall.wts z10) + (z11.length + FTry.wts z11) + (z12.length + FEnd.wts z12) + z14.size + z15.size := ⟨_, rfl⟩
  rw [← hW]
  have HW := hid hW
  clear hW
  go_enter Tryz.func57, Tryz.ntmps57
  go_wp2_with fail
  refine calls_worldD _ (fun X => Blk X w.heap.size 134 #[.int .i64 z0, .int .i64 z1, .int .i64 z2, .string z3, .int .i64 z4, .slice A5 z5.length c5, .int .i64 z6, .int .i64 z7, .slice A8 z8.length c8, .slice A9 z9.length c9, .slice A10 z10.length c10, .slice A11 z11.length c11, .slice A12 z12.length c12, .int .i64 z13, .string z14, .string z15, .int .i64 z16, .int .i64 z17, .int .i64 z18] ∧ Below w.heap.size w X) ⟨Blk.new w _ _, (Below.refl _ _).alloc (Nat.le_refl _) _⟩ ?_
  rintro X0 ⟨ba, hB⟩
  have s0 := ba.lt
  refine (H1.out [.int .i64 z1, .int .i64 z2, .string z3, .int .i64 z4, .slice A5 z5.length c5] _ _ B (by omega) (by omega) (by omega) (by rw [FValue.c_eq]; exact (RdVs.cons (by unfold RdC; rfl) (RdVs.cons (by unfold RdC; rfl) (RdVs.cons (by unfold RdC; rfl) (RdVs.cons (by unfold RdC; rfl) (RdVs.cons (R5.out.below hB hB0) (RdVs.nil _ _)))))))).mono ?_
  generalize hq0 : (FValue.wt ⟨z1, z2, z3, z4, z5⟩ : Nat) = q0 at *
  have Q0 := hid hq0
  clear hq0
  rintro e Y0 ⟨rfl, hb⟩
  replace ba := ba.below hb (Nat.le_refl _)
  replace hB := hB.trans (hb.mono (by omega))
  clear hb
  by_cases f0 : (q0 : Int) ≤ left
  case neg =>
    have e0 := bud_neg f0
    rw [e0]
    clear e0
    have ba_l := ba.lt
    go_wp2_with fail
    go_ret
    exact ⟨ret_int (by rw [bud_neg (by have := HW.out; have := Q0.out; have := FValue.wt_eq z1 z2 z3 z4 z5; have := FFrame.wt_eq z6 z7 z8 z9 z10 z11 z12 z13 z14 z15 z16 z17 z18; omega)]), hB⟩
  have e0 := bud_pos f0
  rw [e0]
  clear e0
  have ba_6 : Y0.cell? ⟨w.heap.size, 6, none⟩ = some (.int .i64 z6) := ba.cell 6
  have ba_7 : Y0.cell? ⟨w.heap.size, 7, none⟩ = some (.int .i64 z7) := ba.cell 7
  have ba_8 : Y0.cell? ⟨w.heap.size, 8, none⟩ = some (.slice A8 z8.length c8) := ba.cell 8
  have ba_9 : Y0.cell? ⟨w.heap.size, 9, none⟩ = some (.slice A9 z9.length c9) := ba.cell 9
  have ba_10 : Y0.cell? ⟨w.heap.size, 10, none⟩ = some (.slice A10 z10.length c10) := ba.cell 10
  have ba_11 : Y0.cell? ⟨w.heap.size, 11, none⟩ = some (.slice A11 z11.length c11) := ba.cell 11
  have ba_12 : Y0.cell? ⟨w.heap.size, 12, none⟩ = some (.slice A12 z12.length c12) := ba.cell 12
  have ba_13 : Y0.cell? ⟨w.heap.size, 13, none⟩ = some (.int .i64 z13) := ba.cell 13
  have ba_14 : Y0.cell? ⟨w.heap.size, 14, none⟩ = some (.string z14) := ba.cell 14
  have ba_15 : Y0.cell? ⟨w.heap.size, 15, none⟩ = some (.string z15) := ba.cell 15
  have ba_16 : Y0.cell? ⟨w.heap.size, 16, none⟩ = some (.int .i64 z16) := ba.cell 16
  have ba_17 : Y0.cell? ⟨w.heap.size, 17, none⟩ = some (.int .i64 z17) := ba.cell 17
  have ba_18 : Y0.cell? ⟨w.heap.size, 18, none⟩ = some (.int .i64 z18) := ba.cell 18
  have ba_l := ba.lt
  go_wp2_with fail
  refine calls_worldD _ (fun X => Blk X w.heap.size 134 #[.int .i64 z0, .int .i64 z1, .int .i64 z2, .string z3, .int .i64 z4, .slice A5 z5.length c5, .int .i64 z6, .int .i64 z7, .slice A8 z8.length c8, .slice A9 z9.length c9, .slice A10 z10.length c10, .slice A11 z11.length c11, .slice A12 z12.length c12, .int .i64 z13, .string z14, .string z15, .int .i64 z16, .int .i64 z17, .int .i64 z18] ∧ Below w.heap.size w X) ⟨ba, hB⟩ ?_
  clear ba hB ba_6 ba_7 ba_8 ba_9 ba_10 ba_11 ba_12 ba_13 ba_14 ba_15 ba_16 ba_17 ba_18 ba_l
  rintro X1 ⟨ba, hB⟩
  have s1 := ba.lt
  refine (H6.out [.int .i64 z6, .int .i64 z7, .slice A8 z8.length c8, .slice A9 z9.length c9, .slice A10 z10.length c10, .slice A11 z11.length c11, .slice A12 z12.length c12, .int .i64 z13, .string z14, .string z15, .int .i64 z16, .int .i64 z17, .int .i64 z18] _ _ B (by omega) (by omega) (by omega) (by rw [FFrame.c_eq]; exact (RdVs.cons (by unfold RdC; rfl) (RdVs.cons (by unfold RdC; rfl) (RdVs.cons (R8.out.below hB hB0) (RdVs.cons (R9.out.below hB hB0) (RdVs.cons (R10.out.below hB hB0) (RdVs.cons (R11.out.below hB hB0) (RdVs.cons (R12.out.below hB hB0) (RdVs.cons (by unfold RdC; rfl) (RdVs.cons (by unfold RdC; rfl) (RdVs.cons (by unfold RdC; rfl) (RdVs.cons (by unfold RdC; rfl) (RdVs.cons (by unfold RdC; rfl) (RdVs.cons (by unfold RdC; rfl) (RdVs.nil _ _)))))))))))))))).mono ?_
  generalize hq1 : (FFrame.wt ⟨z6, z7, z8, z9, z10, z11, z12, z13, z14, z15, z16, z17, z18⟩ : Nat) = q1 at *
  have Q1 := hid hq1
  clear hq1
  rintro e Y1 ⟨rfl, hb⟩
  replace ba := ba.below hb (Nat.le_refl _)
  replace hB := hB.trans (hb.mono (by omega))
  clear hb
  by_cases f1 : (q1 : Int) ≤ left - q0
  case neg =>
    have e1 := bud_neg f1
    rw [e1]
    clear e1
    have ba_l := ba.lt
    go_wp2_with fail
    go_ret
    exact ⟨ret_int (by rw [bud_neg (by have := HW.out; have := Q0.out;  have := Q1.out; have := FValue.wt_eq z1 z2 z3 z4 z5; have := FFrame.wt_eq z6 z7 z8 z9 z10 z11 z12 z13 z14 z15 z16 z17 z18; omega)]), hB⟩
  have e1 := bud_pos f1
  rw [e1]
  clear e1
  have ba_l := ba.lt
  go_wp2_with fail
  go_ret
  exact ⟨ret_int (by have := HW.out; have := Q0.out;  have := Q1.out; have := FValue.wt_eq z1 z2 z3 z4 z5; have := FFrame.wt_eq z6 z7 z8 z9 z10 z11 z12 z13 z14 z15 z16 z17 z18; rw [bud_pos (by omega)]; omega), hB⟩
theorem szGenS_of (l : List FGen) (he : ∀ x, x ∈ l → SzGen x) : SzGenS l := by
  intro u left w B hl0 hl1 hB0 hr0
  have hr := hr0.up hB0
  clear hr0
  obtain ⟨A, c, rfl⟩ := hr.form
  have HC := hid hr
  have hcap := hr.cap
  have hcm : l.length ≤ 9223372036854775807 := by unfold maxLen at hcap; omega
  have HE := hid he
  clear hr hcap he
  by_cases hfit : left - l.length < 0
  · go_enter Tryz.func18, Tryz.ntmps18
    go_wp2_with fail
    go_ret
    exact ⟨ret_int (by rw [bud_neg (by omega)]), Below.refl _ _⟩
  go_enter Tryz.func18, Tryz.ntmps18
  go_wp2_with fail
  go_loopw [1, 5] (fun lv i wr => ∃ k : Nat, k ≤ l.length ∧ i = .int .i64 k ∧ lv = .int .i64 (left - l.length - (FGen.wts (l.take k) : Nat)) ∧ ((FGen.wts (l.take k) : Nat) : Int) ≤ left - l.length ∧ Below w.heap.size w wr) (fun _ i _ => l.length - (intOf i).toNat)
  case atStart => exact ⟨0, Nat.zero_le _, rfl, by simp [FGen.wts], by simp [FGen.wts]; omega, Below.refl _ _⟩
  case round =>
    obtain ⟨k, hk, rfl, rfl, hw, hb⟩ := hrel
    by_cases hlt : k < l.length
    · obtain ⟨x, hx⟩ : ∃ x, l[k]? = some x := ⟨_, List.getElem?_eq_getElem hlt⟩
      obtain ⟨bc, offc, vs, rfl, hblc, hvl, hvv, hra⟩ := RdC.elem FGen.len HC.out hx
      have HVV := hid (hvv.on hb (Nat.le_refl _) (Nat.le_refl _))
      have HRA := hid (range_below hra hb hblc)
      have HZ := hid (HE.out x (List.mem_of_getElem? hx))
      have HT := hid (FGen.wts_take l k x hx)
      have HL := hid (FGen.wts_le l (k + 1))
      clear hx
      clear hvv hra
      generalize hu : FGen.wts (l.take k) = U at *
      have HU := hid hu
      clear hu
      generalize hv : FGen.wt x = V at *
      have HV := hid hv
      clear hv
      by_cases hf : (V : Int) ≤ left - l.length - U
      · have hbp : 0 ≤ bud (left - l.length - U) V := by rw [bud_pos hf]; omega
        have HBP := hid (bud_pos hf)
        go_wp2_with (first | (refine wpList_load_elem 134 _ bc (offc + k * 19) vs (.struct (flds Tryz.prog 134)) HRA.out rfl rfl (by kernel_rfl) rfl hvl (by kernel_rfl) rfl ?_) | (go_at_call 57; refine (HZ.out vs _ _ w.heap.size (by omega) (by omega) (by have := hb.size; omega) HVV.out).mono ?_; rw [HV.out]; rintro e w2 ⟨rfl, hb2⟩))
        go_roundw
        case rel =>
          have e := HT.out
          have e9 := HV.out
          rw [← HU.out] at *
          refine ⟨k + 1, by omega, by go_num, ?_, by rw [e, HU.out]; omega, hb.trans (hb2.mono hb.size)⟩
          rw [HBP.out, e, HU.out]
          congr 1
          omega
        case measure => simp [intOf]; omega
      · have hbp : bud (left - l.length - U) V = -1 := bud_neg hf
        have hbn : bud (left - l.length - U) V < 0 := by rw [hbp]; omega
        clear hbp
        go_wp2_with (first | (refine wpList_load_elem 134 _ bc (offc + k * 19) vs (.struct (flds Tryz.prog 134)) HRA.out rfl rfl (by kernel_rfl) rfl hvl (by kernel_rfl) rfl ?_) | (go_at_call 57; refine (HZ.out vs _ _ w.heap.size (by omega) (by omega) (by have := hb.size; omega) HVV.out).mono ?_; rw [HV.out]; rintro e w2 ⟨rfl, hb2⟩))
        go_ret
        refine ⟨ret_int ?_, hb.trans (hb2.mono hb.size)⟩
        have e := HT.out
        have e2 := HL.out
        have e3 := HU.out
        have e4 := HV.out
        rw [bud_neg (by omega)]
    · obtain rfl : k = l.length := by omega
      clear hlt
      go_wp2_with fail
      go_ret
      refine ⟨ret_int ?_, hb⟩
      rw [List.take_length] at *
      rw [bud_pos (by omega)]
      omega
theorem szGen_any (x : FGen) (hw : x.ok) : SzGen x := by
  obtain ⟨z0, ⟨z1, z2, z3, z4, z5⟩, ⟨z6, z7, z8, z9, z10, z11, z12, z13, z14, z15, z16, z17, z18⟩⟩ := x
  have hw2 := hw
  rw [FGen.ok_eq] at hw2
  exact szGen_of z0 z1 z2 z3 z4 z5 z6 z7 z8 z9 z10 z11 z12 z13 z14 z15 z16 z17 z18 hw (szValue_any _ (by rw [FValue.ok_eq]; exact ⟨hw2.1, hw2.2.1⟩)) (szFrame_any _ (by rw [FFrame.ok_eq]; exact ⟨hw2.2.2.1, hw2.2.2.2.1, hw2.2.2.2.2.1, hw2.2.2.2.2.2.1, hw2.2.2.2.2.2.2.1, hw2.2.2.2.2.2.2.2.1, hw2.2.2.2.2.2.2.2.2⟩))
theorem szGenS_any (l : List FGen) (hw : FGen.oks l) : SzGenS l := (szGenS_of l (fun x hx => szGen_any x (FGen.oks_mem l hw x hx)))
def SzHeader (x : FHeader) : Prop := ∀ (us : List Value) (left : Int) (w : World) (B : Nat), 0 ≤ left → left ≤ 1048576 → B ≤ w.heap.size → RdVs w B x.c us → Calls Tryz.prog 96 #[.agg us.toArray, .int .i64 left] w fun e w' => e = .returned (.int .i64 (bud left x.wt)) ∧ Below w.heap.size w w'
def SzHeaderS (l : List FHeader) : Prop := ∀ (u : Value) (left : Int) (w : World) (B : Nat), 0 ≤ left → left ≤ 1048576 → B ≤ w.heap.size → RdC w B (.s 208 2 l.length (FHeader.flat l)) u → Calls Tryz.prog 59 #[u, .int .i64 left] w fun e w' => e = .returned (.int .i64 (bud left (l.length + FHeader.wts l))) ∧ Below w.heap.size w w'
theorem szHeader_of (z0 : ByteArray) (z1 : ByteArray) (hok : FHeader.ok ⟨z0, z1⟩)  : SzHeader ⟨z0, z1⟩ := by
  intro us left w B hl0 hl1 hB0 hr
  rw [FHeader.c_eq] at hr
  rw [FHeader.wt_eq]
  rw [FHeader.ok_eq] at hok
  obtain ⟨us0, rfl, hr_0⟩ := hr.unv
  obtain ⟨us1, rfl, hr_1⟩ := hr_0.unv
  obtain rfl := hr_1.un0
  clear hr hr_0 hr_1
  have ks0 := hok.1
  have ks1 := hok.2
  clear hok
  obtain ⟨W, hW⟩ : ∃ W : Nat, W = z0.size + z1.size := ⟨_, rfl⟩
  rw [← hW]
  have HW := hid hW
  clear hW
  by_cases c0 : left - z0.size < 0
  case pos =>
    go_enter Tryz.func96, Tryz.ntmps96
    go_wp2_with fail
    go_ret
    exact ⟨ret_int (by rw [bud_neg (by have := HW.out; omega)]), (Below.refl _ _).alloc (Nat.le_refl _) _⟩
  by_cases c1 : left - z0.size - z1.size < 0
  case pos =>
    go_enter Tryz.func96, Tryz.ntmps96
    go_wp2_with fail
    go_ret
    exact ⟨ret_int (by rw [bud_neg (by have := HW.out; omega)]), (Below.refl _ _).alloc (Nat.le_refl _) _⟩
  go_enter Tryz.func96, Tryz.ntmps96
  go_wp2_with fail
  go_ret
  exact ⟨ret_int (by have := HW.out; rw [bud_pos (by omega)]; omega), (Below.refl _ _).alloc (Nat.le_refl _) _⟩
theorem szHeaderS_of (l : List FHeader) (he : ∀ x, x ∈ l → SzHeader x) : SzHeaderS l := by
  intro u left w B hl0 hl1 hB0 hr0
  have hr := hr0.up hB0
  clear hr0
  obtain ⟨A, c, rfl⟩ := hr.form
  have HC := hid hr
  have hcap := hr.cap
  have hcm : l.length ≤ 9223372036854775807 := by unfold maxLen at hcap; omega
  have HE := hid he
  clear hr hcap he
  by_cases hfit : left - l.length < 0
  · go_enter Tryz.func59, Tryz.ntmps59
    go_wp2_with fail
    go_ret
    exact ⟨ret_int (by rw [bud_neg (by omega)]), Below.refl _ _⟩
  go_enter Tryz.func59, Tryz.ntmps59
  go_wp2_with fail
  go_loopw [1, 5] (fun lv i wr => ∃ k : Nat, k ≤ l.length ∧ i = .int .i64 k ∧ lv = .int .i64 (left - l.length - (FHeader.wts (l.take k) : Nat)) ∧ ((FHeader.wts (l.take k) : Nat) : Int) ≤ left - l.length ∧ Below w.heap.size w wr) (fun _ i _ => l.length - (intOf i).toNat)
  case atStart => exact ⟨0, Nat.zero_le _, rfl, by simp [FHeader.wts], by simp [FHeader.wts]; omega, Below.refl _ _⟩
  case round =>
    obtain ⟨k, hk, rfl, rfl, hw, hb⟩ := hrel
    by_cases hlt : k < l.length
    · obtain ⟨x, hx⟩ : ∃ x, l[k]? = some x := ⟨_, List.getElem?_eq_getElem hlt⟩
      obtain ⟨bc, offc, vs, rfl, hblc, hvl, hvv, hra⟩ := RdC.elem FHeader.len HC.out hx
      have HVV := hid (hvv.on hb (Nat.le_refl _) (Nat.le_refl _))
      have HRA := hid (range_below hra hb hblc)
      have HZ := hid (HE.out x (List.mem_of_getElem? hx))
      have HT := hid (FHeader.wts_take l k x hx)
      have HL := hid (FHeader.wts_le l (k + 1))
      clear hx
      clear hvv hra
      generalize hu : FHeader.wts (l.take k) = U at *
      have HU := hid hu
      clear hu
      generalize hv : FHeader.wt x = V at *
      have HV := hid hv
      clear hv
      by_cases hf : (V : Int) ≤ left - l.length - U
      · have hbp : 0 ≤ bud (left - l.length - U) V := by rw [bud_pos hf]; omega
        have HBP := hid (bud_pos hf)
        go_wp2_with (first | (refine wpList_load_elem 192 _ bc (offc + k * 2) vs (.struct (flds Tryz.prog 192)) HRA.out rfl rfl (by kernel_rfl) rfl hvl (by kernel_rfl) rfl ?_) | (go_at_call 96; refine (HZ.out vs _ _ w.heap.size (by omega) (by omega) (by have := hb.size; omega) HVV.out).mono ?_; rw [HV.out]; rintro e w2 ⟨rfl, hb2⟩))
        go_roundw
        case rel =>
          have e := HT.out
          have e9 := HV.out
          rw [← HU.out] at *
          refine ⟨k + 1, by omega, by go_num, ?_, by rw [e, HU.out]; omega, hb.trans (hb2.mono hb.size)⟩
          rw [HBP.out, e, HU.out]
          congr 1
          omega
        case measure => simp [intOf]; omega
      · have hbp : bud (left - l.length - U) V = -1 := bud_neg hf
        have hbn : bud (left - l.length - U) V < 0 := by rw [hbp]; omega
        clear hbp
        go_wp2_with (first | (refine wpList_load_elem 192 _ bc (offc + k * 2) vs (.struct (flds Tryz.prog 192)) HRA.out rfl rfl (by kernel_rfl) rfl hvl (by kernel_rfl) rfl ?_) | (go_at_call 96; refine (HZ.out vs _ _ w.heap.size (by omega) (by omega) (by have := hb.size; omega) HVV.out).mono ?_; rw [HV.out]; rintro e w2 ⟨rfl, hb2⟩))
        go_ret
        refine ⟨ret_int ?_, hb.trans (hb2.mono hb.size)⟩
        have e := HT.out
        have e2 := HL.out
        have e3 := HU.out
        have e4 := HV.out
        rw [bud_neg (by omega)]
    · obtain rfl : k = l.length := by omega
      clear hlt
      go_wp2_with fail
      go_ret
      refine ⟨ret_int ?_, hb⟩
      rw [List.take_length] at *
      rw [bud_pos (by omega)]
      omega
theorem szHeader_any (x : FHeader) (hw : x.ok) : SzHeader x := by
  obtain ⟨z0, z1⟩ := x
  have hw2 := hw
  rw [FHeader.ok_eq] at hw2
  exact szHeader_of z0 z1 hw 
theorem szHeaderS_any (l : List FHeader) (hw : FHeader.oks l) : SzHeaderS l := (szHeaderS_of l (fun x hx => szHeader_any x (FHeader.oks_mem l hw x hx)))
def SzBuffer (x : FBuffer) : Prop := ∀ (us : List Value) (left : Int) (w : World) (B : Nat), 0 ≤ left → left ≤ 1048576 → B ≤ w.heap.size → RdVs w B x.c us → Calls Tryz.prog 97 #[.agg us.toArray, .int .i64 left] w fun e w' => e = .returned (.int .i64 (bud left x.wt)) ∧ Below w.heap.size w w'
def SzBufferS (l : List FBuffer) : Prop := ∀ (u : Value) (left : Int) (w : World) (B : Nat), 0 ≤ left → left ≤ 1048576 → B ≤ w.heap.size → RdC w B (.s 210 2 l.length (FBuffer.flat l)) u → Calls Tryz.prog 60 #[u, .int .i64 left] w fun e w' => e = .returned (.int .i64 (bud left (l.length + FBuffer.wts l))) ∧ Below w.heap.size w w'
theorem szBuffer_of (z0 : Int) (z1 : ByteArray) (hok : FBuffer.ok ⟨z0, z1⟩)  : SzBuffer ⟨z0, z1⟩ := by
  intro us left w B hl0 hl1 hB0 hr
  rw [FBuffer.c_eq] at hr
  rw [FBuffer.wt_eq]
  rw [FBuffer.ok_eq] at hok
  obtain ⟨us0, rfl, hr_0⟩ := hr.unv
  obtain ⟨us1, rfl, hr_1⟩ := hr_0.unv
  obtain rfl := hr_1.un0
  clear hr hr_0 hr_1
  have ks1 := hok
  clear hok
  obtain ⟨W, hW⟩ : ∃ W : Nat, W = z1.size := ⟨_, rfl⟩
  rw [← hW]
  have HW := hid hW
  clear hW
  by_cases c1 : left - z1.size < 0
  case pos =>
    go_enter Tryz.func97, Tryz.ntmps97
    go_wp2_with fail
    go_ret
    exact ⟨ret_int (by rw [bud_neg (by have := HW.out; omega)]), (Below.refl _ _).alloc (Nat.le_refl _) _⟩
  go_enter Tryz.func97, Tryz.ntmps97
  go_wp2_with fail
  go_ret
  exact ⟨ret_int (by have := HW.out; rw [bud_pos (by omega)]; omega), (Below.refl _ _).alloc (Nat.le_refl _) _⟩
theorem szBufferS_of (l : List FBuffer) (he : ∀ x, x ∈ l → SzBuffer x) : SzBufferS l := by
  intro u left w B hl0 hl1 hB0 hr0
  have hr := hr0.up hB0
  clear hr0
  obtain ⟨A, c, rfl⟩ := hr.form
  have HC := hid hr
  have hcap := hr.cap
  have hcm : l.length ≤ 9223372036854775807 := by unfold maxLen at hcap; omega
  have HE := hid he
  clear hr hcap he
  by_cases hfit : left - l.length < 0
  · go_enter Tryz.func60, Tryz.ntmps60
    go_wp2_with fail
    go_ret
    exact ⟨ret_int (by rw [bud_neg (by omega)]), Below.refl _ _⟩
  go_enter Tryz.func60, Tryz.ntmps60
  go_wp2_with fail
  go_loopw [1, 5] (fun lv i wr => ∃ k : Nat, k ≤ l.length ∧ i = .int .i64 k ∧ lv = .int .i64 (left - l.length - (FBuffer.wts (l.take k) : Nat)) ∧ ((FBuffer.wts (l.take k) : Nat) : Int) ≤ left - l.length ∧ Below w.heap.size w wr) (fun _ i _ => l.length - (intOf i).toNat)
  case atStart => exact ⟨0, Nat.zero_le _, rfl, by simp [FBuffer.wts], by simp [FBuffer.wts]; omega, Below.refl _ _⟩
  case round =>
    obtain ⟨k, hk, rfl, rfl, hw, hb⟩ := hrel
    by_cases hlt : k < l.length
    · obtain ⟨x, hx⟩ : ∃ x, l[k]? = some x := ⟨_, List.getElem?_eq_getElem hlt⟩
      obtain ⟨bc, offc, vs, rfl, hblc, hvl, hvv, hra⟩ := RdC.elem FBuffer.len HC.out hx
      have HVV := hid (hvv.on hb (Nat.le_refl _) (Nat.le_refl _))
      have HRA := hid (range_below hra hb hblc)
      have HZ := hid (HE.out x (List.mem_of_getElem? hx))
      have HT := hid (FBuffer.wts_take l k x hx)
      have HL := hid (FBuffer.wts_le l (k + 1))
      clear hx
      clear hvv hra
      generalize hu : FBuffer.wts (l.take k) = U at *
      have HU := hid hu
      clear hu
      generalize hv : FBuffer.wt x = V at *
      have HV := hid hv
      clear hv
      by_cases hf : (V : Int) ≤ left - l.length - U
      · have hbp : 0 ≤ bud (left - l.length - U) V := by rw [bud_pos hf]; omega
        have HBP := hid (bud_pos hf)
        go_wp2_with (first | (refine wpList_load_elem 195 _ bc (offc + k * 2) vs (.struct (flds Tryz.prog 195)) HRA.out rfl rfl (by kernel_rfl) rfl hvl (by kernel_rfl) rfl ?_) | (go_at_call 97; refine (HZ.out vs _ _ w.heap.size (by omega) (by omega) (by have := hb.size; omega) HVV.out).mono ?_; rw [HV.out]; rintro e w2 ⟨rfl, hb2⟩))
        go_roundw
        case rel =>
          have e := HT.out
          have e9 := HV.out
          rw [← HU.out] at *
          refine ⟨k + 1, by omega, by go_num, ?_, by rw [e, HU.out]; omega, hb.trans (hb2.mono hb.size)⟩
          rw [HBP.out, e, HU.out]
          congr 1
          omega
        case measure => simp [intOf]; omega
      · have hbp : bud (left - l.length - U) V = -1 := bud_neg hf
        have hbn : bud (left - l.length - U) V < 0 := by rw [hbp]; omega
        clear hbp
        go_wp2_with (first | (refine wpList_load_elem 195 _ bc (offc + k * 2) vs (.struct (flds Tryz.prog 195)) HRA.out rfl rfl (by kernel_rfl) rfl hvl (by kernel_rfl) rfl ?_) | (go_at_call 97; refine (HZ.out vs _ _ w.heap.size (by omega) (by omega) (by have := hb.size; omega) HVV.out).mono ?_; rw [HV.out]; rintro e w2 ⟨rfl, hb2⟩))
        go_ret
        refine ⟨ret_int ?_, hb.trans (hb2.mono hb.size)⟩
        have e := HT.out
        have e2 := HL.out
        have e3 := HU.out
        have e4 := HV.out
        rw [bud_neg (by omega)]
    · obtain rfl : k = l.length := by omega
      clear hlt
      go_wp2_with fail
      go_ret
      refine ⟨ret_int ?_, hb⟩
      rw [List.take_length] at *
      rw [bud_pos (by omega)]
      omega
theorem szBuffer_any (x : FBuffer) (hw : x.ok) : SzBuffer x := by
  obtain ⟨z0, z1⟩ := x
  have hw2 := hw
  rw [FBuffer.ok_eq] at hw2
  exact szBuffer_of z0 z1 hw 
theorem szBufferS_any (l : List FBuffer) (hw : FBuffer.oks l) : SzBufferS l := (szBufferS_of l (fun x hx => szBuffer_any x (FBuffer.oks_mem l hw x hx)))
def SzOutput (x : FOutput) : Prop := ∀ (us : List Value) (left : Int) (w : World) (B : Nat), 0 ≤ left → left ≤ 1048576 → B ≤ w.heap.size → RdVs w B x.c us → Calls Tryz.prog 20 #[.agg us.toArray, .int .i64 left] w fun e w' => e = .returned (.int .i64 (bud left x.wt)) ∧ Below w.heap.size w w'
theorem szOutput_of (z0 : ByteArray) (z1 : List FHeader) (z2 : List FBuffer) (hok : FOutput.ok ⟨z0, z1, z2⟩) (h1 : SzHeaderS z1) (h2 : SzBufferS z2) : SzOutput ⟨z0, z1, z2⟩ := by
  intro us left w B hl0 hl1 hB0 hr
  rw [FOutput.c_eq] at hr
  rw [FOutput.wt_eq]
  rw [FOutput.ok_eq] at hok
  obtain ⟨us0, rfl, hr_0⟩ := hr.unv
  obtain ⟨A1, c1, us1, rfl, r1, hr_1⟩ := hr_0.uns
  obtain ⟨A2, c2, us2, rfl, r2, hr_2⟩ := hr_1.uns
  obtain rfl := hr_2.un0
  clear hr hr_0 hr_1 hr_2
  have R1 := hid r1
  clear r1
  have R2 := hid r2
  clear r2
  have H1 := hid h1
  clear h1
  have H2 := hid h2
  clear h2
  have ks0 := hok.1
  clear hok
  obtain ⟨W, hW⟩ : ∃ W : Nat, W = z0.size + (z1.length + FHeader.wts z1) + (z2.length + FBuffer.wts z2) := ⟨_, rfl⟩
  rw [← hW]
  have HW := hid hW
  clear hW
  by_cases c0 : left - z0.size < 0
  case pos =>
    go_enter Tryz.func20, Tryz.ntmps20
    go_wp2_with fail
    go_ret
    exact ⟨ret_int (by rw [bud_neg (by have := HW.out; omega)]), (Below.refl _ _).alloc (Nat.le_refl _) _⟩
  go_enter Tryz.func20, Tryz.ntmps20
  go_wp2_with fail
  refine calls_worldD _ (fun X => Blk X w.heap.size 34 #[.string z0, .slice A1 z1.length c1, .slice A2 z2.length c2] ∧ Below w.heap.size w X) ⟨Blk.new w _ _, (Below.refl _ _).alloc (Nat.le_refl _) _⟩ ?_
  rintro X0 ⟨ba, hB⟩
  have s0 := ba.lt
  refine (H1.out _ _ _ B (by omega) (by omega) (by omega) (R1.out.below hB hB0)).mono ?_
  generalize hq0 : (z1.length + FHeader.wts z1 : Nat) = q0 at *
  have Q0 := hid hq0
  clear hq0
  rintro e Y0 ⟨rfl, hb⟩
  replace ba := ba.below hb (Nat.le_refl _)
  replace hB := hB.trans (hb.mono (by omega))
  clear hb
  by_cases f0 : (q0 : Int) ≤ left - z0.size
  case neg =>
    have e0 := bud_neg f0
    rw [e0]
    clear e0
    have ba_l := ba.lt
    go_wp2_with fail
    go_ret
    exact ⟨ret_int (by rw [bud_neg (by have := HW.out; have := Q0.out; omega)]), hB⟩
  have e0 := bud_pos f0
  rw [e0]
  clear e0
  have ba_2 : Y0.cell? ⟨w.heap.size, 2, none⟩ = some (.slice A2 z2.length c2) := ba.cell 2
  have ba_l := ba.lt
  go_wp2_with fail
  refine calls_worldD _ (fun X => Blk X w.heap.size 34 #[.string z0, .slice A1 z1.length c1, .slice A2 z2.length c2] ∧ Below w.heap.size w X) ⟨ba, hB⟩ ?_
  clear ba hB ba_2 ba_l
  rintro X1 ⟨ba, hB⟩
  have s1 := ba.lt
  refine (H2.out _ _ _ B (by omega) (by omega) (by omega) (R2.out.below hB hB0)).mono ?_
  generalize hq1 : (z2.length + FBuffer.wts z2 : Nat) = q1 at *
  have Q1 := hid hq1
  clear hq1
  rintro e Y1 ⟨rfl, hb⟩
  replace ba := ba.below hb (Nat.le_refl _)
  replace hB := hB.trans (hb.mono (by omega))
  clear hb
  by_cases f1 : (q1 : Int) ≤ left - z0.size - q0
  case neg =>
    have e1 := bud_neg f1
    rw [e1]
    clear e1
    have ba_l := ba.lt
    go_wp2_with fail
    go_ret
    exact ⟨ret_int (by rw [bud_neg (by have := HW.out; have := Q0.out;  have := Q1.out; omega)]), hB⟩
  have e1 := bud_pos f1
  rw [e1]
  clear e1
  have ba_l := ba.lt
  go_wp2_with fail
  go_ret
  exact ⟨ret_int (by have := HW.out; have := Q0.out;  have := Q1.out; rw [bud_pos (by omega)]; omega), hB⟩
theorem szOutput_any (x : FOutput) (hw : x.ok) : SzOutput x := by
  obtain ⟨z0, z1, z2⟩ := x
  have hw2 := hw
  rw [FOutput.ok_eq] at hw2
  exact szOutput_of z0 z1 z2 hw (szHeaderS_any z1 hw2.2.1) (szBufferS_any z2 hw2.2.2)
def SzMachine (x : FMachine) : Prop := ∀ (us : List Value) (left : Int) (w : World) (B : Nat), 0 ≤ left → left ≤ 1048576 → B ≤ w.heap.size → RdVs w B x.c us → Calls Tryz.prog 4 #[.agg us.toArray, .int .i64 left] w fun e w' => e = .returned (.int .i64 (bud left x.wt)) ∧ Below w.heap.size w w'
theorem szMachine_of (z0 : Int) (z1 : ByteArray) (z2 : Int) (z3 : Int) (z4 : List FValue) (z5 : List FPlace) (z6 : List FBlock) (z7 : List FObject) (z8 : List FClosure) (z9 : List FGen) (z10 : List FFrame) (z11 : ByteArray) (z12 : List FHeader) (z13 : List FBuffer) (hok : FMachine.ok ⟨z0, z1, z2, z3, z4, z5, ⟨z6⟩, z7, z8, z9, z10, ⟨z11, z12, z13⟩⟩) (h4 : SzValueS z4) (h5 : SzPlaceS z5) (h6 : SzHeap ⟨z6⟩) (h7 : SzObjectS z7) (h8 : SzClosureS z8) (h9 : SzGenS z9) (h10 : SzFrameS z10) (h11 : SzOutput ⟨z11, z12, z13⟩) : SzMachine ⟨z0, z1, z2, z3, z4, z5, ⟨z6⟩, z7, z8, z9, z10, ⟨z11, z12, z13⟩⟩ := by
  intro us left w B hl0 hl1 hB0 hr
  rw [FMachine.c_eq] at hr
  rw [FMachine.wt_eq]
  rw [FMachine.ok_eq] at hok
  obtain ⟨us0, rfl, hr_0⟩ := hr.unv
  obtain ⟨us1, rfl, hr_1⟩ := hr_0.unv
  obtain ⟨us2, rfl, hr_2⟩ := hr_1.unv
  obtain ⟨us3, rfl, hr_3⟩ := hr_2.unv
  obtain ⟨A4, c4, us4, rfl, r4, hr_4⟩ := hr_3.uns
  obtain ⟨A5, c5, us5, rfl, r5, hr_5⟩ := hr_4.uns
  obtain ⟨A6, c6, us6, rfl, r6, hr_6⟩ := hr_5.uns
  obtain ⟨A7, c7, us7, rfl, r7, hr_7⟩ := hr_6.uns
  obtain ⟨A8, c8, us8, rfl, r8, hr_8⟩ := hr_7.uns
  obtain ⟨A9, c9, us9, rfl, r9, hr_9⟩ := hr_8.uns
  obtain ⟨A10, c10, us10, rfl, r10, hr_10⟩ := hr_9.uns
  obtain ⟨us11, rfl, hr_11⟩ := hr_10.unv
  obtain ⟨A12, c12, us12, rfl, r12, hr_12⟩ := hr_11.uns
  obtain ⟨A13, c13, us13, rfl, r13, hr_13⟩ := hr_12.uns
  obtain rfl := hr_13.un0
  clear hr hr_0 hr_1 hr_2 hr_3 hr_4 hr_5 hr_6 hr_7 hr_8 hr_9 hr_10 hr_11 hr_12 hr_13
  have R4 := hid r4
  clear r4
  have R5 := hid r5
  clear r5
  have R6 := hid r6
  clear r6
  have R7 := hid r7
  clear r7
  have R8 := hid r8
  clear r8
  have R9 := hid r9
  clear r9
  have R10 := hid r10
  clear r10
  have R12 := hid r12
  clear r12
  have R13 := hid r13
  clear r13
  have H4 := hid h4
  clear h4
  have H5 := hid h5
  clear h5
  have H6 := hid h6
  clear h6
  have H7 := hid h7
  clear h7
  have H8 := hid h8
  clear h8
  have H9 := hid h9
  clear h9
  have H10 := hid h10
  clear h10
  have H11 := hid h11
  clear h11
  have ks1 := hok.1
  have ks11 := hok.2.2.2.2.2.2.2.2.1
  clear hok
  obtain ⟨W, hW⟩ : ∃ W : Nat, W = z1.size + (z4.length + FValue.wts z4) + (z5.length + FPlace.wts z5) + (z6.length + FBlock.wts z6) + (z7.length + FObject.wts z7) + (z8.length + FClosure.wts z8) + (z9.length + FGen.wts z9) + (z10.length + FFrame.wts z10) + z11.size + (z12.length + FHeader.wts z12) + (z13.length + FBuffer.wts z13) := ⟨_, rfl⟩
  rw [← hW]
  have HW := hid hW
  clear hW
  by_cases c1 : left - z1.size < 0
  case pos =>
    go_enter Tryz.func4, Tryz.ntmps4
    go_wp2_with fail
    go_ret
    exact ⟨ret_int (by rw [bud_neg (by have := HW.out; have := FHeap.wt_eq z6; have := FOutput.wt_eq z11 z12 z13; omega)]), (Below.refl _ _).alloc (Nat.le_refl _) _⟩
  go_enter Tryz.func4, Tryz.ntmps4
  go_wp2_with fail
  refine calls_worldD _ (fun X => Blk X w.heap.size 36 #[.int .i64 z0, .string z1, .int .i64 z2, .int .i64 z3, .slice A4 z4.length c4, .slice A5 z5.length c5, .slice A6 z6.length c6, .slice A7 z7.length c7, .slice A8 z8.length c8, .slice A9 z9.length c9, .slice A10 z10.length c10, .string z11, .slice A12 z12.length c12, .slice A13 z13.length c13] ∧ Below w.heap.size w X) ⟨Blk.new w _ _, (Below.refl _ _).alloc (Nat.le_refl _) _⟩ ?_
  rintro X0 ⟨ba, hB⟩
  have s0 := ba.lt
  refine (H4.out _ _ _ B (by omega) (by omega) (by omega) (R4.out.below hB hB0)).mono ?_
  generalize hq0 : (z4.length + FValue.wts z4 : Nat) = q0 at *
  have Q0 := hid hq0
  clear hq0
  rintro e Y0 ⟨rfl, hb⟩
  replace ba := ba.below hb (Nat.le_refl _)
  replace hB := hB.trans (hb.mono (by omega))
  clear hb
  by_cases f0 : (q0 : Int) ≤ left - z1.size
  case neg =>
    have e0 := bud_neg f0
    rw [e0]
    clear e0
    have ba_l := ba.lt
    go_wp2_with fail
    go_ret
    exact ⟨ret_int (by rw [bud_neg (by have := HW.out; have := Q0.out; have := FHeap.wt_eq z6; have := FOutput.wt_eq z11 z12 z13; omega)]), hB⟩
  have e0 := bud_pos f0
  rw [e0]
  clear e0
  have ba_5 : Y0.cell? ⟨w.heap.size, 5, none⟩ = some (.slice A5 z5.length c5) := ba.cell 5
  have ba_l := ba.lt
  go_wp2_with fail
  refine calls_worldD _ (fun X => Blk X w.heap.size 36 #[.int .i64 z0, .string z1, .int .i64 z2, .int .i64 z3, .slice A4 z4.length c4, .slice A5 z5.length c5, .slice A6 z6.length c6, .slice A7 z7.length c7, .slice A8 z8.length c8, .slice A9 z9.length c9, .slice A10 z10.length c10, .string z11, .slice A12 z12.length c12, .slice A13 z13.length c13] ∧ Below w.heap.size w X) ⟨ba, hB⟩ ?_
  clear ba hB ba_5 ba_l
  rintro X1 ⟨ba, hB⟩
  have s1 := ba.lt
  refine (H5.out _ _ _ B (by omega) (by omega) (by omega) (R5.out.below hB hB0)).mono ?_
  generalize hq1 : (z5.length + FPlace.wts z5 : Nat) = q1 at *
  have Q1 := hid hq1
  clear hq1
  rintro e Y1 ⟨rfl, hb⟩
  replace ba := ba.below hb (Nat.le_refl _)
  replace hB := hB.trans (hb.mono (by omega))
  clear hb
  by_cases f1 : (q1 : Int) ≤ left - z1.size - q0
  case neg =>
    have e1 := bud_neg f1
    rw [e1]
    clear e1
    have ba_l := ba.lt
    go_wp2_with fail
    go_ret
    exact ⟨ret_int (by rw [bud_neg (by have := HW.out; have := Q0.out;  have := Q1.out; have := FHeap.wt_eq z6; have := FOutput.wt_eq z11 z12 z13; omega)]), hB⟩
  have e1 := bud_pos f1
  rw [e1]
  clear e1
  have ba_6 : Y1.cell? ⟨w.heap.size, 6, none⟩ = some (.slice A6 z6.length c6) := ba.cell 6
  have ba_l := ba.lt
  go_wp2_with fail
  refine calls_worldD _ (fun X => Blk X w.heap.size 36 #[.int .i64 z0, .string z1, .int .i64 z2, .int .i64 z3, .slice A4 z4.length c4, .slice A5 z5.length c5, .slice A6 z6.length c6, .slice A7 z7.length c7, .slice A8 z8.length c8, .slice A9 z9.length c9, .slice A10 z10.length c10, .string z11, .slice A12 z12.length c12, .slice A13 z13.length c13] ∧ Below w.heap.size w X) ⟨ba, hB⟩ ?_
  clear ba hB ba_6 ba_l
  rintro X2 ⟨ba, hB⟩
  have s2 := ba.lt
  refine (H6.out [.slice A6 z6.length c6] _ _ B (by omega) (by omega) (by omega) (by rw [FHeap.c_eq]; exact (RdVs.cons (R6.out.below hB hB0) (RdVs.nil _ _)))).mono ?_
  generalize hq2 : (FHeap.wt ⟨z6⟩ : Nat) = q2 at *
  have Q2 := hid hq2
  clear hq2
  rintro e Y2 ⟨rfl, hb⟩
  replace ba := ba.below hb (Nat.le_refl _)
  replace hB := hB.trans (hb.mono (by omega))
  clear hb
  by_cases f2 : (q2 : Int) ≤ left - z1.size - q0 - q1
  case neg =>
    have e2 := bud_neg f2
    rw [e2]
    clear e2
    have ba_l := ba.lt
    go_wp2_with fail
    go_ret
    exact ⟨ret_int (by rw [bud_neg (by have := HW.out; have := Q0.out;  have := Q1.out;  have := Q2.out; have := FHeap.wt_eq z6; have := FOutput.wt_eq z11 z12 z13; omega)]), hB⟩
  have e2 := bud_pos f2
  rw [e2]
  clear e2
  have ba_7 : Y2.cell? ⟨w.heap.size, 7, none⟩ = some (.slice A7 z7.length c7) := ba.cell 7
  have ba_l := ba.lt
  go_wp2_with fail
  refine calls_worldD _ (fun X => Blk X w.heap.size 36 #[.int .i64 z0, .string z1, .int .i64 z2, .int .i64 z3, .slice A4 z4.length c4, .slice A5 z5.length c5, .slice A6 z6.length c6, .slice A7 z7.length c7, .slice A8 z8.length c8, .slice A9 z9.length c9, .slice A10 z10.length c10, .string z11, .slice A12 z12.length c12, .slice A13 z13.length c13] ∧ Below w.heap.size w X) ⟨ba, hB⟩ ?_
  clear ba hB ba_7 ba_l
  rintro X3 ⟨ba, hB⟩
  have s3 := ba.lt
  refine (H7.out _ _ _ B (by omega) (by omega) (by omega) (R7.out.below hB hB0)).mono ?_
  generalize hq3 : (z7.length + FObject.wts z7 : Nat) = q3 at *
  have Q3 := hid hq3
  clear hq3
  rintro e Y3 ⟨rfl, hb⟩
  replace ba := ba.below hb (Nat.le_refl _)
  replace hB := hB.trans (hb.mono (by omega))
  clear hb
  by_cases f3 : (q3 : Int) ≤ left - z1.size - q0 - q1 - q2
  case neg =>
    have e3 := bud_neg f3
    rw [e3]
    clear e3
    have ba_l := ba.lt
    go_wp2_with fail
    go_ret
    exact ⟨ret_int (by rw [bud_neg (by have := HW.out; have := Q0.out;  have := Q1.out;  have := Q2.out;  have := Q3.out; have := FHeap.wt_eq z6; have := FOutput.wt_eq z11 z12 z13; omega)]), hB⟩
  have e3 := bud_pos f3
  rw [e3]
  clear e3
  have ba_8 : Y3.cell? ⟨w.heap.size, 8, none⟩ = some (.slice A8 z8.length c8) := ba.cell 8
  have ba_l := ba.lt
  go_wp2_with fail
  refine calls_worldD _ (fun X => Blk X w.heap.size 36 #[.int .i64 z0, .string z1, .int .i64 z2, .int .i64 z3, .slice A4 z4.length c4, .slice A5 z5.length c5, .slice A6 z6.length c6, .slice A7 z7.length c7, .slice A8 z8.length c8, .slice A9 z9.length c9, .slice A10 z10.length c10, .string z11, .slice A12 z12.length c12, .slice A13 z13.length c13] ∧ Below w.heap.size w X) ⟨ba, hB⟩ ?_
  clear ba hB ba_8 ba_l
  rintro X4 ⟨ba, hB⟩
  have s4 := ba.lt
  refine (H8.out _ _ _ B (by omega) (by omega) (by omega) (R8.out.below hB hB0)).mono ?_
  generalize hq4 : (z8.length + FClosure.wts z8 : Nat) = q4 at *
  have Q4 := hid hq4
  clear hq4
  rintro e Y4 ⟨rfl, hb⟩
  replace ba := ba.below hb (Nat.le_refl _)
  replace hB := hB.trans (hb.mono (by omega))
  clear hb
  by_cases f4 : (q4 : Int) ≤ left - z1.size - q0 - q1 - q2 - q3
  case neg =>
    have e4 := bud_neg f4
    rw [e4]
    clear e4
    have ba_l := ba.lt
    go_wp2_with fail
    go_ret
    exact ⟨ret_int (by rw [bud_neg (by have := HW.out; have := Q0.out;  have := Q1.out;  have := Q2.out;  have := Q3.out;  have := Q4.out; have := FHeap.wt_eq z6; have := FOutput.wt_eq z11 z12 z13; omega)]), hB⟩
  have e4 := bud_pos f4
  rw [e4]
  clear e4
  have ba_9 : Y4.cell? ⟨w.heap.size, 9, none⟩ = some (.slice A9 z9.length c9) := ba.cell 9
  have ba_l := ba.lt
  go_wp2_with fail
  refine calls_worldD _ (fun X => Blk X w.heap.size 36 #[.int .i64 z0, .string z1, .int .i64 z2, .int .i64 z3, .slice A4 z4.length c4, .slice A5 z5.length c5, .slice A6 z6.length c6, .slice A7 z7.length c7, .slice A8 z8.length c8, .slice A9 z9.length c9, .slice A10 z10.length c10, .string z11, .slice A12 z12.length c12, .slice A13 z13.length c13] ∧ Below w.heap.size w X) ⟨ba, hB⟩ ?_
  clear ba hB ba_9 ba_l
  rintro X5 ⟨ba, hB⟩
  have s5 := ba.lt
  refine (H9.out _ _ _ B (by omega) (by omega) (by omega) (R9.out.below hB hB0)).mono ?_
  generalize hq5 : (z9.length + FGen.wts z9 : Nat) = q5 at *
  have Q5 := hid hq5
  clear hq5
  rintro e Y5 ⟨rfl, hb⟩
  replace ba := ba.below hb (Nat.le_refl _)
  replace hB := hB.trans (hb.mono (by omega))
  clear hb
  by_cases f5 : (q5 : Int) ≤ left - z1.size - q0 - q1 - q2 - q3 - q4
  case neg =>
    have e5 := bud_neg f5
    rw [e5]
    clear e5
    have ba_l := ba.lt
    go_wp2_with fail
    go_ret
    exact ⟨ret_int (by rw [bud_neg (by have := HW.out; have := Q0.out;  have := Q1.out;  have := Q2.out;  have := Q3.out;  have := Q4.out;  have := Q5.out; have := FHeap.wt_eq z6; have := FOutput.wt_eq z11 z12 z13; omega)]), hB⟩
  have e5 := bud_pos f5
  rw [e5]
  clear e5
  have ba_10 : Y5.cell? ⟨w.heap.size, 10, none⟩ = some (.slice A10 z10.length c10) := ba.cell 10
  have ba_l := ba.lt
  go_wp2_with fail
  refine calls_worldD _ (fun X => Blk X w.heap.size 36 #[.int .i64 z0, .string z1, .int .i64 z2, .int .i64 z3, .slice A4 z4.length c4, .slice A5 z5.length c5, .slice A6 z6.length c6, .slice A7 z7.length c7, .slice A8 z8.length c8, .slice A9 z9.length c9, .slice A10 z10.length c10, .string z11, .slice A12 z12.length c12, .slice A13 z13.length c13] ∧ Below w.heap.size w X) ⟨ba, hB⟩ ?_
  clear ba hB ba_10 ba_l
  rintro X6 ⟨ba, hB⟩
  have s6 := ba.lt
  refine (H10.out _ _ _ B (by omega) (by omega) (by omega) (R10.out.below hB hB0)).mono ?_
  generalize hq6 : (z10.length + FFrame.wts z10 : Nat) = q6 at *
  have Q6 := hid hq6
  clear hq6
  rintro e Y6 ⟨rfl, hb⟩
  replace ba := ba.below hb (Nat.le_refl _)
  replace hB := hB.trans (hb.mono (by omega))
  clear hb
  by_cases f6 : (q6 : Int) ≤ left - z1.size - q0 - q1 - q2 - q3 - q4 - q5
  case neg =>
    have e6 := bud_neg f6
    rw [e6]
    clear e6
    have ba_l := ba.lt
    go_wp2_with fail
    go_ret
    exact ⟨ret_int (by rw [bud_neg (by have := HW.out; have := Q0.out;  have := Q1.out;  have := Q2.out;  have := Q3.out;  have := Q4.out;  have := Q5.out;  have := Q6.out; have := FHeap.wt_eq z6; have := FOutput.wt_eq z11 z12 z13; omega)]), hB⟩
  have e6 := bud_pos f6
  rw [e6]
  clear e6
  have ba_11 : Y6.cell? ⟨w.heap.size, 11, none⟩ = some (.string z11) := ba.cell 11
  have ba_12 : Y6.cell? ⟨w.heap.size, 12, none⟩ = some (.slice A12 z12.length c12) := ba.cell 12
  have ba_13 : Y6.cell? ⟨w.heap.size, 13, none⟩ = some (.slice A13 z13.length c13) := ba.cell 13
  have ba_l := ba.lt
  go_wp2_with fail
  refine calls_worldD _ (fun X => Blk X w.heap.size 36 #[.int .i64 z0, .string z1, .int .i64 z2, .int .i64 z3, .slice A4 z4.length c4, .slice A5 z5.length c5, .slice A6 z6.length c6, .slice A7 z7.length c7, .slice A8 z8.length c8, .slice A9 z9.length c9, .slice A10 z10.length c10, .string z11, .slice A12 z12.length c12, .slice A13 z13.length c13] ∧ Below w.heap.size w X) ⟨ba, hB⟩ ?_
  clear ba hB ba_11 ba_12 ba_13 ba_l
  rintro X7 ⟨ba, hB⟩
  have s7 := ba.lt
  refine (H11.out [.string z11, .slice A12 z12.length c12, .slice A13 z13.length c13] _ _ B (by omega) (by omega) (by omega) (by rw [FOutput.c_eq]; exact (RdVs.cons (by unfold RdC; rfl) (RdVs.cons (R12.out.below hB hB0) (RdVs.cons (R13.out.below hB hB0) (RdVs.nil _ _)))))).mono ?_
  generalize hq7 : (FOutput.wt ⟨z11, z12, z13⟩ : Nat) = q7 at *
  have Q7 := hid hq7
  clear hq7
  rintro e Y7 ⟨rfl, hb⟩
  replace ba := ba.below hb (Nat.le_refl _)
  replace hB := hB.trans (hb.mono (by omega))
  clear hb
  by_cases f7 : (q7 : Int) ≤ left - z1.size - q0 - q1 - q2 - q3 - q4 - q5 - q6
  case neg =>
    have e7 := bud_neg f7
    rw [e7]
    clear e7
    have ba_l := ba.lt
    go_wp2_with fail
    go_ret
    exact ⟨ret_int (by rw [bud_neg (by have := HW.out; have := Q0.out;  have := Q1.out;  have := Q2.out;  have := Q3.out;  have := Q4.out;  have := Q5.out;  have := Q6.out;  have := Q7.out; have := FHeap.wt_eq z6; have := FOutput.wt_eq z11 z12 z13; omega)]), hB⟩
  have e7 := bud_pos f7
  rw [e7]
  clear e7
  have ba_l := ba.lt
  go_wp2_with fail
  go_ret
  exact ⟨ret_int (by have := HW.out; have := Q0.out;  have := Q1.out;  have := Q2.out;  have := Q3.out;  have := Q4.out;  have := Q5.out;  have := Q6.out;  have := Q7.out; have := FHeap.wt_eq z6; have := FOutput.wt_eq z11 z12 z13; rw [bud_pos (by omega)]; omega), hB⟩
theorem szMachine_any (x : FMachine) (hw : x.ok) : SzMachine x := by
  obtain ⟨z0, z1, z2, z3, z4, z5, ⟨z6⟩, z7, z8, z9, z10, ⟨z11, z12, z13⟩⟩ := x
  have hw2 := hw
  rw [FMachine.ok_eq] at hw2
  exact szMachine_of z0 z1 z2 z3 z4 z5 z6 z7 z8 z9 z10 z11 z12 z13 hw (szValueS_any z4 hw2.2.1) (szPlaceS_any z5 hw2.2.2.1) (szHeap_any _ (by rw [FHeap.ok_eq]; exact hw2.2.2.2.1)) (szObjectS_any z7 hw2.2.2.2.2.1) (szClosureS_any z8 hw2.2.2.2.2.2.1) (szGenS_any z9 hw2.2.2.2.2.2.2.1) (szFrameS_any z10 hw2.2.2.2.2.2.2.2.1) (szOutput_any _ (by rw [FOutput.ok_eq]; exact ⟨hw2.2.2.2.2.2.2.2.2.1, hw2.2.2.2.2.2.2.2.2.2.1, hw2.2.2.2.2.2.2.2.2.2.2⟩))
end Go.Proofs.YtahgcojmpafefaaGreat
