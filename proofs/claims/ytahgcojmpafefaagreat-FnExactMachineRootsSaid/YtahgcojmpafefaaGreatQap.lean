/-
  Parts of the proof: EqM. Conditions: none.
-/
import Derived.Test.YtahgcojmpafefaaGreatQab
import Derived.Test.YtahgcojmpafefaaGreatQac
set_option linter.unusedVariables false
set_option linter.unusedSimpArgs false
namespace Go.Proofs.YtahgcojmpafefaaGreat
set_option maxHeartbeats 40000000
open Lib (hid)
open Go.ChangeShapes Go.WideShapes Go.ChangeAt Go.RowKit Go.Deep Go.Joins
open Go.ChangeMaps (open_string shut_string)
set_option maxRecDepth 100000
def EqIntS (l : List FInt) : Prop := ∀ (u v : Value) (w : World), RdC w w.heap.size (.s 3 1 l.length (FInt.flat l)) u → RdC w w.heap.size (.s 3 1 l.length (FInt.flat l)) v → Calls Tryz.prog 110 #[u, v] w fun e w' => e = .returned (.bool true) ∧ Below w.heap.size w w'
theorem eqIntS_of (l : List FInt) (hl : l.length ≤ 1000000000) : EqIntS l := by
  intro u v w hu hv
  obtain ⟨A, c, rfl⟩ := hu.form
  obtain ⟨A', c', rfl⟩ := hv.form
  have HC := hid hu
  have HD := hid hv
  have hn : l.length ≤ 9223372036854775807 := by omega
  clear hu hv
  go_enter Tryz.func110, Tryz.ntmps110
  go_wp2
  go_loopw [5] (fun i wr => ∃ k : Nat, k ≤ l.length ∧ i = .int .i64 k ∧ Below w.heap.size w wr) (fun i _ => l.length - (intOf i).toNat)
  case atStart => exact ⟨0, Nat.zero_le _, rfl, Below.refl _ _⟩
  case round =>
    obtain ⟨k, hk, rfl, hb⟩ := hrel
    by_cases hlt : k < l.length
    · obtain ⟨x, hx⟩ : ∃ x, l[k]? = some x := ⟨_, List.getElem?_eq_getElem hlt⟩
      obtain ⟨bc, offc, rfl, hblc, hcc⟩ := RdC.at_ FInt.len HC.out hx
      obtain ⟨bd, offd, rfl, hbld, hcd⟩ := RdC.at_ FInt.len HD.out hx
      clear hx
      obtain ⟨z0⟩ := x
      rw [FInt.c_eq] at hcc hcd
      obtain ⟨u0, e0, q0⟩ := hcc 0 _ rfl
      obtain rfl := q0.val
      clear q0
      have c_0 : wr.cell? ⟨bc, offc + k, none⟩ = some (.int .i64 z0) := (hb.cell (p := ⟨bc, _, none⟩) hblc).trans (by simpa using e0)
      clear e0
      obtain ⟨u0, e0, q0⟩ := hcd 0 _ rfl
      obtain rfl := q0.val
      clear q0
      have d_0 : wr.cell? ⟨bd, offd + k, none⟩ = some (.int .i64 z0) := (hb.cell (p := ⟨bd, _, none⟩) hbld).trans (by simpa using e0)
      clear e0
      clear hcc hcd
      go_wp2_with fail
      go_quiet (fail)
      all_goals go_wp2_with fail
      all_goals go_roundw
      case rel => exact ⟨k + 1, by omega, by go_num, below_drewN hb _⟩
      case measure => simp [intOf]; omega
    · obtain rfl : k = l.length := by omega
      clear hlt
      go_wp2_with fail
      go_ret
      exact ⟨rfl, hb⟩
theorem eqIntS_any (l : List FInt) (hw : l.length + FInt.wts l ≤ 1000000000) : EqIntS l := (eqIntS_of l (by omega))
def EqKey (x : FKey) : Prop := ∀ (us vs : List Value) (w : World), RdVs w w.heap.size x.c us → RdVs w w.heap.size x.c vs → Calls Tryz.prog 130 #[.agg us.toArray, .agg vs.toArray] w fun e w' => e = .returned (.bool true) ∧ Below w.heap.size w w'
theorem eqKey_of (z0 : Bool) (z1 : Int) (z2 : ByteArray)  : EqKey ⟨z0, z1, z2⟩ := by
  intro us vs w hr hs
  rw [FKey.c_eq] at hr hs
  obtain ⟨us0, rfl, hr_0⟩ := hr.unv
  obtain ⟨us1, rfl, hr_1⟩ := hr_0.unv
  obtain ⟨us2, rfl, hr_2⟩ := hr_1.unv
  obtain rfl := hr_2.un0
  obtain ⟨vs0, rfl, hs_0⟩ := hs.unv
  obtain ⟨vs1, rfl, hs_1⟩ := hs_0.unv
  obtain ⟨vs2, rfl, hs_2⟩ := hs_1.unv
  obtain rfl := hs_2.un0
  clear hr hs hr_0 hs_0 hr_1 hs_1 hr_2 hs_2
  go_enter Tryz.func130, Tryz.ntmps130
  go_wp2_with fail
  go_ret
  exact ⟨rfl, by repeat (first | exact Below.refl _ _ | (refine Below.alloc ?_ (by simp; try omega) _))⟩
theorem eqKey_any (x : FKey) (hw : x.wt ≤ 1000000000) : EqKey x := by
  obtain ⟨z0, z1, z2⟩ := x
  exact eqKey_of z0 z1 z2 
def EqEntry (x : FEntry) : Prop := ∀ (us vs : List Value) (w : World), RdVs w w.heap.size x.c us → RdVs w w.heap.size x.c vs → Calls Tryz.prog 107 #[.agg us.toArray, .agg vs.toArray] w fun e w' => e = .returned (.bool true) ∧ Below w.heap.size w w'
def EqEntryS (l : List FEntry) : Prop := ∀ (u v : Value) (w : World), RdC w w.heap.size (.s 153 8 l.length (FEntry.flat l)) u → RdC w w.heap.size (.s 153 8 l.length (FEntry.flat l)) v → Calls Tryz.prog 72 #[u, v] w fun e w' => e = .returned (.bool true) ∧ Below w.heap.size w w'
def EqValue (x : FValue) : Prop := ∀ (us vs : List Value) (w : World), RdVs w w.heap.size x.c us → RdVs w w.heap.size x.c vs → Calls Tryz.prog 34 #[.agg us.toArray, .agg vs.toArray] w fun e w' => e = .returned (.bool true) ∧ Below w.heap.size w w'
def EqValueS (l : List FValue) : Prop := ∀ (u v : Value) (w : World), RdC w w.heap.size (.s 82 5 l.length (FValue.flat l)) u → RdC w w.heap.size (.s 82 5 l.length (FValue.flat l)) v → Calls Tryz.prog 8 #[u, v] w fun e w' => e = .returned (.bool true) ∧ Below w.heap.size w w'
theorem eqEntry_of (z0 : Bool) (z1 : Int) (z2 : ByteArray) (z3 : Int) (z4 : Int) (z5 : ByteArray) (z6 : Int) (z7 : List FEntry) (h0 : EqKey ⟨z0, z1, z2⟩) (h3 : EqValue ⟨z3, z4, z5, z6, z7⟩) : EqEntry ⟨⟨z0, z1, z2⟩, ⟨z3, z4, z5, z6, z7⟩⟩ := by
  intro us vs w hr hs
  rw [FEntry.c_eq] at hr hs
  obtain ⟨us0, rfl, hr_0⟩ := hr.unv
  obtain ⟨us1, rfl, hr_1⟩ := hr_0.unv
  obtain ⟨us2, rfl, hr_2⟩ := hr_1.unv
  obtain ⟨us3, rfl, hr_3⟩ := hr_2.unv
  obtain ⟨us4, rfl, hr_4⟩ := hr_3.unv
  obtain ⟨us5, rfl, hr_5⟩ := hr_4.unv
  obtain ⟨us6, rfl, hr_6⟩ := hr_5.unv
  obtain ⟨A7, c7, us7, rfl, r7, hr_7⟩ := hr_6.uns
  obtain rfl := hr_7.un0
  obtain ⟨vs0, rfl, hs_0⟩ := hs.unv
  obtain ⟨vs1, rfl, hs_1⟩ := hs_0.unv
  obtain ⟨vs2, rfl, hs_2⟩ := hs_1.unv
  obtain ⟨vs3, rfl, hs_3⟩ := hs_2.unv
  obtain ⟨vs4, rfl, hs_4⟩ := hs_3.unv
  obtain ⟨vs5, rfl, hs_5⟩ := hs_4.unv
  obtain ⟨vs6, rfl, hs_6⟩ := hs_5.unv
  obtain ⟨B7, d7, vs7, rfl, t7, hs_7⟩ := hs_6.uns
  obtain rfl := hs_7.un0
  clear hr hs hr_0 hs_0 hr_1 hs_1 hr_2 hs_2 hr_3 hs_3 hr_4 hs_4 hr_5 hs_5 hr_6 hs_6 hr_7 hs_7
  have R7 := hid r7
  have T7 := hid t7
  clear r7 t7
  have H0 := hid h0
  clear h0
  have H3 := hid h3
  clear h3
  go_enter Tryz.func107, Tryz.ntmps107
  go_wp2_with fail
  refine calls_worldD _ (fun X => Blk X w.heap.size 153 #[.bool z0, .int .i64 z1, .string z2, .int .i64 z3, .int .i64 z4, .string z5, .int .i64 z6, .slice A7 z7.length c7] ∧ Blk X (w.heap.size + 1) 153 #[.bool z0, .int .i64 z1, .string z2, .int .i64 z3, .int .i64 z4, .string z5, .int .i64 z6, .slice B7 z7.length d7] ∧ Below w.heap.size w X) ⟨(Blk.new w _ _).alloc _, Blk.new' (w.alloc _) _ _ _ (by simp), ((Below.refl _ _).alloc (Nat.le_refl _) _).alloc (by simp) _⟩ ?_
  rintro X0 ⟨ba, bb, hB⟩
  have s0 := bb.lt
  refine (H0.out [.bool z0, .int .i64 z1, .string z2] [.bool z0, .int .i64 z1, .string z2] _ (by rw [FKey.c_eq]; exact (RdVs.cons (by unfold RdC; rfl) (RdVs.cons (by unfold RdC; rfl) (RdVs.cons (by unfold RdC; rfl) (RdVs.nil _ _))))) (by rw [FKey.c_eq]; exact (RdVs.cons (by unfold RdC; rfl) (RdVs.cons (by unfold RdC; rfl) (RdVs.cons (by unfold RdC; rfl) (RdVs.nil _ _)))))).mono ?_
  rintro e Y0 ⟨rfl, hb⟩
  replace ba := ba.below hb (Nat.le_refl _)
  replace bb := bb.below hb (Nat.le_refl _)
  replace hB := hB.trans (hb.mono (by omega))
  clear hb
  have ba_3 : Y0.cell? ⟨w.heap.size, 3, none⟩ = some (.int .i64 z3) := ba.cell 3
  have ba_4 : Y0.cell? ⟨w.heap.size, 4, none⟩ = some (.int .i64 z4) := ba.cell 4
  have ba_5 : Y0.cell? ⟨w.heap.size, 5, none⟩ = some (.string z5) := ba.cell 5
  have ba_6 : Y0.cell? ⟨w.heap.size, 6, none⟩ = some (.int .i64 z6) := ba.cell 6
  have ba_7 : Y0.cell? ⟨w.heap.size, 7, none⟩ = some (.slice A7 z7.length c7) := ba.cell 7
  have ba_l := ba.lt
  have bb_3 : Y0.cell? ⟨w.heap.size + 1, 3, none⟩ = some (.int .i64 z3) := bb.cell 3
  have bb_4 : Y0.cell? ⟨w.heap.size + 1, 4, none⟩ = some (.int .i64 z4) := bb.cell 4
  have bb_5 : Y0.cell? ⟨w.heap.size + 1, 5, none⟩ = some (.string z5) := bb.cell 5
  have bb_6 : Y0.cell? ⟨w.heap.size + 1, 6, none⟩ = some (.int .i64 z6) := bb.cell 6
  have bb_7 : Y0.cell? ⟨w.heap.size + 1, 7, none⟩ = some (.slice B7 z7.length d7) := bb.cell 7
  have bb_l := bb.lt
  go_wp2_with fail
  clear ba_3 bb_3 ba_4 bb_4 ba_5 bb_5 ba_6 bb_6 ba_7 bb_7 ba_l bb_l
  refine calls_worldD _ (fun X => Blk X w.heap.size 153 #[.bool z0, .int .i64 z1, .string z2, .int .i64 z3, .int .i64 z4, .string z5, .int .i64 z6, .slice A7 z7.length c7] ∧ Blk X (w.heap.size + 1) 153 #[.bool z0, .int .i64 z1, .string z2, .int .i64 z3, .int .i64 z4, .string z5, .int .i64 z6, .slice B7 z7.length d7] ∧ Below w.heap.size w X) ⟨ba, bb, hB⟩ ?_
  clear ba bb hB
  rintro X1 ⟨ba, bb, hB⟩
  have s1 := bb.lt
  refine (H3.out [.int .i64 z3, .int .i64 z4, .string z5, .int .i64 z6, .slice A7 z7.length c7] [.int .i64 z3, .int .i64 z4, .string z5, .int .i64 z6, .slice B7 z7.length d7] _ (by rw [FValue.c_eq]; exact (RdVs.cons (by unfold RdC; rfl) (RdVs.cons (by unfold RdC; rfl) (RdVs.cons (by unfold RdC; rfl) (RdVs.cons (by unfold RdC; rfl) (RdVs.cons (R7.out.on hB (Nat.le_refl _) (by omega)) (RdVs.nil _ _))))))) (by rw [FValue.c_eq]; exact (RdVs.cons (by unfold RdC; rfl) (RdVs.cons (by unfold RdC; rfl) (RdVs.cons (by unfold RdC; rfl) (RdVs.cons (by unfold RdC; rfl) (RdVs.cons (T7.out.on hB (Nat.le_refl _) (by omega)) (RdVs.nil _ _)))))))).mono ?_
  rintro e Y1 ⟨rfl, hb⟩
  replace ba := ba.below hb (Nat.le_refl _)
  replace bb := bb.below hb (Nat.le_refl _)
  replace hB := hB.trans (hb.mono (by omega))
  clear hb
  have ba_l := ba.lt
  have bb_l := bb.lt
  go_wp2_with fail
  go_ret
  exact ⟨rfl, hB⟩
theorem eqEntryS_of (l : List FEntry) (hl : l.length ≤ 1000000000) (he : ∀ x, x ∈ l → EqEntry x) : EqEntryS l := by
  intro u v w hu hv
  obtain ⟨A, c, rfl⟩ := hu.form
  obtain ⟨A', c', rfl⟩ := hv.form
  have HC := hid hu
  have HD := hid hv
  have hn : l.length ≤ 9223372036854775807 := by omega
  have HE := hid he
  clear he
  clear hu hv
  go_enter Tryz.func72, Tryz.ntmps72
  go_wp2
  go_loopw [5] (fun i wr => ∃ k : Nat, k ≤ l.length ∧ i = .int .i64 k ∧ Below w.heap.size w wr) (fun i _ => l.length - (intOf i).toNat)
  case atStart => exact ⟨0, Nat.zero_le _, rfl, Below.refl _ _⟩
  case round =>
    obtain ⟨k, hk, rfl, hb⟩ := hrel
    by_cases hlt : k < l.length
    · obtain ⟨x, hx⟩ : ∃ x, l[k]? = some x := ⟨_, List.getElem?_eq_getElem hlt⟩
      obtain ⟨bc, offc, vs, rfl, hblc, hvl, hva, hra⟩ := RdC.elem FEntry.len HC.out hx
      obtain ⟨bd, offd, us, rfl, hbld, hul, hvb, hrb⟩ := RdC.elem FEntry.len HD.out hx
      have HE2 := hid (HE.out x (List.mem_of_getElem? hx))
      clear hx
      have hbd : Below w.heap.size w wr.drew := hb.drew
      have hra0 := range_below hra hb hblc
      have hrb0 := range_below hrb hb hbld
      have hlt2 : (k : Int) < (l.length : Int) := by omega
      have hk0 : (0 : Int) ≤ (k : Int) := by omega
      go_wp2_with fail
      refine wp_region_still_tail 8 (by kernel_rfl) (by kernel_rfl) ?_
      simp only [List.take_succ_cons, List.take_zero, List.drop_succ_cons, List.drop_zero]
      iterate 3 still_step
      refine wpStill_load_elem 153 _ bc (offc + k * 8) vs (.struct (flds Tryz.prog 153)) hra0 rfl rfl (by kernel_rfl) rfl hvl (by kernel_rfl) rfl ?_
      iterate 3 still_step
      refine wpStill_load_elem 153 _ bd (offd + k * 8) us (.struct (flds Tryz.prog 153)) hrb0 rfl rfl (by kernel_rfl) rfl hul (by kernel_rfl) rfl ?_
      refine wpStill_nil ?_
      have hra1 := range_below hra hbd hblc
      have hrb1 := range_below hrb hbd hbld
      have hv1 := hva.on hbd (Nat.le_refl _) hbd.size
      have hv2 := hvb.on hbd (Nat.le_refl _) hbd.size
      change wpList _ _ _ _ _ wr.drew
      clear hra hrb hva hvb
      generalize wr.drew = wd at *
      have HRA := hid hra1
      have HRB := hid hrb1
      have HV1 := hid hv1
      have HV2 := hid hv2
      clear hra1 hrb1 hv1 hv2
      go_wp2_with (first | (refine wpList_load_elem 153 _ bc (offc + k * 8) vs (.struct (flds Tryz.prog 153)) HRA.out rfl rfl (by kernel_rfl) rfl hvl (by kernel_rfl) rfl ?_) | (refine wpList_load_elem 153 _ bd (offd + k * 8) us (.struct (flds Tryz.prog 153)) HRB.out rfl rfl (by kernel_rfl) rfl hul (by kernel_rfl) rfl ?_) | (go_at_call 107; refine (HE2.out vs us _ HV1.out HV2.out).mono ?_; rintro e w2 ⟨rfl, hb2⟩))
      go_roundw
      case rel => exact ⟨k + 1, by omega, by go_num, hbd.trans (hb2.mono hbd.size)⟩
      case measure => simp [intOf]; omega
    · obtain rfl : k = l.length := by omega
      clear hlt
      go_wp2_with fail
      go_ret
      exact ⟨rfl, hb⟩
theorem eqValue_of (z0 : Int) (z1 : Int) (z2 : ByteArray) (z3 : Int) (z4 : List FEntry) (h4 : EqEntryS z4) : EqValue ⟨z0, z1, z2, z3, z4⟩ := by
  intro us vs w hr hs
  rw [FValue.c_eq] at hr hs
  obtain ⟨us0, rfl, hr_0⟩ := hr.unv
  obtain ⟨us1, rfl, hr_1⟩ := hr_0.unv
  obtain ⟨us2, rfl, hr_2⟩ := hr_1.unv
  obtain ⟨us3, rfl, hr_3⟩ := hr_2.unv
  obtain ⟨A4, c4, us4, rfl, r4, hr_4⟩ := hr_3.uns
  obtain rfl := hr_4.un0
  obtain ⟨vs0, rfl, hs_0⟩ := hs.unv
  obtain ⟨vs1, rfl, hs_1⟩ := hs_0.unv
  obtain ⟨vs2, rfl, hs_2⟩ := hs_1.unv
  obtain ⟨vs3, rfl, hs_3⟩ := hs_2.unv
  obtain ⟨B4, d4, vs4, rfl, t4, hs_4⟩ := hs_3.uns
  obtain rfl := hs_4.un0
  clear hr hs hr_0 hs_0 hr_1 hs_1 hr_2 hs_2 hr_3 hs_3 hr_4 hs_4
  have R4 := hid r4
  have T4 := hid t4
  clear r4 t4
  have H4 := hid h4
  clear h4
  go_enter Tryz.func34, Tryz.ntmps34
  go_wp2_with fail
  refine calls_worldD _ (fun X => Blk X w.heap.size 82 #[.int .i64 z0, .int .i64 z1, .string z2, .int .i64 z3, .slice A4 z4.length c4] ∧ Blk X (w.heap.size + 1) 82 #[.int .i64 z0, .int .i64 z1, .string z2, .int .i64 z3, .slice B4 z4.length d4] ∧ Below w.heap.size w X) ⟨(Blk.new w _ _).alloc _, Blk.new' (w.alloc _) _ _ _ (by simp), ((Below.refl _ _).alloc (Nat.le_refl _) _).alloc (by simp) _⟩ ?_
  rintro X0 ⟨ba, bb, hB⟩
  have s0 := bb.lt
  refine (H4.out _ _ _ (R4.out.on hB (Nat.le_refl _) (by omega)) (T4.out.on hB (Nat.le_refl _) (by omega))).mono ?_
  rintro e Y0 ⟨rfl, hb⟩
  replace ba := ba.below hb (Nat.le_refl _)
  replace bb := bb.below hb (Nat.le_refl _)
  replace hB := hB.trans (hb.mono (by omega))
  clear hb
  have ba_l := ba.lt
  have bb_l := bb.lt
  go_wp2_with fail
  go_ret
  exact ⟨rfl, hB⟩
theorem eqValueS_of (l : List FValue) (hl : l.length ≤ 1000000000) (he : ∀ x, x ∈ l → EqValue x) : EqValueS l := by
  intro u v w hu hv
  obtain ⟨A, c, rfl⟩ := hu.form
  obtain ⟨A', c', rfl⟩ := hv.form
  have HC := hid hu
  have HD := hid hv
  have hn : l.length ≤ 9223372036854775807 := by omega
  have HE := hid he
  clear he
  clear hu hv
  go_enter Tryz.func8, Tryz.ntmps8
  go_wp2
  go_loopw [5] (fun i wr => ∃ k : Nat, k ≤ l.length ∧ i = .int .i64 k ∧ Below w.heap.size w wr) (fun i _ => l.length - (intOf i).toNat)
  case atStart => exact ⟨0, Nat.zero_le _, rfl, Below.refl _ _⟩
  case round =>
    obtain ⟨k, hk, rfl, hb⟩ := hrel
    by_cases hlt : k < l.length
    · obtain ⟨x, hx⟩ : ∃ x, l[k]? = some x := ⟨_, List.getElem?_eq_getElem hlt⟩
      obtain ⟨bc, offc, vs, rfl, hblc, hvl, hva, hra⟩ := RdC.elem FValue.len HC.out hx
      obtain ⟨bd, offd, us, rfl, hbld, hul, hvb, hrb⟩ := RdC.elem FValue.len HD.out hx
      have HE2 := hid (HE.out x (List.mem_of_getElem? hx))
      clear hx
      have hbd : Below w.heap.size w wr.drew := hb.drew
      have hra0 := range_below hra hb hblc
      have hrb0 := range_below hrb hb hbld
      have hlt2 : (k : Int) < (l.length : Int) := by omega
      have hk0 : (0 : Int) ≤ (k : Int) := by omega
      go_wp2_with fail
      refine wp_region_still_tail 8 (by kernel_rfl) (by kernel_rfl) ?_
      simp only [List.take_succ_cons, List.take_zero, List.drop_succ_cons, List.drop_zero]
      iterate 3 still_step
      refine wpStill_load_elem 82 _ bc (offc + k * 5) vs (.struct (flds Tryz.prog 82)) hra0 rfl rfl (by kernel_rfl) rfl hvl (by kernel_rfl) rfl ?_
      iterate 3 still_step
      refine wpStill_load_elem 82 _ bd (offd + k * 5) us (.struct (flds Tryz.prog 82)) hrb0 rfl rfl (by kernel_rfl) rfl hul (by kernel_rfl) rfl ?_
      refine wpStill_nil ?_
      have hra1 := range_below hra hbd hblc
      have hrb1 := range_below hrb hbd hbld
      have hv1 := hva.on hbd (Nat.le_refl _) hbd.size
      have hv2 := hvb.on hbd (Nat.le_refl _) hbd.size
      change wpList _ _ _ _ _ wr.drew
      clear hra hrb hva hvb
      generalize wr.drew = wd at *
      have HRA := hid hra1
      have HRB := hid hrb1
      have HV1 := hid hv1
      have HV2 := hid hv2
      clear hra1 hrb1 hv1 hv2
      go_wp2_with (first | (refine wpList_load_elem 82 _ bc (offc + k * 5) vs (.struct (flds Tryz.prog 82)) HRA.out rfl rfl (by kernel_rfl) rfl hvl (by kernel_rfl) rfl ?_) | (refine wpList_load_elem 82 _ bd (offd + k * 5) us (.struct (flds Tryz.prog 82)) HRB.out rfl rfl (by kernel_rfl) rfl hul (by kernel_rfl) rfl ?_) | (go_at_call 34; refine (HE2.out vs us _ HV1.out HV2.out).mono ?_; rintro e w2 ⟨rfl, hb2⟩))
      go_roundw
      case rel => exact ⟨k + 1, by omega, by go_num, hbd.trans (hb2.mono hbd.size)⟩
      case measure => simp [intOf]; omega
    · obtain rfl : k = l.length := by omega
      clear hlt
      go_wp2_with fail
      go_ret
      exact ⟨rfl, hb⟩
mutual
theorem eqEntry_any : ∀ (x : FEntry), x.wt ≤ 1000000000 → EqEntry x
  | .mk a0 a1, hw => by
    unfold FEntry.wt at hw
    have k0 := eqKey_any a0 (by omega)
    have k1 := eqValue_any a1 (by omega)
    obtain ⟨b0_0, b0_1, b0_2⟩ := a0
    obtain ⟨b1_0, b1_1, b1_2, b1_3, b1_4⟩ := a1
    exact eqEntry_of b0_0 b0_1 b0_2 b1_0 b1_1 b1_2 b1_3 b1_4 k0 k1
theorem eqValue_any : ∀ (x : FValue), x.wt ≤ 1000000000 → EqValue x
  | .mk a0 a1 a2 a3 a4, hw => by
    unfold FValue.wt at hw
    exact eqValue_of a0 a1 a2 a3 a4 (eqEntryS_of a4 (by omega) (eqEntry_all a4 (by omega)))
theorem eqEntry_all : ∀ (l : List FEntry), l.length + FEntry.wts l ≤ 1000000000 → ∀ x, x ∈ l → EqEntry x
  | [], _, x, hx => by cases hx
  | y :: r, hw, x, hx => by
    unfold FEntry.wts at hw
    simp only [List.length_cons] at hw
    rcases List.mem_cons.1 hx with e | hx
    · rw [e]
      exact eqEntry_any y (by omega)
    · exact eqEntry_all r (by omega) x hx
end
theorem eqValueS_any (l : List FValue) (hw : l.length + FValue.wts l ≤ 1000000000) : EqValueS l := (eqValueS_of l (by omega) (fun x hx => eqValue_any x (by have := FValue.wts_at l x hx; omega)))
def EqPlace (x : FPlace) : Prop := ∀ (us vs : List Value) (w : World), RdVs w w.heap.size x.c us → RdVs w w.heap.size x.c vs → Calls Tryz.prog 73 #[.agg us.toArray, .agg vs.toArray] w fun e w' => e = .returned (.bool true) ∧ Below w.heap.size w w'
def EqPlaceS (l : List FPlace) : Prop := ∀ (u v : Value) (w : World), RdC w w.heap.size (.s 140 2 l.length (FPlace.flat l)) u → RdC w w.heap.size (.s 140 2 l.length (FPlace.flat l)) v → Calls Tryz.prog 35 #[u, v] w fun e w' => e = .returned (.bool true) ∧ Below w.heap.size w w'
theorem eqPlace_of (z0 : ByteArray) (z1 : Int)  : EqPlace ⟨z0, z1⟩ := by
  intro us vs w hr hs
  rw [FPlace.c_eq] at hr hs
  obtain ⟨us0, rfl, hr_0⟩ := hr.unv
  obtain ⟨us1, rfl, hr_1⟩ := hr_0.unv
  obtain rfl := hr_1.un0
  obtain ⟨vs0, rfl, hs_0⟩ := hs.unv
  obtain ⟨vs1, rfl, hs_1⟩ := hs_0.unv
  obtain rfl := hs_1.un0
  clear hr hs hr_0 hs_0 hr_1 hs_1
  go_enter Tryz.func73, Tryz.ntmps73
  go_wp2_with fail
  go_ret
  exact ⟨rfl, by repeat (first | exact Below.refl _ _ | (refine Below.alloc ?_ (by simp; try omega) _))⟩
theorem eqPlaceS_of (l : List FPlace) (hl : l.length ≤ 1000000000) (he : ∀ x, x ∈ l → EqPlace x) : EqPlaceS l := by
  intro u v w hu hv
  obtain ⟨A, c, rfl⟩ := hu.form
  obtain ⟨A', c', rfl⟩ := hv.form
  have HC := hid hu
  have HD := hid hv
  have hn : l.length ≤ 9223372036854775807 := by omega
  have HE := hid he
  clear he
  clear hu hv
  go_enter Tryz.func35, Tryz.ntmps35
  go_wp2
  go_loopw [5] (fun i wr => ∃ k : Nat, k ≤ l.length ∧ i = .int .i64 k ∧ Below w.heap.size w wr) (fun i _ => l.length - (intOf i).toNat)
  case atStart => exact ⟨0, Nat.zero_le _, rfl, Below.refl _ _⟩
  case round =>
    obtain ⟨k, hk, rfl, hb⟩ := hrel
    by_cases hlt : k < l.length
    · obtain ⟨x, hx⟩ : ∃ x, l[k]? = some x := ⟨_, List.getElem?_eq_getElem hlt⟩
      obtain ⟨bc, offc, vs, rfl, hblc, hvl, hva, hra⟩ := RdC.elem FPlace.len HC.out hx
      obtain ⟨bd, offd, us, rfl, hbld, hul, hvb, hrb⟩ := RdC.elem FPlace.len HD.out hx
      have HE2 := hid (HE.out x (List.mem_of_getElem? hx))
      clear hx
      have hbd : Below w.heap.size w wr.drew := hb.drew
      have hra0 := range_below hra hb hblc
      have hrb0 := range_below hrb hb hbld
      have hlt2 : (k : Int) < (l.length : Int) := by omega
      have hk0 : (0 : Int) ≤ (k : Int) := by omega
      go_wp2_with fail
      refine wp_region_still_tail 8 (by kernel_rfl) (by kernel_rfl) ?_
      simp only [List.take_succ_cons, List.take_zero, List.drop_succ_cons, List.drop_zero]
      iterate 3 still_step
      refine wpStill_load_elem 140 _ bc (offc + k * 2) vs (.struct (flds Tryz.prog 140)) hra0 rfl rfl (by kernel_rfl) rfl hvl (by kernel_rfl) rfl ?_
      iterate 3 still_step
      refine wpStill_load_elem 140 _ bd (offd + k * 2) us (.struct (flds Tryz.prog 140)) hrb0 rfl rfl (by kernel_rfl) rfl hul (by kernel_rfl) rfl ?_
      refine wpStill_nil ?_
      have hra1 := range_below hra hbd hblc
      have hrb1 := range_below hrb hbd hbld
      have hv1 := hva.on hbd (Nat.le_refl _) hbd.size
      have hv2 := hvb.on hbd (Nat.le_refl _) hbd.size
      change wpList _ _ _ _ _ wr.drew
      clear hra hrb hva hvb
      generalize wr.drew = wd at *
      have HRA := hid hra1
      have HRB := hid hrb1
      have HV1 := hid hv1
      have HV2 := hid hv2
      clear hra1 hrb1 hv1 hv2
      go_wp2_with (first | (refine wpList_load_elem 140 _ bc (offc + k * 2) vs (.struct (flds Tryz.prog 140)) HRA.out rfl rfl (by kernel_rfl) rfl hvl (by kernel_rfl) rfl ?_) | (refine wpList_load_elem 140 _ bd (offd + k * 2) us (.struct (flds Tryz.prog 140)) HRB.out rfl rfl (by kernel_rfl) rfl hul (by kernel_rfl) rfl ?_) | (go_at_call 73; refine (HE2.out vs us _ HV1.out HV2.out).mono ?_; rintro e w2 ⟨rfl, hb2⟩))
      go_roundw
      case rel => exact ⟨k + 1, by omega, by go_num, hbd.trans (hb2.mono hbd.size)⟩
      case measure => simp [intOf]; omega
    · obtain rfl : k = l.length := by omega
      clear hlt
      go_wp2_with fail
      go_ret
      exact ⟨rfl, hb⟩
theorem eqPlace_any (x : FPlace) (hw : x.wt ≤ 1000000000) : EqPlace x := by
  obtain ⟨z0, z1⟩ := x
  exact eqPlace_of z0 z1 
theorem eqPlaceS_any (l : List FPlace) (hw : l.length + FPlace.wts l ≤ 1000000000) : EqPlaceS l := (eqPlaceS_of l (by omega) (fun x hx => eqPlace_any x (by have := FPlace.wts_at l x hx; omega)))
def EqSlot (x : FSlot) : Prop := ∀ (us vs : List Value) (w : World), RdVs w w.heap.size x.c us → RdVs w w.heap.size x.c vs → Calls Tryz.prog 148 #[.agg us.toArray, .agg vs.toArray] w fun e w' => e = .returned (.bool true) ∧ Below w.heap.size w w'
def EqSlotS (l : List FSlot) : Prop := ∀ (u v : Value) (w : World), RdC w w.heap.size (.s 255 10 l.length (FSlot.flat l)) u → RdC w w.heap.size (.s 255 10 l.length (FSlot.flat l)) v → Calls Tryz.prog 142 #[u, v] w fun e w' => e = .returned (.bool true) ∧ Below w.heap.size w w'
theorem eqSlot_of (z0 : Bool) (z1 : Int) (z2 : ByteArray) (z3 : Int) (z4 : Int) (z5 : ByteArray) (z6 : Int) (z7 : List FEntry) (z8 : Bool) (z9 : Int) (h0 : EqKey ⟨z0, z1, z2⟩) (h3 : EqValue ⟨z3, z4, z5, z6, z7⟩) : EqSlot ⟨⟨z0, z1, z2⟩, ⟨z3, z4, z5, z6, z7⟩, z8, z9⟩ := by
  intro us vs w hr hs
  rw [FSlot.c_eq] at hr hs
  obtain ⟨us0, rfl, hr_0⟩ := hr.unv
  obtain ⟨us1, rfl, hr_1⟩ := hr_0.unv
  obtain ⟨us2, rfl, hr_2⟩ := hr_1.unv
  obtain ⟨us3, rfl, hr_3⟩ := hr_2.unv
  obtain ⟨us4, rfl, hr_4⟩ := hr_3.unv
  obtain ⟨us5, rfl, hr_5⟩ := hr_4.unv
  obtain ⟨us6, rfl, hr_6⟩ := hr_5.unv
  obtain ⟨A7, c7, us7, rfl, r7, hr_7⟩ := hr_6.uns
  obtain ⟨us8, rfl, hr_8⟩ := hr_7.unv
  obtain ⟨us9, rfl, hr_9⟩ := hr_8.unv
  obtain rfl := hr_9.un0
  obtain ⟨vs0, rfl, hs_0⟩ := hs.unv
  obtain ⟨vs1, rfl, hs_1⟩ := hs_0.unv
  obtain ⟨vs2, rfl, hs_2⟩ := hs_1.unv
  obtain ⟨vs3, rfl, hs_3⟩ := hs_2.unv
  obtain ⟨vs4, rfl, hs_4⟩ := hs_3.unv
  obtain ⟨vs5, rfl, hs_5⟩ := hs_4.unv
  obtain ⟨vs6, rfl, hs_6⟩ := hs_5.unv
  obtain ⟨B7, d7, vs7, rfl, t7, hs_7⟩ := hs_6.uns
  obtain ⟨vs8, rfl, hs_8⟩ := hs_7.unv
  obtain ⟨vs9, rfl, hs_9⟩ := hs_8.unv
  obtain rfl := hs_9.un0
  clear hr hs hr_0 hs_0 hr_1 hs_1 hr_2 hs_2 hr_3 hs_3 hr_4 hs_4 hr_5 hs_5 hr_6 hs_6 hr_7 hs_7 hr_8 hs_8 hr_9 hs_9
  have R7 := hid r7
  have T7 := hid t7
  clear r7 t7
  have H0 := hid h0
  clear h0
  have H3 := hid h3
  clear h3
  go_enter Tryz.func148, Tryz.ntmps148
  go_wp2_with fail
  refine calls_worldD _ (fun X => Blk X w.heap.size 255 #[.bool z0, .int .i64 z1, .string z2, .int .i64 z3, .int .i64 z4, .string z5, .int .i64 z6, .slice A7 z7.length c7, .bool z8, .int .i64 z9] ∧ Blk X (w.heap.size + 1) 255 #[.bool z0, .int .i64 z1, .string z2, .int .i64 z3, .int .i64 z4, .string z5, .int .i64 z6, .slice B7 z7.length d7, .bool z8, .int .i64 z9] ∧ Below w.heap.size w X) ⟨(Blk.new w _ _).alloc _, Blk.new' (w.alloc _) _ _ _ (by simp), ((Below.refl _ _).alloc (Nat.le_refl _) _).alloc (by simp) _⟩ ?_
  rintro X0 ⟨ba, bb, hB⟩
  have s0 := bb.lt
  refine (H0.out [.bool z0, .int .i64 z1, .string z2] [.bool z0, .int .i64 z1, .string z2] _ (by rw [FKey.c_eq]; exact (RdVs.cons (by unfold RdC; rfl) (RdVs.cons (by unfold RdC; rfl) (RdVs.cons (by unfold RdC; rfl) (RdVs.nil _ _))))) (by rw [FKey.c_eq]; exact (RdVs.cons (by unfold RdC; rfl) (RdVs.cons (by unfold RdC; rfl) (RdVs.cons (by unfold RdC; rfl) (RdVs.nil _ _)))))).mono ?_
  rintro e Y0 ⟨rfl, hb⟩
  replace ba := ba.below hb (Nat.le_refl _)
  replace bb := bb.below hb (Nat.le_refl _)
  replace hB := hB.trans (hb.mono (by omega))
  clear hb
  have ba_3 : Y0.cell? ⟨w.heap.size, 3, none⟩ = some (.int .i64 z3) := ba.cell 3
  have ba_4 : Y0.cell? ⟨w.heap.size, 4, none⟩ = some (.int .i64 z4) := ba.cell 4
  have ba_5 : Y0.cell? ⟨w.heap.size, 5, none⟩ = some (.string z5) := ba.cell 5
  have ba_6 : Y0.cell? ⟨w.heap.size, 6, none⟩ = some (.int .i64 z6) := ba.cell 6
  have ba_7 : Y0.cell? ⟨w.heap.size, 7, none⟩ = some (.slice A7 z7.length c7) := ba.cell 7
  have ba_l := ba.lt
  have bb_3 : Y0.cell? ⟨w.heap.size + 1, 3, none⟩ = some (.int .i64 z3) := bb.cell 3
  have bb_4 : Y0.cell? ⟨w.heap.size + 1, 4, none⟩ = some (.int .i64 z4) := bb.cell 4
  have bb_5 : Y0.cell? ⟨w.heap.size + 1, 5, none⟩ = some (.string z5) := bb.cell 5
  have bb_6 : Y0.cell? ⟨w.heap.size + 1, 6, none⟩ = some (.int .i64 z6) := bb.cell 6
  have bb_7 : Y0.cell? ⟨w.heap.size + 1, 7, none⟩ = some (.slice B7 z7.length d7) := bb.cell 7
  have bb_l := bb.lt
  go_wp2_with fail
  clear ba_3 bb_3 ba_4 bb_4 ba_5 bb_5 ba_6 bb_6 ba_7 bb_7 ba_l bb_l
  refine calls_worldD _ (fun X => Blk X w.heap.size 255 #[.bool z0, .int .i64 z1, .string z2, .int .i64 z3, .int .i64 z4, .string z5, .int .i64 z6, .slice A7 z7.length c7, .bool z8, .int .i64 z9] ∧ Blk X (w.heap.size + 1) 255 #[.bool z0, .int .i64 z1, .string z2, .int .i64 z3, .int .i64 z4, .string z5, .int .i64 z6, .slice B7 z7.length d7, .bool z8, .int .i64 z9] ∧ Below w.heap.size w X) ⟨ba, bb, hB⟩ ?_
  clear ba bb hB
  rintro X1 ⟨ba, bb, hB⟩
  have s1 := bb.lt
  refine (H3.out [.int .i64 z3, .int .i64 z4, .string z5, .int .i64 z6, .slice A7 z7.length c7] [.int .i64 z3, .int .i64 z4, .string z5, .int .i64 z6, .slice B7 z7.length d7] _ (by rw [FValue.c_eq]; exact (RdVs.cons (by unfold RdC; rfl) (RdVs.cons (by unfold RdC; rfl) (RdVs.cons (by unfold RdC; rfl) (RdVs.cons (by unfold RdC; rfl) (RdVs.cons (R7.out.on hB (Nat.le_refl _) (by omega)) (RdVs.nil _ _))))))) (by rw [FValue.c_eq]; exact (RdVs.cons (by unfold RdC; rfl) (RdVs.cons (by unfold RdC; rfl) (RdVs.cons (by unfold RdC; rfl) (RdVs.cons (by unfold RdC; rfl) (RdVs.cons (T7.out.on hB (Nat.le_refl _) (by omega)) (RdVs.nil _ _)))))))).mono ?_
  rintro e Y1 ⟨rfl, hb⟩
  replace ba := ba.below hb (Nat.le_refl _)
  replace bb := bb.below hb (Nat.le_refl _)
  replace hB := hB.trans (hb.mono (by omega))
  clear hb
  have ba_8 : Y1.cell? ⟨w.heap.size, 8, none⟩ = some (.bool z8) := ba.cell 8
  have ba_9 : Y1.cell? ⟨w.heap.size, 9, none⟩ = some (.int .i64 z9) := ba.cell 9
  have ba_l := ba.lt
  have bb_8 : Y1.cell? ⟨w.heap.size + 1, 8, none⟩ = some (.bool z8) := bb.cell 8
  have bb_9 : Y1.cell? ⟨w.heap.size + 1, 9, none⟩ = some (.int .i64 z9) := bb.cell 9
  have bb_l := bb.lt
  go_wp2_with fail
  go_ret
  exact ⟨rfl, hB⟩
theorem eqSlotS_of (l : List FSlot) (hl : l.length ≤ 1000000000) (he : ∀ x, x ∈ l → EqSlot x) : EqSlotS l := by
  intro u v w hu hv
  obtain ⟨A, c, rfl⟩ := hu.form
  obtain ⟨A', c', rfl⟩ := hv.form
  have HC := hid hu
  have HD := hid hv
  have hn : l.length ≤ 9223372036854775807 := by omega
  have HE := hid he
  clear he
  clear hu hv
  go_enter Tryz.func142, Tryz.ntmps142
  go_wp2
  go_loopw [5] (fun i wr => ∃ k : Nat, k ≤ l.length ∧ i = .int .i64 k ∧ Below w.heap.size w wr) (fun i _ => l.length - (intOf i).toNat)
  case atStart => exact ⟨0, Nat.zero_le _, rfl, Below.refl _ _⟩
  case round =>
    obtain ⟨k, hk, rfl, hb⟩ := hrel
    by_cases hlt : k < l.length
    · obtain ⟨x, hx⟩ : ∃ x, l[k]? = some x := ⟨_, List.getElem?_eq_getElem hlt⟩
      obtain ⟨bc, offc, vs, rfl, hblc, hvl, hva, hra⟩ := RdC.elem FSlot.len HC.out hx
      obtain ⟨bd, offd, us, rfl, hbld, hul, hvb, hrb⟩ := RdC.elem FSlot.len HD.out hx
      have HE2 := hid (HE.out x (List.mem_of_getElem? hx))
      clear hx
      have hbd : Below w.heap.size w wr.drew := hb.drew
      have hra0 := range_below hra hb hblc
      have hrb0 := range_below hrb hb hbld
      have hlt2 : (k : Int) < (l.length : Int) := by omega
      have hk0 : (0 : Int) ≤ (k : Int) := by omega
      go_wp2_with fail
      refine wp_region_still_tail 8 (by kernel_rfl) (by kernel_rfl) ?_
      simp only [List.take_succ_cons, List.take_zero, List.drop_succ_cons, List.drop_zero]
      iterate 3 still_step
      refine wpStill_load_elem 255 _ bc (offc + k * 10) vs (.struct (flds Tryz.prog 255)) hra0 rfl rfl (by kernel_rfl) rfl hvl (by kernel_rfl) rfl ?_
      iterate 3 still_step
      refine wpStill_load_elem 255 _ bd (offd + k * 10) us (.struct (flds Tryz.prog 255)) hrb0 rfl rfl (by kernel_rfl) rfl hul (by kernel_rfl) rfl ?_
      refine wpStill_nil ?_
      have hra1 := range_below hra hbd hblc
      have hrb1 := range_below hrb hbd hbld
      have hv1 := hva.on hbd (Nat.le_refl _) hbd.size
      have hv2 := hvb.on hbd (Nat.le_refl _) hbd.size
      change wpList _ _ _ _ _ wr.drew
      clear hra hrb hva hvb
      generalize wr.drew = wd at *
      have HRA := hid hra1
      have HRB := hid hrb1
      have HV1 := hid hv1
      have HV2 := hid hv2
      clear hra1 hrb1 hv1 hv2
      go_wp2_with (first | (refine wpList_load_elem 255 _ bc (offc + k * 10) vs (.struct (flds Tryz.prog 255)) HRA.out rfl rfl (by kernel_rfl) rfl hvl (by kernel_rfl) rfl ?_) | (refine wpList_load_elem 255 _ bd (offd + k * 10) us (.struct (flds Tryz.prog 255)) HRB.out rfl rfl (by kernel_rfl) rfl hul (by kernel_rfl) rfl ?_) | (go_at_call 148; refine (HE2.out vs us _ HV1.out HV2.out).mono ?_; rintro e w2 ⟨rfl, hb2⟩))
      go_roundw
      case rel => exact ⟨k + 1, by omega, by go_num, hbd.trans (hb2.mono hbd.size)⟩
      case measure => simp [intOf]; omega
    · obtain rfl : k = l.length := by omega
      clear hlt
      go_wp2_with fail
      go_ret
      exact ⟨rfl, hb⟩
theorem eqSlot_any (x : FSlot) (hw : x.wt ≤ 1000000000) : EqSlot x := by
  obtain ⟨⟨z0, z1, z2⟩, ⟨z3, z4, z5, z6, z7⟩, z8, z9⟩ := x
  exact eqSlot_of z0 z1 z2 z3 z4 z5 z6 z7 z8 z9 (eqKey_any _ (by rw [FSlot.wt_eq] at hw; rw [FKey.wt_eq]; omega)) (eqValue_any _ (by rw [FSlot.wt_eq] at hw; rw [FValue.wt_eq]; omega))
theorem eqSlotS_any (l : List FSlot) (hw : l.length + FSlot.wts l ≤ 1000000000) : EqSlotS l := (eqSlotS_of l (by omega) (fun x hx => eqSlot_any x (by have := FSlot.wts_at l x hx; omega)))
def EqTable (x : FTable) : Prop := ∀ (us vs : List Value) (w : World), RdVs w w.heap.size x.c us → RdVs w w.heap.size x.c vs → Calls Tryz.prog 131 #[.agg us.toArray, .agg vs.toArray] w fun e w' => e = .returned (.bool true) ∧ Below w.heap.size w w'
theorem eqTable_of (z0 : Bool) (z1 : List FInt) (z2 : List FSlot) (z3 : Int) (z4 : Int) (h1 : EqIntS z1) (h2 : EqSlotS z2) : EqTable ⟨z0, z1, z2, z3, z4⟩ := by
  intro us vs w hr hs
  rw [FTable.c_eq] at hr hs
  obtain ⟨us0, rfl, hr_0⟩ := hr.unv
  obtain ⟨A1, c1, us1, rfl, r1, hr_1⟩ := hr_0.uns
  obtain ⟨A2, c2, us2, rfl, r2, hr_2⟩ := hr_1.uns
  obtain ⟨us3, rfl, hr_3⟩ := hr_2.unv
  obtain ⟨us4, rfl, hr_4⟩ := hr_3.unv
  obtain rfl := hr_4.un0
  obtain ⟨vs0, rfl, hs_0⟩ := hs.unv
  obtain ⟨B1, d1, vs1, rfl, t1, hs_1⟩ := hs_0.uns
  obtain ⟨B2, d2, vs2, rfl, t2, hs_2⟩ := hs_1.uns
  obtain ⟨vs3, rfl, hs_3⟩ := hs_2.unv
  obtain ⟨vs4, rfl, hs_4⟩ := hs_3.unv
  obtain rfl := hs_4.un0
  clear hr hs hr_0 hs_0 hr_1 hs_1 hr_2 hs_2 hr_3 hs_3 hr_4 hs_4
  have R1 := hid r1
  have T1 := hid t1
  clear r1 t1
  have R2 := hid r2
  have T2 := hid t2
  clear r2 t2
  have H1 := hid h1
  clear h1
  have H2 := hid h2
  clear h2
  go_enter Tryz.func131, Tryz.ntmps131
  go_wp2_with fail
  refine calls_worldD _ (fun X => Blk X w.heap.size 199 #[.bool z0, .slice A1 z1.length c1, .slice A2 z2.length c2, .int .i64 z3, .int .i64 z4] ∧ Blk X (w.heap.size + 1) 199 #[.bool z0, .slice B1 z1.length d1, .slice B2 z2.length d2, .int .i64 z3, .int .i64 z4] ∧ Below w.heap.size w X) ⟨(Blk.new w _ _).alloc _, Blk.new' (w.alloc _) _ _ _ (by simp), ((Below.refl _ _).alloc (Nat.le_refl _) _).alloc (by simp) _⟩ ?_
  rintro X0 ⟨ba, bb, hB⟩
  have s0 := bb.lt
  refine (H1.out _ _ _ (R1.out.on hB (Nat.le_refl _) (by omega)) (T1.out.on hB (Nat.le_refl _) (by omega))).mono ?_
  rintro e Y0 ⟨rfl, hb⟩
  replace ba := ba.below hb (Nat.le_refl _)
  replace bb := bb.below hb (Nat.le_refl _)
  replace hB := hB.trans (hb.mono (by omega))
  clear hb
  have ba_2 : Y0.cell? ⟨w.heap.size, 2, none⟩ = some (.slice A2 z2.length c2) := ba.cell 2
  have ba_l := ba.lt
  have bb_2 : Y0.cell? ⟨w.heap.size + 1, 2, none⟩ = some (.slice B2 z2.length d2) := bb.cell 2
  have bb_l := bb.lt
  go_wp2_with fail
  clear ba_2 bb_2 ba_l bb_l
  refine calls_worldD _ (fun X => Blk X w.heap.size 199 #[.bool z0, .slice A1 z1.length c1, .slice A2 z2.length c2, .int .i64 z3, .int .i64 z4] ∧ Blk X (w.heap.size + 1) 199 #[.bool z0, .slice B1 z1.length d1, .slice B2 z2.length d2, .int .i64 z3, .int .i64 z4] ∧ Below w.heap.size w X) ⟨ba, bb, hB⟩ ?_
  clear ba bb hB
  rintro X1 ⟨ba, bb, hB⟩
  have s1 := bb.lt
  refine (H2.out _ _ _ (R2.out.on hB (Nat.le_refl _) (by omega)) (T2.out.on hB (Nat.le_refl _) (by omega))).mono ?_
  rintro e Y1 ⟨rfl, hb⟩
  replace ba := ba.below hb (Nat.le_refl _)
  replace bb := bb.below hb (Nat.le_refl _)
  replace hB := hB.trans (hb.mono (by omega))
  clear hb
  have ba_3 : Y1.cell? ⟨w.heap.size, 3, none⟩ = some (.int .i64 z3) := ba.cell 3
  have ba_4 : Y1.cell? ⟨w.heap.size, 4, none⟩ = some (.int .i64 z4) := ba.cell 4
  have ba_l := ba.lt
  have bb_3 : Y1.cell? ⟨w.heap.size + 1, 3, none⟩ = some (.int .i64 z3) := bb.cell 3
  have bb_4 : Y1.cell? ⟨w.heap.size + 1, 4, none⟩ = some (.int .i64 z4) := bb.cell 4
  have bb_l := bb.lt
  go_wp2_with fail
  go_ret
  exact ⟨rfl, hB⟩
theorem eqTable_any (x : FTable) (hw : x.wt ≤ 1000000000) : EqTable x := by
  obtain ⟨z0, z1, z2, z3, z4⟩ := x
  exact eqTable_of z0 z1 z2 z3 z4 (eqIntS_any z1 (by rw [FTable.wt_eq] at hw; omega)) (eqSlotS_any z2 (by rw [FTable.wt_eq] at hw; omega))
def EqBlock (x : FBlock) : Prop := ∀ (us vs : List Value) (w : World), RdVs w w.heap.size x.c us → RdVs w w.heap.size x.c vs → Calls Tryz.prog 108 #[.agg us.toArray, .agg vs.toArray] w fun e w' => e = .returned (.bool true) ∧ Below w.heap.size w w'
def EqBlockS (l : List FBlock) : Prop := ∀ (u v : Value) (w : World), RdC w w.heap.size (.s 201 6 l.length (FBlock.flat l)) u → RdC w w.heap.size (.s 201 6 l.length (FBlock.flat l)) v → Calls Tryz.prog 74 #[u, v] w fun e w' => e = .returned (.bool true) ∧ Below w.heap.size w w'
theorem eqBlock_of (z0 : Int) (z1 : Bool) (z2 : List FInt) (z3 : List FSlot) (z4 : Int) (z5 : Int) (h1 : EqTable ⟨z1, z2, z3, z4, z5⟩) : EqBlock ⟨z0, ⟨z1, z2, z3, z4, z5⟩⟩ := by
  intro us vs w hr hs
  rw [FBlock.c_eq] at hr hs
  obtain ⟨us0, rfl, hr_0⟩ := hr.unv
  obtain ⟨us1, rfl, hr_1⟩ := hr_0.unv
  obtain ⟨A2, c2, us2, rfl, r2, hr_2⟩ := hr_1.uns
  obtain ⟨A3, c3, us3, rfl, r3, hr_3⟩ := hr_2.uns
  obtain ⟨us4, rfl, hr_4⟩ := hr_3.unv
  obtain ⟨us5, rfl, hr_5⟩ := hr_4.unv
  obtain rfl := hr_5.un0
  obtain ⟨vs0, rfl, hs_0⟩ := hs.unv
  obtain ⟨vs1, rfl, hs_1⟩ := hs_0.unv
  obtain ⟨B2, d2, vs2, rfl, t2, hs_2⟩ := hs_1.uns
  obtain ⟨B3, d3, vs3, rfl, t3, hs_3⟩ := hs_2.uns
  obtain ⟨vs4, rfl, hs_4⟩ := hs_3.unv
  obtain ⟨vs5, rfl, hs_5⟩ := hs_4.unv
  obtain rfl := hs_5.un0
  clear hr hs hr_0 hs_0 hr_1 hs_1 hr_2 hs_2 hr_3 hs_3 hr_4 hs_4 hr_5 hs_5
  have R2 := hid r2
  have T2 := hid t2
  clear r2 t2
  have R3 := hid r3
  have T3 := hid t3
  clear r3 t3
  have H1 := hid h1
  clear h1
  go_enter Tryz.func108, Tryz.ntmps108
  go_wp2_with fail
  refine calls_worldD _ (fun X => Blk X w.heap.size 201 #[.int .i64 z0, .bool z1, .slice A2 z2.length c2, .slice A3 z3.length c3, .int .i64 z4, .int .i64 z5] ∧ Blk X (w.heap.size + 1) 201 #[.int .i64 z0, .bool z1, .slice B2 z2.length d2, .slice B3 z3.length d3, .int .i64 z4, .int .i64 z5] ∧ Below w.heap.size w X) ⟨(Blk.new w _ _).alloc _, Blk.new' (w.alloc _) _ _ _ (by simp), ((Below.refl _ _).alloc (Nat.le_refl _) _).alloc (by simp) _⟩ ?_
  rintro X0 ⟨ba, bb, hB⟩
  have s0 := bb.lt
  refine (H1.out [.bool z1, .slice A2 z2.length c2, .slice A3 z3.length c3, .int .i64 z4, .int .i64 z5] [.bool z1, .slice B2 z2.length d2, .slice B3 z3.length d3, .int .i64 z4, .int .i64 z5] _ (by rw [FTable.c_eq]; exact (RdVs.cons (by unfold RdC; rfl) (RdVs.cons (R2.out.on hB (Nat.le_refl _) (by omega)) (RdVs.cons (R3.out.on hB (Nat.le_refl _) (by omega)) (RdVs.cons (by unfold RdC; rfl) (RdVs.cons (by unfold RdC; rfl) (RdVs.nil _ _))))))) (by rw [FTable.c_eq]; exact (RdVs.cons (by unfold RdC; rfl) (RdVs.cons (T2.out.on hB (Nat.le_refl _) (by omega)) (RdVs.cons (T3.out.on hB (Nat.le_refl _) (by omega)) (RdVs.cons (by unfold RdC; rfl) (RdVs.cons (by unfold RdC; rfl) (RdVs.nil _ _)))))))).mono ?_
  rintro e Y0 ⟨rfl, hb⟩
  replace ba := ba.below hb (Nat.le_refl _)
  replace bb := bb.below hb (Nat.le_refl _)
  replace hB := hB.trans (hb.mono (by omega))
  clear hb
  have ba_l := ba.lt
  have bb_l := bb.lt
  go_wp2_with fail
  go_ret
  exact ⟨rfl, hB⟩
theorem eqBlockS_of (l : List FBlock) (hl : l.length ≤ 1000000000) (he : ∀ x, x ∈ l → EqBlock x) : EqBlockS l := by
  intro u v w hu hv
  obtain ⟨A, c, rfl⟩ := hu.form
  obtain ⟨A', c', rfl⟩ := hv.form
  have HC := hid hu
  have HD := hid hv
  have hn : l.length ≤ 9223372036854775807 := by omega
  have HE := hid he
  clear he
  clear hu hv
  go_enter Tryz.func74, Tryz.ntmps74
  go_wp2
  go_loopw [5] (fun i wr => ∃ k : Nat, k ≤ l.length ∧ i = .int .i64 k ∧ Below w.heap.size w wr) (fun i _ => l.length - (intOf i).toNat)
  case atStart => exact ⟨0, Nat.zero_le _, rfl, Below.refl _ _⟩
  case round =>
    obtain ⟨k, hk, rfl, hb⟩ := hrel
    by_cases hlt : k < l.length
    · obtain ⟨x, hx⟩ : ∃ x, l[k]? = some x := ⟨_, List.getElem?_eq_getElem hlt⟩
      obtain ⟨bc, offc, vs, rfl, hblc, hvl, hva, hra⟩ := RdC.elem FBlock.len HC.out hx
      obtain ⟨bd, offd, us, rfl, hbld, hul, hvb, hrb⟩ := RdC.elem FBlock.len HD.out hx
      have HE2 := hid (HE.out x (List.mem_of_getElem? hx))
      clear hx
      have hbd : Below w.heap.size w wr.drew := hb.drew
      have hra0 := range_below hra hb hblc
      have hrb0 := range_below hrb hb hbld
      have hlt2 : (k : Int) < (l.length : Int) := by omega
      have hk0 : (0 : Int) ≤ (k : Int) := by omega
      go_wp2_with fail
      refine wp_region_still_tail 8 (by kernel_rfl) (by kernel_rfl) ?_
      simp only [List.take_succ_cons, List.take_zero, List.drop_succ_cons, List.drop_zero]
      iterate 3 still_step
      refine wpStill_load_elem 201 _ bc (offc + k * 6) vs (.struct (flds Tryz.prog 201)) hra0 rfl rfl (by kernel_rfl) rfl hvl (by kernel_rfl) rfl ?_
      iterate 3 still_step
      refine wpStill_load_elem 201 _ bd (offd + k * 6) us (.struct (flds Tryz.prog 201)) hrb0 rfl rfl (by kernel_rfl) rfl hul (by kernel_rfl) rfl ?_
      refine wpStill_nil ?_
      have hra1 := range_below hra hbd hblc
      have hrb1 := range_below hrb hbd hbld
      have hv1 := hva.on hbd (Nat.le_refl _) hbd.size
      have hv2 := hvb.on hbd (Nat.le_refl _) hbd.size
      change wpList _ _ _ _ _ wr.drew
      clear hra hrb hva hvb
      generalize wr.drew = wd at *
      have HRA := hid hra1
      have HRB := hid hrb1
      have HV1 := hid hv1
      have HV2 := hid hv2
      clear hra1 hrb1 hv1 hv2
      go_wp2_with (first | (refine wpList_load_elem 201 _ bc (offc + k * 6) vs (.struct (flds Tryz.prog 201)) HRA.out rfl rfl (by kernel_rfl) rfl hvl (by kernel_rfl) rfl ?_) | (refine wpList_load_elem 201 _ bd (offd + k * 6) us (.struct (flds Tryz.prog 201)) HRB.out rfl rfl (by kernel_rfl) rfl hul (by kernel_rfl) rfl ?_) | (go_at_call 108; refine (HE2.out vs us _ HV1.out HV2.out).mono ?_; rintro e w2 ⟨rfl, hb2⟩))
      go_roundw
      case rel => exact ⟨k + 1, by omega, by go_num, hbd.trans (hb2.mono hbd.size)⟩
      case measure => simp [intOf]; omega
    · obtain rfl : k = l.length := by omega
      clear hlt
      go_wp2_with fail
      go_ret
      exact ⟨rfl, hb⟩
theorem eqBlock_any (x : FBlock) (hw : x.wt ≤ 1000000000) : EqBlock x := by
  obtain ⟨z0, ⟨z1, z2, z3, z4, z5⟩⟩ := x
  exact eqBlock_of z0 z1 z2 z3 z4 z5 (eqTable_any _ (by rw [FBlock.wt_eq] at hw; rw [FTable.wt_eq]; omega))
theorem eqBlockS_any (l : List FBlock) (hw : l.length + FBlock.wts l ≤ 1000000000) : EqBlockS l := (eqBlockS_of l (by omega) (fun x hx => eqBlock_any x (by have := FBlock.wts_at l x hx; omega)))
def EqHeap (x : FHeap) : Prop := ∀ (us vs : List Value) (w : World), RdVs w w.heap.size x.c us → RdVs w w.heap.size x.c vs → Calls Tryz.prog 36 #[.agg us.toArray, .agg vs.toArray] w fun e w' => e = .returned (.bool true) ∧ Below w.heap.size w w'
theorem eqHeap_of (z0 : List FBlock) (h0 : EqBlockS z0) : EqHeap ⟨z0⟩ := by
  intro us vs w hr hs
  rw [FHeap.c_eq] at hr hs
  obtain ⟨A0, c0, us0, rfl, r0, hr_0⟩ := hr.uns
  obtain rfl := hr_0.un0
  obtain ⟨B0, d0, vs0, rfl, t0, hs_0⟩ := hs.uns
  obtain rfl := hs_0.un0
  clear hr hs hr_0 hs_0
  have R0 := hid r0
  have T0 := hid t0
  clear r0 t0
  have H0 := hid h0
  clear h0
  go_enter Tryz.func36, Tryz.ntmps36
  go_wp2_with fail
  refine calls_worldD _ (fun X => Blk X w.heap.size 43 #[.slice A0 z0.length c0] ∧ Blk X (w.heap.size + 1) 43 #[.slice B0 z0.length d0] ∧ Below w.heap.size w X) ⟨(Blk.new w _ _).alloc _, Blk.new' (w.alloc _) _ _ _ (by simp), ((Below.refl _ _).alloc (Nat.le_refl _) _).alloc (by simp) _⟩ ?_
  rintro X0 ⟨ba, bb, hB⟩
  have s0 := bb.lt
  refine (H0.out _ _ _ (R0.out.on hB (Nat.le_refl _) (by omega)) (T0.out.on hB (Nat.le_refl _) (by omega))).mono ?_
  rintro e Y0 ⟨rfl, hb⟩
  replace ba := ba.below hb (Nat.le_refl _)
  replace bb := bb.below hb (Nat.le_refl _)
  replace hB := hB.trans (hb.mono (by omega))
  clear hb
  have ba_l := ba.lt
  have bb_l := bb.lt
  go_wp2_with fail
  go_ret
  exact ⟨rfl, hB⟩
theorem eqHeap_any (x : FHeap) (hw : x.wt ≤ 1000000000) : EqHeap x := by
  obtain ⟨z0⟩ := x
  exact eqHeap_of z0 (eqBlockS_any z0 (by rw [FHeap.wt_eq] at hw; omega))
def EqBinding (x : FBinding) : Prop := ∀ (us vs : List Value) (w : World), RdVs w w.heap.size x.c us → RdVs w w.heap.size x.c vs → Calls Tryz.prog 132 #[.agg us.toArray, .agg vs.toArray] w fun e w' => e = .returned (.bool true) ∧ Below w.heap.size w w'
def EqBindingS (l : List FBinding) : Prop := ∀ (u v : Value) (w : World), RdC w w.heap.size (.s 84 6 l.length (FBinding.flat l)) u → RdC w w.heap.size (.s 84 6 l.length (FBinding.flat l)) v → Calls Tryz.prog 109 #[u, v] w fun e w' => e = .returned (.bool true) ∧ Below w.heap.size w w'
theorem eqBinding_of (z0 : ByteArray) (z1 : Int) (z2 : Int) (z3 : ByteArray) (z4 : Int) (z5 : List FEntry) (h1 : EqValue ⟨z1, z2, z3, z4, z5⟩) : EqBinding ⟨z0, ⟨z1, z2, z3, z4, z5⟩⟩ := by
  intro us vs w hr hs
  rw [FBinding.c_eq] at hr hs
  obtain ⟨us0, rfl, hr_0⟩ := hr.unv
  obtain ⟨us1, rfl, hr_1⟩ := hr_0.unv
  obtain ⟨us2, rfl, hr_2⟩ := hr_1.unv
  obtain ⟨us3, rfl, hr_3⟩ := hr_2.unv
  obtain ⟨us4, rfl, hr_4⟩ := hr_3.unv
  obtain ⟨A5, c5, us5, rfl, r5, hr_5⟩ := hr_4.uns
  obtain rfl := hr_5.un0
  obtain ⟨vs0, rfl, hs_0⟩ := hs.unv
  obtain ⟨vs1, rfl, hs_1⟩ := hs_0.unv
  obtain ⟨vs2, rfl, hs_2⟩ := hs_1.unv
  obtain ⟨vs3, rfl, hs_3⟩ := hs_2.unv
  obtain ⟨vs4, rfl, hs_4⟩ := hs_3.unv
  obtain ⟨B5, d5, vs5, rfl, t5, hs_5⟩ := hs_4.uns
  obtain rfl := hs_5.un0
  clear hr hs hr_0 hs_0 hr_1 hs_1 hr_2 hs_2 hr_3 hs_3 hr_4 hs_4 hr_5 hs_5
  have R5 := hid r5
  have T5 := hid t5
  clear r5 t5
  have H1 := hid h1
  clear h1
  go_enter Tryz.func132, Tryz.ntmps132
  go_wp2_with fail
  refine calls_worldD _ (fun X => Blk X w.heap.size 84 #[.string z0, .int .i64 z1, .int .i64 z2, .string z3, .int .i64 z4, .slice A5 z5.length c5] ∧ Blk X (w.heap.size + 1) 84 #[.string z0, .int .i64 z1, .int .i64 z2, .string z3, .int .i64 z4, .slice B5 z5.length d5] ∧ Below w.heap.size w X) ⟨(Blk.new w _ _).alloc _, Blk.new' (w.alloc _) _ _ _ (by simp), ((Below.refl _ _).alloc (Nat.le_refl _) _).alloc (by simp) _⟩ ?_
  rintro X0 ⟨ba, bb, hB⟩
  have s0 := bb.lt
  refine (H1.out [.int .i64 z1, .int .i64 z2, .string z3, .int .i64 z4, .slice A5 z5.length c5] [.int .i64 z1, .int .i64 z2, .string z3, .int .i64 z4, .slice B5 z5.length d5] _ (by rw [FValue.c_eq]; exact (RdVs.cons (by unfold RdC; rfl) (RdVs.cons (by unfold RdC; rfl) (RdVs.cons (by unfold RdC; rfl) (RdVs.cons (by unfold RdC; rfl) (RdVs.cons (R5.out.on hB (Nat.le_refl _) (by omega)) (RdVs.nil _ _))))))) (by rw [FValue.c_eq]; exact (RdVs.cons (by unfold RdC; rfl) (RdVs.cons (by unfold RdC; rfl) (RdVs.cons (by unfold RdC; rfl) (RdVs.cons (by unfold RdC; rfl) (RdVs.cons (T5.out.on hB (Nat.le_refl _) (by omega)) (RdVs.nil _ _)))))))).mono ?_
  rintro e Y0 ⟨rfl, hb⟩
  replace ba := ba.below hb (Nat.le_refl _)
  replace bb := bb.below hb (Nat.le_refl _)
  replace hB := hB.trans (hb.mono (by omega))
  clear hb
  have ba_l := ba.lt
  have bb_l := bb.lt
  go_wp2_with fail
  go_ret
  exact ⟨rfl, hB⟩
theorem eqBindingS_of (l : List FBinding) (hl : l.length ≤ 1000000000) (he : ∀ x, x ∈ l → EqBinding x) : EqBindingS l := by
  intro u v w hu hv
  obtain ⟨A, c, rfl⟩ := hu.form
  obtain ⟨A', c', rfl⟩ := hv.form
  have HC := hid hu
  have HD := hid hv
  have hn : l.length ≤ 9223372036854775807 := by omega
  have HE := hid he
  clear he
  clear hu hv
  go_enter Tryz.func109, Tryz.ntmps109
  go_wp2
  go_loopw [5] (fun i wr => ∃ k : Nat, k ≤ l.length ∧ i = .int .i64 k ∧ Below w.heap.size w wr) (fun i _ => l.length - (intOf i).toNat)
  case atStart => exact ⟨0, Nat.zero_le _, rfl, Below.refl _ _⟩
  case round =>
    obtain ⟨k, hk, rfl, hb⟩ := hrel
    by_cases hlt : k < l.length
    · obtain ⟨x, hx⟩ : ∃ x, l[k]? = some x := ⟨_, List.getElem?_eq_getElem hlt⟩
      obtain ⟨bc, offc, vs, rfl, hblc, hvl, hva, hra⟩ := RdC.elem FBinding.len HC.out hx
      obtain ⟨bd, offd, us, rfl, hbld, hul, hvb, hrb⟩ := RdC.elem FBinding.len HD.out hx
      have HE2 := hid (HE.out x (List.mem_of_getElem? hx))
      clear hx
      have hbd : Below w.heap.size w wr.drew := hb.drew
      have hra0 := range_below hra hb hblc
      have hrb0 := range_below hrb hb hbld
      have hlt2 : (k : Int) < (l.length : Int) := by omega
      have hk0 : (0 : Int) ≤ (k : Int) := by omega
      go_wp2_with fail
      refine wp_region_still_tail 8 (by kernel_rfl) (by kernel_rfl) ?_
      simp only [List.take_succ_cons, List.take_zero, List.drop_succ_cons, List.drop_zero]
      iterate 3 still_step
      refine wpStill_load_elem 84 _ bc (offc + k * 6) vs (.struct (flds Tryz.prog 84)) hra0 rfl rfl (by kernel_rfl) rfl hvl (by kernel_rfl) rfl ?_
      iterate 3 still_step
      refine wpStill_load_elem 84 _ bd (offd + k * 6) us (.struct (flds Tryz.prog 84)) hrb0 rfl rfl (by kernel_rfl) rfl hul (by kernel_rfl) rfl ?_
      refine wpStill_nil ?_
      have hra1 := range_below hra hbd hblc
      have hrb1 := range_below hrb hbd hbld
      have hv1 := hva.on hbd (Nat.le_refl _) hbd.size
      have hv2 := hvb.on hbd (Nat.le_refl _) hbd.size
      change wpList _ _ _ _ _ wr.drew
      clear hra hrb hva hvb
      generalize wr.drew = wd at *
      have HRA := hid hra1
      have HRB := hid hrb1
      have HV1 := hid hv1
      have HV2 := hid hv2
      clear hra1 hrb1 hv1 hv2
      go_wp2_with (first | (refine wpList_load_elem 84 _ bc (offc + k * 6) vs (.struct (flds Tryz.prog 84)) HRA.out rfl rfl (by kernel_rfl) rfl hvl (by kernel_rfl) rfl ?_) | (refine wpList_load_elem 84 _ bd (offd + k * 6) us (.struct (flds Tryz.prog 84)) HRB.out rfl rfl (by kernel_rfl) rfl hul (by kernel_rfl) rfl ?_) | (go_at_call 132; refine (HE2.out vs us _ HV1.out HV2.out).mono ?_; rintro e w2 ⟨rfl, hb2⟩))
      go_roundw
      case rel => exact ⟨k + 1, by omega, by go_num, hbd.trans (hb2.mono hbd.size)⟩
      case measure => simp [intOf]; omega
    · obtain rfl : k = l.length := by omega
      clear hlt
      go_wp2_with fail
      go_ret
      exact ⟨rfl, hb⟩
theorem eqBinding_any (x : FBinding) (hw : x.wt ≤ 1000000000) : EqBinding x := by
  obtain ⟨z0, ⟨z1, z2, z3, z4, z5⟩⟩ := x
  exact eqBinding_of z0 z1 z2 z3 z4 z5 (eqValue_any _ (by rw [FBinding.wt_eq] at hw; rw [FValue.wt_eq]; omega))
theorem eqBindingS_any (l : List FBinding) (hw : l.length + FBinding.wts l ≤ 1000000000) : EqBindingS l := (eqBindingS_of l (by omega) (fun x hx => eqBinding_any x (by have := FBinding.wts_at l x hx; omega)))
def EqObject (x : FObject) : Prop := ∀ (us vs : List Value) (w : World), RdVs w w.heap.size x.c us → RdVs w w.heap.size x.c vs → Calls Tryz.prog 75 #[.agg us.toArray, .agg vs.toArray] w fun e w' => e = .returned (.bool true) ∧ Below w.heap.size w w'
def EqObjectS (l : List FObject) : Prop := ∀ (u v : Value) (w : World), RdC w w.heap.size (.s 79 3 l.length (FObject.flat l)) u → RdC w w.heap.size (.s 79 3 l.length (FObject.flat l)) v → Calls Tryz.prog 37 #[u, v] w fun e w' => e = .returned (.bool true) ∧ Below w.heap.size w w'
theorem eqObject_of (z0 : ByteArray) (z1 : Bool) (z2 : List FBinding) (h2 : EqBindingS z2) : EqObject ⟨z0, z1, z2⟩ := by
  intro us vs w hr hs
  rw [FObject.c_eq] at hr hs
  obtain ⟨us0, rfl, hr_0⟩ := hr.unv
  obtain ⟨us1, rfl, hr_1⟩ := hr_0.unv
  obtain ⟨A2, c2, us2, rfl, r2, hr_2⟩ := hr_1.uns
  obtain rfl := hr_2.un0
  obtain ⟨vs0, rfl, hs_0⟩ := hs.unv
  obtain ⟨vs1, rfl, hs_1⟩ := hs_0.unv
  obtain ⟨B2, d2, vs2, rfl, t2, hs_2⟩ := hs_1.uns
  obtain rfl := hs_2.un0
  clear hr hs hr_0 hs_0 hr_1 hs_1 hr_2 hs_2
  have R2 := hid r2
  have T2 := hid t2
  clear r2 t2
  have H2 := hid h2
  clear h2
  go_enter Tryz.func75, Tryz.ntmps75
  go_wp2_with fail
  refine calls_worldD _ (fun X => Blk X w.heap.size 79 #[.string z0, .bool z1, .slice A2 z2.length c2] ∧ Blk X (w.heap.size + 1) 79 #[.string z0, .bool z1, .slice B2 z2.length d2] ∧ Below w.heap.size w X) ⟨(Blk.new w _ _).alloc _, Blk.new' (w.alloc _) _ _ _ (by simp), ((Below.refl _ _).alloc (Nat.le_refl _) _).alloc (by simp) _⟩ ?_
  rintro X0 ⟨ba, bb, hB⟩
  have s0 := bb.lt
  refine (H2.out _ _ _ (R2.out.on hB (Nat.le_refl _) (by omega)) (T2.out.on hB (Nat.le_refl _) (by omega))).mono ?_
  rintro e Y0 ⟨rfl, hb⟩
  replace ba := ba.below hb (Nat.le_refl _)
  replace bb := bb.below hb (Nat.le_refl _)
  replace hB := hB.trans (hb.mono (by omega))
  clear hb
  have ba_l := ba.lt
  have bb_l := bb.lt
  go_wp2_with fail
  go_ret
  exact ⟨rfl, hB⟩
theorem eqObjectS_of (l : List FObject) (hl : l.length ≤ 1000000000) (he : ∀ x, x ∈ l → EqObject x) : EqObjectS l := by
  intro u v w hu hv
  obtain ⟨A, c, rfl⟩ := hu.form
  obtain ⟨A', c', rfl⟩ := hv.form
  have HC := hid hu
  have HD := hid hv
  have hn : l.length ≤ 9223372036854775807 := by omega
  have HE := hid he
  clear he
  clear hu hv
  go_enter Tryz.func37, Tryz.ntmps37
  go_wp2
  go_loopw [5] (fun i wr => ∃ k : Nat, k ≤ l.length ∧ i = .int .i64 k ∧ Below w.heap.size w wr) (fun i _ => l.length - (intOf i).toNat)
  case atStart => exact ⟨0, Nat.zero_le _, rfl, Below.refl _ _⟩
  case round =>
    obtain ⟨k, hk, rfl, hb⟩ := hrel
    by_cases hlt : k < l.length
    · obtain ⟨x, hx⟩ : ∃ x, l[k]? = some x := ⟨_, List.getElem?_eq_getElem hlt⟩
      obtain ⟨bc, offc, vs, rfl, hblc, hvl, hva, hra⟩ := RdC.elem FObject.len HC.out hx
      obtain ⟨bd, offd, us, rfl, hbld, hul, hvb, hrb⟩ := RdC.elem FObject.len HD.out hx
      have HE2 := hid (HE.out x (List.mem_of_getElem? hx))
      clear hx
      have hbd : Below w.heap.size w wr.drew := hb.drew
      have hra0 := range_below hra hb hblc
      have hrb0 := range_below hrb hb hbld
      have hlt2 : (k : Int) < (l.length : Int) := by omega
      have hk0 : (0 : Int) ≤ (k : Int) := by omega
      go_wp2_with fail
      refine wp_region_still_tail 8 (by kernel_rfl) (by kernel_rfl) ?_
      simp only [List.take_succ_cons, List.take_zero, List.drop_succ_cons, List.drop_zero]
      iterate 3 still_step
      refine wpStill_load_elem 79 _ bc (offc + k * 3) vs (.struct (flds Tryz.prog 79)) hra0 rfl rfl (by kernel_rfl) rfl hvl (by kernel_rfl) rfl ?_
      iterate 3 still_step
      refine wpStill_load_elem 79 _ bd (offd + k * 3) us (.struct (flds Tryz.prog 79)) hrb0 rfl rfl (by kernel_rfl) rfl hul (by kernel_rfl) rfl ?_
      refine wpStill_nil ?_
      have hra1 := range_below hra hbd hblc
      have hrb1 := range_below hrb hbd hbld
      have hv1 := hva.on hbd (Nat.le_refl _) hbd.size
      have hv2 := hvb.on hbd (Nat.le_refl _) hbd.size
      change wpList _ _ _ _ _ wr.drew
      clear hra hrb hva hvb
      generalize wr.drew = wd at *
      have HRA := hid hra1
      have HRB := hid hrb1
      have HV1 := hid hv1
      have HV2 := hid hv2
      clear hra1 hrb1 hv1 hv2
      go_wp2_with (first | (refine wpList_load_elem 79 _ bc (offc + k * 3) vs (.struct (flds Tryz.prog 79)) HRA.out rfl rfl (by kernel_rfl) rfl hvl (by kernel_rfl) rfl ?_) | (refine wpList_load_elem 79 _ bd (offd + k * 3) us (.struct (flds Tryz.prog 79)) HRB.out rfl rfl (by kernel_rfl) rfl hul (by kernel_rfl) rfl ?_) | (go_at_call 75; refine (HE2.out vs us _ HV1.out HV2.out).mono ?_; rintro e w2 ⟨rfl, hb2⟩))
      go_roundw
      case rel => exact ⟨k + 1, by omega, by go_num, hbd.trans (hb2.mono hbd.size)⟩
      case measure => simp [intOf]; omega
    · obtain rfl : k = l.length := by omega
      clear hlt
      go_wp2_with fail
      go_ret
      exact ⟨rfl, hb⟩
theorem eqObject_any (x : FObject) (hw : x.wt ≤ 1000000000) : EqObject x := by
  obtain ⟨z0, z1, z2⟩ := x
  exact eqObject_of z0 z1 z2 (eqBindingS_any z2 (by rw [FObject.wt_eq] at hw; omega))
theorem eqObjectS_any (l : List FObject) (hw : l.length + FObject.wts l ≤ 1000000000) : EqObjectS l := (eqObjectS_of l (by omega) (fun x hx => eqObject_any x (by have := FObject.wts_at l x hx; omega)))
def EqClosure (x : FClosure) : Prop := ∀ (us vs : List Value) (w : World), RdVs w w.heap.size x.c us → RdVs w w.heap.size x.c vs → Calls Tryz.prog 76 #[.agg us.toArray, .agg vs.toArray] w fun e w' => e = .returned (.bool true) ∧ Below w.heap.size w w'
def EqClosureS (l : List FClosure) : Prop := ∀ (u v : Value) (w : World), RdC w w.heap.size (.s 144 5 l.length (FClosure.flat l)) u → RdC w w.heap.size (.s 144 5 l.length (FClosure.flat l)) v → Calls Tryz.prog 38 #[u, v] w fun e w' => e = .returned (.bool true) ∧ Below w.heap.size w w'
theorem eqClosure_of (z0 : Int) (z1 : List FInt) (z2 : Int) (z3 : ByteArray) (z4 : ByteArray) (h1 : EqIntS z1) : EqClosure ⟨z0, z1, z2, z3, z4⟩ := by
  intro us vs w hr hs
  rw [FClosure.c_eq] at hr hs
  obtain ⟨us0, rfl, hr_0⟩ := hr.unv
  obtain ⟨A1, c1, us1, rfl, r1, hr_1⟩ := hr_0.uns
  obtain ⟨us2, rfl, hr_2⟩ := hr_1.unv
  obtain ⟨us3, rfl, hr_3⟩ := hr_2.unv
  obtain ⟨us4, rfl, hr_4⟩ := hr_3.unv
  obtain rfl := hr_4.un0
  obtain ⟨vs0, rfl, hs_0⟩ := hs.unv
  obtain ⟨B1, d1, vs1, rfl, t1, hs_1⟩ := hs_0.uns
  obtain ⟨vs2, rfl, hs_2⟩ := hs_1.unv
  obtain ⟨vs3, rfl, hs_3⟩ := hs_2.unv
  obtain ⟨vs4, rfl, hs_4⟩ := hs_3.unv
  obtain rfl := hs_4.un0
  clear hr hs hr_0 hs_0 hr_1 hs_1 hr_2 hs_2 hr_3 hs_3 hr_4 hs_4
  have R1 := hid r1
  have T1 := hid t1
  clear r1 t1
  have H1 := hid h1
  clear h1
  go_enter Tryz.func76, Tryz.ntmps76
  go_wp2_with fail
  refine calls_worldD _ (fun X => Blk X w.heap.size 144 #[.int .i64 z0, .slice A1 z1.length c1, .int .i64 z2, .string z3, .string z4] ∧ Blk X (w.heap.size + 1) 144 #[.int .i64 z0, .slice B1 z1.length d1, .int .i64 z2, .string z3, .string z4] ∧ Below w.heap.size w X) ⟨(Blk.new w _ _).alloc _, Blk.new' (w.alloc _) _ _ _ (by simp), ((Below.refl _ _).alloc (Nat.le_refl _) _).alloc (by simp) _⟩ ?_
  rintro X0 ⟨ba, bb, hB⟩
  have s0 := bb.lt
  refine (H1.out _ _ _ (R1.out.on hB (Nat.le_refl _) (by omega)) (T1.out.on hB (Nat.le_refl _) (by omega))).mono ?_
  rintro e Y0 ⟨rfl, hb⟩
  replace ba := ba.below hb (Nat.le_refl _)
  replace bb := bb.below hb (Nat.le_refl _)
  replace hB := hB.trans (hb.mono (by omega))
  clear hb
  have ba_2 : Y0.cell? ⟨w.heap.size, 2, none⟩ = some (.int .i64 z2) := ba.cell 2
  have ba_3 : Y0.cell? ⟨w.heap.size, 3, none⟩ = some (.string z3) := ba.cell 3
  have ba_4 : Y0.cell? ⟨w.heap.size, 4, none⟩ = some (.string z4) := ba.cell 4
  have ba_l := ba.lt
  have bb_2 : Y0.cell? ⟨w.heap.size + 1, 2, none⟩ = some (.int .i64 z2) := bb.cell 2
  have bb_3 : Y0.cell? ⟨w.heap.size + 1, 3, none⟩ = some (.string z3) := bb.cell 3
  have bb_4 : Y0.cell? ⟨w.heap.size + 1, 4, none⟩ = some (.string z4) := bb.cell 4
  have bb_l := bb.lt
  go_wp2_with fail
  go_ret
  exact ⟨rfl, hB⟩
theorem eqClosureS_of (l : List FClosure) (hl : l.length ≤ 1000000000) (he : ∀ x, x ∈ l → EqClosure x) : EqClosureS l := by
  intro u v w hu hv
  obtain ⟨A, c, rfl⟩ := hu.form
  obtain ⟨A', c', rfl⟩ := hv.form
  have HC := hid hu
  have HD := hid hv
  have hn : l.length ≤ 9223372036854775807 := by omega
  have HE := hid he
  clear he
  clear hu hv
  go_enter Tryz.func38, Tryz.ntmps38
  go_wp2
  go_loopw [5] (fun i wr => ∃ k : Nat, k ≤ l.length ∧ i = .int .i64 k ∧ Below w.heap.size w wr) (fun i _ => l.length - (intOf i).toNat)
  case atStart => exact ⟨0, Nat.zero_le _, rfl, Below.refl _ _⟩
  case round =>
    obtain ⟨k, hk, rfl, hb⟩ := hrel
    by_cases hlt : k < l.length
    · obtain ⟨x, hx⟩ : ∃ x, l[k]? = some x := ⟨_, List.getElem?_eq_getElem hlt⟩
      obtain ⟨bc, offc, vs, rfl, hblc, hvl, hva, hra⟩ := RdC.elem FClosure.len HC.out hx
      obtain ⟨bd, offd, us, rfl, hbld, hul, hvb, hrb⟩ := RdC.elem FClosure.len HD.out hx
      have HE2 := hid (HE.out x (List.mem_of_getElem? hx))
      clear hx
      have hbd : Below w.heap.size w wr.drew := hb.drew
      have hra0 := range_below hra hb hblc
      have hrb0 := range_below hrb hb hbld
      have hlt2 : (k : Int) < (l.length : Int) := by omega
      have hk0 : (0 : Int) ≤ (k : Int) := by omega
      go_wp2_with fail
      refine wp_region_still_tail 8 (by kernel_rfl) (by kernel_rfl) ?_
      simp only [List.take_succ_cons, List.take_zero, List.drop_succ_cons, List.drop_zero]
      iterate 3 still_step
      refine wpStill_load_elem 144 _ bc (offc + k * 5) vs (.struct (flds Tryz.prog 144)) hra0 rfl rfl (by kernel_rfl) rfl hvl (by kernel_rfl) rfl ?_
      iterate 3 still_step
      refine wpStill_load_elem 144 _ bd (offd + k * 5) us (.struct (flds Tryz.prog 144)) hrb0 rfl rfl (by kernel_rfl) rfl hul (by kernel_rfl) rfl ?_
      refine wpStill_nil ?_
      have hra1 := range_below hra hbd hblc
      have hrb1 := range_below hrb hbd hbld
      have hv1 := hva.on hbd (Nat.le_refl _) hbd.size
      have hv2 := hvb.on hbd (Nat.le_refl _) hbd.size
      change wpList _ _ _ _ _ wr.drew
      clear hra hrb hva hvb
      generalize wr.drew = wd at *
      have HRA := hid hra1
      have HRB := hid hrb1
      have HV1 := hid hv1
      have HV2 := hid hv2
      clear hra1 hrb1 hv1 hv2
      go_wp2_with (first | (refine wpList_load_elem 144 _ bc (offc + k * 5) vs (.struct (flds Tryz.prog 144)) HRA.out rfl rfl (by kernel_rfl) rfl hvl (by kernel_rfl) rfl ?_) | (refine wpList_load_elem 144 _ bd (offd + k * 5) us (.struct (flds Tryz.prog 144)) HRB.out rfl rfl (by kernel_rfl) rfl hul (by kernel_rfl) rfl ?_) | (go_at_call 76; refine (HE2.out vs us _ HV1.out HV2.out).mono ?_; rintro e w2 ⟨rfl, hb2⟩))
      go_roundw
      case rel => exact ⟨k + 1, by omega, by go_num, hbd.trans (hb2.mono hbd.size)⟩
      case measure => simp [intOf]; omega
    · obtain rfl : k = l.length := by omega
      clear hlt
      go_wp2_with fail
      go_ret
      exact ⟨rfl, hb⟩
theorem eqClosure_any (x : FClosure) (hw : x.wt ≤ 1000000000) : EqClosure x := by
  obtain ⟨z0, z1, z2, z3, z4⟩ := x
  exact eqClosure_of z0 z1 z2 z3 z4 (eqIntS_any z1 (by rw [FClosure.wt_eq] at hw; omega))
theorem eqClosureS_any (l : List FClosure) (hw : l.length + FClosure.wts l ≤ 1000000000) : EqClosureS l := (eqClosureS_of l (by omega) (fun x hx => eqClosure_any x (by have := FClosure.wts_at l x hx; omega)))
def EqArg (x : FArg) : Prop := ∀ (us vs : List Value) (w : World), RdVs w w.heap.size x.c us → RdVs w w.heap.size x.c vs → Calls Tryz.prog 149 #[.agg us.toArray, .agg vs.toArray] w fun e w' => e = .returned (.bool true) ∧ Below w.heap.size w w'
def EqArgS (l : List FArg) : Prop := ∀ (u v : Value) (w : World), RdC w w.heap.size (.s 158 6 l.length (FArg.flat l)) u → RdC w w.heap.size (.s 158 6 l.length (FArg.flat l)) v → Calls Tryz.prog 143 #[u, v] w fun e w' => e = .returned (.bool true) ∧ Below w.heap.size w w'
theorem eqArg_of (z0 : Int) (z1 : Int) (z2 : Int) (z3 : ByteArray) (z4 : Int) (z5 : List FEntry) (h1 : EqValue ⟨z1, z2, z3, z4, z5⟩) : EqArg ⟨z0, ⟨z1, z2, z3, z4, z5⟩⟩ := by
  intro us vs w hr hs
  rw [FArg.c_eq] at hr hs
  obtain ⟨us0, rfl, hr_0⟩ := hr.unv
  obtain ⟨us1, rfl, hr_1⟩ := hr_0.unv
  obtain ⟨us2, rfl, hr_2⟩ := hr_1.unv
  obtain ⟨us3, rfl, hr_3⟩ := hr_2.unv
  obtain ⟨us4, rfl, hr_4⟩ := hr_3.unv
  obtain ⟨A5, c5, us5, rfl, r5, hr_5⟩ := hr_4.uns
  obtain rfl := hr_5.un0
  obtain ⟨vs0, rfl, hs_0⟩ := hs.unv
  obtain ⟨vs1, rfl, hs_1⟩ := hs_0.unv
  obtain ⟨vs2, rfl, hs_2⟩ := hs_1.unv
  obtain ⟨vs3, rfl, hs_3⟩ := hs_2.unv
  obtain ⟨vs4, rfl, hs_4⟩ := hs_3.unv
  obtain ⟨B5, d5, vs5, rfl, t5, hs_5⟩ := hs_4.uns
  obtain rfl := hs_5.un0
  clear hr hs hr_0 hs_0 hr_1 hs_1 hr_2 hs_2 hr_3 hs_3 hr_4 hs_4 hr_5 hs_5
  have R5 := hid r5
  have T5 := hid t5
  clear r5 t5
  have H1 := hid h1
  clear h1
  go_enter Tryz.func149, Tryz.ntmps149
  go_wp2_with fail
  refine calls_worldD _ (fun X => Blk X w.heap.size 158 #[.int .i64 z0, .int .i64 z1, .int .i64 z2, .string z3, .int .i64 z4, .slice A5 z5.length c5] ∧ Blk X (w.heap.size + 1) 158 #[.int .i64 z0, .int .i64 z1, .int .i64 z2, .string z3, .int .i64 z4, .slice B5 z5.length d5] ∧ Below w.heap.size w X) ⟨(Blk.new w _ _).alloc _, Blk.new' (w.alloc _) _ _ _ (by simp), ((Below.refl _ _).alloc (Nat.le_refl _) _).alloc (by simp) _⟩ ?_
  rintro X0 ⟨ba, bb, hB⟩
  have s0 := bb.lt
  refine (H1.out [.int .i64 z1, .int .i64 z2, .string z3, .int .i64 z4, .slice A5 z5.length c5] [.int .i64 z1, .int .i64 z2, .string z3, .int .i64 z4, .slice B5 z5.length d5] _ (by rw [FValue.c_eq]; exact (RdVs.cons (by unfold RdC; rfl) (RdVs.cons (by unfold RdC; rfl) (RdVs.cons (by unfold RdC; rfl) (RdVs.cons (by unfold RdC; rfl) (RdVs.cons (R5.out.on hB (Nat.le_refl _) (by omega)) (RdVs.nil _ _))))))) (by rw [FValue.c_eq]; exact (RdVs.cons (by unfold RdC; rfl) (RdVs.cons (by unfold RdC; rfl) (RdVs.cons (by unfold RdC; rfl) (RdVs.cons (by unfold RdC; rfl) (RdVs.cons (T5.out.on hB (Nat.le_refl _) (by omega)) (RdVs.nil _ _)))))))).mono ?_
  rintro e Y0 ⟨rfl, hb⟩
  replace ba := ba.below hb (Nat.le_refl _)
  replace bb := bb.below hb (Nat.le_refl _)
  replace hB := hB.trans (hb.mono (by omega))
  clear hb
  have ba_l := ba.lt
  have bb_l := bb.lt
  go_wp2_with fail
  go_ret
  exact ⟨rfl, hB⟩
theorem eqArgS_of (l : List FArg) (hl : l.length ≤ 1000000000) (he : ∀ x, x ∈ l → EqArg x) : EqArgS l := by
  intro u v w hu hv
  obtain ⟨A, c, rfl⟩ := hu.form
  obtain ⟨A', c', rfl⟩ := hv.form
  have HC := hid hu
  have HD := hid hv
  have hn : l.length ≤ 9223372036854775807 := by omega
  have HE := hid he
  clear he
  clear hu hv
  go_enter Tryz.func143, Tryz.ntmps143
  go_wp2
  go_loopw [5] (fun i wr => ∃ k : Nat, k ≤ l.length ∧ i = .int .i64 k ∧ Below w.heap.size w wr) (fun i _ => l.length - (intOf i).toNat)
  case atStart => exact ⟨0, Nat.zero_le _, rfl, Below.refl _ _⟩
  case round =>
    obtain ⟨k, hk, rfl, hb⟩ := hrel
    by_cases hlt : k < l.length
    · obtain ⟨x, hx⟩ : ∃ x, l[k]? = some x := ⟨_, List.getElem?_eq_getElem hlt⟩
      obtain ⟨bc, offc, vs, rfl, hblc, hvl, hva, hra⟩ := RdC.elem FArg.len HC.out hx
      obtain ⟨bd, offd, us, rfl, hbld, hul, hvb, hrb⟩ := RdC.elem FArg.len HD.out hx
      have HE2 := hid (HE.out x (List.mem_of_getElem? hx))
      clear hx
      have hbd : Below w.heap.size w wr.drew := hb.drew
      have hra0 := range_below hra hb hblc
      have hrb0 := range_below hrb hb hbld
      have hlt2 : (k : Int) < (l.length : Int) := by omega
      have hk0 : (0 : Int) ≤ (k : Int) := by omega
      go_wp2_with fail
      refine wp_region_still_tail 8 (by kernel_rfl) (by kernel_rfl) ?_
      simp only [List.take_succ_cons, List.take_zero, List.drop_succ_cons, List.drop_zero]
      iterate 3 still_step
      refine wpStill_load_elem 158 _ bc (offc + k * 6) vs (.struct (flds Tryz.prog 158)) hra0 rfl rfl (by kernel_rfl) rfl hvl (by kernel_rfl) rfl ?_
      iterate 3 still_step
      refine wpStill_load_elem 158 _ bd (offd + k * 6) us (.struct (flds Tryz.prog 158)) hrb0 rfl rfl (by kernel_rfl) rfl hul (by kernel_rfl) rfl ?_
      refine wpStill_nil ?_
      have hra1 := range_below hra hbd hblc
      have hrb1 := range_below hrb hbd hbld
      have hv1 := hva.on hbd (Nat.le_refl _) hbd.size
      have hv2 := hvb.on hbd (Nat.le_refl _) hbd.size
      change wpList _ _ _ _ _ wr.drew
      clear hra hrb hva hvb
      generalize wr.drew = wd at *
      have HRA := hid hra1
      have HRB := hid hrb1
      have HV1 := hid hv1
      have HV2 := hid hv2
      clear hra1 hrb1 hv1 hv2
      go_wp2_with (first | (refine wpList_load_elem 158 _ bc (offc + k * 6) vs (.struct (flds Tryz.prog 158)) HRA.out rfl rfl (by kernel_rfl) rfl hvl (by kernel_rfl) rfl ?_) | (refine wpList_load_elem 158 _ bd (offd + k * 6) us (.struct (flds Tryz.prog 158)) HRB.out rfl rfl (by kernel_rfl) rfl hul (by kernel_rfl) rfl ?_) | (go_at_call 149; refine (HE2.out vs us _ HV1.out HV2.out).mono ?_; rintro e w2 ⟨rfl, hb2⟩))
      go_roundw
      case rel => exact ⟨k + 1, by omega, by go_num, hbd.trans (hb2.mono hbd.size)⟩
      case measure => simp [intOf]; omega
    · obtain rfl : k = l.length := by omega
      clear hlt
      go_wp2_with fail
      go_ret
      exact ⟨rfl, hb⟩
theorem eqArg_any (x : FArg) (hw : x.wt ≤ 1000000000) : EqArg x := by
  obtain ⟨z0, ⟨z1, z2, z3, z4, z5⟩⟩ := x
  exact eqArg_of z0 z1 z2 z3 z4 z5 (eqValue_any _ (by rw [FArg.wt_eq] at hw; rw [FValue.wt_eq]; omega))
theorem eqArgS_any (l : List FArg) (hw : l.length + FArg.wts l ≤ 1000000000) : EqArgS l := (eqArgS_of l (by omega) (fun x hx => eqArg_any x (by have := FArg.wts_at l x hx; omega)))
def EqCall (x : FCall) : Prop := ∀ (us vs : List Value) (w : World), RdVs w w.heap.size x.c us → RdVs w w.heap.size x.c vs → Calls Tryz.prog 133 #[.agg us.toArray, .agg vs.toArray] w fun e w' => e = .returned (.bool true) ∧ Below w.heap.size w w'
def EqCallS (l : List FCall) : Prop := ∀ (u v : Value) (w : World), RdC w w.heap.size (.s 156 9 l.length (FCall.flat l)) u → RdC w w.heap.size (.s 156 9 l.length (FCall.flat l)) v → Calls Tryz.prog 111 #[u, v] w fun e w' => e = .returned (.bool true) ∧ Below w.heap.size w w'
theorem eqCall_of (z0 : Int) (z1 : ByteArray) (z2 : Bool) (z3 : Int) (z4 : Int) (z5 : ByteArray) (z6 : ByteArray) (z7 : List FInt) (z8 : List FArg) (h7 : EqIntS z7) (h8 : EqArgS z8) : EqCall ⟨z0, z1, z2, z3, z4, z5, z6, z7, z8⟩ := by
  intro us vs w hr hs
  rw [FCall.c_eq] at hr hs
  obtain ⟨us0, rfl, hr_0⟩ := hr.unv
  obtain ⟨us1, rfl, hr_1⟩ := hr_0.unv
  obtain ⟨us2, rfl, hr_2⟩ := hr_1.unv
  obtain ⟨us3, rfl, hr_3⟩ := hr_2.unv
  obtain ⟨us4, rfl, hr_4⟩ := hr_3.unv
  obtain ⟨us5, rfl, hr_5⟩ := hr_4.unv
  obtain ⟨us6, rfl, hr_6⟩ := hr_5.unv
  obtain ⟨A7, c7, us7, rfl, r7, hr_7⟩ := hr_6.uns
  obtain ⟨A8, c8, us8, rfl, r8, hr_8⟩ := hr_7.uns
  obtain rfl := hr_8.un0
  obtain ⟨vs0, rfl, hs_0⟩ := hs.unv
  obtain ⟨vs1, rfl, hs_1⟩ := hs_0.unv
  obtain ⟨vs2, rfl, hs_2⟩ := hs_1.unv
  obtain ⟨vs3, rfl, hs_3⟩ := hs_2.unv
  obtain ⟨vs4, rfl, hs_4⟩ := hs_3.unv
  obtain ⟨vs5, rfl, hs_5⟩ := hs_4.unv
  obtain ⟨vs6, rfl, hs_6⟩ := hs_5.unv
  obtain ⟨B7, d7, vs7, rfl, t7, hs_7⟩ := hs_6.uns
  obtain ⟨B8, d8, vs8, rfl, t8, hs_8⟩ := hs_7.uns
  obtain rfl := hs_8.un0
  clear hr hs hr_0 hs_0 hr_1 hs_1 hr_2 hs_2 hr_3 hs_3 hr_4 hs_4 hr_5 hs_5 hr_6 hs_6 hr_7 hs_7 hr_8 hs_8
  have R7 := hid r7
  have T7 := hid t7
  clear r7 t7
  have R8 := hid r8
  have T8 := hid t8
  clear r8 t8
  have H7 := hid h7
  clear h7
  have H8 := hid h8
  clear h8
  go_enter Tryz.func133, Tryz.ntmps133
  go_wp2_with fail
  refine calls_worldD _ (fun X => Blk X w.heap.size 156 #[.int .i64 z0, .string z1, .bool z2, .int .i64 z3, .int .i64 z4, .string z5, .string z6, .slice A7 z7.length c7, .slice A8 z8.length c8] ∧ Blk X (w.heap.size + 1) 156 #[.int .i64 z0, .string z1, .bool z2, .int .i64 z3, .int .i64 z4, .string z5, .string z6, .slice B7 z7.length d7, .slice B8 z8.length d8] ∧ Below w.heap.size w X) ⟨(Blk.new w _ _).alloc _, Blk.new' (w.alloc _) _ _ _ (by simp), ((Below.refl _ _).alloc (Nat.le_refl _) _).alloc (by simp) _⟩ ?_
  rintro X0 ⟨ba, bb, hB⟩
  have s0 := bb.lt
  refine (H7.out _ _ _ (R7.out.on hB (Nat.le_refl _) (by omega)) (T7.out.on hB (Nat.le_refl _) (by omega))).mono ?_
  rintro e Y0 ⟨rfl, hb⟩
  replace ba := ba.below hb (Nat.le_refl _)
  replace bb := bb.below hb (Nat.le_refl _)
  replace hB := hB.trans (hb.mono (by omega))
  clear hb
  have ba_8 : Y0.cell? ⟨w.heap.size, 8, none⟩ = some (.slice A8 z8.length c8) := ba.cell 8
  have ba_l := ba.lt
  have bb_8 : Y0.cell? ⟨w.heap.size + 1, 8, none⟩ = some (.slice B8 z8.length d8) := bb.cell 8
  have bb_l := bb.lt
  go_wp2_with fail
  clear ba_8 bb_8 ba_l bb_l
  refine calls_worldD _ (fun X => Blk X w.heap.size 156 #[.int .i64 z0, .string z1, .bool z2, .int .i64 z3, .int .i64 z4, .string z5, .string z6, .slice A7 z7.length c7, .slice A8 z8.length c8] ∧ Blk X (w.heap.size + 1) 156 #[.int .i64 z0, .string z1, .bool z2, .int .i64 z3, .int .i64 z4, .string z5, .string z6, .slice B7 z7.length d7, .slice B8 z8.length d8] ∧ Below w.heap.size w X) ⟨ba, bb, hB⟩ ?_
  clear ba bb hB
  rintro X1 ⟨ba, bb, hB⟩
  have s1 := bb.lt
  refine (H8.out _ _ _ (R8.out.on hB (Nat.le_refl _) (by omega)) (T8.out.on hB (Nat.le_refl _) (by omega))).mono ?_
  rintro e Y1 ⟨rfl, hb⟩
  replace ba := ba.below hb (Nat.le_refl _)
  replace bb := bb.below hb (Nat.le_refl _)
  replace hB := hB.trans (hb.mono (by omega))
  clear hb
  have ba_l := ba.lt
  have bb_l := bb.lt
  go_wp2_with fail
  go_ret
  exact ⟨rfl, hB⟩
theorem eqCallS_of (l : List FCall) (hl : l.length ≤ 1000000000) (he : ∀ x, x ∈ l → EqCall x) : EqCallS l := by
  intro u v w hu hv
  obtain ⟨A, c, rfl⟩ := hu.form
  obtain ⟨A', c', rfl⟩ := hv.form
  have HC := hid hu
  have HD := hid hv
  have hn : l.length ≤ 9223372036854775807 := by omega
  have HE := hid he
  clear he
  clear hu hv
  go_enter Tryz.func111, Tryz.ntmps111
  go_wp2
  go_loopw [5] (fun i wr => ∃ k : Nat, k ≤ l.length ∧ i = .int .i64 k ∧ Below w.heap.size w wr) (fun i _ => l.length - (intOf i).toNat)
  case atStart => exact ⟨0, Nat.zero_le _, rfl, Below.refl _ _⟩
  case round =>
    obtain ⟨k, hk, rfl, hb⟩ := hrel
    by_cases hlt : k < l.length
    · obtain ⟨x, hx⟩ : ∃ x, l[k]? = some x := ⟨_, List.getElem?_eq_getElem hlt⟩
      obtain ⟨bc, offc, vs, rfl, hblc, hvl, hva, hra⟩ := RdC.elem FCall.len HC.out hx
      obtain ⟨bd, offd, us, rfl, hbld, hul, hvb, hrb⟩ := RdC.elem FCall.len HD.out hx
      have HE2 := hid (HE.out x (List.mem_of_getElem? hx))
      clear hx
      have hbd : Below w.heap.size w wr.drew := hb.drew
      have hra0 := range_below hra hb hblc
      have hrb0 := range_below hrb hb hbld
      have hlt2 : (k : Int) < (l.length : Int) := by omega
      have hk0 : (0 : Int) ≤ (k : Int) := by omega
      go_wp2_with fail
      refine wp_region_still_tail 8 (by kernel_rfl) (by kernel_rfl) ?_
      simp only [List.take_succ_cons, List.take_zero, List.drop_succ_cons, List.drop_zero]
      iterate 3 still_step
      refine wpStill_load_elem 156 _ bc (offc + k * 9) vs (.struct (flds Tryz.prog 156)) hra0 rfl rfl (by kernel_rfl) rfl hvl (by kernel_rfl) rfl ?_
      iterate 3 still_step
      refine wpStill_load_elem 156 _ bd (offd + k * 9) us (.struct (flds Tryz.prog 156)) hrb0 rfl rfl (by kernel_rfl) rfl hul (by kernel_rfl) rfl ?_
      refine wpStill_nil ?_
      have hra1 := range_below hra hbd hblc
      have hrb1 := range_below hrb hbd hbld
      have hv1 := hva.on hbd (Nat.le_refl _) hbd.size
      have hv2 := hvb.on hbd (Nat.le_refl _) hbd.size
      change wpList _ _ _ _ _ wr.drew
      clear hra hrb hva hvb
      generalize wr.drew = wd at *
      have HRA := hid hra1
      have HRB := hid hrb1
      have HV1 := hid hv1
      have HV2 := hid hv2
      clear hra1 hrb1 hv1 hv2
      go_wp2_with (first | (refine wpList_load_elem 156 _ bc (offc + k * 9) vs (.struct (flds Tryz.prog 156)) HRA.out rfl rfl (by kernel_rfl) rfl hvl (by kernel_rfl) rfl ?_) | (refine wpList_load_elem 156 _ bd (offd + k * 9) us (.struct (flds Tryz.prog 156)) HRB.out rfl rfl (by kernel_rfl) rfl hul (by kernel_rfl) rfl ?_) | (go_at_call 133; refine (HE2.out vs us _ HV1.out HV2.out).mono ?_; rintro e w2 ⟨rfl, hb2⟩))
      go_roundw
      case rel => exact ⟨k + 1, by omega, by go_num, hbd.trans (hb2.mono hbd.size)⟩
      case measure => simp [intOf]; omega
    · obtain rfl : k = l.length := by omega
      clear hlt
      go_wp2_with fail
      go_ret
      exact ⟨rfl, hb⟩
theorem eqCall_any (x : FCall) (hw : x.wt ≤ 1000000000) : EqCall x := by
  obtain ⟨z0, z1, z2, z3, z4, z5, z6, z7, z8⟩ := x
  exact eqCall_of z0 z1 z2 z3 z4 z5 z6 z7 z8 (eqIntS_any z7 (by rw [FCall.wt_eq] at hw; omega)) (eqArgS_any z8 (by rw [FCall.wt_eq] at hw; omega))
theorem eqCallS_any (l : List FCall) (hw : l.length + FCall.wts l ≤ 1000000000) : EqCallS l := (eqCallS_of l (by omega) (fun x hx => eqCall_any x (by have := FCall.wts_at l x hx; omega)))
def EqTry (x : FTry) : Prop := ∀ (us vs : List Value) (w : World), RdVs w w.heap.size x.c us → RdVs w w.heap.size x.c vs → Calls Tryz.prog 134 #[.agg us.toArray, .agg vs.toArray] w fun e w' => e = .returned (.bool true) ∧ Below w.heap.size w w'
def EqTryS (l : List FTry) : Prop := ∀ (u v : Value) (w : World), RdC w w.heap.size (.s 224 6 l.length (FTry.flat l)) u → RdC w w.heap.size (.s 224 6 l.length (FTry.flat l)) v → Calls Tryz.prog 112 #[u, v] w fun e w' => e = .returned (.bool true) ∧ Below w.heap.size w w'
theorem eqTry_of (z0 : Bool) (z1 : ByteArray) (z2 : Int) (z3 : Int) (z4 : Int) (z5 : Int)  : EqTry ⟨z0, z1, z2, z3, z4, z5⟩ := by
  intro us vs w hr hs
  rw [FTry.c_eq] at hr hs
  obtain ⟨us0, rfl, hr_0⟩ := hr.unv
  obtain ⟨us1, rfl, hr_1⟩ := hr_0.unv
  obtain ⟨us2, rfl, hr_2⟩ := hr_1.unv
  obtain ⟨us3, rfl, hr_3⟩ := hr_2.unv
  obtain ⟨us4, rfl, hr_4⟩ := hr_3.unv
  obtain ⟨us5, rfl, hr_5⟩ := hr_4.unv
  obtain rfl := hr_5.un0
  obtain ⟨vs0, rfl, hs_0⟩ := hs.unv
  obtain ⟨vs1, rfl, hs_1⟩ := hs_0.unv
  obtain ⟨vs2, rfl, hs_2⟩ := hs_1.unv
  obtain ⟨vs3, rfl, hs_3⟩ := hs_2.unv
  obtain ⟨vs4, rfl, hs_4⟩ := hs_3.unv
  obtain ⟨vs5, rfl, hs_5⟩ := hs_4.unv
  obtain rfl := hs_5.un0
  clear hr hs hr_0 hs_0 hr_1 hs_1 hr_2 hs_2 hr_3 hs_3 hr_4 hs_4 hr_5 hs_5
  go_enter Tryz.func134, Tryz.ntmps134
  go_wp2_with fail
  go_ret
  exact ⟨rfl, by repeat (first | exact Below.refl _ _ | (refine Below.alloc ?_ (by simp; try omega) _))⟩
theorem eqTryS_of (l : List FTry) (hl : l.length ≤ 1000000000) (he : ∀ x, x ∈ l → EqTry x) : EqTryS l := by
  intro u v w hu hv
  obtain ⟨A, c, rfl⟩ := hu.form
  obtain ⟨A', c', rfl⟩ := hv.form
  have HC := hid hu
  have HD := hid hv
  have hn : l.length ≤ 9223372036854775807 := by omega
  have HE := hid he
  clear he
  clear hu hv
  go_enter Tryz.func112, Tryz.ntmps112
  go_wp2
  go_loopw [5] (fun i wr => ∃ k : Nat, k ≤ l.length ∧ i = .int .i64 k ∧ Below w.heap.size w wr) (fun i _ => l.length - (intOf i).toNat)
  case atStart => exact ⟨0, Nat.zero_le _, rfl, Below.refl _ _⟩
  case round =>
    obtain ⟨k, hk, rfl, hb⟩ := hrel
    by_cases hlt : k < l.length
    · obtain ⟨x, hx⟩ : ∃ x, l[k]? = some x := ⟨_, List.getElem?_eq_getElem hlt⟩
      obtain ⟨bc, offc, vs, rfl, hblc, hvl, hva, hra⟩ := RdC.elem FTry.len HC.out hx
      obtain ⟨bd, offd, us, rfl, hbld, hul, hvb, hrb⟩ := RdC.elem FTry.len HD.out hx
      have HE2 := hid (HE.out x (List.mem_of_getElem? hx))
      clear hx
      have hbd : Below w.heap.size w wr.drew := hb.drew
      have hra0 := range_below hra hb hblc
      have hrb0 := range_below hrb hb hbld
      have hlt2 : (k : Int) < (l.length : Int) := by omega
      have hk0 : (0 : Int) ≤ (k : Int) := by omega
      go_wp2_with fail
      refine wp_region_still_tail 8 (by kernel_rfl) (by kernel_rfl) ?_
      simp only [List.take_succ_cons, List.take_zero, List.drop_succ_cons, List.drop_zero]
      iterate 3 still_step
      refine wpStill_load_elem 224 _ bc (offc + k * 6) vs (.struct (flds Tryz.prog 224)) hra0 rfl rfl (by kernel_rfl) rfl hvl (by kernel_rfl) rfl ?_
      iterate 3 still_step
      refine wpStill_load_elem 224 _ bd (offd + k * 6) us (.struct (flds Tryz.prog 224)) hrb0 rfl rfl (by kernel_rfl) rfl hul (by kernel_rfl) rfl ?_
      refine wpStill_nil ?_
      have hra1 := range_below hra hbd hblc
      have hrb1 := range_below hrb hbd hbld
      have hv1 := hva.on hbd (Nat.le_refl _) hbd.size
      have hv2 := hvb.on hbd (Nat.le_refl _) hbd.size
      change wpList _ _ _ _ _ wr.drew
      clear hra hrb hva hvb
      generalize wr.drew = wd at *
      have HRA := hid hra1
      have HRB := hid hrb1
      have HV1 := hid hv1
      have HV2 := hid hv2
      clear hra1 hrb1 hv1 hv2
      go_wp2_with (first | (refine wpList_load_elem 224 _ bc (offc + k * 6) vs (.struct (flds Tryz.prog 224)) HRA.out rfl rfl (by kernel_rfl) rfl hvl (by kernel_rfl) rfl ?_) | (refine wpList_load_elem 224 _ bd (offd + k * 6) us (.struct (flds Tryz.prog 224)) HRB.out rfl rfl (by kernel_rfl) rfl hul (by kernel_rfl) rfl ?_) | (go_at_call 134; refine (HE2.out vs us _ HV1.out HV2.out).mono ?_; rintro e w2 ⟨rfl, hb2⟩))
      go_roundw
      case rel => exact ⟨k + 1, by omega, by go_num, hbd.trans (hb2.mono hbd.size)⟩
      case measure => simp [intOf]; omega
    · obtain rfl : k = l.length := by omega
      clear hlt
      go_wp2_with fail
      go_ret
      exact ⟨rfl, hb⟩
theorem eqTry_any (x : FTry) (hw : x.wt ≤ 1000000000) : EqTry x := by
  obtain ⟨z0, z1, z2, z3, z4, z5⟩ := x
  exact eqTry_of z0 z1 z2 z3 z4 z5 
theorem eqTryS_any (l : List FTry) (hw : l.length + FTry.wts l ≤ 1000000000) : EqTryS l := (eqTryS_of l (by omega) (fun x hx => eqTry_any x (by have := FTry.wts_at l x hx; omega)))
def EqEnd (x : FEnd) : Prop := ∀ (us vs : List Value) (w : World), RdVs w w.heap.size x.c us → RdVs w w.heap.size x.c vs → Calls Tryz.prog 135 #[.agg us.toArray, .agg vs.toArray] w fun e w' => e = .returned (.bool true) ∧ Below w.heap.size w w'
def EqEndS (l : List FEnd) : Prop := ∀ (u v : Value) (w : World), RdC w w.heap.size (.s 160 9 l.length (FEnd.flat l)) u → RdC w w.heap.size (.s 160 9 l.length (FEnd.flat l)) v → Calls Tryz.prog 113 #[u, v] w fun e w' => e = .returned (.bool true) ∧ Below w.heap.size w w'
theorem eqEnd_of (z0 : Int) (z1 : Int) (z2 : Int) (z3 : ByteArray) (z4 : Int) (z5 : List FEntry) (z6 : Int) (z7 : Int) (z8 : Int) (h1 : EqValue ⟨z1, z2, z3, z4, z5⟩) : EqEnd ⟨z0, ⟨z1, z2, z3, z4, z5⟩, z6, z7, z8⟩ := by
  intro us vs w hr hs
  rw [FEnd.c_eq] at hr hs
  obtain ⟨us0, rfl, hr_0⟩ := hr.unv
  obtain ⟨us1, rfl, hr_1⟩ := hr_0.unv
  obtain ⟨us2, rfl, hr_2⟩ := hr_1.unv
  obtain ⟨us3, rfl, hr_3⟩ := hr_2.unv
  obtain ⟨us4, rfl, hr_4⟩ := hr_3.unv
  obtain ⟨A5, c5, us5, rfl, r5, hr_5⟩ := hr_4.uns
  obtain ⟨us6, rfl, hr_6⟩ := hr_5.unv
  obtain ⟨us7, rfl, hr_7⟩ := hr_6.unv
  obtain ⟨us8, rfl, hr_8⟩ := hr_7.unv
  obtain rfl := hr_8.un0
  obtain ⟨vs0, rfl, hs_0⟩ := hs.unv
  obtain ⟨vs1, rfl, hs_1⟩ := hs_0.unv
  obtain ⟨vs2, rfl, hs_2⟩ := hs_1.unv
  obtain ⟨vs3, rfl, hs_3⟩ := hs_2.unv
  obtain ⟨vs4, rfl, hs_4⟩ := hs_3.unv
  obtain ⟨B5, d5, vs5, rfl, t5, hs_5⟩ := hs_4.uns
  obtain ⟨vs6, rfl, hs_6⟩ := hs_5.unv
  obtain ⟨vs7, rfl, hs_7⟩ := hs_6.unv
  obtain ⟨vs8, rfl, hs_8⟩ := hs_7.unv
  obtain rfl := hs_8.un0
  clear hr hs hr_0 hs_0 hr_1 hs_1 hr_2 hs_2 hr_3 hs_3 hr_4 hs_4 hr_5 hs_5 hr_6 hs_6 hr_7 hs_7 hr_8 hs_8
  have R5 := hid r5
  have T5 := hid t5
  clear r5 t5
  have H1 := hid h1
  clear h1
  go_enter Tryz.func135, Tryz.ntmps135
  go_wp2_with fail
  refine calls_worldD _ (fun X => Blk X w.heap.size 160 #[.int .i64 z0, .int .i64 z1, .int .i64 z2, .string z3, .int .i64 z4, .slice A5 z5.length c5, .int .i64 z6, .int .i64 z7, .int .i64 z8] ∧ Blk X (w.heap.size + 1) 160 #[.int .i64 z0, .int .i64 z1, .int .i64 z2, .string z3, .int .i64 z4, .slice B5 z5.length d5, .int .i64 z6, .int .i64 z7, .int .i64 z8] ∧ Below w.heap.size w X) ⟨(Blk.new w _ _).alloc _, Blk.new' (w.alloc _) _ _ _ (by simp), ((Below.refl _ _).alloc (Nat.le_refl _) _).alloc (by simp) _⟩ ?_
  rintro X0 ⟨ba, bb, hB⟩
  have s0 := bb.lt
  refine (H1.out [.int .i64 z1, .int .i64 z2, .string z3, .int .i64 z4, .slice A5 z5.length c5] [.int .i64 z1, .int .i64 z2, .string z3, .int .i64 z4, .slice B5 z5.length d5] _ (by rw [FValue.c_eq]; exact (RdVs.cons (by unfold RdC; rfl) (RdVs.cons (by unfold RdC; rfl) (RdVs.cons (by unfold RdC; rfl) (RdVs.cons (by unfold RdC; rfl) (RdVs.cons (R5.out.on hB (Nat.le_refl _) (by omega)) (RdVs.nil _ _))))))) (by rw [FValue.c_eq]; exact (RdVs.cons (by unfold RdC; rfl) (RdVs.cons (by unfold RdC; rfl) (RdVs.cons (by unfold RdC; rfl) (RdVs.cons (by unfold RdC; rfl) (RdVs.cons (T5.out.on hB (Nat.le_refl _) (by omega)) (RdVs.nil _ _)))))))).mono ?_
  rintro e Y0 ⟨rfl, hb⟩
  replace ba := ba.below hb (Nat.le_refl _)
  replace bb := bb.below hb (Nat.le_refl _)
  replace hB := hB.trans (hb.mono (by omega))
  clear hb
  have ba_6 : Y0.cell? ⟨w.heap.size, 6, none⟩ = some (.int .i64 z6) := ba.cell 6
  have ba_7 : Y0.cell? ⟨w.heap.size, 7, none⟩ = some (.int .i64 z7) := ba.cell 7
  have ba_8 : Y0.cell? ⟨w.heap.size, 8, none⟩ = some (.int .i64 z8) := ba.cell 8
  have ba_l := ba.lt
  have bb_6 : Y0.cell? ⟨w.heap.size + 1, 6, none⟩ = some (.int .i64 z6) := bb.cell 6
  have bb_7 : Y0.cell? ⟨w.heap.size + 1, 7, none⟩ = some (.int .i64 z7) := bb.cell 7
  have bb_8 : Y0.cell? ⟨w.heap.size + 1, 8, none⟩ = some (.int .i64 z8) := bb.cell 8
  have bb_l := bb.lt
  go_wp2_with fail
  go_ret
  exact ⟨rfl, hB⟩
theorem eqEndS_of (l : List FEnd) (hl : l.length ≤ 1000000000) (he : ∀ x, x ∈ l → EqEnd x) : EqEndS l := by
  intro u v w hu hv
  obtain ⟨A, c, rfl⟩ := hu.form
  obtain ⟨A', c', rfl⟩ := hv.form
  have HC := hid hu
  have HD := hid hv
  have hn : l.length ≤ 9223372036854775807 := by omega
  have HE := hid he
  clear he
  clear hu hv
  go_enter Tryz.func113, Tryz.ntmps113
  go_wp2
  go_loopw [5] (fun i wr => ∃ k : Nat, k ≤ l.length ∧ i = .int .i64 k ∧ Below w.heap.size w wr) (fun i _ => l.length - (intOf i).toNat)
  case atStart => exact ⟨0, Nat.zero_le _, rfl, Below.refl _ _⟩
  case round =>
    obtain ⟨k, hk, rfl, hb⟩ := hrel
    by_cases hlt : k < l.length
    · obtain ⟨x, hx⟩ : ∃ x, l[k]? = some x := ⟨_, List.getElem?_eq_getElem hlt⟩
      obtain ⟨bc, offc, vs, rfl, hblc, hvl, hva, hra⟩ := RdC.elem FEnd.len HC.out hx
      obtain ⟨bd, offd, us, rfl, hbld, hul, hvb, hrb⟩ := RdC.elem FEnd.len HD.out hx
      have HE2 := hid (HE.out x (List.mem_of_getElem? hx))
      clear hx
      have hbd : Below w.heap.size w wr.drew := hb.drew
      have hra0 := range_below hra hb hblc
      have hrb0 := range_below hrb hb hbld
      have hlt2 : (k : Int) < (l.length : Int) := by omega
      have hk0 : (0 : Int) ≤ (k : Int) := by omega
      go_wp2_with fail
      refine wp_region_still_tail 8 (by kernel_rfl) (by kernel_rfl) ?_
      simp only [List.take_succ_cons, List.take_zero, List.drop_succ_cons, List.drop_zero]
      iterate 3 still_step
      refine wpStill_load_elem 160 _ bc (offc + k * 9) vs (.struct (flds Tryz.prog 160)) hra0 rfl rfl (by kernel_rfl) rfl hvl (by kernel_rfl) rfl ?_
      iterate 3 still_step
      refine wpStill_load_elem 160 _ bd (offd + k * 9) us (.struct (flds Tryz.prog 160)) hrb0 rfl rfl (by kernel_rfl) rfl hul (by kernel_rfl) rfl ?_
      refine wpStill_nil ?_
      have hra1 := range_below hra hbd hblc
      have hrb1 := range_below hrb hbd hbld
      have hv1 := hva.on hbd (Nat.le_refl _) hbd.size
      have hv2 := hvb.on hbd (Nat.le_refl _) hbd.size
      change wpList _ _ _ _ _ wr.drew
      clear hra hrb hva hvb
      generalize wr.drew = wd at *
      have HRA := hid hra1
      have HRB := hid hrb1
      have HV1 := hid hv1
      have HV2 := hid hv2
      clear hra1 hrb1 hv1 hv2
      go_wp2_with (first | (refine wpList_load_elem 160 _ bc (offc + k * 9) vs (.struct (flds Tryz.prog 160)) HRA.out rfl rfl (by kernel_rfl) rfl hvl (by kernel_rfl) rfl ?_) | (refine wpList_load_elem 160 _ bd (offd + k * 9) us (.struct (flds Tryz.prog 160)) HRB.out rfl rfl (by kernel_rfl) rfl hul (by kernel_rfl) rfl ?_) | (go_at_call 135; refine (HE2.out vs us _ HV1.out HV2.out).mono ?_; rintro e w2 ⟨rfl, hb2⟩))
      go_roundw
      case rel => exact ⟨k + 1, by omega, by go_num, hbd.trans (hb2.mono hbd.size)⟩
      case measure => simp [intOf]; omega
    · obtain rfl : k = l.length := by omega
      clear hlt
      go_wp2_with fail
      go_ret
      exact ⟨rfl, hb⟩
theorem eqEnd_any (x : FEnd) (hw : x.wt ≤ 1000000000) : EqEnd x := by
  obtain ⟨z0, ⟨z1, z2, z3, z4, z5⟩, z6, z7, z8⟩ := x
  exact eqEnd_of z0 z1 z2 z3 z4 z5 z6 z7 z8 (eqValue_any _ (by rw [FEnd.wt_eq] at hw; rw [FValue.wt_eq]; omega))
theorem eqEndS_any (l : List FEnd) (hw : l.length + FEnd.wts l ≤ 1000000000) : EqEndS l := (eqEndS_of l (by omega) (fun x hx => eqEnd_any x (by have := FEnd.wts_at l x hx; omega)))
def EqFrame (x : FFrame) : Prop := ∀ (us vs : List Value) (w : World), RdVs w w.heap.size x.c us → RdVs w w.heap.size x.c vs → Calls Tryz.prog 78 #[.agg us.toArray, .agg vs.toArray] w fun e w' => e = .returned (.bool true) ∧ Below w.heap.size w w'
def EqFrameS (l : List FFrame) : Prop := ∀ (u v : Value) (w : World), RdC w w.heap.size (.s 91 13 l.length (FFrame.flat l)) u → RdC w w.heap.size (.s 91 13 l.length (FFrame.flat l)) v → Calls Tryz.prog 40 #[u, v] w fun e w' => e = .returned (.bool true) ∧ Below w.heap.size w w'
theorem eqFrame_of (z0 : Int) (z1 : Int) (z2 : List FInt) (z3 : List FValue) (z4 : List FCall) (z5 : List FTry) (z6 : List FEnd) (z7 : Int) (z8 : ByteArray) (z9 : ByteArray) (z10 : Int) (z11 : Int) (z12 : Int) (h2 : EqIntS z2) (h3 : EqValueS z3) (h4 : EqCallS z4) (h5 : EqTryS z5) (h6 : EqEndS z6) : EqFrame ⟨z0, z1, z2, z3, z4, z5, z6, z7, z8, z9, z10, z11, z12⟩ := by
  intro us vs w hr hs
  rw [FFrame.c_eq] at hr hs
  obtain ⟨us0, rfl, hr_0⟩ := hr.unv
  obtain ⟨us1, rfl, hr_1⟩ := hr_0.unv
  obtain ⟨A2, c2, us2, rfl, r2, hr_2⟩ := hr_1.uns
  obtain ⟨A3, c3, us3, rfl, r3, hr_3⟩ := hr_2.uns
  obtain ⟨A4, c4, us4, rfl, r4, hr_4⟩ := hr_3.uns
  obtain ⟨A5, c5, us5, rfl, r5, hr_5⟩ := hr_4.uns
  obtain ⟨A6, c6, us6, rfl, r6, hr_6⟩ := hr_5.uns
  obtain ⟨us7, rfl, hr_7⟩ := hr_6.unv
  obtain ⟨us8, rfl, hr_8⟩ := hr_7.unv
  obtain ⟨us9, rfl, hr_9⟩ := hr_8.unv
  obtain ⟨us10, rfl, hr_10⟩ := hr_9.unv
  obtain ⟨us11, rfl, hr_11⟩ := hr_10.unv
  obtain ⟨us12, rfl, hr_12⟩ := hr_11.unv
  obtain rfl := hr_12.un0
  obtain ⟨vs0, rfl, hs_0⟩ := hs.unv
  obtain ⟨vs1, rfl, hs_1⟩ := hs_0.unv
  obtain ⟨B2, d2, vs2, rfl, t2, hs_2⟩ := hs_1.uns
  obtain ⟨B3, d3, vs3, rfl, t3, hs_3⟩ := hs_2.uns
  obtain ⟨B4, d4, vs4, rfl, t4, hs_4⟩ := hs_3.uns
  obtain ⟨B5, d5, vs5, rfl, t5, hs_5⟩ := hs_4.uns
  obtain ⟨B6, d6, vs6, rfl, t6, hs_6⟩ := hs_5.uns
  obtain ⟨vs7, rfl, hs_7⟩ := hs_6.unv
  obtain ⟨vs8, rfl, hs_8⟩ := hs_7.unv
  obtain ⟨vs9, rfl, hs_9⟩ := hs_8.unv
  obtain ⟨vs10, rfl, hs_10⟩ := hs_9.unv
  obtain ⟨vs11, rfl, hs_11⟩ := hs_10.unv
  obtain ⟨vs12, rfl, hs_12⟩ := hs_11.unv
  obtain rfl := hs_12.un0
  clear hr hs hr_0 hs_0 hr_1 hs_1 hr_2 hs_2 hr_3 hs_3 hr_4 hs_4 hr_5 hs_5 hr_6 hs_6 hr_7 hs_7 hr_8 hs_8 hr_9 hs_9 hr_10 hs_10 hr_11 hs_11 hr_12 hs_12
  have R2 := hid r2
  have T2 := hid t2
  clear r2 t2
  have R3 := hid r3
  have T3 := hid t3
  clear r3 t3
  have R4 := hid r4
  have T4 := hid t4
  clear r4 t4
  have R5 := hid r5
  have T5 := hid t5
  clear r5 t5
  have R6 := hid r6
  have T6 := hid t6
  clear r6 t6
  have H2 := hid h2
  clear h2
  have H3 := hid h3
  clear h3
  have H4 := hid h4
  clear h4
  have H5 := hid h5
  clear h5
  have H6 := hid h6
  clear h6
  go_enter Tryz.func78, Tryz.ntmps78
  go_wp2_with fail
  refine calls_worldD _ (fun X => Blk X w.heap.size 91 #[.int .i64 z0, .int .i64 z1, .slice A2 z2.length c2, .slice A3 z3.length c3, .slice A4 z4.length c4, .slice A5 z5.length c5, .slice A6 z6.length c6, .int .i64 z7, .string z8, .string z9, .int .i64 z10, .int .i64 z11, .int .i64 z12] ∧ Blk X (w.heap.size + 1) 91 #[.int .i64 z0, .int .i64 z1, .slice B2 z2.length d2, .slice B3 z3.length d3, .slice B4 z4.length d4, .slice B5 z5.length d5, .slice B6 z6.length d6, .int .i64 z7, .string z8, .string z9, .int .i64 z10, .int .i64 z11, .int .i64 z12] ∧ Below w.heap.size w X) ⟨(Blk.new w _ _).alloc _, Blk.new' (w.alloc _) _ _ _ (by simp), ((Below.refl _ _).alloc (Nat.le_refl _) _).alloc (by simp) _⟩ ?_
  rintro X0 ⟨ba, bb, hB⟩
  have s0 := bb.lt
  refine (H2.out _ _ _ (R2.out.on hB (Nat.le_refl _) (by omega)) (T2.out.on hB (Nat.le_refl _) (by omega))).mono ?_
  rintro e Y0 ⟨rfl, hb⟩
  replace ba := ba.below hb (Nat.le_refl _)
  replace bb := bb.below hb (Nat.le_refl _)
  replace hB := hB.trans (hb.mono (by omega))
  clear hb
  have ba_3 : Y0.cell? ⟨w.heap.size, 3, none⟩ = some (.slice A3 z3.length c3) := ba.cell 3
  have ba_l := ba.lt
  have bb_3 : Y0.cell? ⟨w.heap.size + 1, 3, none⟩ = some (.slice B3 z3.length d3) := bb.cell 3
  have bb_l := bb.lt
  go_wp2_with fail
  clear ba_3 bb_3 ba_l bb_l
  refine calls_worldD _ (fun X => Blk X w.heap.size 91 #[.int .i64 z0, .int .i64 z1, .slice A2 z2.length c2, .slice A3 z3.length c3, .slice A4 z4.length c4, .slice A5 z5.length c5, .slice A6 z6.length c6, .int .i64 z7, .string z8, .string z9, .int .i64 z10, .int .i64 z11, .int .i64 z12] ∧ Blk X (w.heap.size + 1) 91 #[.int .i64 z0, .int .i64 z1, .slice B2 z2.length d2, .slice B3 z3.length d3, .slice B4 z4.length d4, .slice B5 z5.length d5, .slice B6 z6.length d6, .int .i64 z7, .string z8, .string z9, .int .i64 z10, .int .i64 z11, .int .i64 z12] ∧ Below w.heap.size w X) ⟨ba, bb, hB⟩ ?_
  clear ba bb hB
  rintro X1 ⟨ba, bb, hB⟩
  have s1 := bb.lt
  refine (H3.out _ _ _ (R3.out.on hB (Nat.le_refl _) (by omega)) (T3.out.on hB (Nat.le_refl _) (by omega))).mono ?_
  rintro e Y1 ⟨rfl, hb⟩
  replace ba := ba.below hb (Nat.le_refl _)
  replace bb := bb.below hb (Nat.le_refl _)
  replace hB := hB.trans (hb.mono (by omega))
  clear hb
  have ba_4 : Y1.cell? ⟨w.heap.size, 4, none⟩ = some (.slice A4 z4.length c4) := ba.cell 4
  have ba_l := ba.lt
  have bb_4 : Y1.cell? ⟨w.heap.size + 1, 4, none⟩ = some (.slice B4 z4.length d4) := bb.cell 4
  have bb_l := bb.lt
  go_wp2_with fail
  clear ba_4 bb_4 ba_l bb_l
  refine calls_worldD _ (fun X => Blk X w.heap.size 91 #[.int .i64 z0, .int .i64 z1, .slice A2 z2.length c2, .slice A3 z3.length c3, .slice A4 z4.length c4, .slice A5 z5.length c5, .slice A6 z6.length c6, .int .i64 z7, .string z8, .string z9, .int .i64 z10, .int .i64 z11, .int .i64 z12] ∧ Blk X (w.heap.size + 1) 91 #[.int .i64 z0, .int .i64 z1, .slice B2 z2.length d2, .slice B3 z3.length d3, .slice B4 z4.length d4, .slice B5 z5.length d5, .slice B6 z6.length d6, .int .i64 z7, .string z8, .string z9, .int .i64 z10, .int .i64 z11, .int .i64 z12] ∧ Below w.heap.size w X) ⟨ba, bb, hB⟩ ?_
  clear ba bb hB
  rintro X2 ⟨ba, bb, hB⟩
  have s2 := bb.lt
  refine (H4.out _ _ _ (R4.out.on hB (Nat.le_refl _) (by omega)) (T4.out.on hB (Nat.le_refl _) (by omega))).mono ?_
  rintro e Y2 ⟨rfl, hb⟩
  replace ba := ba.below hb (Nat.le_refl _)
  replace bb := bb.below hb (Nat.le_refl _)
  replace hB := hB.trans (hb.mono (by omega))
  clear hb
  have ba_5 : Y2.cell? ⟨w.heap.size, 5, none⟩ = some (.slice A5 z5.length c5) := ba.cell 5
  have ba_l := ba.lt
  have bb_5 : Y2.cell? ⟨w.heap.size + 1, 5, none⟩ = some (.slice B5 z5.length d5) := bb.cell 5
  have bb_l := bb.lt
  go_wp2_with fail
  clear ba_5 bb_5 ba_l bb_l
  refine calls_worldD _ (fun X => Blk X w.heap.size 91 #[.int .i64 z0, .int .i64 z1, .slice A2 z2.length c2, .slice A3 z3.length c3, .slice A4 z4.length c4, .slice A5 z5.length c5, .slice A6 z6.length c6, .int .i64 z7, .string z8, .string z9, .int .i64 z10, .int .i64 z11, .int .i64 z12] ∧ Blk X (w.heap.size + 1) 91 #[.int .i64 z0, .int .i64 z1, .slice B2 z2.length d2, .slice B3 z3.length d3, .slice B4 z4.length d4, .slice B5 z5.length d5, .slice B6 z6.length d6, .int .i64 z7, .string z8, .string z9, .int .i64 z10, .int .i64 z11, .int .i64 z12] ∧ Below w.heap.size w X) ⟨ba, bb, hB⟩ ?_
  clear ba bb hB
  rintro X3 ⟨ba, bb, hB⟩
  have s3 := bb.lt
  refine (H5.out _ _ _ (R5.out.on hB (Nat.le_refl _) (by omega)) (T5.out.on hB (Nat.le_refl _) (by omega))).mono ?_
  rintro e Y3 ⟨rfl, hb⟩
  replace ba := ba.below hb (Nat.le_refl _)
  replace bb := bb.below hb (Nat.le_refl _)
  replace hB := hB.trans (hb.mono (by omega))
  clear hb
  have ba_6 : Y3.cell? ⟨w.heap.size, 6, none⟩ = some (.slice A6 z6.length c6) := ba.cell 6
  have ba_l := ba.lt
  have bb_6 : Y3.cell? ⟨w.heap.size + 1, 6, none⟩ = some (.slice B6 z6.length d6) := bb.cell 6
  have bb_l := bb.lt
  go_wp2_with fail
  clear ba_6 bb_6 ba_l bb_l
  refine calls_worldD _ (fun X => Blk X w.heap.size 91 #[.int .i64 z0, .int .i64 z1, .slice A2 z2.length c2, .slice A3 z3.length c3, .slice A4 z4.length c4, .slice A5 z5.length c5, .slice A6 z6.length c6, .int .i64 z7, .string z8, .string z9, .int .i64 z10, .int .i64 z11, .int .i64 z12] ∧ Blk X (w.heap.size + 1) 91 #[.int .i64 z0, .int .i64 z1, .slice B2 z2.length d2, .slice B3 z3.length d3, .slice B4 z4.length d4, .slice B5 z5.length d5, .slice B6 z6.length d6, .int .i64 z7, .string z8, .string z9, .int .i64 z10, .int .i64 z11, .int .i64 z12] ∧ Below w.heap.size w X) ⟨ba, bb, hB⟩ ?_
  clear ba bb hB
  rintro X4 ⟨ba, bb, hB⟩
  have s4 := bb.lt
  refine (H6.out _ _ _ (R6.out.on hB (Nat.le_refl _) (by omega)) (T6.out.on hB (Nat.le_refl _) (by omega))).mono ?_
  rintro e Y4 ⟨rfl, hb⟩
  replace ba := ba.below hb (Nat.le_refl _)
  replace bb := bb.below hb (Nat.le_refl _)
  replace hB := hB.trans (hb.mono (by omega))
  clear hb
  have ba_7 : Y4.cell? ⟨w.heap.size, 7, none⟩ = some (.int .i64 z7) := ba.cell 7
  have ba_8 : Y4.cell? ⟨w.heap.size, 8, none⟩ = some (.string z8) := ba.cell 8
  have ba_9 : Y4.cell? ⟨w.heap.size, 9, none⟩ = some (.string z9) := ba.cell 9
  have ba_10 : Y4.cell? ⟨w.heap.size, 10, none⟩ = some (.int .i64 z10) := ba.cell 10
  have ba_11 : Y4.cell? ⟨w.heap.size, 11, none⟩ = some (.int .i64 z11) := ba.cell 11
  have ba_12 : Y4.cell? ⟨w.heap.size, 12, none⟩ = some (.int .i64 z12) := ba.cell 12
  have ba_l := ba.lt
  have bb_7 : Y4.cell? ⟨w.heap.size + 1, 7, none⟩ = some (.int .i64 z7) := bb.cell 7
  have bb_8 : Y4.cell? ⟨w.heap.size + 1, 8, none⟩ = some (.string z8) := bb.cell 8
  have bb_9 : Y4.cell? ⟨w.heap.size + 1, 9, none⟩ = some (.string z9) := bb.cell 9
  have bb_10 : Y4.cell? ⟨w.heap.size + 1, 10, none⟩ = some (.int .i64 z10) := bb.cell 10
  have bb_11 : Y4.cell? ⟨w.heap.size + 1, 11, none⟩ = some (.int .i64 z11) := bb.cell 11
  have bb_12 : Y4.cell? ⟨w.heap.size + 1, 12, none⟩ = some (.int .i64 z12) := bb.cell 12
  have bb_l := bb.lt
  go_wp2_with fail
  go_ret
  exact ⟨rfl, hB⟩
theorem eqFrameS_of (l : List FFrame) (hl : l.length ≤ 1000000000) (he : ∀ x, x ∈ l → EqFrame x) : EqFrameS l := by
  intro u v w hu hv
  obtain ⟨A, c, rfl⟩ := hu.form
  obtain ⟨A', c', rfl⟩ := hv.form
  have HC := hid hu
  have HD := hid hv
  have hn : l.length ≤ 9223372036854775807 := by omega
  have HE := hid he
  clear he
  clear hu hv
  go_enter Tryz.func40, Tryz.ntmps40
  go_wp2
  go_loopw [5] (fun i wr => ∃ k : Nat, k ≤ l.length ∧ i = .int .i64 k ∧ Below w.heap.size w wr) (fun i _ => l.length - (intOf i).toNat)
  case atStart => exact ⟨0, Nat.zero_le _, rfl, Below.refl _ _⟩
  case round =>
    obtain ⟨k, hk, rfl, hb⟩ := hrel
    by_cases hlt : k < l.length
    · obtain ⟨x, hx⟩ : ∃ x, l[k]? = some x := ⟨_, List.getElem?_eq_getElem hlt⟩
      obtain ⟨bc, offc, vs, rfl, hblc, hvl, hva, hra⟩ := RdC.elem FFrame.len HC.out hx
      obtain ⟨bd, offd, us, rfl, hbld, hul, hvb, hrb⟩ := RdC.elem FFrame.len HD.out hx
      have HE2 := hid (HE.out x (List.mem_of_getElem? hx))
      clear hx
      have hbd : Below w.heap.size w wr.drew := hb.drew
      have hra0 := range_below hra hb hblc
      have hrb0 := range_below hrb hb hbld
      have hlt2 : (k : Int) < (l.length : Int) := by omega
      have hk0 : (0 : Int) ≤ (k : Int) := by omega
      go_wp2_with fail
      refine wp_region_still_tail 8 (by kernel_rfl) (by kernel_rfl) ?_
      simp only [List.take_succ_cons, List.take_zero, List.drop_succ_cons, List.drop_zero]
      iterate 3 still_step
      refine wpStill_load_elem 91 _ bc (offc + k * 13) vs (.struct (flds Tryz.prog 91)) hra0 rfl rfl (by kernel_rfl) rfl hvl (by kernel_rfl) rfl ?_
      iterate 3 still_step
      refine wpStill_load_elem 91 _ bd (offd + k * 13) us (.struct (flds Tryz.prog 91)) hrb0 rfl rfl (by kernel_rfl) rfl hul (by kernel_rfl) rfl ?_
      refine wpStill_nil ?_
      have hra1 := range_below hra hbd hblc
      have hrb1 := range_below hrb hbd hbld
      have hv1 := hva.on hbd (Nat.le_refl _) hbd.size
      have hv2 := hvb.on hbd (Nat.le_refl _) hbd.size
      change wpList _ _ _ _ _ wr.drew
      clear hra hrb hva hvb
      generalize wr.drew = wd at *
      have HRA := hid hra1
      have HRB := hid hrb1
      have HV1 := hid hv1
      have HV2 := hid hv2
      clear hra1 hrb1 hv1 hv2
      go_wp2_with (first | (refine wpList_load_elem 91 _ bc (offc + k * 13) vs (.struct (flds Tryz.prog 91)) HRA.out rfl rfl (by kernel_rfl) rfl hvl (by kernel_rfl) rfl ?_) | (refine wpList_load_elem 91 _ bd (offd + k * 13) us (.struct (flds Tryz.prog 91)) HRB.out rfl rfl (by kernel_rfl) rfl hul (by kernel_rfl) rfl ?_) | (go_at_call 78; refine (HE2.out vs us _ HV1.out HV2.out).mono ?_; rintro e w2 ⟨rfl, hb2⟩))
      go_roundw
      case rel => exact ⟨k + 1, by omega, by go_num, hbd.trans (hb2.mono hbd.size)⟩
      case measure => simp [intOf]; omega
    · obtain rfl : k = l.length := by omega
      clear hlt
      go_wp2_with fail
      go_ret
      exact ⟨rfl, hb⟩
theorem eqFrame_any (x : FFrame) (hw : x.wt ≤ 1000000000) : EqFrame x := by
  obtain ⟨z0, z1, z2, z3, z4, z5, z6, z7, z8, z9, z10, z11, z12⟩ := x
  exact eqFrame_of z0 z1 z2 z3 z4 z5 z6 z7 z8 z9 z10 z11 z12 (eqIntS_any z2 (by rw [FFrame.wt_eq] at hw; omega)) (eqValueS_any z3 (by rw [FFrame.wt_eq] at hw; omega)) (eqCallS_any z4 (by rw [FFrame.wt_eq] at hw; omega)) (eqTryS_any z5 (by rw [FFrame.wt_eq] at hw; omega)) (eqEndS_any z6 (by rw [FFrame.wt_eq] at hw; omega))
theorem eqFrameS_any (l : List FFrame) (hw : l.length + FFrame.wts l ≤ 1000000000) : EqFrameS l := (eqFrameS_of l (by omega) (fun x hx => eqFrame_any x (by have := FFrame.wts_at l x hx; omega)))
def EqGen (x : FGen) : Prop := ∀ (us vs : List Value) (w : World), RdVs w w.heap.size x.c us → RdVs w w.heap.size x.c vs → Calls Tryz.prog 77 #[.agg us.toArray, .agg vs.toArray] w fun e w' => e = .returned (.bool true) ∧ Below w.heap.size w w'
def EqGenS (l : List FGen) : Prop := ∀ (u v : Value) (w : World), RdC w w.heap.size (.s 93 19 l.length (FGen.flat l)) u → RdC w w.heap.size (.s 93 19 l.length (FGen.flat l)) v → Calls Tryz.prog 39 #[u, v] w fun e w' => e = .returned (.bool true) ∧ Below w.heap.size w w'
theorem eqGen_of (z0 : Int) (z1 : Int) (z2 : Int) (z3 : ByteArray) (z4 : Int) (z5 : List FEntry) (z6 : Int) (z7 : Int) (z8 : List FInt) (z9 : List FValue) (z10 : List FCall) (z11 : List FTry) (z12 : List FEnd) (z13 : Int) (z14 : ByteArray) (z15 : ByteArray) (z16 : Int) (z17 : Int) (z18 : Int) (h1 : EqValue ⟨z1, z2, z3, z4, z5⟩) (h6 : EqFrame ⟨z6, z7, z8, z9, z10, z11, z12, z13, z14, z15, z16, z17, z18⟩) : EqGen ⟨z0, ⟨z1, z2, z3, z4, z5⟩, ⟨z6, z7, z8, z9, z10, z11, z12, z13, z14, z15, z16, z17, z18⟩⟩ := by
  intro us vs w hr hs
  rw [FGen.c_eq] at hr hs
  obtain ⟨us0, rfl, hr_0⟩ := hr.unv
  obtain ⟨us1, rfl, hr_1⟩ := hr_0.unv
  obtain ⟨us2, rfl, hr_2⟩ := hr_1.unv
  obtain ⟨us3, rfl, hr_3⟩ := hr_2.unv
  obtain ⟨us4, rfl, hr_4⟩ := hr_3.unv
  obtain ⟨A5, c5, us5, rfl, r5, hr_5⟩ := hr_4.uns
  obtain ⟨us6, rfl, hr_6⟩ := hr_5.unv
  obtain ⟨us7, rfl, hr_7⟩ := hr_6.unv
  obtain ⟨A8, c8, us8, rfl, r8, hr_8⟩ := hr_7.uns
  obtain ⟨A9, c9, us9, rfl, r9, hr_9⟩ := hr_8.uns
  obtain ⟨A10, c10, us10, rfl, r10, hr_10⟩ := hr_9.uns
  obtain ⟨A11, c11, us11, rfl, r11, hr_11⟩ := hr_10.uns
  obtain ⟨A12, c12, us12, rfl, r12, hr_12⟩ := hr_11.uns
  obtain ⟨us13, rfl, hr_13⟩ := hr_12.unv
  obtain ⟨us14, rfl, hr_14⟩ := hr_13.unv
  obtain ⟨us15, rfl, hr_15⟩ := hr_14.unv
  obtain ⟨us16, rfl, hr_16⟩ := hr_15.unv
  obtain ⟨us17, rfl, hr_17⟩ := hr_16.unv
  obtain ⟨us18, rfl, hr_18⟩ := hr_17.unv
  obtain rfl := hr_18.un0
  obtain ⟨vs0, rfl, hs_0⟩ := hs.unv
  obtain ⟨vs1, rfl, hs_1⟩ := hs_0.unv
  obtain ⟨vs2, rfl, hs_2⟩ := hs_1.unv
  obtain ⟨vs3, rfl, hs_3⟩ := hs_2.unv
  obtain ⟨vs4, rfl, hs_4⟩ := hs_3.unv
  obtain ⟨B5, d5, vs5, rfl, t5, hs_5⟩ := hs_4.uns
  obtain ⟨vs6, rfl, hs_6⟩ := hs_5.unv
  obtain ⟨vs7, rfl, hs_7⟩ := hs_6.unv
  obtain ⟨B8, d8, vs8, rfl, t8, hs_8⟩ := hs_7.uns
  obtain ⟨B9, d9, vs9, rfl, t9, hs_9⟩ := hs_8.uns
  obtain ⟨B10, d10, vs10, rfl, t10, hs_10⟩ := hs_9.uns
  obtain ⟨B11, d11, vs11, rfl, t11, hs_11⟩ := hs_10.uns
  obtain ⟨B12, d12, vs12, rfl, t12, hs_12⟩ := hs_11.uns
  obtain ⟨vs13, rfl, hs_13⟩ := hs_12.unv
  obtain ⟨vs14, rfl, hs_14⟩ := hs_13.unv
  obtain ⟨vs15, rfl, hs_15⟩ := hs_14.unv
  obtain ⟨vs16, rfl, hs_16⟩ := hs_15.unv
  obtain ⟨vs17, rfl, hs_17⟩ := hs_16.unv
  obtain ⟨vs18, rfl, hs_18⟩ := hs_17.unv
  obtain rfl := hs_18.un0
  clear hr hs hr_0 hs_0 hr_1 hs_1 hr_2 hs_2 hr_3 hs_3 hr_4 hs_4 hr_5 hs_5 hr_6 hs_6 hr_7 hs_7 hr_8 hs_8 hr_9 hs_9 hr_10 hs_10 hr_11 hs_11 hr_12 hs_12 hr_13 hs_13 hr_14 hs_14 hr_15 hs_15 hr_16 hs_16 hr_17 hs_17 hr_18 hs_18
  have R5 := hid r5
  have T5 := hid t5
  clear r5 t5
  have R8 := hid r8
  have T8 := hid t8
  clear r8 t8
  have R9 := hid r9
  have T9 := hid t9
  clear r9 t9
  have R10 := hid r10
  have T10 := hid t10
  clear r10 t10
  have R11 := hid r11
  have T11 := hid t11
  clear r11 t11
  have R12 := hid r12
  have T12 := hid t12
  clear r12 t12
  have H1 := hid h1
  clear h1
  have H6 := hid h6
  clear h6
  go_enter Tryz.func77, Tryz.ntmps77
  go_wp2_with fail
  refine calls_worldD _ (fun X => Blk X w.heap.size 93 #[.int .i64 z0, .int .i64 z1, .int .i64 z2, .string z3, .int .i64 z4, .slice A5 z5.length c5, .int .i64 z6, .int .i64 z7, .slice A8 z8.length c8, .slice A9 z9.length c9, .slice A10 z10.length c10, .slice A11 z11.length c11, .slice A12 z12.length c12, .int .i64 z13, .string z14, .string z15, .int .i64 z16, .int .i64 z17, .int .i64 z18] ∧ Blk X (w.heap.size + 1) 93 #[.int .i64 z0, .int .i64 z1, .int .i64 z2, .string z3, .int .i64 z4, .slice B5 z5.length d5, .int .i64 z6, .int .i64 z7, .slice B8 z8.length d8, .slice B9 z9.length d9, .slice B10 z10.length d10, .slice B11 z11.length d11, .slice B12 z12.length d12, .int .i64 z13, .string z14, .string z15, .int .i64 z16, .int .i64 z17, .int .i64 z18] ∧ Below w.heap.size w X) ⟨(Blk.new w _ _).alloc _, Blk.new' (w.alloc _) _ _ _ (by simp), ((Below.refl _ _).alloc (Nat.le_refl _) _).alloc (by simp) _⟩ ?_
  rintro X0 ⟨ba, bb, hB⟩
  have s0 := bb.lt
  refine (H1.out [.int .i64 z1, .int .i64 z2, .string z3, .int .i64 z4, .slice A5 z5.length c5] [.int .i64 z1, .int .i64 z2, .string z3, .int .i64 z4, .slice B5 z5.length d5] _ (by rw [FValue.c_eq]; exact (RdVs.cons (by unfold RdC; rfl) (RdVs.cons (by unfold RdC; rfl) (RdVs.cons (by unfold RdC; rfl) (RdVs.cons (by unfold RdC; rfl) (RdVs.cons (R5.out.on hB (Nat.le_refl _) (by omega)) (RdVs.nil _ _))))))) (by rw [FValue.c_eq]; exact (RdVs.cons (by unfold RdC; rfl) (RdVs.cons (by unfold RdC; rfl) (RdVs.cons (by unfold RdC; rfl) (RdVs.cons (by unfold RdC; rfl) (RdVs.cons (T5.out.on hB (Nat.le_refl _) (by omega)) (RdVs.nil _ _)))))))).mono ?_
  rintro e Y0 ⟨rfl, hb⟩
  replace ba := ba.below hb (Nat.le_refl _)
  replace bb := bb.below hb (Nat.le_refl _)
  replace hB := hB.trans (hb.mono (by omega))
  clear hb
  have ba_6 : Y0.cell? ⟨w.heap.size, 6, none⟩ = some (.int .i64 z6) := ba.cell 6
  have ba_7 : Y0.cell? ⟨w.heap.size, 7, none⟩ = some (.int .i64 z7) := ba.cell 7
  have ba_8 : Y0.cell? ⟨w.heap.size, 8, none⟩ = some (.slice A8 z8.length c8) := ba.cell 8
  have ba_9 : Y0.cell? ⟨w.heap.size, 9, none⟩ = some (.slice A9 z9.length c9) := ba.cell 9
  have ba_10 : Y0.cell? ⟨w.heap.size, 10, none⟩ = some (.slice A10 z10.length c10) := ba.cell 10
  have ba_11 : Y0.cell? ⟨w.heap.size, 11, none⟩ = some (.slice A11 z11.length c11) := ba.cell 11
  have ba_12 : Y0.cell? ⟨w.heap.size, 12, none⟩ = some (.slice A12 z12.length c12) := ba.cell 12
  have ba_13 : Y0.cell? ⟨w.heap.size, 13, none⟩ = some (.int .i64 z13) := ba.cell 13
  have ba_14 : Y0.cell? ⟨w.heap.size, 14, none⟩ = some (.string z14) := ba.cell 14
  have ba_15 : Y0.cell? ⟨w.heap.size, 15, none⟩ = some (.string z15) := ba.cell 15
  have ba_16 : Y0.cell? ⟨w.heap.size, 16, none⟩ = some (.int .i64 z16) := ba.cell 16
  have ba_17 : Y0.cell? ⟨w.heap.size, 17, none⟩ = some (.int .i64 z17) := ba.cell 17
  have ba_18 : Y0.cell? ⟨w.heap.size, 18, none⟩ = some (.int .i64 z18) := ba.cell 18
  have ba_l := ba.lt
  have bb_6 : Y0.cell? ⟨w.heap.size + 1, 6, none⟩ = some (.int .i64 z6) := bb.cell 6
  have bb_7 : Y0.cell? ⟨w.heap.size + 1, 7, none⟩ = some (.int .i64 z7) := bb.cell 7
  have bb_8 : Y0.cell? ⟨w.heap.size + 1, 8, none⟩ = some (.slice B8 z8.length d8) := bb.cell 8
  have bb_9 : Y0.cell? ⟨w.heap.size + 1, 9, none⟩ = some (.slice B9 z9.length d9) := bb.cell 9
  have bb_10 : Y0.cell? ⟨w.heap.size + 1, 10, none⟩ = some (.slice B10 z10.length d10) := bb.cell 10
  have bb_11 : Y0.cell? ⟨w.heap.size + 1, 11, none⟩ = some (.slice B11 z11.length d11) := bb.cell 11
  have bb_12 : Y0.cell? ⟨w.heap.size + 1, 12, none⟩ = some (.slice B12 z12.length d12) := bb.cell 12
  have bb_13 : Y0.cell? ⟨w.heap.size + 1, 13, none⟩ = some (.int .i64 z13) := bb.cell 13
  have bb_14 : Y0.cell? ⟨w.heap.size + 1, 14, none⟩ = some (.string z14) := bb.cell 14
  have bb_15 : Y0.cell? ⟨w.heap.size + 1, 15, none⟩ = some (.string z15) := bb.cell 15
  have bb_16 : Y0.cell? ⟨w.heap.size + 1, 16, none⟩ = some (.int .i64 z16) := bb.cell 16
  have bb_17 : Y0.cell? ⟨w.heap.size + 1, 17, none⟩ = some (.int .i64 z17) := bb.cell 17
  have bb_18 : Y0.cell? ⟨w.heap.size + 1, 18, none⟩ = some (.int .i64 z18) := bb.cell 18
  have bb_l := bb.lt
  go_wp2_with fail
  clear ba_6 bb_6 ba_7 bb_7 ba_8 bb_8 ba_9 bb_9 ba_10 bb_10 ba_11 bb_11 ba_12 bb_12 ba_13 bb_13 ba_14 bb_14 ba_15 bb_15 ba_16 bb_16 ba_17 bb_17 ba_18 bb_18 ba_l bb_l
  refine calls_worldD _ (fun X => Blk X w.heap.size 93 #[.int .i64 z0, .int .i64 z1, .int .i64 z2, .string z3, .int .i64 z4, .slice A5 z5.length c5, .int .i64 z6, .int .i64 z7, .slice A8 z8.length c8, .slice A9 z9.length c9, .slice A10 z10.length c10, .slice A11 z11.length c11, .slice A12 z12.length c12, .int .i64 z13, .string z14, .string z15, .int .i64 z16, .int .i64 z17, .int .i64 z18] ∧ Blk X (w.heap.size + 1) 93 #[.int .i64 z0, .int .i64 z1, .int .i64 z2, .string z3, .int .i64 z4, .slice B5 z5.length d5, .int .i64 z6, .int .i64 z7, .slice B8 z8.length d8, .slice B9 z9.length d9, .slice B10 z10.length d10, .slice B11 z11.length d11, .slice B12 z12.length d12, .int .i64 z13, .string z14, .string z15, .int .i64 z16, .int .i64 z17, .int .i64 z18] ∧ Below w.heap.size w X) ⟨ba, bb, hB⟩ ?_
  clear ba bb hB
  rintro X1 ⟨ba, bb, hB⟩
  have s1 := bb.lt
  refine (H6.out [.int .i64 z6, .int .i64 z7, .slice A8 z8.length c8, .slice A9 z9.length c9, .slice A10 z10.length c10, .slice A11 z11.length c11, .slice A12 z12.length c12, .int .i64 z13, .string z14, .string z15, .int .i64 z16, .int .i64 z17, .int .i64 z18] [.int .i64 z6, .int .i64 z7, .slice B8 z8.length d8, .slice B9 z9.length d9, .slice B10 z10.length d10, .slice B11 z11.length d11, .slice B12 z12.length d12, .int .i64 z13, .string z14, .string z15, .int .i64 z16, .int .i64 z17, .int .i64 z18] _ (by rw [FFrame.c_eq]; exact (RdVs.cons (by unfold RdC; rfl) (RdVs.cons (by unfold RdC; rfl) (RdVs.cons (R8.out.on hB (Nat.le_refl _) (by omega)) (RdVs.cons (R9.out.on hB (Nat.le_refl _) (by omega)) (RdVs.cons (R10.out.on hB (Nat.le_refl _) (by omega)) (RdVs.cons (R11.out.on hB (Nat.le_refl _) (by omega)) (RdVs.cons (R12.out.on hB (Nat.le_refl _) (by omega)) (RdVs.cons (by unfold RdC; rfl) (RdVs.cons (by unfold RdC; rfl) (RdVs.cons (by unfold RdC; rfl) (RdVs.cons (by unfold RdC; rfl) (RdVs.cons (by unfold RdC; rfl) (RdVs.cons (by unfold RdC; rfl) (RdVs.nil _ _))))))))))))))) (by rw [FFrame.c_eq]; exact (RdVs.cons (by unfold RdC; rfl) (RdVs.cons (by unfold RdC; rfl) (RdVs.cons (T8.out.on hB (Nat.le_refl _) (by omega)) (RdVs.cons (T9.out.on hB (Nat.le_refl _) (by omega)) (RdVs.cons (T10.out.on hB (Nat.le_refl _) (by omega)) (RdVs.cons (T11.out.on hB (Nat.le_refl _) (by omega)) (RdVs.cons (T12.out.on hB (Nat.le_refl _) (by omega)) (RdVs.cons (by unfold RdC; rfl) (RdVs.cons (by unfold RdC; rfl) (RdVs.cons (by unfold RdC; rfl) (RdVs.cons (by unfold RdC; rfl) (RdVs.cons (by unfold RdC; rfl) (RdVs.cons (by unfold RdC; rfl) (RdVs.nil _ _)))))))))))))))).mono ?_
  rintro e Y1 ⟨rfl, hb⟩
  replace ba := ba.below hb (Nat.le_refl _)
  replace bb := bb.below hb (Nat.le_refl _)
  replace hB := hB.trans (hb.mono (by omega))
  clear hb
  have ba_l := ba.lt
  have bb_l := bb.lt
  go_wp2_with fail
  go_ret
  exact ⟨rfl, hB⟩
theorem eqGenS_of (l : List FGen) (hl : l.length ≤ 1000000000) (he : ∀ x, x ∈ l → EqGen x) : EqGenS l := by
  intro u v w hu hv
  obtain ⟨A, c, rfl⟩ := hu.form
  obtain ⟨A', c', rfl⟩ := hv.form
  have HC := hid hu
  have HD := hid hv
  have hn : l.length ≤ 9223372036854775807 := by omega
  have HE := hid he
  clear he
  clear hu hv
  go_enter Tryz.func39, Tryz.ntmps39
  go_wp2
  go_loopw [5] (fun i wr => ∃ k : Nat, k ≤ l.length ∧ i = .int .i64 k ∧ Below w.heap.size w wr) (fun i _ => l.length - (intOf i).toNat)
  case atStart => exact ⟨0, Nat.zero_le _, rfl, Below.refl _ _⟩
  case round =>
    obtain ⟨k, hk, rfl, hb⟩ := hrel
    by_cases hlt : k < l.length
    · obtain ⟨x, hx⟩ : ∃ x, l[k]? = some x := ⟨_, List.getElem?_eq_getElem hlt⟩
      obtain ⟨bc, offc, vs, rfl, hblc, hvl, hva, hra⟩ := RdC.elem FGen.len HC.out hx
      obtain ⟨bd, offd, us, rfl, hbld, hul, hvb, hrb⟩ := RdC.elem FGen.len HD.out hx
      have HE2 := hid (HE.out x (List.mem_of_getElem? hx))
      clear hx
      have hbd : Below w.heap.size w wr.drew := hb.drew
      have hra0 := range_below hra hb hblc
      have hrb0 := range_below hrb hb hbld
      have hlt2 : (k : Int) < (l.length : Int) := by omega
      have hk0 : (0 : Int) ≤ (k : Int) := by omega
      go_wp2_with fail
      refine wp_region_still_tail 8 (by kernel_rfl) (by kernel_rfl) ?_
      simp only [List.take_succ_cons, List.take_zero, List.drop_succ_cons, List.drop_zero]
      iterate 3 still_step
      refine wpStill_load_elem 93 _ bc (offc + k * 19) vs (.struct (flds Tryz.prog 93)) hra0 rfl rfl (by kernel_rfl) rfl hvl (by kernel_rfl) rfl ?_
      iterate 3 still_step
      refine wpStill_load_elem 93 _ bd (offd + k * 19) us (.struct (flds Tryz.prog 93)) hrb0 rfl rfl (by kernel_rfl) rfl hul (by kernel_rfl) rfl ?_
      refine wpStill_nil ?_
      have hra1 := range_below hra hbd hblc
      have hrb1 := range_below hrb hbd hbld
      have hv1 := hva.on hbd (Nat.le_refl _) hbd.size
      have hv2 := hvb.on hbd (Nat.le_refl _) hbd.size
      change wpList _ _ _ _ _ wr.drew
      clear hra hrb hva hvb
      generalize wr.drew = wd at *
      have HRA := hid hra1
      have HRB := hid hrb1
      have HV1 := hid hv1
      have HV2 := hid hv2
      clear hra1 hrb1 hv1 hv2
      go_wp2_with (first | (refine wpList_load_elem 93 _ bc (offc + k * 19) vs (.struct (flds Tryz.prog 93)) HRA.out rfl rfl (by kernel_rfl) rfl hvl (by kernel_rfl) rfl ?_) | (refine wpList_load_elem 93 _ bd (offd + k * 19) us (.struct (flds Tryz.prog 93)) HRB.out rfl rfl (by kernel_rfl) rfl hul (by kernel_rfl) rfl ?_) | (go_at_call 77; refine (HE2.out vs us _ HV1.out HV2.out).mono ?_; rintro e w2 ⟨rfl, hb2⟩))
      go_roundw
      case rel => exact ⟨k + 1, by omega, by go_num, hbd.trans (hb2.mono hbd.size)⟩
      case measure => simp [intOf]; omega
    · obtain rfl : k = l.length := by omega
      clear hlt
      go_wp2_with fail
      go_ret
      exact ⟨rfl, hb⟩
theorem eqGen_any (x : FGen) (hw : x.wt ≤ 1000000000) : EqGen x := by
  obtain ⟨z0, ⟨z1, z2, z3, z4, z5⟩, ⟨z6, z7, z8, z9, z10, z11, z12, z13, z14, z15, z16, z17, z18⟩⟩ := x
  exact eqGen_of z0 z1 z2 z3 z4 z5 z6 z7 z8 z9 z10 z11 z12 z13 z14 z15 z16 z17 z18 (eqValue_any _ (by rw [FGen.wt_eq] at hw; rw [FValue.wt_eq]; omega)) (eqFrame_any _ (by rw [FGen.wt_eq] at hw; rw [FFrame.wt_eq]; omega))
theorem eqGenS_any (l : List FGen) (hw : l.length + FGen.wts l ≤ 1000000000) : EqGenS l := (eqGenS_of l (by omega) (fun x hx => eqGen_any x (by have := FGen.wts_at l x hx; omega)))
def EqHeader (x : FHeader) : Prop := ∀ (us vs : List Value) (w : World), RdVs w w.heap.size x.c us → RdVs w w.heap.size x.c vs → Calls Tryz.prog 114 #[.agg us.toArray, .agg vs.toArray] w fun e w' => e = .returned (.bool true) ∧ Below w.heap.size w w'
def EqHeaderS (l : List FHeader) : Prop := ∀ (u v : Value) (w : World), RdC w w.heap.size (.s 208 2 l.length (FHeader.flat l)) u → RdC w w.heap.size (.s 208 2 l.length (FHeader.flat l)) v → Calls Tryz.prog 79 #[u, v] w fun e w' => e = .returned (.bool true) ∧ Below w.heap.size w w'
theorem eqHeader_of (z0 : ByteArray) (z1 : ByteArray)  : EqHeader ⟨z0, z1⟩ := by
  intro us vs w hr hs
  rw [FHeader.c_eq] at hr hs
  obtain ⟨us0, rfl, hr_0⟩ := hr.unv
  obtain ⟨us1, rfl, hr_1⟩ := hr_0.unv
  obtain rfl := hr_1.un0
  obtain ⟨vs0, rfl, hs_0⟩ := hs.unv
  obtain ⟨vs1, rfl, hs_1⟩ := hs_0.unv
  obtain rfl := hs_1.un0
  clear hr hs hr_0 hs_0 hr_1 hs_1
  go_enter Tryz.func114, Tryz.ntmps114
  go_wp2_with fail
  go_ret
  exact ⟨rfl, by repeat (first | exact Below.refl _ _ | (refine Below.alloc ?_ (by simp; try omega) _))⟩
theorem eqHeaderS_of (l : List FHeader) (hl : l.length ≤ 1000000000) (he : ∀ x, x ∈ l → EqHeader x) : EqHeaderS l := by
  intro u v w hu hv
  obtain ⟨A, c, rfl⟩ := hu.form
  obtain ⟨A', c', rfl⟩ := hv.form
  have HC := hid hu
  have HD := hid hv
  have hn : l.length ≤ 9223372036854775807 := by omega
  have HE := hid he
  clear he
  clear hu hv
  go_enter Tryz.func79, Tryz.ntmps79
  go_wp2
  go_loopw [5] (fun i wr => ∃ k : Nat, k ≤ l.length ∧ i = .int .i64 k ∧ Below w.heap.size w wr) (fun i _ => l.length - (intOf i).toNat)
  case atStart => exact ⟨0, Nat.zero_le _, rfl, Below.refl _ _⟩
  case round =>
    obtain ⟨k, hk, rfl, hb⟩ := hrel
    by_cases hlt : k < l.length
    · obtain ⟨x, hx⟩ : ∃ x, l[k]? = some x := ⟨_, List.getElem?_eq_getElem hlt⟩
      obtain ⟨bc, offc, vs, rfl, hblc, hvl, hva, hra⟩ := RdC.elem FHeader.len HC.out hx
      obtain ⟨bd, offd, us, rfl, hbld, hul, hvb, hrb⟩ := RdC.elem FHeader.len HD.out hx
      have HE2 := hid (HE.out x (List.mem_of_getElem? hx))
      clear hx
      have hbd : Below w.heap.size w wr.drew := hb.drew
      have hra0 := range_below hra hb hblc
      have hrb0 := range_below hrb hb hbld
      have hlt2 : (k : Int) < (l.length : Int) := by omega
      have hk0 : (0 : Int) ≤ (k : Int) := by omega
      go_wp2_with fail
      refine wp_region_still_tail 8 (by kernel_rfl) (by kernel_rfl) ?_
      simp only [List.take_succ_cons, List.take_zero, List.drop_succ_cons, List.drop_zero]
      iterate 3 still_step
      refine wpStill_load_elem 208 _ bc (offc + k * 2) vs (.struct (flds Tryz.prog 208)) hra0 rfl rfl (by kernel_rfl) rfl hvl (by kernel_rfl) rfl ?_
      iterate 3 still_step
      refine wpStill_load_elem 208 _ bd (offd + k * 2) us (.struct (flds Tryz.prog 208)) hrb0 rfl rfl (by kernel_rfl) rfl hul (by kernel_rfl) rfl ?_
      refine wpStill_nil ?_
      have hra1 := range_below hra hbd hblc
      have hrb1 := range_below hrb hbd hbld
      have hv1 := hva.on hbd (Nat.le_refl _) hbd.size
      have hv2 := hvb.on hbd (Nat.le_refl _) hbd.size
      change wpList _ _ _ _ _ wr.drew
      clear hra hrb hva hvb
      generalize wr.drew = wd at *
      have HRA := hid hra1
      have HRB := hid hrb1
      have HV1 := hid hv1
      have HV2 := hid hv2
      clear hra1 hrb1 hv1 hv2
      go_wp2_with (first | (refine wpList_load_elem 208 _ bc (offc + k * 2) vs (.struct (flds Tryz.prog 208)) HRA.out rfl rfl (by kernel_rfl) rfl hvl (by kernel_rfl) rfl ?_) | (refine wpList_load_elem 208 _ bd (offd + k * 2) us (.struct (flds Tryz.prog 208)) HRB.out rfl rfl (by kernel_rfl) rfl hul (by kernel_rfl) rfl ?_) | (go_at_call 114; refine (HE2.out vs us _ HV1.out HV2.out).mono ?_; rintro e w2 ⟨rfl, hb2⟩))
      go_roundw
      case rel => exact ⟨k + 1, by omega, by go_num, hbd.trans (hb2.mono hbd.size)⟩
      case measure => simp [intOf]; omega
    · obtain rfl : k = l.length := by omega
      clear hlt
      go_wp2_with fail
      go_ret
      exact ⟨rfl, hb⟩
theorem eqHeader_any (x : FHeader) (hw : x.wt ≤ 1000000000) : EqHeader x := by
  obtain ⟨z0, z1⟩ := x
  exact eqHeader_of z0 z1 
theorem eqHeaderS_any (l : List FHeader) (hw : l.length + FHeader.wts l ≤ 1000000000) : EqHeaderS l := (eqHeaderS_of l (by omega) (fun x hx => eqHeader_any x (by have := FHeader.wts_at l x hx; omega)))
def EqBuffer (x : FBuffer) : Prop := ∀ (us vs : List Value) (w : World), RdVs w w.heap.size x.c us → RdVs w w.heap.size x.c vs → Calls Tryz.prog 115 #[.agg us.toArray, .agg vs.toArray] w fun e w' => e = .returned (.bool true) ∧ Below w.heap.size w w'
def EqBufferS (l : List FBuffer) : Prop := ∀ (u v : Value) (w : World), RdC w w.heap.size (.s 210 2 l.length (FBuffer.flat l)) u → RdC w w.heap.size (.s 210 2 l.length (FBuffer.flat l)) v → Calls Tryz.prog 80 #[u, v] w fun e w' => e = .returned (.bool true) ∧ Below w.heap.size w w'
theorem eqBuffer_of (z0 : Int) (z1 : ByteArray)  : EqBuffer ⟨z0, z1⟩ := by
  intro us vs w hr hs
  rw [FBuffer.c_eq] at hr hs
  obtain ⟨us0, rfl, hr_0⟩ := hr.unv
  obtain ⟨us1, rfl, hr_1⟩ := hr_0.unv
  obtain rfl := hr_1.un0
  obtain ⟨vs0, rfl, hs_0⟩ := hs.unv
  obtain ⟨vs1, rfl, hs_1⟩ := hs_0.unv
  obtain rfl := hs_1.un0
  clear hr hs hr_0 hs_0 hr_1 hs_1
  go_enter Tryz.func115, Tryz.ntmps115
  go_wp2_with fail
  go_ret
  exact ⟨rfl, by repeat (first | exact Below.refl _ _ | (refine Below.alloc ?_ (by simp; try omega) _))⟩
theorem eqBufferS_of (l : List FBuffer) (hl : l.length ≤ 1000000000) (he : ∀ x, x ∈ l → EqBuffer x) : EqBufferS l := by
  intro u v w hu hv
  obtain ⟨A, c, rfl⟩ := hu.form
  obtain ⟨A', c', rfl⟩ := hv.form
  have HC := hid hu
  have HD := hid hv
  have hn : l.length ≤ 9223372036854775807 := by omega
  have HE := hid he
  clear he
  clear hu hv
  go_enter Tryz.func80, Tryz.ntmps80
  go_wp2
  go_loopw [5] (fun i wr => ∃ k : Nat, k ≤ l.length ∧ i = .int .i64 k ∧ Below w.heap.size w wr) (fun i _ => l.length - (intOf i).toNat)
  case atStart => exact ⟨0, Nat.zero_le _, rfl, Below.refl _ _⟩
  case round =>
    obtain ⟨k, hk, rfl, hb⟩ := hrel
    by_cases hlt : k < l.length
    · obtain ⟨x, hx⟩ : ∃ x, l[k]? = some x := ⟨_, List.getElem?_eq_getElem hlt⟩
      obtain ⟨bc, offc, vs, rfl, hblc, hvl, hva, hra⟩ := RdC.elem FBuffer.len HC.out hx
      obtain ⟨bd, offd, us, rfl, hbld, hul, hvb, hrb⟩ := RdC.elem FBuffer.len HD.out hx
      have HE2 := hid (HE.out x (List.mem_of_getElem? hx))
      clear hx
      have hbd : Below w.heap.size w wr.drew := hb.drew
      have hra0 := range_below hra hb hblc
      have hrb0 := range_below hrb hb hbld
      have hlt2 : (k : Int) < (l.length : Int) := by omega
      have hk0 : (0 : Int) ≤ (k : Int) := by omega
      go_wp2_with fail
      refine wp_region_still_tail 8 (by kernel_rfl) (by kernel_rfl) ?_
      simp only [List.take_succ_cons, List.take_zero, List.drop_succ_cons, List.drop_zero]
      iterate 3 still_step
      refine wpStill_load_elem 210 _ bc (offc + k * 2) vs (.struct (flds Tryz.prog 210)) hra0 rfl rfl (by kernel_rfl) rfl hvl (by kernel_rfl) rfl ?_
      iterate 3 still_step
      refine wpStill_load_elem 210 _ bd (offd + k * 2) us (.struct (flds Tryz.prog 210)) hrb0 rfl rfl (by kernel_rfl) rfl hul (by kernel_rfl) rfl ?_
      refine wpStill_nil ?_
      have hra1 := range_below hra hbd hblc
      have hrb1 := range_below hrb hbd hbld
      have hv1 := hva.on hbd (Nat.le_refl _) hbd.size
      have hv2 := hvb.on hbd (Nat.le_refl _) hbd.size
      change wpList _ _ _ _ _ wr.drew
      clear hra hrb hva hvb
      generalize wr.drew = wd at *
      have HRA := hid hra1
      have HRB := hid hrb1
      have HV1 := hid hv1
      have HV2 := hid hv2
      clear hra1 hrb1 hv1 hv2
      go_wp2_with (first | (refine wpList_load_elem 210 _ bc (offc + k * 2) vs (.struct (flds Tryz.prog 210)) HRA.out rfl rfl (by kernel_rfl) rfl hvl (by kernel_rfl) rfl ?_) | (refine wpList_load_elem 210 _ bd (offd + k * 2) us (.struct (flds Tryz.prog 210)) HRB.out rfl rfl (by kernel_rfl) rfl hul (by kernel_rfl) rfl ?_) | (go_at_call 115; refine (HE2.out vs us _ HV1.out HV2.out).mono ?_; rintro e w2 ⟨rfl, hb2⟩))
      go_roundw
      case rel => exact ⟨k + 1, by omega, by go_num, hbd.trans (hb2.mono hbd.size)⟩
      case measure => simp [intOf]; omega
    · obtain rfl : k = l.length := by omega
      clear hlt
      go_wp2_with fail
      go_ret
      exact ⟨rfl, hb⟩
theorem eqBuffer_any (x : FBuffer) (hw : x.wt ≤ 1000000000) : EqBuffer x := by
  obtain ⟨z0, z1⟩ := x
  exact eqBuffer_of z0 z1 
theorem eqBufferS_any (l : List FBuffer) (hw : l.length + FBuffer.wts l ≤ 1000000000) : EqBufferS l := (eqBufferS_of l (by omega) (fun x hx => eqBuffer_any x (by have := FBuffer.wts_at l x hx; omega)))
def EqOutput (x : FOutput) : Prop := ∀ (us vs : List Value) (w : World), RdVs w w.heap.size x.c us → RdVs w w.heap.size x.c vs → Calls Tryz.prog 41 #[.agg us.toArray, .agg vs.toArray] w fun e w' => e = .returned (.bool true) ∧ Below w.heap.size w w'
theorem eqOutput_of (z0 : ByteArray) (z1 : List FHeader) (z2 : List FBuffer) (h1 : EqHeaderS z1) (h2 : EqBufferS z2) : EqOutput ⟨z0, z1, z2⟩ := by
  intro us vs w hr hs
  rw [FOutput.c_eq] at hr hs
  obtain ⟨us0, rfl, hr_0⟩ := hr.unv
  obtain ⟨A1, c1, us1, rfl, r1, hr_1⟩ := hr_0.uns
  obtain ⟨A2, c2, us2, rfl, r2, hr_2⟩ := hr_1.uns
  obtain rfl := hr_2.un0
  obtain ⟨vs0, rfl, hs_0⟩ := hs.unv
  obtain ⟨B1, d1, vs1, rfl, t1, hs_1⟩ := hs_0.uns
  obtain ⟨B2, d2, vs2, rfl, t2, hs_2⟩ := hs_1.uns
  obtain rfl := hs_2.un0
  clear hr hs hr_0 hs_0 hr_1 hs_1 hr_2 hs_2
  have R1 := hid r1
  have T1 := hid t1
  clear r1 t1
  have R2 := hid r2
  have T2 := hid t2
  clear r2 t2
  have H1 := hid h1
  clear h1
  have H2 := hid h2
  clear h2
  go_enter Tryz.func41, Tryz.ntmps41
  go_wp2_with fail
  refine calls_worldD _ (fun X => Blk X w.heap.size 51 #[.string z0, .slice A1 z1.length c1, .slice A2 z2.length c2] ∧ Blk X (w.heap.size + 1) 51 #[.string z0, .slice B1 z1.length d1, .slice B2 z2.length d2] ∧ Below w.heap.size w X) ⟨(Blk.new w _ _).alloc _, Blk.new' (w.alloc _) _ _ _ (by simp), ((Below.refl _ _).alloc (Nat.le_refl _) _).alloc (by simp) _⟩ ?_
  rintro X0 ⟨ba, bb, hB⟩
  have s0 := bb.lt
  refine (H1.out _ _ _ (R1.out.on hB (Nat.le_refl _) (by omega)) (T1.out.on hB (Nat.le_refl _) (by omega))).mono ?_
  rintro e Y0 ⟨rfl, hb⟩
  replace ba := ba.below hb (Nat.le_refl _)
  replace bb := bb.below hb (Nat.le_refl _)
  replace hB := hB.trans (hb.mono (by omega))
  clear hb
  have ba_2 : Y0.cell? ⟨w.heap.size, 2, none⟩ = some (.slice A2 z2.length c2) := ba.cell 2
  have ba_l := ba.lt
  have bb_2 : Y0.cell? ⟨w.heap.size + 1, 2, none⟩ = some (.slice B2 z2.length d2) := bb.cell 2
  have bb_l := bb.lt
  go_wp2_with fail
  clear ba_2 bb_2 ba_l bb_l
  refine calls_worldD _ (fun X => Blk X w.heap.size 51 #[.string z0, .slice A1 z1.length c1, .slice A2 z2.length c2] ∧ Blk X (w.heap.size + 1) 51 #[.string z0, .slice B1 z1.length d1, .slice B2 z2.length d2] ∧ Below w.heap.size w X) ⟨ba, bb, hB⟩ ?_
  clear ba bb hB
  rintro X1 ⟨ba, bb, hB⟩
  have s1 := bb.lt
  refine (H2.out _ _ _ (R2.out.on hB (Nat.le_refl _) (by omega)) (T2.out.on hB (Nat.le_refl _) (by omega))).mono ?_
  rintro e Y1 ⟨rfl, hb⟩
  replace ba := ba.below hb (Nat.le_refl _)
  replace bb := bb.below hb (Nat.le_refl _)
  replace hB := hB.trans (hb.mono (by omega))
  clear hb
  have ba_l := ba.lt
  have bb_l := bb.lt
  go_wp2_with fail
  go_ret
  exact ⟨rfl, hB⟩
theorem eqOutput_any (x : FOutput) (hw : x.wt ≤ 1000000000) : EqOutput x := by
  obtain ⟨z0, z1, z2⟩ := x
  exact eqOutput_of z0 z1 z2 (eqHeaderS_any z1 (by rw [FOutput.wt_eq] at hw; omega)) (eqBufferS_any z2 (by rw [FOutput.wt_eq] at hw; omega))
def EqMachine (x : FMachine) : Prop := ∀ (us vs : List Value) (w : World), RdVs w w.heap.size x.c us → RdVs w w.heap.size x.c vs → Calls Tryz.prog 9 #[.agg us.toArray, .agg vs.toArray] w fun e w' => e = .returned (.bool true) ∧ Below w.heap.size w w'
theorem eqMachine_of (z0 : Int) (z1 : ByteArray) (z2 : Int) (z3 : Int) (z4 : List FValue) (z5 : List FPlace) (z6 : List FBlock) (z7 : List FObject) (z8 : List FClosure) (z9 : List FGen) (z10 : List FFrame) (z11 : ByteArray) (z12 : List FHeader) (z13 : List FBuffer) (h4 : EqValueS z4) (h5 : EqPlaceS z5) (h6 : EqHeap ⟨z6⟩) (h7 : EqObjectS z7) (h8 : EqClosureS z8) (h9 : EqGenS z9) (h10 : EqFrameS z10) (h11 : EqOutput ⟨z11, z12, z13⟩) : EqMachine ⟨z0, z1, z2, z3, z4, z5, ⟨z6⟩, z7, z8, z9, z10, ⟨z11, z12, z13⟩⟩ := by
  intro us vs w hr hs
  rw [FMachine.c_eq] at hr hs
  obtain ⟨us0, rfl, hr_0⟩ := hr.unv
  obtain ⟨us1, rfl, hr_1⟩ := hr_0.unv
  obtain ⟨us2, rfl, hr_2⟩ := hr_1.unv
  obtain ⟨us3, rfl, hr_3⟩ := hr_2.unv
  obtain ⟨A4, c4, us4, rfl, r4, hr_4⟩ := hr_3.uns
  obtain ⟨A5, c5, us5, rfl, r5, hr_5⟩ := hr_4.uns
  obtain ⟨A6, c6, us6, rfl, r6, hr_6⟩ := hr_5.uns
  obtain ⟨A7, c7, us7, rfl, r7, hr_7⟩ := hr_6.uns
  obtain ⟨A8, c8, us8, rfl, r8, hr_8⟩ := hr_7.uns
  obtain ⟨A9, c9, us9, rfl, r9, hr_9⟩ := hr_8.uns
  obtain ⟨A10, c10, us10, rfl, r10, hr_10⟩ := hr_9.uns
  obtain ⟨us11, rfl, hr_11⟩ := hr_10.unv
  obtain ⟨A12, c12, us12, rfl, r12, hr_12⟩ := hr_11.uns
  obtain ⟨A13, c13, us13, rfl, r13, hr_13⟩ := hr_12.uns
  obtain rfl := hr_13.un0
  obtain ⟨vs0, rfl, hs_0⟩ := hs.unv
  obtain ⟨vs1, rfl, hs_1⟩ := hs_0.unv
  obtain ⟨vs2, rfl, hs_2⟩ := hs_1.unv
  obtain ⟨vs3, rfl, hs_3⟩ := hs_2.unv
  obtain ⟨B4, d4, vs4, rfl, t4, hs_4⟩ := hs_3.uns
  obtain ⟨B5, d5, vs5, rfl, t5, hs_5⟩ := hs_4.uns
  obtain ⟨B6, d6, vs6, rfl, t6, hs_6⟩ := hs_5.uns
  obtain ⟨B7, d7, vs7, rfl, t7, hs_7⟩ := hs_6.uns
  obtain ⟨B8, d8, vs8, rfl, t8, hs_8⟩ := hs_7.uns
  obtain ⟨B9, d9, vs9, rfl, t9, hs_9⟩ := hs_8.uns
  obtain ⟨B10, d10, vs10, rfl, t10, hs_10⟩ := hs_9.uns
  obtain ⟨vs11, rfl, hs_11⟩ := hs_10.unv
  obtain ⟨B12, d12, vs12, rfl, t12, hs_12⟩ := hs_11.uns
  obtain ⟨B13, d13, vs13, rfl, t13, hs_13⟩ := hs_12.uns
  obtain rfl := hs_13.un0
  clear hr hs hr_0 hs_0 hr_1 hs_1 hr_2 hs_2 hr_3 hs_3 hr_4 hs_4 hr_5 hs_5 hr_6 hs_6 hr_7 hs_7 hr_8 hs_8 hr_9 hs_9 hr_10 hs_10 hr_11 hs_11 hr_12 hs_12 hr_13 hs_13
  have R4 := hid r4
  have T4 := hid t4
  clear r4 t4
  have R5 := hid r5
  have T5 := hid t5
  clear r5 t5
  have R6 := hid r6
  have T6 := hid t6
  clear r6 t6
  have R7 := hid r7
  have T7 := hid t7
  clear r7 t7
  have R8 := hid r8
  have T8 := hid t8
  clear r8 t8
  have R9 := hid r9
  have T9 := hid t9
  clear r9 t9
  have R10 := hid r10
  have T10 := hid t10
  clear r10 t10
  have R12 := hid r12
  have T12 := hid t12
  clear r12 t12
  have R13 := hid r13
  have T13 := hid t13
  clear r13 t13
  have H4 := hid h4
  clear h4
  have H5 := hid h5
  clear h5
  have H6 := hid h6
  clear h6
  have H7 := hid h7
  clear h7
  have H8 := hid h8
  clear h8
  have H9 := hid h9
  clear h9
  have H10 := hid h10
  clear h10
  have H11 := hid h11
  clear h11
  go_enter Tryz.func9, Tryz.ntmps9
  go_wp2_with fail
  refine calls_worldD _ (fun X => Blk X w.heap.size 53 #[.int .i64 z0, .string z1, .int .i64 z2, .int .i64 z3, .slice A4 z4.length c4, .slice A5 z5.length c5, .slice A6 z6.length c6, .slice A7 z7.length c7, .slice A8 z8.length c8, .slice A9 z9.length c9, .slice A10 z10.length c10, .string z11, .slice A12 z12.length c12, .slice A13 z13.length c13] ∧ Blk X (w.heap.size + 1) 53 #[.int .i64 z0, .string z1, .int .i64 z2, .int .i64 z3, .slice B4 z4.length d4, .slice B5 z5.length d5, .slice B6 z6.length d6, .slice B7 z7.length d7, .slice B8 z8.length d8, .slice B9 z9.length d9, .slice B10 z10.length d10, .string z11, .slice B12 z12.length d12, .slice B13 z13.length d13] ∧ Below w.heap.size w X) ⟨(Blk.new w _ _).alloc _, Blk.new' (w.alloc _) _ _ _ (by simp), ((Below.refl _ _).alloc (Nat.le_refl _) _).alloc (by simp) _⟩ ?_
  rintro X0 ⟨ba, bb, hB⟩
  have s0 := bb.lt
  refine (H4.out _ _ _ (R4.out.on hB (Nat.le_refl _) (by omega)) (T4.out.on hB (Nat.le_refl _) (by omega))).mono ?_
  rintro e Y0 ⟨rfl, hb⟩
  replace ba := ba.below hb (Nat.le_refl _)
  replace bb := bb.below hb (Nat.le_refl _)
  replace hB := hB.trans (hb.mono (by omega))
  clear hb
  have ba_5 : Y0.cell? ⟨w.heap.size, 5, none⟩ = some (.slice A5 z5.length c5) := ba.cell 5
  have ba_l := ba.lt
  have bb_5 : Y0.cell? ⟨w.heap.size + 1, 5, none⟩ = some (.slice B5 z5.length d5) := bb.cell 5
  have bb_l := bb.lt
  go_wp2_with fail
  clear ba_5 bb_5 ba_l bb_l
  refine calls_worldD _ (fun X => Blk X w.heap.size 53 #[.int .i64 z0, .string z1, .int .i64 z2, .int .i64 z3, .slice A4 z4.length c4, .slice A5 z5.length c5, .slice A6 z6.length c6, .slice A7 z7.length c7, .slice A8 z8.length c8, .slice A9 z9.length c9, .slice A10 z10.length c10, .string z11, .slice A12 z12.length c12, .slice A13 z13.length c13] ∧ Blk X (w.heap.size + 1) 53 #[.int .i64 z0, .string z1, .int .i64 z2, .int .i64 z3, .slice B4 z4.length d4, .slice B5 z5.length d5, .slice B6 z6.length d6, .slice B7 z7.length d7, .slice B8 z8.length d8, .slice B9 z9.length d9, .slice B10 z10.length d10, .string z11, .slice B12 z12.length d12, .slice B13 z13.length d13] ∧ Below w.heap.size w X) ⟨ba, bb, hB⟩ ?_
  clear ba bb hB
  rintro X1 ⟨ba, bb, hB⟩
  have s1 := bb.lt
  refine (H5.out _ _ _ (R5.out.on hB (Nat.le_refl _) (by omega)) (T5.out.on hB (Nat.le_refl _) (by omega))).mono ?_
  rintro e Y1 ⟨rfl, hb⟩
  replace ba := ba.below hb (Nat.le_refl _)
  replace bb := bb.below hb (Nat.le_refl _)
  replace hB := hB.trans (hb.mono (by omega))
  clear hb
  have ba_6 : Y1.cell? ⟨w.heap.size, 6, none⟩ = some (.slice A6 z6.length c6) := ba.cell 6
  have ba_l := ba.lt
  have bb_6 : Y1.cell? ⟨w.heap.size + 1, 6, none⟩ = some (.slice B6 z6.length d6) := bb.cell 6
  have bb_l := bb.lt
  go_wp2_with fail
  clear ba_6 bb_6 ba_l bb_l
  refine calls_worldD _ (fun X => Blk X w.heap.size 53 #[.int .i64 z0, .string z1, .int .i64 z2, .int .i64 z3, .slice A4 z4.length c4, .slice A5 z5.length c5, .slice A6 z6.length c6, .slice A7 z7.length c7, .slice A8 z8.length c8, .slice A9 z9.length c9, .slice A10 z10.length c10, .string z11, .slice A12 z12.length c12, .slice A13 z13.length c13] ∧ Blk X (w.heap.size + 1) 53 #[.int .i64 z0, .string z1, .int .i64 z2, .int .i64 z3, .slice B4 z4.length d4, .slice B5 z5.length d5, .slice B6 z6.length d6, .slice B7 z7.length d7, .slice B8 z8.length d8, .slice B9 z9.length d9, .slice B10 z10.length d10, .string z11, .slice B12 z12.length d12, .slice B13 z13.length d13] ∧ Below w.heap.size w X) ⟨ba, bb, hB⟩ ?_
  clear ba bb hB
  rintro X2 ⟨ba, bb, hB⟩
  have s2 := bb.lt
  refine (H6.out [.slice A6 z6.length c6] [.slice B6 z6.length d6] _ (by rw [FHeap.c_eq]; exact (RdVs.cons (R6.out.on hB (Nat.le_refl _) (by omega)) (RdVs.nil _ _))) (by rw [FHeap.c_eq]; exact (RdVs.cons (T6.out.on hB (Nat.le_refl _) (by omega)) (RdVs.nil _ _)))).mono ?_
  rintro e Y2 ⟨rfl, hb⟩
  replace ba := ba.below hb (Nat.le_refl _)
  replace bb := bb.below hb (Nat.le_refl _)
  replace hB := hB.trans (hb.mono (by omega))
  clear hb
  have ba_7 : Y2.cell? ⟨w.heap.size, 7, none⟩ = some (.slice A7 z7.length c7) := ba.cell 7
  have ba_l := ba.lt
  have bb_7 : Y2.cell? ⟨w.heap.size + 1, 7, none⟩ = some (.slice B7 z7.length d7) := bb.cell 7
  have bb_l := bb.lt
  go_wp2_with fail
  clear ba_7 bb_7 ba_l bb_l
  refine calls_worldD _ (fun X => Blk X w.heap.size 53 #[.int .i64 z0, .string z1, .int .i64 z2, .int .i64 z3, .slice A4 z4.length c4, .slice A5 z5.length c5, .slice A6 z6.length c6, .slice A7 z7.length c7, .slice A8 z8.length c8, .slice A9 z9.length c9, .slice A10 z10.length c10, .string z11, .slice A12 z12.length c12, .slice A13 z13.length c13] ∧ Blk X (w.heap.size + 1) 53 #[.int .i64 z0, .string z1, .int .i64 z2, .int .i64 z3, .slice B4 z4.length d4, .slice B5 z5.length d5, .slice B6 z6.length d6, .slice B7 z7.length d7, .slice B8 z8.length d8, .slice B9 z9.length d9, .slice B10 z10.length d10, .string z11, .slice B12 z12.length d12, .slice B13 z13.length d13] ∧ Below w.heap.size w X) ⟨ba, bb, hB⟩ ?_
  clear ba bb hB
  rintro X3 ⟨ba, bb, hB⟩
  have s3 := bb.lt
  refine (H7.out _ _ _ (R7.out.on hB (Nat.le_refl _) (by omega)) (T7.out.on hB (Nat.le_refl _) (by omega))).mono ?_
  rintro e Y3 ⟨rfl, hb⟩
  replace ba := ba.below hb (Nat.le_refl _)
  replace bb := bb.below hb (Nat.le_refl _)
  replace hB := hB.trans (hb.mono (by omega))
  clear hb
  have ba_8 : Y3.cell? ⟨w.heap.size, 8, none⟩ = some (.slice A8 z8.length c8) := ba.cell 8
  have ba_l := ba.lt
  have bb_8 : Y3.cell? ⟨w.heap.size + 1, 8, none⟩ = some (.slice B8 z8.length d8) := bb.cell 8
  have bb_l := bb.lt
  go_wp2_with fail
  clear ba_8 bb_8 ba_l bb_l
  refine calls_worldD _ (fun X => Blk X w.heap.size 53 #[.int .i64 z0, .string z1, .int .i64 z2, .int .i64 z3, .slice A4 z4.length c4, .slice A5 z5.length c5, .slice A6 z6.length c6, .slice A7 z7.length c7, .slice A8 z8.length c8, .slice A9 z9.length c9, .slice A10 z10.length c10, .string z11, .slice A12 z12.length c12, .slice A13 z13.length c13] ∧ Blk X (w.heap.size + 1) 53 #[.int .i64 z0, .string z1, .int .i64 z2, .int .i64 z3, .slice B4 z4.length d4, .slice B5 z5.length d5, .slice B6 z6.length d6, .slice B7 z7.length d7, .slice B8 z8.length d8, .slice B9 z9.length d9, .slice B10 z10.length d10, .string z11, .slice B12 z12.length d12, .slice B13 z13.length d13] ∧ Below w.heap.size w X) ⟨ba, bb, hB⟩ ?_
  clear ba bb hB
  rintro X4 ⟨ba, bb, hB⟩
  have s4 := bb.lt
  refine (H8.out _ _ _ (R8.out.on hB (Nat.le_refl _) (by omega)) (T8.out.on hB (Nat.le_refl _) (by omega))).mono ?_
  rintro e Y4 ⟨rfl, hb⟩
  replace ba := ba.below hb (Nat.le_refl _)
  replace bb := bb.below hb (Nat.le_refl _)
  replace hB := hB.trans (hb.mono (by omega))
  clear hb
  have ba_9 : Y4.cell? ⟨w.heap.size, 9, none⟩ = some (.slice A9 z9.length c9) := ba.cell 9
  have ba_l := ba.lt
  have bb_9 : Y4.cell? ⟨w.heap.size + 1, 9, none⟩ = some (.slice B9 z9.length d9) := bb.cell 9
  have bb_l := bb.lt
  go_wp2_with fail
  clear ba_9 bb_9 ba_l bb_l
  refine calls_worldD _ (fun X => Blk X w.heap.size 53 #[.int .i64 z0, .string z1, .int .i64 z2, .int .i64 z3, .slice A4 z4.length c4, .slice A5 z5.length c5, .slice A6 z6.length c6, .slice A7 z7.length c7, .slice A8 z8.length c8, .slice A9 z9.length c9, .slice A10 z10.length c10, .string z11, .slice A12 z12.length c12, .slice A13 z13.length c13] ∧ Blk X (w.heap.size + 1) 53 #[.int .i64 z0, .string z1, .int .i64 z2, .int .i64 z3, .slice B4 z4.length d4, .slice B5 z5.length d5, .slice B6 z6.length d6, .slice B7 z7.length d7, .slice B8 z8.length d8, .slice B9 z9.length d9, .slice B10 z10.length d10, .string z11, .slice B12 z12.length d12, .slice B13 z13.length d13] ∧ Below w.heap.size w X) ⟨ba, bb, hB⟩ ?_
  clear ba bb hB
  rintro X5 ⟨ba, bb, hB⟩
  have s5 := bb.lt
  refine (H9.out _ _ _ (R9.out.on hB (Nat.le_refl _) (by omega)) (T9.out.on hB (Nat.le_refl _) (by omega))).mono ?_
  rintro e Y5 ⟨rfl, hb⟩
  replace ba := ba.below hb (Nat.le_refl _)
  replace bb := bb.below hb (Nat.le_refl _)
  replace hB := hB.trans (hb.mono (by omega))
  clear hb
  have ba_10 : Y5.cell? ⟨w.heap.size, 10, none⟩ = some (.slice A10 z10.length c10) := ba.cell 10
  have ba_l := ba.lt
  have bb_10 : Y5.cell? ⟨w.heap.size + 1, 10, none⟩ = some (.slice B10 z10.length d10) := bb.cell 10
  have bb_l := bb.lt
  go_wp2_with fail
  clear ba_10 bb_10 ba_l bb_l
  refine calls_worldD _ (fun X => Blk X w.heap.size 53 #[.int .i64 z0, .string z1, .int .i64 z2, .int .i64 z3, .slice A4 z4.length c4, .slice A5 z5.length c5, .slice A6 z6.length c6, .slice A7 z7.length c7, .slice A8 z8.length c8, .slice A9 z9.length c9, .slice A10 z10.length c10, .string z11, .slice A12 z12.length c12, .slice A13 z13.length c13] ∧ Blk X (w.heap.size + 1) 53 #[.int .i64 z0, .string z1, .int .i64 z2, .int .i64 z3, .slice B4 z4.length d4, .slice B5 z5.length d5, .slice B6 z6.length d6, .slice B7 z7.length d7, .slice B8 z8.length d8, .slice B9 z9.length d9, .slice B10 z10.length d10, .string z11, .slice B12 z12.length d12, .slice B13 z13.length d13] ∧ Below w.heap.size w X) ⟨ba, bb, hB⟩ ?_
  clear ba bb hB
  rintro X6 ⟨ba, bb, hB⟩
  have s6 := bb.lt
  refine (H10.out _ _ _ (R10.out.on hB (Nat.le_refl _) (by omega)) (T10.out.on hB (Nat.le_refl _) (by omega))).mono ?_
  rintro e Y6 ⟨rfl, hb⟩
  replace ba := ba.below hb (Nat.le_refl _)
  replace bb := bb.below hb (Nat.le_refl _)
  replace hB := hB.trans (hb.mono (by omega))
  clear hb
  have ba_11 : Y6.cell? ⟨w.heap.size, 11, none⟩ = some (.string z11) := ba.cell 11
  have ba_12 : Y6.cell? ⟨w.heap.size, 12, none⟩ = some (.slice A12 z12.length c12) := ba.cell 12
  have ba_13 : Y6.cell? ⟨w.heap.size, 13, none⟩ = some (.slice A13 z13.length c13) := ba.cell 13
  have ba_l := ba.lt
  have bb_11 : Y6.cell? ⟨w.heap.size + 1, 11, none⟩ = some (.string z11) := bb.cell 11
  have bb_12 : Y6.cell? ⟨w.heap.size + 1, 12, none⟩ = some (.slice B12 z12.length d12) := bb.cell 12
  have bb_13 : Y6.cell? ⟨w.heap.size + 1, 13, none⟩ = some (.slice B13 z13.length d13) := bb.cell 13
  have bb_l := bb.lt
  go_wp2_with fail
  clear ba_11 bb_11 ba_12 bb_12 ba_13 bb_13 ba_l bb_l
  refine calls_worldD _ (fun X => Blk X w.heap.size 53 #[.int .i64 z0, .string z1, .int .i64 z2, .int .i64 z3, .slice A4 z4.length c4, .slice A5 z5.length c5, .slice A6 z6.length c6, .slice A7 z7.length c7, .slice A8 z8.length c8, .slice A9 z9.length c9, .slice A10 z10.length c10, .string z11, .slice A12 z12.length c12, .slice A13 z13.length c13] ∧ Blk X (w.heap.size + 1) 53 #[.int .i64 z0, .string z1, .int .i64 z2, .int .i64 z3, .slice B4 z4.length d4, .slice B5 z5.length d5, .slice B6 z6.length d6, .slice B7 z7.length d7, .slice B8 z8.length d8, .slice B9 z9.length d9, .slice B10 z10.length d10, .string z11, .slice B12 z12.length d12, .slice B13 z13.length d13] ∧ Below w.heap.size w X) ⟨ba, bb, hB⟩ ?_
  clear ba bb hB
  rintro X7 ⟨ba, bb, hB⟩
  have s7 := bb.lt
  refine (H11.out [.string z11, .slice A12 z12.length c12, .slice A13 z13.length c13] [.string z11, .slice B12 z12.length d12, .slice B13 z13.length d13] _ (by rw [FOutput.c_eq]; exact (RdVs.cons (by unfold RdC; rfl) (RdVs.cons (R12.out.on hB (Nat.le_refl _) (by omega)) (RdVs.cons (R13.out.on hB (Nat.le_refl _) (by omega)) (RdVs.nil _ _))))) (by rw [FOutput.c_eq]; exact (RdVs.cons (by unfold RdC; rfl) (RdVs.cons (T12.out.on hB (Nat.le_refl _) (by omega)) (RdVs.cons (T13.out.on hB (Nat.le_refl _) (by omega)) (RdVs.nil _ _)))))).mono ?_
  rintro e Y7 ⟨rfl, hb⟩
  replace ba := ba.below hb (Nat.le_refl _)
  replace bb := bb.below hb (Nat.le_refl _)
  replace hB := hB.trans (hb.mono (by omega))
  clear hb
  have ba_l := ba.lt
  have bb_l := bb.lt
  go_wp2_with fail
  go_ret
  exact ⟨rfl, hB⟩
theorem eqMachine_any (x : FMachine) (hw : x.wt ≤ 1000000000) : EqMachine x := by
  obtain ⟨z0, z1, z2, z3, z4, z5, ⟨z6⟩, z7, z8, z9, z10, ⟨z11, z12, z13⟩⟩ := x
  exact eqMachine_of z0 z1 z2 z3 z4 z5 z6 z7 z8 z9 z10 z11 z12 z13 (eqValueS_any z4 (by rw [FMachine.wt_eq] at hw; omega)) (eqPlaceS_any z5 (by rw [FMachine.wt_eq] at hw; omega)) (eqHeap_any _ (by rw [FMachine.wt_eq] at hw; rw [FHeap.wt_eq]; omega)) (eqObjectS_any z7 (by rw [FMachine.wt_eq] at hw; omega)) (eqClosureS_any z8 (by rw [FMachine.wt_eq] at hw; omega)) (eqGenS_any z9 (by rw [FMachine.wt_eq] at hw; omega)) (eqFrameS_any z10 (by rw [FMachine.wt_eq] at hw; omega)) (eqOutput_any _ (by rw [FMachine.wt_eq] at hw; rw [FOutput.wt_eq]; omega))
end Go.Proofs.YtahgcojmpafefaaGreat
