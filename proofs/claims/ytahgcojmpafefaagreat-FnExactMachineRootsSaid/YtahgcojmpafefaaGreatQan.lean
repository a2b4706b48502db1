/-
  Parts of the proof: ToN. Conditions: none.
-/
import Derived.Test.YtahgcojmpafefaaGreatQad
import Derived.Test.YtahgcojmpafefaaGreatQac
import Derived.Test.YtahgcojmpafefaaGreatQaa
set_option linter.unusedVariables false
set_option linter.unusedSimpArgs false
namespace Go.Proofs.YtahgcojmpafefaaGreat
set_option maxHeartbeats 40000000
open Lib (hid)
open Go.ChangeShapes Go.WideShapes Go.ChangeAt Go.RowKit Go.Deep Go.Joins
open Go.ChangeMaps (open_string shut_string)
set_option maxRecDepth 100000
def ToArg (x : FArg) : Prop := ∀ (us : List Value) (w : World) (B : Nat), B ≤ w.heap.size → RdVs w B x.c us → Calls Tryz.prog 147 #[.agg us.toArray] w fun e w' => ∃ us', e = .returned (.agg us'.toArray) ∧ OwnI w' w.heap.size w'.heap.size x.c us' ∧ Below w.heap.size w w'
def ToArgS (l : List FArg) : Prop := ∀ (u : Value) (w : World) (B : Nat), B ≤ w.heap.size → RdC w B (.s 158 6 l.length (FArg.flat l)) u → Calls Tryz.prog 141 #[u] w fun e w' => ∃ A c, e = .returned (.slice A l.length c) ∧ OwnI w' w.heap.size w'.heap.size [.s 158 6 l.length (FArg.flat l)] [.slice A l.length c] ∧ Below w.heap.size w w'
theorem toArg_of (z0 : Int) (z1 : Int) (z2 : Int) (z3 : ByteArray) (z4 : Int) (z5 : List FEntry) (h1 : ToValue ⟨z1, z2, z3, z4, z5⟩) : ToArg ⟨z0, ⟨z1, z2, z3, z4, z5⟩⟩ := by
  intro us w B hB0 hr
  rw [FArg.c_eq] at hr ⊢
  obtain ⟨us0, rfl, hr_0⟩ := hr.unv
  obtain ⟨us1, rfl, hr_1⟩ := hr_0.unv
  obtain ⟨us2, rfl, hr_2⟩ := hr_1.unv
  obtain ⟨us3, rfl, hr_3⟩ := hr_2.unv
  obtain ⟨us4, rfl, hr_4⟩ := hr_3.unv
  obtain ⟨A5, c5, us5, rfl, r5, hr_5⟩ := hr_4.uns
  obtain rfl := hr_5.un0
  have R5 := hid r5
  clear r5
  have H1 := hid h1
  clear h1
  go_enter Tryz.func147, Tryz.ntmps147
  go_wp2_with fail
  refine calls_worldD _ (fun X => Blk X (w.heap.size) 269 #[.int .i64 z0, .int .i64 z1, .int .i64 z2, .string z3, .int .i64 z4, .slice A5 z5.length c5] ∧ Blk X (w.heap.size + 1) 158 #[.int .i64 0, .int .i64 0, .int .i64 0, .string ⟨#[]⟩, .int .i64 0, .slice none 0 0] ∧ Blk X (w.heap.size + 1 + 1) 158 #[.int .i64 z0, .int .i64 0, .int .i64 0, .string ⟨#[]⟩, .int .i64 0, .slice none 0 0] ∧ Below w.heap.size w X) ⟨((Blk.new w _ _).alloc _).alloc _, (Blk.new' (w.alloc _) _ _ _ (by simp)).alloc _, Blk.new' ((w.alloc _).alloc _) _ _ _ (by simp), ((((Below.refl _ _).alloc (Nat.le_refl _) _).alloc (by simp) _).alloc (by simp; omega) _)⟩ ?_
  rintro X0 ⟨ba, br, bo, hB⟩
  have s0 := bo.lt
  refine (H1.out [.int .i64 z1, .int .i64 z2, .string z3, .int .i64 z4, .slice A5 z5.length c5] _ B (by omega) (by rw [FValue.c_eq]; exact (RdVs.cons (by unfold RdC; rfl) (RdVs.cons (by unfold RdC; rfl) (RdVs.cons (by unfold RdC; rfl) (RdVs.cons (by unfold RdC; rfl) (RdVs.cons (R5.out.below hB hB0) (RdVs.nil _ _)))))))).mono ?_
  rw [FValue.c_eq]
  rintro e Y0 ⟨us_, rfl, own, hb⟩
  have hv := own.vs
  obtain ⟨us_1, rfl, hv_0⟩ := hv.unv
  obtain ⟨us_2, rfl, hv_1⟩ := hv_0.unv
  obtain ⟨us_3, rfl, hv_2⟩ := hv_1.unv
  obtain ⟨us_4, rfl, hv_3⟩ := hv_2.unv
  obtain ⟨D5, d5, us_5, rfl, _, hv_4⟩ := hv_3.uns
  obtain rfl := hv_4.un0
  have o1 := own
  clear own
  replace ba := ba.below hb (Nat.le_refl _)
  replace br := br.below hb (Nat.le_refl _)
  replace bo := bo.below hb (Nat.le_refl _)
  replace hB := hB.trans (hb.mono (by omega))
  have t0 : X0.heap.size ≤ Y0.heap.size := hb.size
  clear hb
  have ba_l := ba.lt
  have ba_f := fun i => ba.frozen i
  have br_0 : Y0.cell? ⟨w.heap.size + 1, 0, none⟩ = some (.int .i64 0) := br.cell 0
  have br_1 : Y0.cell? ⟨w.heap.size + 1, 1, none⟩ = some (.int .i64 0) := br.cell 1
  have br_2 : Y0.cell? ⟨w.heap.size + 1, 2, none⟩ = some (.int .i64 0) := br.cell 2
  have br_3 : Y0.cell? ⟨w.heap.size + 1, 3, none⟩ = some (.string ⟨#[]⟩) := br.cell 3
  have br_4 : Y0.cell? ⟨w.heap.size + 1, 4, none⟩ = some (.int .i64 0) := br.cell 4
  have br_5 : Y0.cell? ⟨w.heap.size + 1, 5, none⟩ = some (.slice none 0 0) := br.cell 5
  have br_l := br.lt
  have br_f := fun i => br.frozen i
  have bo_0 : Y0.cell? ⟨w.heap.size + 1 + 1, 0, none⟩ = some (.int .i64 z0) := bo.cell 0
  have bo_1 : Y0.cell? ⟨w.heap.size + 1 + 1, 1, none⟩ = some (.int .i64 0) := bo.cell 1
  have bo_2 : Y0.cell? ⟨w.heap.size + 1 + 1, 2, none⟩ = some (.int .i64 0) := bo.cell 2
  have bo_3 : Y0.cell? ⟨w.heap.size + 1 + 1, 3, none⟩ = some (.string ⟨#[]⟩) := bo.cell 3
  have bo_4 : Y0.cell? ⟨w.heap.size + 1 + 1, 4, none⟩ = some (.int .i64 0) := bo.cell 4
  have bo_5 : Y0.cell? ⟨w.heap.size + 1 + 1, 5, none⟩ = some (.slice none 0 0) := bo.cell 5
  have bo_l := bo.lt
  have bo_f := fun i => bo.frozen i
  go_wp2_with fail
  skip
  refine bodyPost_ret (v := .agg #[.int .i64 z0, .int .i64 z1, .int .i64 z2, .string z3, .int .i64 z4, .slice D5 z5.length d5]) (by simp [results, Tryz.results147, go_sem, br_0, br_1, br_2, br_3, br_4, br_5, bo_0, bo_1, bo_2, bo_3, bo_4, bo_5, br_l, br_f, bo_l, bo_f]) rfl ⟨_, rfl, ?_, ?_⟩
  · refine OwnI.wide (lo := X0.heap.size) (hi := Y0.heap.size) ?_ (by omega) (by simp)
    repeat (refine OwnI.set ?_ (.inl (by simp; omega)) _)
    exact (OwnI.consv (OwnI.app (m := Y0.heap.size) (hi := Y0.heap.size) o1 (OwnI.wide (lo' := Y0.heap.size) (hi' := Y0.heap.size) (OwnI.nil _ Y0.heap.size Y0.heap.size) (by omega) (by omega)) (Nat.le_refl _) (by omega) (by omega)) _)
  · repeat (refine Below.setCell ?_ (by simp; try omega) _)
    exact hB
theorem oneArg (x : FArg) : ∀ y, y ∈ x.c → ∀ u, y = .v u → u.oneCell' = true := by
  obtain ⟨z0, ⟨z1, z2, z3, z4, z5⟩⟩ := x
  rw [FArg.c_eq]
  intro y hx u hu
  simp only [List.mem_cons, List.not_mem_nil, or_false] at hx
  rcases hx with rfl | rfl | rfl | rfl | rfl | rfl <;> (first | (injection hu with hu; subst hu; rfl) | cases hu)
theorem infoArg : (Tryz.prog.info? 158).map (fun i => (i.zero.map Value.cells, i.size, i.bytes)) = some (some #[.int .i64 0, .int .i64 0, .int .i64 0, .string ByteArray.empty, .int .i64 0, .slice none 0 0], 6, 72) := by kernel_rfl
theorem toArgS_of (l : List FArg) (hl : l.length ≤ 1048576) (he : ∀ x, x ∈ l → ToArg x) : ToArgS l := by
  intro u w B hB0 hr0
  have hr := hr0.up hB0
  clear hr0
  obtain ⟨A, c, rfl⟩ := hr.form
  have HC := hid hr
  have hcap := hr.cap
  have hn : l.length ≤ 9223372036854775807 := by omega
  have hmk := fun W => make_law (P := Tryz.prog) 154 158 _ 6 72 Tryz.underlying154 infoArg l.length (by omega) hn W
  have HE := hid he
  clear he hr hcap
  go_enter Tryz.func141, Tryz.ntmps141
  go_wp2
  go_loopw [4] (fun i wr => ∃ k : Nat, k ≤ l.length ∧ i = .int .i64 k ∧ (∃ us zs, us.length = k * 6 ∧ zs.length = (l.length - k) * 6 ∧ wr.ownsRow w.heap.size 158 6 (.slice (some ⟨w.heap.size, 0, none⟩) l.length l.length) l.length (us ++ zs) ∧ OwnI wr (w.heap.size + 1) wr.heap.size (FArg.flat (l.take k)) us) ∧ Below w.heap.size w wr) (fun i _ => l.length - (intOf i).toNat)
  case atStart => exact ⟨0, Nat.zero_le _, rfl, ⟨[], madeL #[.int .i64 0, .int .i64 0, .int .i64 0, .string ByteArray.empty, .int .i64 0, .slice none 0 0] (l.length * 6), by simp, by simp [madeL, size_madeCells], own_madeL w _ l.length 6 _ rfl (by omega) (by unfold maxLen; omega), OwnI.nil _ _ _⟩, (Below.refl _ _).alloc (Nat.le_refl _) _⟩
  case round =>
    obtain ⟨k, hk, rfl, ⟨us, zs, hus, hzs, hrow, hown⟩, hb⟩ := hrel
    have HROW := hid hrow
    have HOWN := hid hown
    have HUS := hid hus
    have HZS := hid hzs
    have hsz : w.heap.size < wr.heap.size := (hrow.lt _ rfl).2
    clear hmk hrow hown hus hzs
    by_cases hlt : k < l.length
    · obtain ⟨x, hx⟩ : ∃ x, l[k]? = some x := ⟨_, List.getElem?_eq_getElem hlt⟩
      obtain ⟨bc, offc, vs, rfl, hblc, hvl, hv, hra⟩ := RdC.elem FArg.len HC.out hx
      have HX := hid hx
      have HT := hid (HE.out _ (List.mem_of_getElem? hx))
      have HV := hid (hv.on hb (Nat.le_refl _) (Nat.le_refl _))
      have HRA := hid (range_below hra hb hblc)
      have hlt2 : (k : Int) < (l.length : Int) := by omega
      have hk0 : (0 : Int) ≤ (k : Int) := by omega
      have hws := hb.size
      have HB := hid hb
      clear hx hv hra hb
      go_wp2_with (first | (refine wpList_load_elem 269 _ bc (offc + k * 6) vs (.struct (flds Tryz.prog 269)) HRA.out rfl rfl (by kernel_rfl) rfl hvl (by kernel_rfl) rfl ?_) | (go_at_call 147; refine (HT.out vs _ w.heap.size (by omega) HV.out).mono ?_; rintro e w2 ⟨us2, rfl, own2, hb2⟩; have hu2 : us2.length = 6 := own2.vs.1.trans (FArg.len x); have ON2 := hid (OwnL.onecell _ _ _ own2.choose_spec.1 (oneArg x)); have OWN2 := hid own2; have ROW2 := hid (own_below HROW.out hb2 (Nat.le_refl _)); have hsz2 : wr.heap.size ≤ w2.heap.size := hb2.size; have HB2 := hid (HB.out.trans (hb2.mono hws)); have HOWN2 := hid (HOWN.out.below hb2 (Nat.le_refl _)); clear own2 hb2) | (refine wpList_store_elem 158 _ _ (k * 6) us2 ROW2.out rfl rfl rfl hu2 (by omega) (by kernel_rfl) ON2.out rfl ?_; intro w3 row3 gr3; have ROW3 := hid row3; have GR3 := hid gr3; have hsz3 := gr3.size; clear row3 gr3))
      go_roundw
      case rel =>
        have hflat : FArg.flat (l.take (k + 1)) = FArg.flat (l.take k) ++ x.c := by
          rw [List.take_add_one, HX.out]
          simp
        have hset := sets_app us2 us zs (k * 6) HUS.out (by rw [HZS.out, hu2]; omega)
        refine ⟨k + 1, by omega, by go_num, ⟨us ++ us2, zs.drop 6, by rw [List.length_append, HUS.out, hu2]; omega, by rw [List.length_drop, HZS.out]; omega, ?_, ?_⟩, below_grownB HB2.out GR3.out (by omega) (Nat.le_refl _)⟩
        · have hr3 := ROW3.out
          rw [hset, hu2] at hr3
          exact hr3
        · rw [hflat]
          exact ((OwnI.app (m := wr.heap.size) (lo' := wr.heap.size) (hi := w2.heap.size) HOWN2.out OWN2.out (Nat.le_refl _) (by omega) (by omega)).grownB GR3.out (.inl (by omega))).wide (Nat.le_refl _) hsz3
      case measure => simp [intOf]; omega
    · obtain rfl : k = l.length := by omega
      clear hlt
      go_wp2_with fail
      go_ret
      have hz0 : zs = [] := List.eq_nil_of_length_eq_zero (by rw [HZS.out]; simp)
      have hr1 := HROW.out
      have ho1 := HOWN.out
      rw [hz0, List.append_nil] at hr1
      rw [List.take_length] at ho1
      exact ⟨_, _, rfl, OwnI.mk hr1 ho1 (fun g hg => by
        have e9 : w.heap.size = g := by simpa [Value.ownBlock] using hg
        omega) (by omega) (Nat.le_refl _), hb⟩
theorem toArg_any (x : FArg) (hw : x.wt ≤ 1048576) : ToArg x := by
  obtain ⟨z0, ⟨z1, z2, z3, z4, z5⟩⟩ := x
  exact toArg_of z0 z1 z2 z3 z4 z5 (toValue_any _ (by rw [FArg.wt_eq] at hw; rw [FValue.wt_eq]; omega))
theorem toArgS_any (l : List FArg) (hw : l.length + FArg.wts l ≤ 1048576) : ToArgS l := (toArgS_of l (by omega) (fun x hx => toArg_any x (by have := FArg.wts_at l x hx; omega)))
def ToCall (x : FCall) : Prop := ∀ (us : List Value) (w : World) (B : Nat), B ≤ w.heap.size → RdVs w B x.c us → Calls Tryz.prog 127 #[.agg us.toArray] w fun e w' => ∃ us', e = .returned (.agg us'.toArray) ∧ OwnI w' w.heap.size w'.heap.size x.c us' ∧ Below w.heap.size w w'
def ToCallS (l : List FCall) : Prop := ∀ (u : Value) (w : World) (B : Nat), B ≤ w.heap.size → RdC w B (.s 156 9 l.length (FCall.flat l)) u → Calls Tryz.prog 102 #[u] w fun e w' => ∃ A c, e = .returned (.slice A l.length c) ∧ OwnI w' w.heap.size w'.heap.size [.s 156 9 l.length (FCall.flat l)] [.slice A l.length c] ∧ Below w.heap.size w w'
theorem toCall_of (z0 : Int) (z1 : ByteArray) (z2 : Bool) (z3 : Int) (z4 : Int) (z5 : ByteArray) (z6 : ByteArray) (z7 : List FInt) (z8 : List FArg) (h7 : ToIntS z7) (h8 : ToArgS z8) : ToCall ⟨z0, z1, z2, z3, z4, z5, z6, z7, z8⟩ := by
  intro us w B hB0 hr
  rw [FCall.c_eq] at hr ⊢
  obtain ⟨us0, rfl, hr_0⟩ := hr.unv
  obtain ⟨us1, rfl, hr_1⟩ := hr_0.unv
  obtain ⟨us2, rfl, hr_2⟩ := hr_1.unv
  obtain ⟨us3, rfl, hr_3⟩ := hr_2.unv
  obtain ⟨us4, rfl, hr_4⟩ := hr_3.unv
  obtain ⟨us5, rfl, hr_5⟩ := hr_4.unv
  obtain ⟨us6, rfl, hr_6⟩ := hr_5.unv
  obtain ⟨A7, c7, us7, rfl, r7, hr_7⟩ := hr_6.uns
  obtain ⟨A8, c8, us8, rfl, r8, hr_8⟩ := hr_7.uns
  obtain rfl := hr_8.un0
  have R7 := hid r7
  clear r7
  have R8 := hid r8
  clear r8
  have H7 := hid h7
  clear h7
  have H8 := hid h8
  clear h8
  go_enter Tryz.func127, Tryz.ntmps127
  go_wp2_with fail
  refine calls_worldD _ (fun X => Blk X (w.heap.size) 236 #[.int .i64 z0, .string z1, .bool z2, .int .i64 z3, .int .i64 z4, .string z5, .string z6, .slice A7 z7.length c7, .slice A8 z8.length c8] ∧ Blk X (w.heap.size + 1) 156 #[.int .i64 0, .string ⟨#[]⟩, .bool false, .int .i64 0, .int .i64 0, .string ⟨#[]⟩, .string ⟨#[]⟩, .slice none 0 0, .slice none 0 0] ∧ Blk X (w.heap.size + 1 + 1) 156 #[.int .i64 z0, .string z1, .bool z2, .int .i64 z3, .int .i64 z4, .string z5, .string z6, .slice none 0 0, .slice none 0 0] ∧ Below w.heap.size w X) ⟨((Blk.new w _ _).alloc _).alloc _, (Blk.new' (w.alloc _) _ _ _ (by simp)).alloc _, Blk.new' ((w.alloc _).alloc _) _ _ _ (by simp), ((((Below.refl _ _).alloc (Nat.le_refl _) _).alloc (by simp) _).alloc (by simp; omega) _)⟩ ?_
  rintro X0 ⟨ba, br, bo, hB⟩
  have s0 := bo.lt
  refine (H7.out _ _ B (by omega) (R7.out.below hB hB0)).mono ?_
  rintro e Y0 ⟨D7, d7, rfl, own, hb⟩
  have o7 := own
  clear own
  replace ba := ba.below hb (Nat.le_refl _)
  replace br := br.below hb (Nat.le_refl _)
  replace bo := bo.below hb (Nat.le_refl _)
  replace hB := hB.trans (hb.mono (by omega))
  have t0 : X0.heap.size ≤ Y0.heap.size := hb.size
  clear hb
  have ba_8 : Y0.cell? ⟨w.heap.size, 8, none⟩ = some (.slice A8 z8.length c8) := ba.cell 8
  have ba_l := ba.lt
  have ba_f := fun i => ba.frozen i
  have bo_7 : Y0.cell? ⟨w.heap.size + 1 + 1, 7, none⟩ = some (.slice none 0 0) := bo.cell 7
  have bo_l := bo.lt
  have bo_f := fun i => bo.frozen i
  go_wp2_with fail
  clear ba_8 ba_l ba_f
  clear bo_7 bo_l bo_f
  refine calls_worldD _ (fun X => Blk X (w.heap.size) 236 #[.int .i64 z0, .string z1, .bool z2, .int .i64 z3, .int .i64 z4, .string z5, .string z6, .slice A7 z7.length c7, .slice A8 z8.length c8] ∧ Blk X (w.heap.size + 1) 156 #[.int .i64 0, .string ⟨#[]⟩, .bool false, .int .i64 0, .int .i64 0, .string ⟨#[]⟩, .string ⟨#[]⟩, .slice none 0 0, .slice none 0 0] ∧ Blk X (w.heap.size + 1 + 1) 156 #[.int .i64 z0, .string z1, .bool z2, .int .i64 z3, .int .i64 z4, .string z5, .string z6, .slice D7 z7.length d7, .slice none 0 0] ∧ OwnI X X0.heap.size Y0.heap.size [.s 3 1 z7.length (FInt.flat z7)] [.slice D7 z7.length d7] ∧ Below w.heap.size w X ∧ Y0.heap.size ≤ X.heap.size) ⟨(ba.far (by simp; try omega) _), (br.far (by simp; try omega) _), (by simpa using (bo.set_ 7 _)), (o7.set (.inl (by simp; omega)) _), (hB.setCell (by simp; try omega) _), (by simp)⟩ ?_
  clear ba br bo hB o7
  rintro X1 ⟨ba, br, bo, o7, hB, y1⟩
  have s1 := bo.lt
  refine (H8.out _ _ B (by omega) (R8.out.below hB hB0)).mono ?_
  rintro e Y1 ⟨D8, d8, rfl, own, hb⟩
  have o8 := own
  clear own
  replace ba := ba.below hb (Nat.le_refl _)
  replace br := br.below hb (Nat.le_refl _)
  replace bo := bo.below hb (Nat.le_refl _)
  replace o7 := o7.below hb (Nat.le_refl _)
  replace hB := hB.trans (hb.mono (by omega))
  have t1 : X1.heap.size ≤ Y1.heap.size := hb.size
  clear hb
  have ba_l := ba.lt
  have ba_f := fun i => ba.frozen i
  have br_0 : Y1.cell? ⟨w.heap.size + 1, 0, none⟩ = some (.int .i64 0) := br.cell 0
  have br_1 : Y1.cell? ⟨w.heap.size + 1, 1, none⟩ = some (.string ⟨#[]⟩) := br.cell 1
  have br_2 : Y1.cell? ⟨w.heap.size + 1, 2, none⟩ = some (.bool false) := br.cell 2
  have br_3 : Y1.cell? ⟨w.heap.size + 1, 3, none⟩ = some (.int .i64 0) := br.cell 3
  have br_4 : Y1.cell? ⟨w.heap.size + 1, 4, none⟩ = some (.int .i64 0) := br.cell 4
  have br_5 : Y1.cell? ⟨w.heap.size + 1, 5, none⟩ = some (.string ⟨#[]⟩) := br.cell 5
  have br_6 : Y1.cell? ⟨w.heap.size + 1, 6, none⟩ = some (.string ⟨#[]⟩) := br.cell 6
  have br_7 : Y1.cell? ⟨w.heap.size + 1, 7, none⟩ = some (.slice none 0 0) := br.cell 7
  have br_8 : Y1.cell? ⟨w.heap.size + 1, 8, none⟩ = some (.slice none 0 0) := br.cell 8
  have br_l := br.lt
  have br_f := fun i => br.frozen i
  have bo_0 : Y1.cell? ⟨w.heap.size + 1 + 1, 0, none⟩ = some (.int .i64 z0) := bo.cell 0
  have bo_1 : Y1.cell? ⟨w.heap.size + 1 + 1, 1, none⟩ = some (.string z1) := bo.cell 1
  have bo_2 : Y1.cell? ⟨w.heap.size + 1 + 1, 2, none⟩ = some (.bool z2) := bo.cell 2
  have bo_3 : Y1.cell? ⟨w.heap.size + 1 + 1, 3, none⟩ = some (.int .i64 z3) := bo.cell 3
  have bo_4 : Y1.cell? ⟨w.heap.size + 1 + 1, 4, none⟩ = some (.int .i64 z4) := bo.cell 4
  have bo_5 : Y1.cell? ⟨w.heap.size + 1 + 1, 5, none⟩ = some (.string z5) := bo.cell 5
  have bo_6 : Y1.cell? ⟨w.heap.size + 1 + 1, 6, none⟩ = some (.string z6) := bo.cell 6
  have bo_7 : Y1.cell? ⟨w.heap.size + 1 + 1, 7, none⟩ = some (.slice D7 z7.length d7) := bo.cell 7
  have bo_8 : Y1.cell? ⟨w.heap.size + 1 + 1, 8, none⟩ = some (.slice none 0 0) := bo.cell 8
  have bo_l := bo.lt
  have bo_f := fun i => bo.frozen i
  go_wp2_with fail
  skip
  refine bodyPost_ret (v := .agg #[.int .i64 z0, .string z1, .bool z2, .int .i64 z3, .int .i64 z4, .string z5, .string z6, .slice D7 z7.length d7, .slice D8 z8.length d8]) (by simp [results, Tryz.results127, go_sem, br_0, br_1, br_2, br_3, br_4, br_5, br_6, br_7, br_8, bo_0, bo_1, bo_2, bo_3, bo_4, bo_5, bo_6, bo_7, bo_8, br_l, br_f, bo_l, bo_f]) rfl ⟨_, rfl, ?_, ?_⟩
  · refine OwnI.wide (lo := X0.heap.size) (hi := Y1.heap.size) ?_ (by omega) (by simp)
    repeat (refine OwnI.set ?_ (.inl (by simp; omega)) _)
    exact (OwnI.consv (OwnI.consv (OwnI.consv (OwnI.consv (OwnI.consv (OwnI.consv (OwnI.consv (OwnI.app (m := Y0.heap.size) (hi := Y1.heap.size) o7 (OwnI.wide (lo' := Y0.heap.size) (hi' := Y1.heap.size) (OwnI.app (m := Y1.heap.size) (hi := Y1.heap.size) o8 (OwnI.wide (lo' := Y1.heap.size) (hi' := Y1.heap.size) (OwnI.nil _ Y1.heap.size Y1.heap.size) (by omega) (by omega)) (Nat.le_refl _) (by omega) (by omega)) (by omega) (by omega)) (Nat.le_refl _) (by omega) (by omega)) _) _) _) _) _) _) _)
  · repeat (refine Below.setCell ?_ (by simp; try omega) _)
    exact hB
theorem oneCall (x : FCall) : ∀ y, y ∈ x.c → ∀ u, y = .v u → u.oneCell' = true := by
  obtain ⟨z0, z1, z2, z3, z4, z5, z6, z7, z8⟩ := x
  rw [FCall.c_eq]
  intro y hx u hu
  simp only [List.mem_cons, List.not_mem_nil, or_false] at hx
  rcases hx with rfl | rfl | rfl | rfl | rfl | rfl | rfl | rfl | rfl <;> (first | (injection hu with hu; subst hu; rfl) | cases hu)
theorem infoCall : (Tryz.prog.info? 156).map (fun i => (i.zero.map Value.cells, i.size, i.bytes)) = some (some #[.int .i64 0, .string ByteArray.empty, .bool false, .int .i64 0, .int .i64 0, .string ByteArray.empty, .string ByteArray.empty, .slice none 0 0, .slice none 0 0], 9, 128) := by kernel_rfl
theorem toCallS_of (l : List FCall) (hl : l.length ≤ 1048576) (he : ∀ x, x ∈ l → ToCall x) : ToCallS l := by
  intro u w B hB0 hr0
  have hr := hr0.up hB0
  clear hr0
  obtain ⟨A, c, rfl⟩ := hr.form
  have HC := hid hr
  have hcap := hr.cap
  have hn : l.length ≤ 9223372036854775807 := by omega
  have hmk := fun W => make_law (P := Tryz.prog) 87 156 _ 9 128 Tryz.underlying87 infoCall l.length (by omega) hn W
  have HE := hid he
  clear he hr hcap
  go_enter Tryz.func102, Tryz.ntmps102
  go_wp2
  go_loopw [4] (fun i wr => ∃ k : Nat, k ≤ l.length ∧ i = .int .i64 k ∧ (∃ us zs, us.length = k * 9 ∧ zs.length = (l.length - k) * 9 ∧ wr.ownsRow w.heap.size 156 9 (.slice (some ⟨w.heap.size, 0, none⟩) l.length l.length) l.length (us ++ zs) ∧ OwnI wr (w.heap.size + 1) wr.heap.size (FCall.flat (l.take k)) us) ∧ Below w.heap.size w wr) (fun i _ => l.length - (intOf i).toNat)
  case atStart => exact ⟨0, Nat.zero_le _, rfl, ⟨[], madeL #[.int .i64 0, .string ByteArray.empty, .bool false, .int .i64 0, .int .i64 0, .string ByteArray.empty, .string ByteArray.empty, .slice none 0 0, .slice none 0 0] (l.length * 9), by simp, by simp [madeL, size_madeCells], own_madeL w _ l.length 9 _ rfl (by omega) (by unfold maxLen; omega), OwnI.nil _ _ _⟩, (Below.refl _ _).alloc (Nat.le_refl _) _⟩
  case round =>
    obtain ⟨k, hk, rfl, ⟨us, zs, hus, hzs, hrow, hown⟩, hb⟩ := hrel
    have HROW := hid hrow
    have HOWN := hid hown
    have HUS := hid hus
    have HZS := hid hzs
    have hsz : w.heap.size < wr.heap.size := (hrow.lt _ rfl).2
    clear hmk hrow hown hus hzs
    by_cases hlt : k < l.length
    · obtain ⟨x, hx⟩ : ∃ x, l[k]? = some x := ⟨_, List.getElem?_eq_getElem hlt⟩
      obtain ⟨bc, offc, vs, rfl, hblc, hvl, hv, hra⟩ := RdC.elem FCall.len HC.out hx
      have HX := hid hx
      have HT := hid (HE.out _ (List.mem_of_getElem? hx))
      have HV := hid (hv.on hb (Nat.le_refl _) (Nat.le_refl _))
      have HRA := hid (range_below hra hb hblc)
      have hlt2 : (k : Int) < (l.length : Int) := by omega
      have hk0 : (0 : Int) ≤ (k : Int) := by omega
      have hws := hb.size
      have HB := hid hb
      clear hx hv hra hb
      go_wp2_with (first | (refine wpList_load_elem 236 _ bc (offc + k * 9) vs (.struct (flds Tryz.prog 236)) HRA.out rfl rfl (by kernel_rfl) rfl hvl (by kernel_rfl) rfl ?_) | (go_at_call 127; refine (HT.out vs _ w.heap.size (by omega) HV.out).mono ?_; rintro e w2 ⟨us2, rfl, own2, hb2⟩; have hu2 : us2.length = 9 := own2.vs.1.trans (FCall.len x); have ON2 := hid (OwnL.onecell _ _ _ own2.choose_spec.1 (oneCall x)); have OWN2 := hid own2; have ROW2 := hid (own_below HROW.out hb2 (Nat.le_refl _)); have hsz2 : wr.heap.size ≤ w2.heap.size := hb2.size; have HB2 := hid (HB.out.trans (hb2.mono hws)); have HOWN2 := hid (HOWN.out.below hb2 (Nat.le_refl _)); clear own2 hb2) | (refine wpList_store_elem 156 _ _ (k * 9) us2 ROW2.out rfl rfl rfl hu2 (by omega) (by kernel_rfl) ON2.out rfl ?_; intro w3 row3 gr3; have ROW3 := hid row3; have GR3 := hid gr3; have hsz3 := gr3.size; clear row3 gr3))
      go_roundw
      case rel =>
        have hflat : FCall.flat (l.take (k + 1)) = FCall.flat (l.take k) ++ x.c := by
          rw [List.take_add_one, HX.out]
          simp
        have hset := sets_app us2 us zs (k * 9) HUS.out (by rw [HZS.out, hu2]; omega)
        refine ⟨k + 1, by omega, by go_num, ⟨us ++ us2, zs.drop 9, by rw [List.length_append, HUS.out, hu2]; omega, by rw [List.length_drop, HZS.out]; omega, ?_, ?_⟩, below_grownB HB2.out GR3.out (by omega) (Nat.le_refl _)⟩
        · have hr3 := ROW3.out
          rw [hset, hu2] at hr3
          exact hr3
        · rw [hflat]
          exact ((OwnI.app (m := wr.heap.size) (lo' := wr.heap.size) (hi := w2.heap.size) HOWN2.out OWN2.out (Nat.le_refl _) (by omega) (by omega)).grownB GR3.out (.inl (by omega))).wide (Nat.le_refl _) hsz3
      case measure => simp [intOf]; omega
    · obtain rfl : k = l.length := by omega
      clear hlt
      go_wp2_with fail
      go_ret
      have hz0 : zs = [] := List.eq_nil_of_length_eq_zero (by rw [HZS.out]; simp)
      have hr1 := HROW.out
      have ho1 := HOWN.out
      rw [hz0, List.append_nil] at hr1
      rw [List.take_length] at ho1
      exact ⟨_, _, rfl, OwnI.mk hr1 ho1 (fun g hg => by
        have e9 : w.heap.size = g := by simpa [Value.ownBlock] using hg
        omega) (by omega) (Nat.le_refl _), hb⟩
theorem toCall_any (x : FCall) (hw : x.wt ≤ 1048576) : ToCall x := by
  obtain ⟨z0, z1, z2, z3, z4, z5, z6, z7, z8⟩ := x
  exact toCall_of z0 z1 z2 z3 z4 z5 z6 z7 z8 (toIntS_any z7 (by rw [FCall.wt_eq] at hw; omega)) (toArgS_any z8 (by rw [FCall.wt_eq] at hw; omega))
theorem toCallS_any (l : List FCall) (hw : l.length + FCall.wts l ≤ 1048576) : ToCallS l := (toCallS_of l (by omega) (fun x hx => toCall_any x (by have := FCall.wts_at l x hx; omega)))
def ToTry (x : FTry) : Prop := ∀ (us : List Value) (w : World) (B : Nat), B ≤ w.heap.size → RdVs w B x.c us → Calls Tryz.prog 128 #[.agg us.toArray] w fun e w' => ∃ us', e = .returned (.agg us'.toArray) ∧ OwnI w' w.heap.size w'.heap.size x.c us' ∧ Below w.heap.size w w'
def ToTryS (l : List FTry) : Prop := ∀ (u : Value) (w : World) (B : Nat), B ≤ w.heap.size → RdC w B (.s 224 6 l.length (FTry.flat l)) u → Calls Tryz.prog 103 #[u] w fun e w' => ∃ A c, e = .returned (.slice A l.length c) ∧ OwnI w' w.heap.size w'.heap.size [.s 224 6 l.length (FTry.flat l)] [.slice A l.length c] ∧ Below w.heap.size w w'
theorem toTry_of (z0 : Bool) (z1 : ByteArray) (z2 : Int) (z3 : Int) (z4 : Int) (z5 : Int)  : ToTry ⟨z0, z1, z2, z3, z4, z5⟩ := by
  intro us w B hB0 hr
  rw [FTry.c_eq] at hr ⊢
  obtain ⟨us0, rfl, hr_0⟩ := hr.unv
  obtain ⟨us1, rfl, hr_1⟩ := hr_0.unv
  obtain ⟨us2, rfl, hr_2⟩ := hr_1.unv
  obtain ⟨us3, rfl, hr_3⟩ := hr_2.unv
  obtain ⟨us4, rfl, hr_4⟩ := hr_3.unv
  obtain ⟨us5, rfl, hr_5⟩ := hr_4.unv
  obtain rfl := hr_5.un0
  go_enter Tryz.func128, Tryz.ntmps128
  go_wp2_with fail
  exact bodyPost_ret (v := .agg #[.bool z0, .string z1, .int .i64 z2, .int .i64 z3, .int .i64 z4, .int .i64 z5]) (by simp [results, Tryz.results128, go_sem]) rfl ⟨_, rfl, (OwnI.consv (OwnI.consv (OwnI.consv (OwnI.consv (OwnI.consv (OwnI.consv (OwnI.nil _ _ _) _) _) _) _) _) _), by repeat (first | exact Below.refl _ _ | (refine Below.alloc ?_ (by simp; try omega) _) | (refine Below.setCell ?_ (by simp) _))⟩
theorem oneTry (x : FTry) : ∀ y, y ∈ x.c → ∀ u, y = .v u → u.oneCell' = true := by
  obtain ⟨z0, z1, z2, z3, z4, z5⟩ := x
  rw [FTry.c_eq]
  intro y hx u hu
  simp only [List.mem_cons, List.not_mem_nil, or_false] at hx
  rcases hx with rfl | rfl | rfl | rfl | rfl | rfl <;> (first | (injection hu with hu; subst hu; rfl) | cases hu)
theorem infoTry : (Tryz.prog.info? 224).map (fun i => (i.zero.map Value.cells, i.size, i.bytes)) = some (some #[.bool false, .string ByteArray.empty, .int .i64 0, .int .i64 0, .int .i64 0, .int .i64 0], 6, 56) := by kernel_rfl
theorem toTryS_of (l : List FTry) (hl : l.length ≤ 1048576) (he : ∀ x, x ∈ l → ToTry x) : ToTryS l := by
  intro u w B hB0 hr0
  have hr := hr0.up hB0
  clear hr0
  obtain ⟨A, c, rfl⟩ := hr.form
  have HC := hid hr
  have hcap := hr.cap
  have hn : l.length ≤ 9223372036854775807 := by omega
  have hmk := fun W => make_law (P := Tryz.prog) 88 224 _ 6 56 Tryz.underlying88 infoTry l.length (by omega) hn W
  have HE := hid he
  clear he hr hcap
  go_enter Tryz.func103, Tryz.ntmps103
  go_wp2
  go_loopw [4] (fun i wr => ∃ k : Nat, k ≤ l.length ∧ i = .int .i64 k ∧ (∃ us zs, us.length = k * 6 ∧ zs.length = (l.length - k) * 6 ∧ wr.ownsRow w.heap.size 224 6 (.slice (some ⟨w.heap.size, 0, none⟩) l.length l.length) l.length (us ++ zs) ∧ OwnI wr (w.heap.size + 1) wr.heap.size (FTry.flat (l.take k)) us) ∧ Below w.heap.size w wr) (fun i _ => l.length - (intOf i).toNat)
  case atStart => exact ⟨0, Nat.zero_le _, rfl, ⟨[], madeL #[.bool false, .string ByteArray.empty, .int .i64 0, .int .i64 0, .int .i64 0, .int .i64 0] (l.length * 6), by simp, by simp [madeL, size_madeCells], own_madeL w _ l.length 6 _ rfl (by omega) (by unfold maxLen; omega), OwnI.nil _ _ _⟩, (Below.refl _ _).alloc (Nat.le_refl _) _⟩
  case round =>
    obtain ⟨k, hk, rfl, ⟨us, zs, hus, hzs, hrow, hown⟩, hb⟩ := hrel
    have HROW := hid hrow
    have HOWN := hid hown
    have HUS := hid hus
    have HZS := hid hzs
    have hsz : w.heap.size < wr.heap.size := (hrow.lt _ rfl).2
    clear hmk hrow hown hus hzs
    by_cases hlt : k < l.length
    · obtain ⟨x, hx⟩ : ∃ x, l[k]? = some x := ⟨_, List.getElem?_eq_getElem hlt⟩
      obtain ⟨bc, offc, vs, rfl, hblc, hvl, hv, hra⟩ := RdC.elem FTry.len HC.out hx
      have HX := hid hx
      have HT := hid (HE.out _ (List.mem_of_getElem? hx))
      have HV := hid (hv.on hb (Nat.le_refl _) (Nat.le_refl _))
      have HRA := hid (range_below hra hb hblc)
      have hlt2 : (k : Int) < (l.length : Int) := by omega
      have hk0 : (0 : Int) ≤ (k : Int) := by omega
      have hws := hb.size
      have HB := hid hb
      clear hx hv hra hb
      go_wp2_with (first | (refine wpList_load_elem 238 _ bc (offc + k * 6) vs (.struct (flds Tryz.prog 238)) HRA.out rfl rfl (by kernel_rfl) rfl hvl (by kernel_rfl) rfl ?_) | (go_at_call 128; refine (HT.out vs _ w.heap.size (by omega) HV.out).mono ?_; rintro e w2 ⟨us2, rfl, own2, hb2⟩; have hu2 : us2.length = 6 := own2.vs.1.trans (FTry.len x); have ON2 := hid (OwnL.onecell _ _ _ own2.choose_spec.1 (oneTry x)); have OWN2 := hid own2; have ROW2 := hid (own_below HROW.out hb2 (Nat.le_refl _)); have hsz2 : wr.heap.size ≤ w2.heap.size := hb2.size; have HB2 := hid (HB.out.trans (hb2.mono hws)); have HOWN2 := hid (HOWN.out.below hb2 (Nat.le_refl _)); clear own2 hb2) | (refine wpList_store_elem 224 _ _ (k * 6) us2 ROW2.out rfl rfl rfl hu2 (by omega) (by kernel_rfl) ON2.out rfl ?_; intro w3 row3 gr3; have ROW3 := hid row3; have GR3 := hid gr3; have hsz3 := gr3.size; clear row3 gr3))
      go_roundw
      case rel =>
        have hflat : FTry.flat (l.take (k + 1)) = FTry.flat (l.take k) ++ x.c := by
          rw [List.take_add_one, HX.out]
          simp
        have hset := sets_app us2 us zs (k * 6) HUS.out (by rw [HZS.out, hu2]; omega)
        refine ⟨k + 1, by omega, by go_num, ⟨us ++ us2, zs.drop 6, by rw [List.length_append, HUS.out, hu2]; omega, by rw [List.length_drop, HZS.out]; omega, ?_, ?_⟩, below_grownB HB2.out GR3.out (by omega) (Nat.le_refl _)⟩
        · have hr3 := ROW3.out
          rw [hset, hu2] at hr3
          exact hr3
        · rw [hflat]
          exact ((OwnI.app (m := wr.heap.size) (lo' := wr.heap.size) (hi := w2.heap.size) HOWN2.out OWN2.out (Nat.le_refl _) (by omega) (by omega)).grownB GR3.out (.inl (by omega))).wide (Nat.le_refl _) hsz3
      case measure => simp [intOf]; omega
    · obtain rfl : k = l.length := by omega
      clear hlt
      go_wp2_with fail
      go_ret
      have hz0 : zs = [] := List.eq_nil_of_length_eq_zero (by rw [HZS.out]; simp)
      have hr1 := HROW.out
      have ho1 := HOWN.out
      rw [hz0, List.append_nil] at hr1
      rw [List.take_length] at ho1
      exact ⟨_, _, rfl, OwnI.mk hr1 ho1 (fun g hg => by
        have e9 : w.heap.size = g := by simpa [Value.ownBlock] using hg
        omega) (by omega) (Nat.le_refl _), hb⟩
theorem toTry_any (x : FTry) (hw : x.wt ≤ 1048576) : ToTry x := by
  obtain ⟨z0, z1, z2, z3, z4, z5⟩ := x
  exact toTry_of z0 z1 z2 z3 z4 z5 
theorem toTryS_any (l : List FTry) (hw : l.length + FTry.wts l ≤ 1048576) : ToTryS l := (toTryS_of l (by omega) (fun x hx => toTry_any x (by have := FTry.wts_at l x hx; omega)))
def ToEnd (x : FEnd) : Prop := ∀ (us : List Value) (w : World) (B : Nat), B ≤ w.heap.size → RdVs w B x.c us → Calls Tryz.prog 129 #[.agg us.toArray] w fun e w' => ∃ us', e = .returned (.agg us'.toArray) ∧ OwnI w' w.heap.size w'.heap.size x.c us' ∧ Below w.heap.size w w'
def ToEndS (l : List FEnd) : Prop := ∀ (u : Value) (w : World) (B : Nat), B ≤ w.heap.size → RdC w B (.s 160 9 l.length (FEnd.flat l)) u → Calls Tryz.prog 104 #[u] w fun e w' => ∃ A c, e = .returned (.slice A l.length c) ∧ OwnI w' w.heap.size w'.heap.size [.s 160 9 l.length (FEnd.flat l)] [.slice A l.length c] ∧ Below w.heap.size w w'
theorem toEnd_of (z0 : Int) (z1 : Int) (z2 : Int) (z3 : ByteArray) (z4 : Int) (z5 : List FEntry) (z6 : Int) (z7 : Int) (z8 : Int) (h1 : ToValue ⟨z1, z2, z3, z4, z5⟩) : ToEnd ⟨z0, ⟨z1, z2, z3, z4, z5⟩, z6, z7, z8⟩ := by
  intro us w B hB0 hr
  rw [FEnd.c_eq] at hr ⊢
  obtain ⟨us0, rfl, hr_0⟩ := hr.unv
  obtain ⟨us1, rfl, hr_1⟩ := hr_0.unv
  obtain ⟨us2, rfl, hr_2⟩ := hr_1.unv
  obtain ⟨us3, rfl, hr_3⟩ := hr_2.unv
  obtain ⟨us4, rfl, hr_4⟩ := hr_3.unv
  obtain ⟨A5, c5, us5, rfl, r5, hr_5⟩ := hr_4.uns
  obtain ⟨us6, rfl, hr_6⟩ := hr_5.unv
  obtain ⟨us7, rfl, hr_7⟩ := hr_6.unv
  obtain ⟨us8, rfl, hr_8⟩ := hr_7.unv
  obtain rfl := hr_8.un0
  have R5 := hid r5
  clear r5
  have H1 := hid h1
  clear h1
  go_enter Tryz.func129, Tryz.ntmps129
  go_wp2_with fail
  refine calls_worldD _ (fun X => Blk X (w.heap.size) 241 #[.int .i64 z0, .int .i64 z1, .int .i64 z2, .string z3, .int .i64 z4, .slice A5 z5.length c5, .int .i64 z6, .int .i64 z7, .int .i64 z8] ∧ Blk X (w.heap.size + 1) 160 #[.int .i64 0, .int .i64 0, .int .i64 0, .string ⟨#[]⟩, .int .i64 0, .slice none 0 0, .int .i64 0, .int .i64 0, .int .i64 0] ∧ Blk X (w.heap.size + 1 + 1) 160 #[.int .i64 z0, .int .i64 0, .int .i64 0, .string ⟨#[]⟩, .int .i64 0, .slice none 0 0, .int .i64 0, .int .i64 0, .int .i64 0] ∧ Below w.heap.size w X) ⟨((Blk.new w _ _).alloc _).alloc _, (Blk.new' (w.alloc _) _ _ _ (by simp)).alloc _, Blk.new' ((w.alloc _).alloc _) _ _ _ (by simp), ((((Below.refl _ _).alloc (Nat.le_refl _) _).alloc (by simp) _).alloc (by simp; omega) _)⟩ ?_
  rintro X0 ⟨ba, br, bo, hB⟩
  have s0 := bo.lt
  refine (H1.out [.int .i64 z1, .int .i64 z2, .string z3, .int .i64 z4, .slice A5 z5.length c5] _ B (by omega) (by rw [FValue.c_eq]; exact (RdVs.cons (by unfold RdC; rfl) (RdVs.cons (by unfold RdC; rfl) (RdVs.cons (by unfold RdC; rfl) (RdVs.cons (by unfold RdC; rfl) (RdVs.cons (R5.out.below hB hB0) (RdVs.nil _ _)))))))).mono ?_
  rw [FValue.c_eq]
  rintro e Y0 ⟨us_, rfl, own, hb⟩
  have hv := own.vs
  obtain ⟨us_1, rfl, hv_0⟩ := hv.unv
  obtain ⟨us_2, rfl, hv_1⟩ := hv_0.unv
  obtain ⟨us_3, rfl, hv_2⟩ := hv_1.unv
  obtain ⟨us_4, rfl, hv_3⟩ := hv_2.unv
  obtain ⟨D5, d5, us_5, rfl, _, hv_4⟩ := hv_3.uns
  obtain rfl := hv_4.un0
  have o1 := own
  clear own
  replace ba := ba.below hb (Nat.le_refl _)
  replace br := br.below hb (Nat.le_refl _)
  replace bo := bo.below hb (Nat.le_refl _)
  replace hB := hB.trans (hb.mono (by omega))
  have t0 : X0.heap.size ≤ Y0.heap.size := hb.size
  clear hb
  have ba_6 : Y0.cell? ⟨w.heap.size, 6, none⟩ = some (.int .i64 z6) := ba.cell 6
  have ba_7 : Y0.cell? ⟨w.heap.size, 7, none⟩ = some (.int .i64 z7) := ba.cell 7
  have ba_8 : Y0.cell? ⟨w.heap.size, 8, none⟩ = some (.int .i64 z8) := ba.cell 8
  have ba_l := ba.lt
  have ba_f := fun i => ba.frozen i
  have br_0 : Y0.cell? ⟨w.heap.size + 1, 0, none⟩ = some (.int .i64 0) := br.cell 0
  have br_1 : Y0.cell? ⟨w.heap.size + 1, 1, none⟩ = some (.int .i64 0) := br.cell 1
  have br_2 : Y0.cell? ⟨w.heap.size + 1, 2, none⟩ = some (.int .i64 0) := br.cell 2
  have br_3 : Y0.cell? ⟨w.heap.size + 1, 3, none⟩ = some (.string ⟨#[]⟩) := br.cell 3
  have br_4 : Y0.cell? ⟨w.heap.size + 1, 4, none⟩ = some (.int .i64 0) := br.cell 4
  have br_5 : Y0.cell? ⟨w.heap.size + 1, 5, none⟩ = some (.slice none 0 0) := br.cell 5
  have br_6 : Y0.cell? ⟨w.heap.size + 1, 6, none⟩ = some (.int .i64 0) := br.cell 6
  have br_7 : Y0.cell? ⟨w.heap.size + 1, 7, none⟩ = some (.int .i64 0) := br.cell 7
  have br_8 : Y0.cell? ⟨w.heap.size + 1, 8, none⟩ = some (.int .i64 0) := br.cell 8
  have br_l := br.lt
  have br_f := fun i => br.frozen i
  have bo_0 : Y0.cell? ⟨w.heap.size + 1 + 1, 0, none⟩ = some (.int .i64 z0) := bo.cell 0
  have bo_1 : Y0.cell? ⟨w.heap.size + 1 + 1, 1, none⟩ = some (.int .i64 0) := bo.cell 1
  have bo_2 : Y0.cell? ⟨w.heap.size + 1 + 1, 2, none⟩ = some (.int .i64 0) := bo.cell 2
  have bo_3 : Y0.cell? ⟨w.heap.size + 1 + 1, 3, none⟩ = some (.string ⟨#[]⟩) := bo.cell 3
  have bo_4 : Y0.cell? ⟨w.heap.size + 1 + 1, 4, none⟩ = some (.int .i64 0) := bo.cell 4
  have bo_5 : Y0.cell? ⟨w.heap.size + 1 + 1, 5, none⟩ = some (.slice none 0 0) := bo.cell 5
  have bo_6 : Y0.cell? ⟨w.heap.size + 1 + 1, 6, none⟩ = some (.int .i64 0) := bo.cell 6
  have bo_7 : Y0.cell? ⟨w.heap.size + 1 + 1, 7, none⟩ = some (.int .i64 0) := bo.cell 7
  have bo_8 : Y0.cell? ⟨w.heap.size + 1 + 1, 8, none⟩ = some (.int .i64 0) := bo.cell 8
  have bo_l := bo.lt
  have bo_f := fun i => bo.frozen i
  go_wp2_with fail
  skip
  refine bodyPost_ret (v := .agg #[.int .i64 z0, .int .i64 z1, .int .i64 z2, .string z3, .int .i64 z4, .slice D5 z5.length d5, .int .i64 z6, .int .i64 z7, .int .i64 z8]) (by simp [results, Tryz.results129, go_sem, br_0, br_1, br_2, br_3, br_4, br_5, br_6, br_7, br_8, bo_0, bo_1, bo_2, bo_3, bo_4, bo_5, bo_6, bo_7, bo_8, br_l, br_f, bo_l, bo_f]) rfl ⟨_, rfl, ?_, ?_⟩
  · refine OwnI.wide (lo := X0.heap.size) (hi := Y0.heap.size) ?_ (by omega) (by simp)
    repeat (refine OwnI.set ?_ (.inl (by simp; omega)) _)
    exact (OwnI.consv (OwnI.app (m := Y0.heap.size) (hi := Y0.heap.size) o1 (OwnI.wide (lo' := Y0.heap.size) (hi' := Y0.heap.size) (OwnI.consv (OwnI.consv (OwnI.consv (OwnI.nil _ Y0.heap.size Y0.heap.size) _) _) _) (by omega) (by omega)) (Nat.le_refl _) (by omega) (by omega)) _)
  · repeat (refine Below.setCell ?_ (by simp; try omega) _)
    exact hB
theorem oneEnd (x : FEnd) : ∀ y, y ∈ x.c → ∀ u, y = .v u → u.oneCell' = true := by
  obtain ⟨z0, ⟨z1, z2, z3, z4, z5⟩, z6, z7, z8⟩ := x
  rw [FEnd.c_eq]
  intro y hx u hu
  simp only [List.mem_cons, List.not_mem_nil, or_false] at hx
  rcases hx with rfl | rfl | rfl | rfl | rfl | rfl | rfl | rfl | rfl <;> (first | (injection hu with hu; subst hu; rfl) | cases hu)
theorem infoEnd : (Tryz.prog.info? 160).map (fun i => (i.zero.map Value.cells, i.size, i.bytes)) = some (some #[.int .i64 0, .int .i64 0, .int .i64 0, .string ByteArray.empty, .int .i64 0, .slice none 0 0, .int .i64 0, .int .i64 0, .int .i64 0], 9, 96) := by kernel_rfl
theorem toEndS_of (l : List FEnd) (hl : l.length ≤ 1048576) (he : ∀ x, x ∈ l → ToEnd x) : ToEndS l := by
  intro u w B hB0 hr0
  have hr := hr0.up hB0
  clear hr0
  obtain ⟨A, c, rfl⟩ := hr.form
  have HC := hid hr
  have hcap := hr.cap
  have hn : l.length ≤ 9223372036854775807 := by omega
  have hmk := fun W => make_law (P := Tryz.prog) 89 160 _ 9 96 Tryz.underlying89 infoEnd l.length (by omega) hn W
  have HE := hid he
  clear he hr hcap
  go_enter Tryz.func104, Tryz.ntmps104
  go_wp2
  go_loopw [4] (fun i wr => ∃ k : Nat, k ≤ l.length ∧ i = .int .i64 k ∧ (∃ us zs, us.length = k * 9 ∧ zs.length = (l.length - k) * 9 ∧ wr.ownsRow w.heap.size 160 9 (.slice (some ⟨w.heap.size, 0, none⟩) l.length l.length) l.length (us ++ zs) ∧ OwnI wr (w.heap.size + 1) wr.heap.size (FEnd.flat (l.take k)) us) ∧ Below w.heap.size w wr) (fun i _ => l.length - (intOf i).toNat)
  case atStart => exact ⟨0, Nat.zero_le _, rfl, ⟨[], madeL #[.int .i64 0, .int .i64 0, .int .i64 0, .string ByteArray.empty, .int .i64 0, .slice none 0 0, .int .i64 0, .int .i64 0, .int .i64 0] (l.length * 9), by simp, by simp [madeL, size_madeCells], own_madeL w _ l.length 9 _ rfl (by omega) (by unfold maxLen; omega), OwnI.nil _ _ _⟩, (Below.refl _ _).alloc (Nat.le_refl _) _⟩
  case round =>
    obtain ⟨k, hk, rfl, ⟨us, zs, hus, hzs, hrow, hown⟩, hb⟩ := hrel
    have HROW := hid hrow
    have HOWN := hid hown
    have HUS := hid hus
    have HZS := hid hzs
    have hsz : w.heap.size < wr.heap.size := (hrow.lt _ rfl).2
    clear hmk hrow hown hus hzs
    by_cases hlt : k < l.length
    · obtain ⟨x, hx⟩ : ∃ x, l[k]? = some x := ⟨_, List.getElem?_eq_getElem hlt⟩
      obtain ⟨bc, offc, vs, rfl, hblc, hvl, hv, hra⟩ := RdC.elem FEnd.len HC.out hx
      have HX := hid hx
      have HT := hid (HE.out _ (List.mem_of_getElem? hx))
      have HV := hid (hv.on hb (Nat.le_refl _) (Nat.le_refl _))
      have HRA := hid (range_below hra hb hblc)
      have hlt2 : (k : Int) < (l.length : Int) := by omega
      have hk0 : (0 : Int) ≤ (k : Int) := by omega
      have hws := hb.size
      have HB := hid hb
      clear hx hv hra hb
      go_wp2_with (first | (refine wpList_load_elem 241 _ bc (offc + k * 9) vs (.struct (flds Tryz.prog 241)) HRA.out rfl rfl (by kernel_rfl) rfl hvl (by kernel_rfl) rfl ?_) | (go_at_call 129; refine (HT.out vs _ w.heap.size (by omega) HV.out).mono ?_; rintro e w2 ⟨us2, rfl, own2, hb2⟩; have hu2 : us2.length = 9 := own2.vs.1.trans (FEnd.len x); have ON2 := hid (OwnL.onecell _ _ _ own2.choose_spec.1 (oneEnd x)); have OWN2 := hid own2; have ROW2 := hid (own_below HROW.out hb2 (Nat.le_refl _)); have hsz2 : wr.heap.size ≤ w2.heap.size := hb2.size; have HB2 := hid (HB.out.trans (hb2.mono hws)); have HOWN2 := hid (HOWN.out.below hb2 (Nat.le_refl _)); clear own2 hb2) | (refine wpList_store_elem 160 _ _ (k * 9) us2 ROW2.out rfl rfl rfl hu2 (by omega) (by kernel_rfl) ON2.out rfl ?_; intro w3 row3 gr3; have ROW3 := hid row3; have GR3 := hid gr3; have hsz3 := gr3.size; clear row3 gr3))
      go_roundw
      case rel =>
        have hflat : FEnd.flat (l.take (k + 1)) = FEnd.flat (l.take k) ++ x.c := by
          rw [List.take_add_one, HX.out]
          simp
        have hset := sets_app us2 us zs (k * 9) HUS.out (by rw [HZS.out, hu2]; omega)
        refine ⟨k + 1, by omega, by go_num, ⟨us ++ us2, zs.drop 9, by rw [List.length_append, HUS.out, hu2]; omega, by rw [List.length_drop, HZS.out]; omega, ?_, ?_⟩, below_grownB HB2.out GR3.out (by omega) (Nat.le_refl _)⟩
        · have hr3 := ROW3.out
          rw [hset, hu2] at hr3
          exact hr3
        · rw [hflat]
          exact ((OwnI.app (m := wr.heap.size) (lo' := wr.heap.size) (hi := w2.heap.size) HOWN2.out OWN2.out (Nat.le_refl _) (by omega) (by omega)).grownB GR3.out (.inl (by omega))).wide (Nat.le_refl _) hsz3
      case measure => simp [intOf]; omega
    · obtain rfl : k = l.length := by omega
      clear hlt
      go_wp2_with fail
      go_ret
      have hz0 : zs = [] := List.eq_nil_of_length_eq_zero (by rw [HZS.out]; simp)
      have hr1 := HROW.out
      have ho1 := HOWN.out
      rw [hz0, List.append_nil] at hr1
      rw [List.take_length] at ho1
      exact ⟨_, _, rfl, OwnI.mk hr1 ho1 (fun g hg => by
        have e9 : w.heap.size = g := by simpa [Value.ownBlock] using hg
        omega) (by omega) (Nat.le_refl _), hb⟩
theorem toEnd_any (x : FEnd) (hw : x.wt ≤ 1048576) : ToEnd x := by
  obtain ⟨z0, ⟨z1, z2, z3, z4, z5⟩, z6, z7, z8⟩ := x
  exact toEnd_of z0 z1 z2 z3 z4 z5 z6 z7 z8 (toValue_any _ (by rw [FEnd.wt_eq] at hw; rw [FValue.wt_eq]; omega))
theorem toEndS_any (l : List FEnd) (hw : l.length + FEnd.wts l ≤ 1048576) : ToEndS l := (toEndS_of l (by omega) (fun x hx => toEnd_any x (by have := FEnd.wts_at l x hx; omega)))
def ToFrame (x : FFrame) : Prop := ∀ (us : List Value) (w : World) (B : Nat), B ≤ w.heap.size → RdVs w B x.c us → Calls Tryz.prog 69 #[.agg us.toArray] w fun e w' => ∃ us', e = .returned (.agg us'.toArray) ∧ OwnI w' w.heap.size w'.heap.size x.c us' ∧ Below w.heap.size w w'
def ToFrameS (l : List FFrame) : Prop := ∀ (u : Value) (w : World) (B : Nat), B ≤ w.heap.size → RdC w B (.s 91 13 l.length (FFrame.flat l)) u → Calls Tryz.prog 29 #[u] w fun e w' => ∃ A c, e = .returned (.slice A l.length c) ∧ OwnI w' w.heap.size w'.heap.size [.s 91 13 l.length (FFrame.flat l)] [.slice A l.length c] ∧ Below w.heap.size w w'
theorem toFrame_of (z0 : Int) (z1 : Int) (z2 : List FInt) (z3 : List FValue) (z4 : List FCall) (z5 : List FTry) (z6 : List FEnd) (z7 : Int) (z8 : ByteArray) (z9 : ByteArray) (z10 : Int) (z11 : Int) (z12 : Int) (h2 : ToIntS z2) (h3 : ToValueS z3) (h4 : ToCallS z4) (h5 : ToTryS z5) (h6 : ToEndS z6) : ToFrame ⟨z0, z1, z2, z3, z4, z5, z6, z7, z8, z9, z10, z11, z12⟩ := by
  intro us w B hB0 hr
  rw [FFrame.c_eq] at hr ⊢
  obtain ⟨us0, rfl, hr_0⟩ := hr.unv
  obtain ⟨us1, rfl, hr_1⟩ := hr_0.unv
  obtain ⟨A2, c2, us2, rfl, r2, hr_2⟩ := hr_1.uns
  obtain ⟨A3, c3, us3, rfl, r3, hr_3⟩ := hr_2.uns
  obtain ⟨A4, c4, us4, rfl, r4, hr_4⟩ := hr_3.uns
  obtain ⟨A5, c5, us5, rfl, r5, hr_5⟩ := hr_4.uns
  obtain ⟨A6, c6, us6, rfl, r6, hr_6⟩ := hr_5.uns
  obtain ⟨us7, rfl, hr_7⟩ := hr_6.unv
  obtain ⟨us8, rfl, hr_8⟩ := hr_7.unv
  obtain ⟨us9, rfl, hr_9⟩ := hr_8.unv
  obtain ⟨us10, rfl, hr_10⟩ := hr_9.unv
  obtain ⟨us11, rfl, hr_11⟩ := hr_10.unv
  obtain ⟨us12, rfl, hr_12⟩ := hr_11.unv
  obtain rfl := hr_12.un0
  have R2 := hid r2
  clear r2
  have R3 := hid r3
  clear r3
  have R4 := hid r4
  clear r4
  have R5 := hid r5
  clear r5
  have R6 := hid r6
  clear r6
  have H2 := hid h2
  clear h2
  have H3 := hid h3
  clear h3
  have H4 := hid h4
  clear h4
  have H5 := hid h5
  clear h5
  have H6 := hid h6
  clear h6
  go_enter Tryz.func69, Tryz.ntmps69
  go_wp2_with fail
  refine calls_worldD _ (fun X => Blk X (w.heap.size) 132 #[.int .i64 z0, .int .i64 z1, .slice A2 z2.length c2, .slice A3 z3.length c3, .slice A4 z4.length c4, .slice A5 z5.length c5, .slice A6 z6.length c6, .int .i64 z7, .string z8, .string z9, .int .i64 z10, .int .i64 z11, .int .i64 z12] ∧ Blk X (w.heap.size + 1) 91 #[.int .i64 0, .int .i64 0, .slice none 0 0, .slice none 0 0, .slice none 0 0, .slice none 0 0, .slice none 0 0, .int .i64 0, .string ⟨#[]⟩, .string ⟨#[]⟩, .int .i64 0, .int .i64 0, .int .i64 0] ∧ Blk X (w.heap.size + 1 + 1) 91 #[.int .i64 z0, .int .i64 z1, .slice none 0 0, .slice none 0 0, .slice none 0 0, .slice none 0 0, .slice none 0 0, .int .i64 0, .string ⟨#[]⟩, .string ⟨#[]⟩, .int .i64 0, .int .i64 0, .int .i64 0] ∧ Below w.heap.size w X) ⟨((Blk.new w _ _).alloc _).alloc _, (Blk.new' (w.alloc _) _ _ _ (by simp)).alloc _, Blk.new' ((w.alloc _).alloc _) _ _ _ (by simp), ((((Below.refl _ _).alloc (Nat.le_refl _) _).alloc (by simp) _).alloc (by simp; omega) _)⟩ ?_
  rintro X0 ⟨ba, br, bo, hB⟩
  have s0 := bo.lt
  refine (H2.out _ _ B (by omega) (R2.out.below hB hB0)).mono ?_
  rintro e Y0 ⟨D2, d2, rfl, own, hb⟩
  have o2 := own
  clear own
  replace ba := ba.below hb (Nat.le_refl _)
  replace br := br.below hb (Nat.le_refl _)
  replace bo := bo.below hb (Nat.le_refl _)
  replace hB := hB.trans (hb.mono (by omega))
  have t0 : X0.heap.size ≤ Y0.heap.size := hb.size
  clear hb
  have ba_3 : Y0.cell? ⟨w.heap.size, 3, none⟩ = some (.slice A3 z3.length c3) := ba.cell 3
  have ba_l := ba.lt
  have ba_f := fun i => ba.frozen i
  have bo_2 : Y0.cell? ⟨w.heap.size + 1 + 1, 2, none⟩ = some (.slice none 0 0) := bo.cell 2
  have bo_l := bo.lt
  have bo_f := fun i => bo.frozen i
  go_wp2_with fail
  clear ba_3 ba_l ba_f
  clear bo_2 bo_l bo_f
  refine calls_worldD _ (fun X => Blk X (w.heap.size) 132 #[.int .i64 z0, .int .i64 z1, .slice A2 z2.length c2, .slice A3 z3.length c3, .slice A4 z4.length c4, .slice A5 z5.length c5, .slice A6 z6.length c6, .int .i64 z7, .string z8, .string z9, .int .i64 z10, .int .i64 z11, .int .i64 z12] ∧ Blk X (w.heap.size + 1) 91 #[.int .i64 0, .int .i64 0, .slice none 0 0, .slice none 0 0, .slice none 0 0, .slice none 0 0, .slice none 0 0, .int .i64 0, .string ⟨#[]⟩, .string ⟨#[]⟩, .int .i64 0, .int .i64 0, .int .i64 0] ∧ Blk X (w.heap.size + 1 + 1) 91 #[.int .i64 z0, .int .i64 z1, .slice D2 z2.length d2, .slice none 0 0, .slice none 0 0, .slice none 0 0, .slice none 0 0, .int .i64 0, .string ⟨#[]⟩, .string ⟨#[]⟩, .int .i64 0, .int .i64 0, .int .i64 0] ∧ OwnI X X0.heap.size Y0.heap.size [.s 3 1 z2.length (FInt.flat z2)] [.slice D2 z2.length d2] ∧ Below w.heap.size w X ∧ Y0.heap.size ≤ X.heap.size) ⟨(ba.far (by simp; try omega) _), (br.far (by simp; try omega) _), (by simpa using (bo.set_ 2 _)), (o2.set (.inl (by simp; omega)) _), (hB.setCell (by simp; try omega) _), (by simp)⟩ ?_
  clear ba br bo hB o2
  rintro X1 ⟨ba, br, bo, o2, hB, y1⟩
  have s1 := bo.lt
  refine (H3.out _ _ B (by omega) (R3.out.below hB hB0)).mono ?_
  rintro e Y1 ⟨D3, d3, rfl, own, hb⟩
  have o3 := own
  clear own
  replace ba := ba.below hb (Nat.le_refl _)
  replace br := br.below hb (Nat.le_refl _)
  replace bo := bo.below hb (Nat.le_refl _)
  replace o2 := o2.below hb (Nat.le_refl _)
  replace hB := hB.trans (hb.mono (by omega))
  have t1 : X1.heap.size ≤ Y1.heap.size := hb.size
  clear hb
  have ba_4 : Y1.cell? ⟨w.heap.size, 4, none⟩ = some (.slice A4 z4.length c4) := ba.cell 4
  have ba_l := ba.lt
  have ba_f := fun i => ba.frozen i
  have bo_3 : Y1.cell? ⟨w.heap.size + 1 + 1, 3, none⟩ = some (.slice none 0 0) := bo.cell 3
  have bo_l := bo.lt
  have bo_f := fun i => bo.frozen i
  go_wp2_with fail
  clear ba_4 ba_l ba_f
  clear bo_3 bo_l bo_f
  refine calls_worldD _ (fun X => Blk X (w.heap.size) 132 #[.int .i64 z0, .int .i64 z1, .slice A2 z2.length c2, .slice A3 z3.length c3, .slice A4 z4.length c4, .slice A5 z5.length c5, .slice A6 z6.length c6, .int .i64 z7, .string z8, .string z9, .int .i64 z10, .int .i64 z11, .int .i64 z12] ∧ Blk X (w.heap.size + 1) 91 #[.int .i64 0, .int .i64 0, .slice none 0 0, .slice none 0 0, .slice none 0 0, .slice none 0 0, .slice none 0 0, .int .i64 0, .string ⟨#[]⟩, .string ⟨#[]⟩, .int .i64 0, .int .i64 0, .int .i64 0] ∧ Blk X (w.heap.size + 1 + 1) 91 #[.int .i64 z0, .int .i64 z1, .slice D2 z2.length d2, .slice D3 z3.length d3, .slice none 0 0, .slice none 0 0, .slice none 0 0, .int .i64 0, .string ⟨#[]⟩, .string ⟨#[]⟩, .int .i64 0, .int .i64 0, .int .i64 0] ∧ OwnI X X0.heap.size Y0.heap.size [.s 3 1 z2.length (FInt.flat z2)] [.slice D2 z2.length d2] ∧ OwnI X X1.heap.size Y1.heap.size [.s 82 5 z3.length (FValue.flat z3)] [.slice D3 z3.length d3] ∧ Below w.heap.size w X ∧ Y1.heap.size ≤ X.heap.size) ⟨(ba.far (by simp; try omega) _), (br.far (by simp; try omega) _), (by simpa using (bo.set_ 3 _)), (o2.set (.inl (by simp; omega)) _), (o3.set (.inl (by simp; omega)) _), (hB.setCell (by simp; try omega) _), (by simp)⟩ ?_
  clear ba br bo hB o2 o3
  rintro X2 ⟨ba, br, bo, o2, o3, hB, y2⟩
  have s2 := bo.lt
  refine (H4.out _ _ B (by omega) (R4.out.below hB hB0)).mono ?_
  rintro e Y2 ⟨D4, d4, rfl, own, hb⟩
  have o4 := own
  clear own
  replace ba := ba.below hb (Nat.le_refl _)
  replace br := br.below hb (Nat.le_refl _)
  replace bo := bo.below hb (Nat.le_refl _)
  replace o2 := o2.below hb (Nat.le_refl _)
  replace o3 := o3.below hb (Nat.le_refl _)
  replace hB := hB.trans (hb.mono (by omega))
  have t2 : X2.heap.size ≤ Y2.heap.size := hb.size
  clear hb
  have ba_5 : Y2.cell? ⟨w.heap.size, 5, none⟩ = some (.slice A5 z5.length c5) := ba.cell 5
  have ba_l := ba.lt
  have ba_f := fun i => ba.frozen i
  have bo_4 : Y2.cell? ⟨w.heap.size + 1 + 1, 4, none⟩ = some (.slice none 0 0) := bo.cell 4
  have bo_l := bo.lt
  have bo_f := fun i => bo.frozen i
  go_wp2_with fail
  clear ba_5 ba_l ba_f
  clear bo_4 bo_l bo_f
  refine calls_worldD _ (fun X => Blk X (w.heap.size) 132 #[.int .i64 z0, .int .i64 z1, .slice A2 z2.length c2, .slice A3 z3.length c3, .slice A4 z4.length c4, .slice A5 z5.length c5, .slice A6 z6.length c6, .int .i64 z7, .string z8, .string z9, .int .i64 z10, .int .i64 z11, .int .i64 z12] ∧ Blk X (w.heap.size + 1) 91 #[.int .i64 0, .int .i64 0, .slice none 0 0, .slice none 0 0, .slice none 0 0, .slice none 0 0, .slice none 0 0, .int .i64 0, .string ⟨#[]⟩, .string ⟨#[]⟩, .int .i64 0, .int .i64 0, .int .i64 0] ∧ Blk X (w.heap.size + 1 + 1) 91 #[.int .i64 z0, .int .i64 z1, .slice D2 z2.length d2, .slice D3 z3.length d3, .slice D4 z4.length d4, .slice none 0 0, .slice none 0 0, .int .i64 0, .string ⟨#[]⟩, .string ⟨#[]⟩, .int .i64 0, .int .i64 0, .int .i64 0] ∧ OwnI X X0.heap.size Y0.heap.size [.s 3 1 z2.length (FInt.flat z2)] [.slice D2 z2.length d2] ∧ OwnI X X1.heap.size Y1.heap.size [.s 82 5 z3.length (FValue.flat z3)] [.slice D3 z3.length d3] ∧ OwnI X X2.heap.size Y2.heap.size [.s 156 9 z4.length (FCall.flat z4)] [.slice D4 z4.length d4] ∧ Below w.heap.size w X ∧ Y2.heap.size ≤ X.heap.size) ⟨(ba.far (by simp; try omega) _), (br.far (by simp; try omega) _), (by simpa using (bo.set_ 4 _)), (o2.set (.inl (by simp; omega)) _), (o3.set (.inl (by simp; omega)) _), (o4.set (.inl (by simp; omega)) _), (hB.setCell (by simp; try omega) _), (by simp)⟩ ?_
  clear ba br bo hB o2 o3 o4
  rintro X3 ⟨ba, br, bo, o2, o3, o4, hB, y3⟩
  have s3 := bo.lt
  refine (H5.out _ _ B (by omega) (R5.out.below hB hB0)).mono ?_
  rintro e Y3 ⟨D5, d5, rfl, own, hb⟩
  have o5 := own
  clear own
  replace ba := ba.below hb (Nat.le_refl _)
  replace br := br.below hb (Nat.le_refl _)
  replace bo := bo.below hb (Nat.le_refl _)
  replace o2 := o2.below hb (Nat.le_refl _)
  replace o3 := o3.below hb (Nat.le_refl _)
  replace o4 := o4.below hb (Nat.le_refl _)
  replace hB := hB.trans (hb.mono (by omega))
  have t3 : X3.heap.size ≤ Y3.heap.size := hb.size
  clear hb
  have ba_6 : Y3.cell? ⟨w.heap.size, 6, none⟩ = some (.slice A6 z6.length c6) := ba.cell 6
  have ba_l := ba.lt
  have ba_f := fun i => ba.frozen i
  have bo_5 : Y3.cell? ⟨w.heap.size + 1 + 1, 5, none⟩ = some (.slice none 0 0) := bo.cell 5
  have bo_l := bo.lt
  have bo_f := fun i => bo.frozen i
  go_wp2_with fail
  clear ba_6 ba_l ba_f
  clear bo_5 bo_l bo_f
  refine calls_worldD _ (fun X => Blk X (w.heap.size) 132 #[.int .i64 z0, .int .i64 z1, .slice A2 z2.length c2, .slice A3 z3.length c3, .slice A4 z4.length c4, .slice A5 z5.length c5, .slice A6 z6.length c6, .int .i64 z7, .string z8, .string z9, .int .i64 z10, .int .i64 z11, .int .i64 z12] ∧ Blk X (w.heap.size + 1) 91 #[.int .i64 0, .int .i64 0, .slice none 0 0, .slice none 0 0, .slice none 0 0, .slice none 0 0, .slice none 0 0, .int .i64 0, .string ⟨#[]⟩, .string ⟨#[]⟩, .int .i64 0, .int .i64 0, .int .i64 0] ∧ Blk X (w.heap.size + 1 + 1) 91 #[.int .i64 z0, .int .i64 z1, .slice D2 z2.length d2, .slice D3 z3.length d3, .slice D4 z4.length d4, .slice D5 z5.length d5, .slice none 0 0, .int .i64 0, .string ⟨#[]⟩, .string ⟨#[]⟩, .int .i64 0, .int .i64 0, .int .i64 0] ∧ OwnI X X0.heap.size Y0.heap.size [.s 3 1 z2.length (FInt.flat z2)] [.slice D2 z2.length d2] ∧ OwnI X X1.heap.size Y1.heap.size [.s 82 5 z3.length (FValue.flat z3)] [.slice D3 z3.length d3] ∧ OwnI X X2.heap.size Y2.heap.size [.s 156 9 z4.length (FCall.flat z4)] [.slice D4 z4.length d4] ∧ OwnI X X3.heap.size Y3.heap.size [.s 224 6 z5.length (FTry.flat z5)] [.slice D5 z5.length d5] ∧ Below w.heap.size w X ∧ Y3.heap.size ≤ X.heap.size) ⟨(ba.far (by simp; try omega) _), (br.far (by simp; try omega) _), (by simpa using (bo.set_ 5 _)), (o2.set (.inl (by simp; omega)) _), (o3.set (.inl (by simp; omega)) _), (o4.set (.inl (by simp; omega)) _), (o5.set (.inl (by simp; omega)) _), (hB.setCell (by simp; try omega) _), (by simp)⟩ ?_
  clear ba br bo hB o2 o3 o4 o5
  rintro X4 ⟨ba, br, bo, o2, o3, o4, o5, hB, y4⟩
  have s4 := bo.lt
  refine (H6.out _ _ B (by omega) (R6.out.below hB hB0)).mono ?_
  rintro e Y4 ⟨D6, d6, rfl, own, hb⟩
  have o6 := own
  clear own
  replace ba := ba.below hb (Nat.le_refl _)
  replace br := br.below hb (Nat.le_refl _)
  replace bo := bo.below hb (Nat.le_refl _)
  replace o2 := o2.below hb (Nat.le_refl _)
  replace o3 := o3.below hb (Nat.le_refl _)
  replace o4 := o4.below hb (Nat.le_refl _)
  replace o5 := o5.below hb (Nat.le_refl _)
  replace hB := hB.trans (hb.mono (by omega))
  have t4 : X4.heap.size ≤ Y4.heap.size := hb.size
  clear hb
  have ba_7 : Y4.cell? ⟨w.heap.size, 7, none⟩ = some (.int .i64 z7) := ba.cell 7
  have ba_8 : Y4.cell? ⟨w.heap.size, 8, none⟩ = some (.string z8) := ba.cell 8
  have ba_9 : Y4.cell? ⟨w.heap.size, 9, none⟩ = some (.string z9) := ba.cell 9
  have ba_10 : Y4.cell? ⟨w.heap.size, 10, none⟩ = some (.int .i64 z10) := ba.cell 10
  have ba_11 : Y4.cell? ⟨w.heap.size, 11, none⟩ = some (.int .i64 z11) := ba.cell 11
  have ba_12 : Y4.cell? ⟨w.heap.size, 12, none⟩ = some (.int .i64 z12) := ba.cell 12
  have ba_l := ba.lt
  have ba_f := fun i => ba.frozen i
  have br_0 : Y4.cell? ⟨w.heap.size + 1, 0, none⟩ = some (.int .i64 0) := br.cell 0
  have br_1 : Y4.cell? ⟨w.heap.size + 1, 1, none⟩ = some (.int .i64 0) := br.cell 1
  have br_2 : Y4.cell? ⟨w.heap.size + 1, 2, none⟩ = some (.slice none 0 0) := br.cell 2
  have br_3 : Y4.cell? ⟨w.heap.size + 1, 3, none⟩ = some (.slice none 0 0) := br.cell 3
  have br_4 : Y4.cell? ⟨w.heap.size + 1, 4, none⟩ = some (.slice none 0 0) := br.cell 4
  have br_5 : Y4.cell? ⟨w.heap.size + 1, 5, none⟩ = some (.slice none 0 0) := br.cell 5
  have br_6 : Y4.cell? ⟨w.heap.size + 1, 6, none⟩ = some (.slice none 0 0) := br.cell 6
  have br_7 : Y4.cell? ⟨w.heap.size + 1, 7, none⟩ = some (.int .i64 0) := br.cell 7
  have br_8 : Y4.cell? ⟨w.heap.size + 1, 8, none⟩ = some (.string ⟨#[]⟩) := br.cell 8
  have br_9 : Y4.cell? ⟨w.heap.size + 1, 9, none⟩ = some (.string ⟨#[]⟩) := br.cell 9
  have br_10 : Y4.cell? ⟨w.heap.size + 1, 10, none⟩ = some (.int .i64 0) := br.cell 10
  have br_11 : Y4.cell? ⟨w.heap.size + 1, 11, none⟩ = some (.int .i64 0) := br.cell 11
  have br_12 : Y4.cell? ⟨w.heap.size + 1, 12, none⟩ = some (.int .i64 0) := br.cell 12
  have br_l := br.lt
  have br_f := fun i => br.frozen i
  have bo_0 : Y4.cell? ⟨w.heap.size + 1 + 1, 0, none⟩ = some (.int .i64 z0) := bo.cell 0
  have bo_1 : Y4.cell? ⟨w.heap.size + 1 + 1, 1, none⟩ = some (.int .i64 z1) := bo.cell 1
  have bo_2 : Y4.cell? ⟨w.heap.size + 1 + 1, 2, none⟩ = some (.slice D2 z2.length d2) := bo.cell 2
  have bo_3 : Y4.cell? ⟨w.heap.size + 1 + 1, 3, none⟩ = some (.slice D3 z3.length d3) := bo.cell 3
  have bo_4 : Y4.cell? ⟨w.heap.size + 1 + 1, 4, none⟩ = some (.slice D4 z4.length d4) := bo.cell 4
  have bo_5 : Y4.cell? ⟨w.heap.size + 1 + 1, 5, none⟩ = some (.slice D5 z5.length d5) := bo.cell 5
  have bo_6 : Y4.cell? ⟨w.heap.size + 1 + 1, 6, none⟩ = some (.slice none 0 0) := bo.cell 6
  have bo_7 : Y4.cell? ⟨w.heap.size + 1 + 1, 7, none⟩ = some (.int .i64 0) := bo.cell 7
  have bo_8 : Y4.cell? ⟨w.heap.size + 1 + 1, 8, none⟩ = some (.string ⟨#[]⟩) := bo.cell 8
  have bo_9 : Y4.cell? ⟨w.heap.size + 1 + 1, 9, none⟩ = some (.string ⟨#[]⟩) := bo.cell 9
  have bo_10 : Y4.cell? ⟨w.heap.size + 1 + 1, 10, none⟩ = some (.int .i64 0) := bo.cell 10
  have bo_11 : Y4.cell? ⟨w.heap.size + 1 + 1, 11, none⟩ = some (.int .i64 0) := bo.cell 11
  have bo_12 : Y4.cell? ⟨w.heap.size + 1 + 1, 12, none⟩ = some (.int .i64 0) := bo.cell 12
  have bo_l := bo.lt
  have bo_f := fun i => bo.frozen i
  go_wp2_with fail
  skip
  refine bodyPost_ret (v := .agg #[.int .i64 z0, .int .i64 z1, .slice D2 z2.length d2, .slice D3 z3.length d3, .slice D4 z4.length d4, .slice D5 z5.length d5, .slice D6 z6.length d6, .int .i64 z7, .string z8, .string z9, .int .i64 z10, .int .i64 z11, .int .i64 z12]) (by simp [results, Tryz.results69, go_sem, br_0, br_1, br_2, br_3, br_4, br_5, br_6, br_7, br_8, br_9, br_10, br_11, br_12, bo_0, bo_1, bo_2, bo_3, bo_4, bo_5, bo_6, bo_7, bo_8, bo_9, bo_10, bo_11, bo_12, br_l, br_f, bo_l, bo_f]) rfl ⟨_, rfl, ?_, ?_⟩
  · refine OwnI.wide (lo := X0.heap.size) (hi := Y4.heap.size) ?_ (by omega) (by simp)
    repeat (refine OwnI.set ?_ (.inl (by simp; omega)) _)
    exact (OwnI.consv (OwnI.consv (OwnI.app (m := Y0.heap.size) (hi := Y4.heap.size) o2 (OwnI.wide (lo' := Y0.heap.size) (hi' := Y4.heap.size) (OwnI.app (m := Y1.heap.size) (hi := Y4.heap.size) o3 (OwnI.wide (lo' := Y1.heap.size) (hi' := Y4.heap.size) (OwnI.app (m := Y2.heap.size) (hi := Y4.heap.size) o4 (OwnI.wide (lo' := Y2.heap.size) (hi' := Y4.heap.size) (OwnI.app (m := Y3.heap.size) (hi := Y4.heap.size) o5 (OwnI.wide (lo' := Y3.heap.size) (hi' := Y4.heap.size) (OwnI.app (m := Y4.heap.size) (hi := Y4.heap.size) o6 (OwnI.wide (lo' := Y4.heap.size) (hi' := Y4.heap.size) (OwnI.consv (OwnI.consv (OwnI.consv (OwnI.consv (OwnI.consv (OwnI.consv (OwnI.nil _ Y4.heap.size Y4.heap.size) _) _) _) _) _) _) (by omega) (by omega)) (Nat.le_refl _) (by omega) (by omega)) (by omega) (by omega)) (Nat.le_refl _) (by omega) (by omega)) (by omega) (by omega)) (Nat.le_refl _) (by omega) (by omega)) (by omega) (by omega)) (Nat.le_refl _) (by omega) (by omega)) (by omega) (by omega)) (Nat.le_refl _) (by omega) (by omega)) _) _)
  · repeat (refine Below.setCell ?_ (by simp; try omega) _)
    exact hB
theorem oneFrame (x : FFrame) : ∀ y, y ∈ x.c → ∀ u, y = .v u → u.oneCell' = true := by
  obtain ⟨z0, z1, z2, z3, z4, z5, z6, z7, z8, z9, z10, z11, z12⟩ := x
  rw [FFrame.c_eq]
  intro y hx u hu
  simp only [List.mem_cons, List.not_mem_nil, or_false] at hx
  rcases hx with rfl | rfl | rfl | rfl | rfl | rfl | rfl | rfl | rfl | rfl | rfl | rfl | rfl <;> (first | (injection hu with hu; subst hu; rfl) | cases hu)
theorem infoFrame : (Tryz.prog.info? 91).map (fun i => (i.zero.map Value.cells, i.size, i.bytes)) = some (some #[.int .i64 0, .int .i64 0, .slice none 0 0, .slice none 0 0, .slice none 0 0, .slice none 0 0, .slice none 0 0, .int .i64 0, .string ByteArray.empty, .string ByteArray.empty, .int .i64 0, .int .i64 0, .int .i64 0], 13, 200) := by kernel_rfl
theorem toFrameS_of (l : List FFrame) (hl : l.length ≤ 1048576) (he : ∀ x, x ∈ l → ToFrame x) : ToFrameS l := by
  intro u w B hB0 hr0
  have hr := hr0.up hB0
  clear hr0
  obtain ⟨A, c, rfl⟩ := hr.form
  have HC := hid hr
  have hcap := hr.cap
  have hn : l.length ≤ 9223372036854775807 := by omega
  have hmk := fun W => make_law (P := Tryz.prog) 47 91 _ 13 200 Tryz.underlying47 infoFrame l.length (by omega) hn W
  have HE := hid he
  clear he hr hcap
  go_enter Tryz.func29, Tryz.ntmps29
  go_wp2
  go_loopw [4] (fun i wr => ∃ k : Nat, k ≤ l.length ∧ i = .int .i64 k ∧ (∃ us zs, us.length = k * 13 ∧ zs.length = (l.length - k) * 13 ∧ wr.ownsRow w.heap.size 91 13 (.slice (some ⟨w.heap.size, 0, none⟩) l.length l.length) l.length (us ++ zs) ∧ OwnI wr (w.heap.size + 1) wr.heap.size (FFrame.flat (l.take k)) us) ∧ Below w.heap.size w wr) (fun i _ => l.length - (intOf i).toNat)
  case atStart => exact ⟨0, Nat.zero_le _, rfl, ⟨[], madeL #[.int .i64 0, .int .i64 0, .slice none 0 0, .slice none 0 0, .slice none 0 0, .slice none 0 0, .slice none 0 0, .int .i64 0, .string ByteArray.empty, .string ByteArray.empty, .int .i64 0, .int .i64 0, .int .i64 0] (l.length * 13), by simp, by simp [madeL, size_madeCells], own_madeL w _ l.length 13 _ rfl (by omega) (by unfold maxLen; omega), OwnI.nil _ _ _⟩, (Below.refl _ _).alloc (Nat.le_refl _) _⟩
  case round =>
    obtain ⟨k, hk, rfl, ⟨us, zs, hus, hzs, hrow, hown⟩, hb⟩ := hrel
    have HROW := hid hrow
    have HOWN := hid hown
    have HUS := hid hus
    have HZS := hid hzs
    have hsz : w.heap.size < wr.heap.size := (hrow.lt _ rfl).2
    clear hmk hrow hown hus hzs
    by_cases hlt : k < l.length
    · obtain ⟨x, hx⟩ : ∃ x, l[k]? = some x := ⟨_, List.getElem?_eq_getElem hlt⟩
      obtain ⟨bc, offc, vs, rfl, hblc, hvl, hv, hra⟩ := RdC.elem FFrame.len HC.out hx
      have HX := hid hx
      have HT := hid (HE.out _ (List.mem_of_getElem? hx))
      have HV := hid (hv.on hb (Nat.le_refl _) (Nat.le_refl _))
      have HRA := hid (range_below hra hb hblc)
      have hlt2 : (k : Int) < (l.length : Int) := by omega
      have hk0 : (0 : Int) ≤ (k : Int) := by omega
      have hws := hb.size
      have HB := hid hb
      clear hx hv hra hb
      go_wp2_with (first | (refine wpList_load_elem 132 _ bc (offc + k * 13) vs (.struct (flds Tryz.prog 132)) HRA.out rfl rfl (by kernel_rfl) rfl hvl (by kernel_rfl) rfl ?_) | (go_at_call 69; refine (HT.out vs _ w.heap.size (by omega) HV.out).mono ?_; rintro e w2 ⟨us2, rfl, own2, hb2⟩; have hu2 : us2.length = 13 := own2.vs.1.trans (FFrame.len x); have ON2 := hid (OwnL.onecell _ _ _ own2.choose_spec.1 (oneFrame x)); have OWN2 := hid own2; have ROW2 := hid (own_below HROW.out hb2 (Nat.le_refl _)); have hsz2 : wr.heap.size ≤ w2.heap.size := hb2.size; have HB2 := hid (HB.out.trans (hb2.mono hws)); have HOWN2 := hid (HOWN.out.below hb2 (Nat.le_refl _)); clear own2 hb2) | (refine wpList_store_elem 91 _ _ (k * 13) us2 ROW2.out rfl rfl rfl hu2 (by omega) (by kernel_rfl) ON2.out rfl ?_; intro w3 row3 gr3; have ROW3 := hid row3; have GR3 := hid gr3; have hsz3 := gr3.size; clear row3 gr3))
      go_roundw
      case rel =>
        have hflat : FFrame.flat (l.take (k + 1)) = FFrame.flat (l.take k) ++ x.c := by
          rw [List.take_add_one, HX.out]
          simp
        have hset := sets_app us2 us zs (k * 13) HUS.out (by rw [HZS.out, hu2]; omega)
        refine ⟨k + 1, by omega, by go_num, ⟨us ++ us2, zs.drop 13, by rw [List.length_append, HUS.out, hu2]; omega, by rw [List.length_drop, HZS.out]; omega, ?_, ?_⟩, below_grownB HB2.out GR3.out (by omega) (Nat.le_refl _)⟩
        · have hr3 := ROW3.out
          rw [hset, hu2] at hr3
          exact hr3
        · rw [hflat]
          exact ((OwnI.app (m := wr.heap.size) (lo' := wr.heap.size) (hi := w2.heap.size) HOWN2.out OWN2.out (Nat.le_refl _) (by omega) (by omega)).grownB GR3.out (.inl (by omega))).wide (Nat.le_refl _) hsz3
      case measure => simp [intOf]; omega
    · obtain rfl : k = l.length := by omega
      clear hlt
      go_wp2_with fail
      go_ret
      have hz0 : zs = [] := List.eq_nil_of_length_eq_zero (by rw [HZS.out]; simp)
      have hr1 := HROW.out
      have ho1 := HOWN.out
      rw [hz0, List.append_nil] at hr1
      rw [List.take_length] at ho1
      exact ⟨_, _, rfl, OwnI.mk hr1 ho1 (fun g hg => by
        have e9 : w.heap.size = g := by simpa [Value.ownBlock] using hg
        omega) (by omega) (Nat.le_refl _), hb⟩
theorem toFrame_any (x : FFrame) (hw : x.wt ≤ 1048576) : ToFrame x := by
  obtain ⟨z0, z1, z2, z3, z4, z5, z6, z7, z8, z9, z10, z11, z12⟩ := x
  exact toFrame_of z0 z1 z2 z3 z4 z5 z6 z7 z8 z9 z10 z11 z12 (toIntS_any z2 (by rw [FFrame.wt_eq] at hw; omega)) (toValueS_any z3 (by rw [FFrame.wt_eq] at hw; omega)) (toCallS_any z4 (by rw [FFrame.wt_eq] at hw; omega)) (toTryS_any z5 (by rw [FFrame.wt_eq] at hw; omega)) (toEndS_any z6 (by rw [FFrame.wt_eq] at hw; omega))
theorem toFrameS_any (l : List FFrame) (hw : l.length + FFrame.wts l ≤ 1048576) : ToFrameS l := (toFrameS_of l (by omega) (fun x hx => toFrame_any x (by have := FFrame.wts_at l x hx; omega)))
def ToGen (x : FGen) : Prop := ∀ (us : List Value) (w : World) (B : Nat), B ≤ w.heap.size → RdVs w B x.c us → Calls Tryz.prog 68 #[.agg us.toArray] w fun e w' => ∃ us', e = .returned (.agg us'.toArray) ∧ OwnI w' w.heap.size w'.heap.size x.c us' ∧ Below w.heap.size w w'
def ToGenS (l : List FGen) : Prop := ∀ (u : Value) (w : World) (B : Nat), B ≤ w.heap.size → RdC w B (.s 93 19 l.length (FGen.flat l)) u → Calls Tryz.prog 28 #[u] w fun e w' => ∃ A c, e = .returned (.slice A l.length c) ∧ OwnI w' w.heap.size w'.heap.size [.s 93 19 l.length (FGen.flat l)] [.slice A l.length c] ∧ Below w.heap.size w w'
theorem toGen_of (z0 : Int) (z1 : Int) (z2 : Int) (z3 : ByteArray) (z4 : Int) (z5 : List FEntry) (z6 : Int) (z7 : Int) (z8 : List FInt) (z9 : List FValue) (z10 : List FCall) (z11 : List FTry) (z12 : List FEnd) (z13 : Int) (z14 : ByteArray) (z15 : ByteArray) (z16 : Int) (z17 : Int) (z18 : Int) (h1 : ToValue ⟨z1, z2, z3, z4, z5⟩) (h6 : ToFrame ⟨z6, z7, z8, z9, z10, z11, z12, z13, z14, z15, z16, z17, z18⟩) : ToGen ⟨z0, ⟨z1, z2, z3, z4, z5⟩, ⟨z6, z7, z8, z9, z10, z11, z12, z13, z14, z15, z16, z17, z18⟩⟩ := by
  intro us w B hB0 hr
  rw [FGen.c_eq] at hr ⊢
  obtain ⟨us0, rfl, hr_0⟩ := hr.unv
  obtain ⟨us1, rfl, hr_1⟩ := hr_0.unv
  obtain ⟨us2, rfl, hr_2⟩ := hr_1.unv
  obtain ⟨us3, rfl, hr_3⟩ := hr_2.unv
  obtain ⟨us4, rfl, hr_4⟩ := hr_3.unv
  obtain ⟨A5, c5, us5, rfl, r5, hr_5⟩ := hr_4.uns
  obtain ⟨us6, rfl, hr_6⟩ := hr_5.unv
  obtain ⟨us7, rfl, hr_7⟩ := hr_6.unv
  obtain ⟨A8, c8, us8, rfl, r8, hr_8⟩ := hr_7.uns
  obtain ⟨A9, c9, us9, rfl, r9, hr_9⟩ := hr_8.uns
  obtain ⟨A10, c10, us10, rfl, r10, hr_10⟩ := hr_9.uns
  obtain ⟨A11, c11, us11, rfl, r11, hr_11⟩ := hr_10.uns
  obtain ⟨A12, c12, us12, rfl, r12, hr_12⟩ := hr_11.uns
  obtain ⟨us13, rfl, hr_13⟩ := hr_12.unv
  obtain ⟨us14, rfl, hr_14⟩ := hr_13.unv
  obtain ⟨us15, rfl, hr_15⟩ := hr_14.unv
  obtain ⟨us16, rfl, hr_16⟩ := hr_15.unv
  obtain ⟨us17, rfl, hr_17⟩ := hr_16.unv
  obtain ⟨us18, rfl, hr_18⟩ := hr_17.unv
  obtain rfl := hr_18.un0
  have R5 := hid r5
  clear r5
  have R8 := hid r8
  clear r8
  have R9 := hid r9
  clear r9
  have R10 := hid r10
  clear r10
  have R11 := hid r11
  clear r11
  have R12 := hid r12
  clear r12
  have H1 := hid h1
  clear h1
  have H6 := hid h6
  clear h6
  go_enter Tryz.func68, Tryz.ntmps68
  go_wp2_with fail
  refine calls_worldD _ (fun X => Blk X (w.heap.size) 134 #[.int .i64 z0, .int .i64 z1, .int .i64 z2, .string z3, .int .i64 z4, .slice A5 z5.length c5, .int .i64 z6, .int .i64 z7, .slice A8 z8.length c8, .slice A9 z9.length c9, .slice A10 z10.length c10, .slice A11 z11.length c11, .slice A12 z12.length c12, .int .i64 z13, .string z14, .string z15, .int .i64 z16, .int .i64 z17, .int .i64 z18] ∧ Blk X (w.heap.size + 1) 93 #[.int .i64 0, .int .i64 0, .int .i64 0, .string ⟨#[]⟩, .int .i64 0, .slice none 0 0, .int .i64 0, .int .i64 0, .slice none 0 0, .slice none 0 0, .slice none 0 0, .slice none 0 0, .slice none 0 0, .int .i64 0, .string ⟨#[]⟩, .string ⟨#[]⟩, .int .i64 0, .int .i64 0, .int .i64 0] ∧ Blk X (w.heap.size + 1 + 1) 93 #[.int .i64 z0, .int .i64 0, .int .i64 0, .string ⟨#[]⟩, .int .i64 0, .slice none 0 0, .int .i64 0, .int .i64 0, .slice none 0 0, .slice none 0 0, .slice none 0 0, .slice none 0 0, .slice none 0 0, .int .i64 0, .string ⟨#[]⟩, .string ⟨#[]⟩, .int .i64 0, .int .i64 0, .int .i64 0] ∧ Below w.heap.size w X) ⟨((Blk.new w _ _).alloc _).alloc _, (Blk.new' (w.alloc _) _ _ _ (by simp)).alloc _, Blk.new' ((w.alloc _).alloc _) _ _ _ (by simp), ((((Below.refl _ _).alloc (Nat.le_refl _) _).alloc (by simp) _).alloc (by simp; omega) _)⟩ ?_
  rintro X0 ⟨ba, br, bo, hB⟩
  have s0 := bo.lt
  refine (H1.out [.int .i64 z1, .int .i64 z2, .string z3, .int .i64 z4, .slice A5 z5.length c5] _ B (by omega) (by rw [FValue.c_eq]; exact (RdVs.cons (by unfold RdC; rfl) (RdVs.cons (by unfold RdC; rfl) (RdVs.cons (by unfold RdC; rfl) (RdVs.cons (by unfold RdC; rfl) (RdVs.cons (R5.out.below hB hB0) (RdVs.nil _ _)))))))).mono ?_
  rw [FValue.c_eq]
  rintro e Y0 ⟨us_, rfl, own, hb⟩
  have hv := own.vs
  obtain ⟨us_1, rfl, hv_0⟩ := hv.unv
  obtain ⟨us_2, rfl, hv_1⟩ := hv_0.unv
  obtain ⟨us_3, rfl, hv_2⟩ := hv_1.unv
  obtain ⟨us_4, rfl, hv_3⟩ := hv_2.unv
  obtain ⟨D5, d5, us_5, rfl, _, hv_4⟩ := hv_3.uns
  obtain rfl := hv_4.un0
  have o1 := own
  clear own
  replace ba := ba.below hb (Nat.le_refl _)
  replace br := br.below hb (Nat.le_refl _)
  replace bo := bo.below hb (Nat.le_refl _)
  replace hB := hB.trans (hb.mono (by omega))
  have t0 : X0.heap.size ≤ Y0.heap.size := hb.size
  clear hb
  have ba_6 : Y0.cell? ⟨w.heap.size, 6, none⟩ = some (.int .i64 z6) := ba.cell 6
  have ba_7 : Y0.cell? ⟨w.heap.size, 7, none⟩ = some (.int .i64 z7) := ba.cell 7
  have ba_8 : Y0.cell? ⟨w.heap.size, 8, none⟩ = some (.slice A8 z8.length c8) := ba.cell 8
  have ba_9 : Y0.cell? ⟨w.heap.size, 9, none⟩ = some (.slice A9 z9.length c9) := ba.cell 9
  have ba_10 : Y0.cell? ⟨w.heap.size, 10, none⟩ = some (.slice A10 z10.length c10) := ba.cell 10
  have ba_11 : Y0.cell? ⟨w.heap.size, 11, none⟩ = some (.slice A11 z11.length c11) := ba.cell 11
  have ba_12 : Y0.cell? ⟨w.heap.size, 12, none⟩ = some (.slice A12 z12.length c12) := ba.cell 12
  have ba_13 : Y0.cell? ⟨w.heap.size, 13, none⟩ = some (.int .i64 z13) := ba.cell 13
  have ba_14 : Y0.cell? ⟨w.heap.size, 14, none⟩ = some (.string z14) := ba.cell 14
  have ba_15 : Y0.cell? ⟨w.heap.size, 15, none⟩ = some (.string z15) := ba.cell 15
  have ba_16 : Y0.cell? ⟨w.heap.size, 16, none⟩ = some (.int .i64 z16) := ba.cell 16
  have ba_17 : Y0.cell? ⟨w.heap.size, 17, none⟩ = some (.int .i64 z17) := ba.cell 17
  have ba_18 : Y0.cell? ⟨w.heap.size, 18, none⟩ = some (.int .i64 z18) := ba.cell 18
  have ba_l := ba.lt
  have ba_f := fun i => ba.frozen i
  have bo_1 : Y0.cell? ⟨w.heap.size + 1 + 1, 1, none⟩ = some (.int .i64 0) := bo.cell 1
  have bo_2 : Y0.cell? ⟨w.heap.size + 1 + 1, 2, none⟩ = some (.int .i64 0) := bo.cell 2
  have bo_3 : Y0.cell? ⟨w.heap.size + 1 + 1, 3, none⟩ = some (.string ⟨#[]⟩) := bo.cell 3
  have bo_4 : Y0.cell? ⟨w.heap.size + 1 + 1, 4, none⟩ = some (.int .i64 0) := bo.cell 4
  have bo_5 : Y0.cell? ⟨w.heap.size + 1 + 1, 5, none⟩ = some (.slice none 0 0) := bo.cell 5
  have bo_l := bo.lt
  have bo_f := fun i => bo.frozen i
  go_wp2_with fail
  clear ba_6 ba_7 ba_8 ba_9 ba_10 ba_11 ba_12 ba_13 ba_14 ba_15 ba_16 ba_17 ba_18 ba_l ba_f
  clear bo_1 bo_2 bo_3 bo_4 bo_5 bo_l bo_f
  refine calls_worldD _ (fun X => Blk X (w.heap.size) 134 #[.int .i64 z0, .int .i64 z1, .int .i64 z2, .string z3, .int .i64 z4, .slice A5 z5.length c5, .int .i64 z6, .int .i64 z7, .slice A8 z8.length c8, .slice A9 z9.length c9, .slice A10 z10.length c10, .slice A11 z11.length c11, .slice A12 z12.length c12, .int .i64 z13, .string z14, .string z15, .int .i64 z16, .int .i64 z17, .int .i64 z18] ∧ Blk X (w.heap.size + 1) 93 #[.int .i64 0, .int .i64 0, .int .i64 0, .string ⟨#[]⟩, .int .i64 0, .slice none 0 0, .int .i64 0, .int .i64 0, .slice none 0 0, .slice none 0 0, .slice none 0 0, .slice none 0 0, .slice none 0 0, .int .i64 0, .string ⟨#[]⟩, .string ⟨#[]⟩, .int .i64 0, .int .i64 0, .int .i64 0] ∧ Blk X (w.heap.size + 1 + 1) 93 #[.int .i64 z0, .int .i64 z1, .int .i64 z2, .string z3, .int .i64 z4, .slice D5 z5.length d5, .int .i64 0, .int .i64 0, .slice none 0 0, .slice none 0 0, .slice none 0 0, .slice none 0 0, .slice none 0 0, .int .i64 0, .string ⟨#[]⟩, .string ⟨#[]⟩, .int .i64 0, .int .i64 0, .int .i64 0] ∧ OwnI X X0.heap.size Y0.heap.size [.v (.int .i64 z1), .v (.int .i64 z2), .v (.string z3), .v (.int .i64 z4), .s 153 8 z5.length (FEntry.flat z5)] [.int .i64 z1, .int .i64 z2, .string z3, .int .i64 z4, .slice D5 z5.length d5] ∧ Below w.heap.size w X ∧ Y0.heap.size ≤ X.heap.size) ⟨(((((ba.far (by simp; try omega) _).far (by simp; try omega) _).far (by simp; try omega) _).far (by simp; try omega) _).far (by simp; try omega) _), (((((br.far (by simp; try omega) _).far (by simp; try omega) _).far (by simp; try omega) _).far (by simp; try omega) _).far (by simp; try omega) _), (by simpa using (((((bo.set_ 1 _).set_ 2 _).set_ 3 _).set_ 4 _).set_ 5 _)), (((((o1.set (.inl (by simp; omega)) _).set (.inl (by simp; omega)) _).set (.inl (by simp; omega)) _).set (.inl (by simp; omega)) _).set (.inl (by simp; omega)) _), (((((hB.setCell (by simp; try omega) _).setCell (by simp; try omega) _).setCell (by simp; try omega) _).setCell (by simp; try omega) _).setCell (by simp; try omega) _), (by simp)⟩ ?_
  clear ba br bo hB o1
  rintro X1 ⟨ba, br, bo, o1, hB, y1⟩
  have s1 := bo.lt
  refine (H6.out [.int .i64 z6, .int .i64 z7, .slice A8 z8.length c8, .slice A9 z9.length c9, .slice A10 z10.length c10, .slice A11 z11.length c11, .slice A12 z12.length c12, .int .i64 z13, .string z14, .string z15, .int .i64 z16, .int .i64 z17, .int .i64 z18] _ B (by omega) (by rw [FFrame.c_eq]; exact (RdVs.cons (by unfold RdC; rfl) (RdVs.cons (by unfold RdC; rfl) (RdVs.cons (R8.out.below hB hB0) (RdVs.cons (R9.out.below hB hB0) (RdVs.cons (R10.out.below hB hB0) (RdVs.cons (R11.out.below hB hB0) (RdVs.cons (R12.out.below hB hB0) (RdVs.cons (by unfold RdC; rfl) (RdVs.cons (by unfold RdC; rfl) (RdVs.cons (by unfold RdC; rfl) (RdVs.cons (by unfold RdC; rfl) (RdVs.cons (by unfold RdC; rfl) (RdVs.cons (by unfold RdC; rfl) (RdVs.nil _ _)))))))))))))))).mono ?_
  rw [FFrame.c_eq]
  rintro e Y1 ⟨us_, rfl, own, hb⟩
  have hv := own.vs
  obtain ⟨us_6, rfl, hv_0⟩ := hv.unv
  obtain ⟨us_7, rfl, hv_1⟩ := hv_0.unv
  obtain ⟨D8, d8, us_8, rfl, _, hv_2⟩ := hv_1.uns
  obtain ⟨D9, d9, us_9, rfl, _, hv_3⟩ := hv_2.uns
  obtain ⟨D10, d10, us_10, rfl, _, hv_4⟩ := hv_3.uns
  obtain ⟨D11, d11, us_11, rfl, _, hv_5⟩ := hv_4.uns
  obtain ⟨D12, d12, us_12, rfl, _, hv_6⟩ := hv_5.uns
  obtain ⟨us_13, rfl, hv_7⟩ := hv_6.unv
  obtain ⟨us_14, rfl, hv_8⟩ := hv_7.unv
  obtain ⟨us_15, rfl, hv_9⟩ := hv_8.unv
  obtain ⟨us_16, rfl, hv_10⟩ := hv_9.unv
  obtain ⟨us_17, rfl, hv_11⟩ := hv_10.unv
  obtain ⟨us_18, rfl, hv_12⟩ := hv_11.unv
  obtain rfl := hv_12.un0
  have o6 := own
  clear own
  replace ba := ba.below hb (Nat.le_refl _)
  replace br := br.below hb (Nat.le_refl _)
  replace bo := bo.below hb (Nat.le_refl _)
  replace o1 := o1.below hb (Nat.le_refl _)
  replace hB := hB.trans (hb.mono (by omega))
  have t1 : X1.heap.size ≤ Y1.heap.size := hb.size
  clear hb
  clear hr hr_0 hr_1 hr_2 hr_3 hr_4 hr_5 hr_6 hr_7 hr_8 hr_9 hr_10 hr_11 hr_12 hr_13 hr_14 hr_15 hr_16 hr_17 hr_18
  have hw2 := hB.size
  have hl_ := bo.lt
  have lr_ := br.lt
  have ON1 := hid (show ∀ v ∈ ([.int .i64 z6, .int .i64 z7, .slice D8 z8.length d8, .slice D9 z9.length d9, .slice D10 z10.length d10, .slice D11 z11.length d11, .slice D12 z12.length d12, .int .i64 z13, .string z14, .string z15, .int .i64 z16, .int .i64 z17, .int .i64 z18] : List Value), v.oneCell' = true from by intro v hv; simp only [List.mem_cons, List.not_mem_nil, or_false] at hv; rcases hv with rfl | rfl | rfl | rfl | rfl | rfl | rfl | rfl | rfl | rfl | rfl | rfl | rfl <;> rfl)
  have ON2 := hid (show ∀ v ∈ ([.int .i64 z0, .int .i64 z1, .int .i64 z2, .string z3, .int .i64 z4, .slice D5 z5.length d5, .int .i64 z6, .int .i64 z7, .slice D8 z8.length d8, .slice D9 z9.length d9, .slice D10 z10.length d10, .slice D11 z11.length d11, .slice D12 z12.length d12, .int .i64 z13, .string z14, .string z15, .int .i64 z16, .int .i64 z17, .int .i64 z18] : List Value), v.oneCell' = true from by intro v hv; simp only [List.mem_cons, List.not_mem_nil, or_false] at hv; rcases hv with rfl | rfl | rfl | rfl | rfl | rfl | rfl | rfl | rfl | rfl | rfl | rfl | rfl | rfl | rfl | rfl | rfl | rfl | rfl <;> rfl)
  have BO := hid bo
  have BR := hid br
  have HB := hid hB
  clear bo br hB ba
  have Ho1 := hid o1
  clear o1
  have Ho6 := hid o6
  clear o6
  go_wp2_with (first | (refine wpList_store_blk 91 _ _ (w.heap.size + 1 + 1) 93 [.int .i64 z0, .int .i64 z1, .int .i64 z2, .string z3, .int .i64 z4, .slice D5 z5.length d5] [.int .i64 0, .int .i64 0, .slice none 0 0, .slice none 0 0, .slice none 0 0, .slice none 0 0, .slice none 0 0, .int .i64 0, .string ⟨#[]⟩, .string ⟨#[]⟩, .int .i64 0, .int .i64 0, .int .i64 0] [] [.int .i64 z6, .int .i64 z7, .slice D8 z8.length d8, .slice D9 z9.length d9, .slice D10 z10.length d10, .slice D11 z11.length d11, .slice D12 z12.length d12, .int .i64 z13, .string z14, .string z15, .int .i64 z16, .int .i64 z17, .int .i64 z18] BO.out rfl rfl rfl rfl (by kernel_rfl) ON1.out rfl ?_; intro Z1 bo1 gr1; have BO1 := hid (show Blk Z1 (w.heap.size + 1 + 1) 93 #[.int .i64 z0, .int .i64 z1, .int .i64 z2, .string z3, .int .i64 z4, .slice D5 z5.length d5, .int .i64 z6, .int .i64 z7, .slice D8 z8.length d8, .slice D9 z9.length d9, .slice D10 z10.length d10, .slice D11 z11.length d11, .slice D12 z12.length d12, .int .i64 z13, .string z14, .string z15, .int .i64 z16, .int .i64 z17, .int .i64 z18] from bo1); have BR1 := hid (BR.out.grownB gr1 (by omega)); have GR1 := hid gr1; have hz1 := gr1.size; clear bo1 gr1) | (refine wpList_load_blk 93 _ (w.heap.size + 1 + 1) 0 93 _ [.int .i64 z0, .int .i64 z1, .int .i64 z2, .string z3, .int .i64 z4, .slice D5 z5.length d5, .int .i64 z6, .int .i64 z7, .slice D8 z8.length d8, .slice D9 z9.length d9, .slice D10 z10.length d10, .slice D11 z11.length d11, .slice D12 z12.length d12, .int .i64 z13, .string z14, .string z15, .int .i64 z16, .int .i64 z17, .int .i64 z18] (.struct (flds Tryz.prog 93)) BO1.out rfl rfl rfl (by kernel_rfl) rfl (by kernel_rfl) rfl ?_) | (refine wpList_store_blk 93 _ _ (w.heap.size + 1) 93 [] [.int .i64 0, .int .i64 0, .int .i64 0, .string ⟨#[]⟩, .int .i64 0, .slice none 0 0, .int .i64 0, .int .i64 0, .slice none 0 0, .slice none 0 0, .slice none 0 0, .slice none 0 0, .slice none 0 0, .int .i64 0, .string ⟨#[]⟩, .string ⟨#[]⟩, .int .i64 0, .int .i64 0, .int .i64 0] [] [.int .i64 z0, .int .i64 z1, .int .i64 z2, .string z3, .int .i64 z4, .slice D5 z5.length d5, .int .i64 z6, .int .i64 z7, .slice D8 z8.length d8, .slice D9 z9.length d9, .slice D10 z10.length d10, .slice D11 z11.length d11, .slice D12 z12.length d12, .int .i64 z13, .string z14, .string z15, .int .i64 z16, .int .i64 z17, .int .i64 z18] BR1.out rfl rfl rfl rfl (by kernel_rfl) ON2.out rfl ?_; intro Z2 br2 gr2; have BR2 := hid (show Blk Z2 (w.heap.size + 1) 93 #[.int .i64 z0, .int .i64 z1, .int .i64 z2, .string z3, .int .i64 z4, .slice D5 z5.length d5, .int .i64 z6, .int .i64 z7, .slice D8 z8.length d8, .slice D9 z9.length d9, .slice D10 z10.length d10, .slice D11 z11.length d11, .slice D12 z12.length d12, .int .i64 z13, .string z14, .string z15, .int .i64 z16, .int .i64 z17, .int .i64 z18] from br2); have GR2 := hid gr2; have hz2 := gr2.size; clear br2 gr2))
  have hval := BR2.out.value (P := Tryz.prog) 93 (.struct (flds Tryz.prog 93)) (by kernel_rfl) rfl (by kernel_rfl)
  have o1 := (Ho1.out.grownB GR1.out (.inl (by omega))).grownB GR2.out (.inl (by omega))
  have o6 := (Ho6.out.grownB GR1.out (.inl (by omega))).grownB GR2.out (.inl (by omega))
  have hown : OwnI Z2 w.heap.size Z2.heap.size [.v (.int .i64 z0), .v (.int .i64 z1), .v (.int .i64 z2), .v (.string z3), .v (.int .i64 z4), .s 153 8 z5.length (FEntry.flat z5), .v (.int .i64 z6), .v (.int .i64 z7), .s 3 1 z8.length (FInt.flat z8), .s 82 5 z9.length (FValue.flat z9), .s 156 9 z10.length (FCall.flat z10), .s 224 6 z11.length (FTry.flat z11), .s 160 9 z12.length (FEnd.flat z12), .v (.int .i64 z13), .v (.string z14), .v (.string z15), .v (.int .i64 z16), .v (.int .i64 z17), .v (.int .i64 z18)] [.int .i64 z0, .int .i64 z1, .int .i64 z2, .string z3, .int .i64 z4, .slice D5 z5.length d5, .int .i64 z6, .int .i64 z7, .slice D8 z8.length d8, .slice D9 z9.length d9, .slice D10 z10.length d10, .slice D11 z11.length d11, .slice D12 z12.length d12, .int .i64 z13, .string z14, .string z15, .int .i64 z16, .int .i64 z17, .int .i64 z18] := by
    refine OwnI.wide (lo := X0.heap.size) (hi := Y1.heap.size) ?_ (by omega) (by omega)
    exact (OwnI.consv (OwnI.app (m := Y0.heap.size) (hi := Y1.heap.size) o1 (OwnI.wide (lo' := Y0.heap.size) (hi' := Y1.heap.size) (OwnI.app (m := Y1.heap.size) (hi := Y1.heap.size) o6 (OwnI.wide (lo' := Y1.heap.size) (hi' := Y1.heap.size) (OwnI.nil _ Y1.heap.size Y1.heap.size) (by omega) (by omega)) (Nat.le_refl _) (by omega) (by omega)) (by omega) (by omega)) (Nat.le_refl _) (by omega) (by omega)) _)
  have hB1 := below_grownB HB.out GR1.out hw2 (by omega)
  have hB2 := below_grownB hB1 GR2.out hB1.size (by omega)
  refine bodyPost_ret (v := .agg #[.int .i64 z0, .int .i64 z1, .int .i64 z2, .string z3, .int .i64 z4, .slice D5 z5.length d5, .int .i64 z6, .int .i64 z7, .slice D8 z8.length d8, .slice D9 z9.length d9, .slice D10 z10.length d10, .slice D11 z11.length d11, .slice D12 z12.length d12, .int .i64 z13, .string z14, .string z15, .int .i64 z16, .int .i64 z17, .int .i64 z18]) ?_ rfl ⟨_, rfl, hown, hB2⟩
  rw [results_cell_one Tryz.results68]
  change ((asAddr (.pointer (some ⟨w.heap.size + 1, 0, none⟩))).run Tryz.prog Z2).andThen (fun a w₁ => (loadVar 93 a).run Tryz.prog w₁) = _
  simp [asAddr, Result.andThen, hval]
theorem oneGen (x : FGen) : ∀ y, y ∈ x.c → ∀ u, y = .v u → u.oneCell' = true := by
  obtain ⟨z0, ⟨z1, z2, z3, z4, z5⟩, ⟨z6, z7, z8, z9, z10, z11, z12, z13, z14, z15, z16, z17, z18⟩⟩ := x
  rw [FGen.c_eq]
  intro y hx u hu
  simp only [List.mem_cons, List.not_mem_nil, or_false] at hx
  rcases hx with rfl | rfl | rfl | rfl | rfl | rfl | rfl | rfl | rfl | rfl | rfl | rfl | rfl | rfl | rfl | rfl | rfl | rfl | rfl <;> (first | (injection hu with hu; subst hu; rfl) | cases hu)
theorem infoGen : (Tryz.prog.info? 93).map (fun i => (i.zero.map Value.cells, i.size, i.bytes)) = some (some #[.int .i64 0, .int .i64 0, .int .i64 0, .string ByteArray.empty, .int .i64 0, .slice none 0 0, .int .i64 0, .int .i64 0, .slice none 0 0, .slice none 0 0, .slice none 0 0, .slice none 0 0, .slice none 0 0, .int .i64 0, .string ByteArray.empty, .string ByteArray.empty, .int .i64 0, .int .i64 0, .int .i64 0], 19, 272) := by kernel_rfl
theorem toGenS_of (l : List FGen) (hl : l.length ≤ 1048576) (he : ∀ x, x ∈ l → ToGen x) : ToGenS l := by
  intro u w B hB0 hr0
  have hr := hr0.up hB0
  clear hr0
  obtain ⟨A, c, rfl⟩ := hr.form
  have HC := hid hr
  have hcap := hr.cap
  have hn : l.length ≤ 9223372036854775807 := by omega
  have hmk := fun W => make_law (P := Tryz.prog) 46 93 _ 19 272 Tryz.underlying46 infoGen l.length (by omega) hn W
  have HE := hid he
  clear he hr hcap
  go_enter Tryz.func28, Tryz.ntmps28
  go_wp2
  go_loopw [4] (fun i wr => ∃ k : Nat, k ≤ l.length ∧ i = .int .i64 k ∧ (∃ us zs, us.length = k * 19 ∧ zs.length = (l.length - k) * 19 ∧ wr.ownsRow w.heap.size 93 19 (.slice (some ⟨w.heap.size, 0, none⟩) l.length l.length) l.length (us ++ zs) ∧ OwnI wr (w.heap.size + 1) wr.heap.size (FGen.flat (l.take k)) us) ∧ Below w.heap.size w wr) (fun i _ => l.length - (intOf i).toNat)
  case atStart => exact ⟨0, Nat.zero_le _, rfl, ⟨[], madeL #[.int .i64 0, .int .i64 0, .int .i64 0, .string ByteArray.empty, .int .i64 0, .slice none 0 0, .int .i64 0, .int .i64 0, .slice none 0 0, .slice none 0 0, .slice none 0 0, .slice none 0 0, .slice none 0 0, .int .i64 0, .string ByteArray.empty, .string ByteArray.empty, .int .i64 0, .int .i64 0, .int .i64 0] (l.length * 19), by simp, by simp [madeL, size_madeCells], own_madeL w _ l.length 19 _ rfl (by omega) (by unfold maxLen; omega), OwnI.nil _ _ _⟩, (Below.refl _ _).alloc (Nat.le_refl _) _⟩
  case round =>
    obtain ⟨k, hk, rfl, ⟨us, zs, hus, hzs, hrow, hown⟩, hb⟩ := hrel
    have HROW := hid hrow
    have HOWN := hid hown
    have HUS := hid hus
    have HZS := hid hzs
    have hsz : w.heap.size < wr.heap.size := (hrow.lt _ rfl).2
    clear hmk hrow hown hus hzs
    by_cases hlt : k < l.length
    · obtain ⟨x, hx⟩ : ∃ x, l[k]? = some x := ⟨_, List.getElem?_eq_getElem hlt⟩
      obtain ⟨bc, offc, vs, rfl, hblc, hvl, hv, hra⟩ := RdC.elem FGen.len HC.out hx
      have HX := hid hx
      have HT := hid (HE.out _ (List.mem_of_getElem? hx))
      have HV := hid (hv.on hb (Nat.le_refl _) (Nat.le_refl _))
      have HRA := hid (range_below hra hb hblc)
      have hlt2 : (k : Int) < (l.length : Int) := by omega
      have hk0 : (0 : Int) ≤ (k : Int) := by omega
      have hws := hb.size
      have HB := hid hb
      clear hx hv hra hb
      go_wp2_with (first | (refine wpList_load_elem 134 _ bc (offc + k * 19) vs (.struct (flds Tryz.prog 134)) HRA.out rfl rfl (by kernel_rfl) rfl hvl (by kernel_rfl) rfl ?_) | (go_at_call 68; refine (HT.out vs _ w.heap.size (by omega) HV.out).mono ?_; rintro e w2 ⟨us2, rfl, own2, hb2⟩; have hu2 : us2.length = 19 := own2.vs.1.trans (FGen.len x); have ON2 := hid (OwnL.onecell _ _ _ own2.choose_spec.1 (oneGen x)); have OWN2 := hid own2; have ROW2 := hid (own_below HROW.out hb2 (Nat.le_refl _)); have hsz2 : wr.heap.size ≤ w2.heap.size := hb2.size; have HB2 := hid (HB.out.trans (hb2.mono hws)); have HOWN2 := hid (HOWN.out.below hb2 (Nat.le_refl _)); clear own2 hb2) | (refine wpList_store_elem 93 _ _ (k * 19) us2 ROW2.out rfl rfl rfl hu2 (by omega) (by kernel_rfl) ON2.out rfl ?_; intro w3 row3 gr3; have ROW3 := hid row3; have GR3 := hid gr3; have hsz3 := gr3.size; clear row3 gr3))
      go_roundw
      case rel =>
        have hflat : FGen.flat (l.take (k + 1)) = FGen.flat (l.take k) ++ x.c := by
          rw [List.take_add_one, HX.out]
          simp
        have hset := sets_app us2 us zs (k * 19) HUS.out (by rw [HZS.out, hu2]; omega)
        refine ⟨k + 1, by omega, by go_num, ⟨us ++ us2, zs.drop 19, by rw [List.length_append, HUS.out, hu2]; omega, by rw [List.length_drop, HZS.out]; omega, ?_, ?_⟩, below_grownB HB2.out GR3.out (by omega) (Nat.le_refl _)⟩
        · have hr3 := ROW3.out
          rw [hset, hu2] at hr3
          exact hr3
        · rw [hflat]
          exact ((OwnI.app (m := wr.heap.size) (lo' := wr.heap.size) (hi := w2.heap.size) HOWN2.out OWN2.out (Nat.le_refl _) (by omega) (by omega)).grownB GR3.out (.inl (by omega))).wide (Nat.le_refl _) hsz3
      case measure => simp [intOf]; omega
    · obtain rfl : k = l.length := by omega
      clear hlt
      go_wp2_with fail
      go_ret
      have hz0 : zs = [] := List.eq_nil_of_length_eq_zero (by rw [HZS.out]; simp)
      have hr1 := HROW.out
      have ho1 := HOWN.out
      rw [hz0, List.append_nil] at hr1
      rw [List.take_length] at ho1
      exact ⟨_, _, rfl, OwnI.mk hr1 ho1 (fun g hg => by
        have e9 : w.heap.size = g := by simpa [Value.ownBlock] using hg
        omega) (by omega) (Nat.le_refl _), hb⟩
theorem toGen_any (x : FGen) (hw : x.wt ≤ 1048576) : ToGen x := by
  obtain ⟨z0, ⟨z1, z2, z3, z4, z5⟩, ⟨z6, z7, z8, z9, z10, z11, z12, z13, z14, z15, z16, z17, z18⟩⟩ := x
  exact toGen_of z0 z1 z2 z3 z4 z5 z6 z7 z8 z9 z10 z11 z12 z13 z14 z15 z16 z17 z18 (toValue_any _ (by rw [FGen.wt_eq] at hw; rw [FValue.wt_eq]; omega)) (toFrame_any _ (by rw [FGen.wt_eq] at hw; rw [FFrame.wt_eq]; omega))
theorem toGenS_any (l : List FGen) (hw : l.length + FGen.wts l ≤ 1048576) : ToGenS l := (toGenS_of l (by omega) (fun x hx => toGen_any x (by have := FGen.wts_at l x hx; omega)))
def ToHeader (x : FHeader) : Prop := ∀ (us : List Value) (w : World) (B : Nat), B ≤ w.heap.size → RdVs w B x.c us → Calls Tryz.prog 105 #[.agg us.toArray] w fun e w' => ∃ us', e = .returned (.agg us'.toArray) ∧ OwnI w' w.heap.size w'.heap.size x.c us' ∧ Below w.heap.size w w'
def ToHeaderS (l : List FHeader) : Prop := ∀ (u : Value) (w : World) (B : Nat), B ≤ w.heap.size → RdC w B (.s 208 2 l.length (FHeader.flat l)) u → Calls Tryz.prog 70 #[u] w fun e w' => ∃ A c, e = .returned (.slice A l.length c) ∧ OwnI w' w.heap.size w'.heap.size [.s 208 2 l.length (FHeader.flat l)] [.slice A l.length c] ∧ Below w.heap.size w w'
theorem toHeader_of (z0 : ByteArray) (z1 : ByteArray)  : ToHeader ⟨z0, z1⟩ := by
  intro us w B hB0 hr
  rw [FHeader.c_eq] at hr ⊢
  obtain ⟨us0, rfl, hr_0⟩ := hr.unv
  obtain ⟨us1, rfl, hr_1⟩ := hr_0.unv
  obtain rfl := hr_1.un0
  go_enter Tryz.func105, Tryz.ntmps105
  go_wp2_with fail
  exact bodyPost_ret (v := .agg #[.string z0, .string z1]) (by simp [results, Tryz.results105, go_sem]) rfl ⟨_, rfl, (OwnI.consv (OwnI.consv (OwnI.nil _ _ _) _) _), by repeat (first | exact Below.refl _ _ | (refine Below.alloc ?_ (by simp; try omega) _) | (refine Below.setCell ?_ (by simp) _))⟩
theorem oneHeader (x : FHeader) : ∀ y, y ∈ x.c → ∀ u, y = .v u → u.oneCell' = true := by
  obtain ⟨z0, z1⟩ := x
  rw [FHeader.c_eq]
  intro y hx u hu
  simp only [List.mem_cons, List.not_mem_nil, or_false] at hx
  rcases hx with rfl | rfl <;> (first | (injection hu with hu; subst hu; rfl) | cases hu)
theorem infoHeader : (Tryz.prog.info? 208).map (fun i => (i.zero.map Value.cells, i.size, i.bytes)) = some (some #[.string ByteArray.empty, .string ByteArray.empty], 2, 32) := by kernel_rfl
theorem toHeaderS_of (l : List FHeader) (hl : l.length ≤ 1048576) (he : ∀ x, x ∈ l → ToHeader x) : ToHeaderS l := by
  intro u w B hB0 hr0
  have hr := hr0.up hB0
  clear hr0
  obtain ⟨A, c, rfl⟩ := hr.form
  have HC := hid hr
  have hcap := hr.cap
  have hn : l.length ≤ 9223372036854775807 := by omega
  have hmk := fun W => make_law (P := Tryz.prog) 48 208 _ 2 32 Tryz.underlying48 infoHeader l.length (by omega) hn W
  have HE := hid he
  clear he hr hcap
  go_enter Tryz.func70, Tryz.ntmps70
  go_wp2
  go_loopw [4] (fun i wr => ∃ k : Nat, k ≤ l.length ∧ i = .int .i64 k ∧ (∃ us zs, us.length = k * 2 ∧ zs.length = (l.length - k) * 2 ∧ wr.ownsRow w.heap.size 208 2 (.slice (some ⟨w.heap.size, 0, none⟩) l.length l.length) l.length (us ++ zs) ∧ OwnI wr (w.heap.size + 1) wr.heap.size (FHeader.flat (l.take k)) us) ∧ Below w.heap.size w wr) (fun i _ => l.length - (intOf i).toNat)
  case atStart => exact ⟨0, Nat.zero_le _, rfl, ⟨[], madeL #[.string ByteArray.empty, .string ByteArray.empty] (l.length * 2), by simp, by simp [madeL, size_madeCells], own_madeL w _ l.length 2 _ rfl (by omega) (by unfold maxLen; omega), OwnI.nil _ _ _⟩, (Below.refl _ _).alloc (Nat.le_refl _) _⟩
  case round =>
    obtain ⟨k, hk, rfl, ⟨us, zs, hus, hzs, hrow, hown⟩, hb⟩ := hrel
    have HROW := hid hrow
    have HOWN := hid hown
    have HUS := hid hus
    have HZS := hid hzs
    have hsz : w.heap.size < wr.heap.size := (hrow.lt _ rfl).2
    clear hmk hrow hown hus hzs
    by_cases hlt : k < l.length
    · obtain ⟨x, hx⟩ : ∃ x, l[k]? = some x := ⟨_, List.getElem?_eq_getElem hlt⟩
      obtain ⟨bc, offc, vs, rfl, hblc, hvl, hv, hra⟩ := RdC.elem FHeader.len HC.out hx
      have HX := hid hx
      have HT := hid (HE.out _ (List.mem_of_getElem? hx))
      have HV := hid (hv.on hb (Nat.le_refl _) (Nat.le_refl _))
      have HRA := hid (range_below hra hb hblc)
      have hlt2 : (k : Int) < (l.length : Int) := by omega
      have hk0 : (0 : Int) ≤ (k : Int) := by omega
      have hws := hb.size
      have HB := hid hb
      clear hx hv hra hb
      go_wp2_with (first | (refine wpList_load_elem 192 _ bc (offc + k * 2) vs (.struct (flds Tryz.prog 192)) HRA.out rfl rfl (by kernel_rfl) rfl hvl (by kernel_rfl) rfl ?_) | (go_at_call 105; refine (HT.out vs _ w.heap.size (by omega) HV.out).mono ?_; rintro e w2 ⟨us2, rfl, own2, hb2⟩; have hu2 : us2.length = 2 := own2.vs.1.trans (FHeader.len x); have ON2 := hid (OwnL.onecell _ _ _ own2.choose_spec.1 (oneHeader x)); have OWN2 := hid own2; have ROW2 := hid (own_below HROW.out hb2 (Nat.le_refl _)); have hsz2 : wr.heap.size ≤ w2.heap.size := hb2.size; have HB2 := hid (HB.out.trans (hb2.mono hws)); have HOWN2 := hid (HOWN.out.below hb2 (Nat.le_refl _)); clear own2 hb2) | (refine wpList_store_elem 208 _ _ (k * 2) us2 ROW2.out rfl rfl rfl hu2 (by omega) (by kernel_rfl) ON2.out rfl ?_; intro w3 row3 gr3; have ROW3 := hid row3; have GR3 := hid gr3; have hsz3 := gr3.size; clear row3 gr3))
      go_roundw
      case rel =>
        have hflat : FHeader.flat (l.take (k + 1)) = FHeader.flat (l.take k) ++ x.c := by
          rw [List.take_add_one, HX.out]
          simp
        have hset := sets_app us2 us zs (k * 2) HUS.out (by rw [HZS.out, hu2]; omega)
        refine ⟨k + 1, by omega, by go_num, ⟨us ++ us2, zs.drop 2, by rw [List.length_append, HUS.out, hu2]; omega, by rw [List.length_drop, HZS.out]; omega, ?_, ?_⟩, below_grownB HB2.out GR3.out (by omega) (Nat.le_refl _)⟩
        · have hr3 := ROW3.out
          rw [hset, hu2] at hr3
          exact hr3
        · rw [hflat]
          exact ((OwnI.app (m := wr.heap.size) (lo' := wr.heap.size) (hi := w2.heap.size) HOWN2.out OWN2.out (Nat.le_refl _) (by omega) (by omega)).grownB GR3.out (.inl (by omega))).wide (Nat.le_refl _) hsz3
      case measure => simp [intOf]; omega
    · obtain rfl : k = l.length := by omega
      clear hlt
      go_wp2_with fail
      go_ret
      have hz0 : zs = [] := List.eq_nil_of_length_eq_zero (by rw [HZS.out]; simp)
      have hr1 := HROW.out
      have ho1 := HOWN.out
      rw [hz0, List.append_nil] at hr1
      rw [List.take_length] at ho1
      exact ⟨_, _, rfl, OwnI.mk hr1 ho1 (fun g hg => by
        have e9 : w.heap.size = g := by simpa [Value.ownBlock] using hg
        omega) (by omega) (Nat.le_refl _), hb⟩
theorem toHeader_any (x : FHeader) (hw : x.wt ≤ 1048576) : ToHeader x := by
  obtain ⟨z0, z1⟩ := x
  exact toHeader_of z0 z1 
theorem toHeaderS_any (l : List FHeader) (hw : l.length + FHeader.wts l ≤ 1048576) : ToHeaderS l := (toHeaderS_of l (by omega) (fun x hx => toHeader_any x (by have := FHeader.wts_at l x hx; omega)))
def ToBuffer (x : FBuffer) : Prop := ∀ (us : List Value) (w : World) (B : Nat), B ≤ w.heap.size → RdVs w B x.c us → Calls Tryz.prog 106 #[.agg us.toArray] w fun e w' => ∃ us', e = .returned (.agg us'.toArray) ∧ OwnI w' w.heap.size w'.heap.size x.c us' ∧ Below w.heap.size w w'
def ToBufferS (l : List FBuffer) : Prop := ∀ (u : Value) (w : World) (B : Nat), B ≤ w.heap.size → RdC w B (.s 210 2 l.length (FBuffer.flat l)) u → Calls Tryz.prog 71 #[u] w fun e w' => ∃ A c, e = .returned (.slice A l.length c) ∧ OwnI w' w.heap.size w'.heap.size [.s 210 2 l.length (FBuffer.flat l)] [.slice A l.length c] ∧ Below w.heap.size w w'
theorem toBuffer_of (z0 : Int) (z1 : ByteArray)  : ToBuffer ⟨z0, z1⟩ := by
  intro us w B hB0 hr
  rw [FBuffer.c_eq] at hr ⊢
  obtain ⟨us0, rfl, hr_0⟩ := hr.unv
  obtain ⟨us1, rfl, hr_1⟩ := hr_0.unv
  obtain rfl := hr_1.un0
  go_enter Tryz.func106, Tryz.ntmps106
  go_wp2_with fail
  exact bodyPost_ret (v := .agg #[.int .i64 z0, .string z1]) (by simp [results, Tryz.results106, go_sem]) rfl ⟨_, rfl, (OwnI.consv (OwnI.consv (OwnI.nil _ _ _) _) _), by repeat (first | exact Below.refl _ _ | (refine Below.alloc ?_ (by simp; try omega) _) | (refine Below.setCell ?_ (by simp) _))⟩
theorem oneBuffer (x : FBuffer) : ∀ y, y ∈ x.c → ∀ u, y = .v u → u.oneCell' = true := by
  obtain ⟨z0, z1⟩ := x
  rw [FBuffer.c_eq]
  intro y hx u hu
  simp only [List.mem_cons, List.not_mem_nil, or_false] at hx
  rcases hx with rfl | rfl <;> (first | (injection hu with hu; subst hu; rfl) | cases hu)
theorem infoBuffer : (Tryz.prog.info? 210).map (fun i => (i.zero.map Value.cells, i.size, i.bytes)) = some (some #[.int .i64 0, .string ByteArray.empty], 2, 24) := by kernel_rfl
theorem toBufferS_of (l : List FBuffer) (hl : l.length ≤ 1048576) (he : ∀ x, x ∈ l → ToBuffer x) : ToBufferS l := by
  intro u w B hB0 hr0
  have hr := hr0.up hB0
  clear hr0
  obtain ⟨A, c, rfl⟩ := hr.form
  have HC := hid hr
  have hcap := hr.cap
  have hn : l.length ≤ 9223372036854775807 := by omega
  have hmk := fun W => make_law (P := Tryz.prog) 49 210 _ 2 24 Tryz.underlying49 infoBuffer l.length (by omega) hn W
  have HE := hid he
  clear he hr hcap
  go_enter Tryz.func71, Tryz.ntmps71
  go_wp2
  go_loopw [4] (fun i wr => ∃ k : Nat, k ≤ l.length ∧ i = .int .i64 k ∧ (∃ us zs, us.length = k * 2 ∧ zs.length = (l.length - k) * 2 ∧ wr.ownsRow w.heap.size 210 2 (.slice (some ⟨w.heap.size, 0, none⟩) l.length l.length) l.length (us ++ zs) ∧ OwnI wr (w.heap.size + 1) wr.heap.size (FBuffer.flat (l.take k)) us) ∧ Below w.heap.size w wr) (fun i _ => l.length - (intOf i).toNat)
  case atStart => exact ⟨0, Nat.zero_le _, rfl, ⟨[], madeL #[.int .i64 0, .string ByteArray.empty] (l.length * 2), by simp, by simp [madeL, size_madeCells], own_madeL w _ l.length 2 _ rfl (by omega) (by unfold maxLen; omega), OwnI.nil _ _ _⟩, (Below.refl _ _).alloc (Nat.le_refl _) _⟩
  case round =>
    obtain ⟨k, hk, rfl, ⟨us, zs, hus, hzs, hrow, hown⟩, hb⟩ := hrel
    have HROW := hid hrow
    have HOWN := hid hown
    have HUS := hid hus
    have HZS := hid hzs
    have hsz : w.heap.size < wr.heap.size := (hrow.lt _ rfl).2
    clear hmk hrow hown hus hzs
    by_cases hlt : k < l.length
    · obtain ⟨x, hx⟩ : ∃ x, l[k]? = some x := ⟨_, List.getElem?_eq_getElem hlt⟩
      obtain ⟨bc, offc, vs, rfl, hblc, hvl, hv, hra⟩ := RdC.elem FBuffer.len HC.out hx
      have HX := hid hx
      have HT := hid (HE.out _ (List.mem_of_getElem? hx))
      have HV := hid (hv.on hb (Nat.le_refl _) (Nat.le_refl _))
      have HRA := hid (range_below hra hb hblc)
      have hlt2 : (k : Int) < (l.length : Int) := by omega
      have hk0 : (0 : Int) ≤ (k : Int) := by omega
      have hws := hb.size
      have HB := hid hb
      clear hx hv hra hb
      go_wp2_with (first | (refine wpList_load_elem 195 _ bc (offc + k * 2) vs (.struct (flds Tryz.prog 195)) HRA.out rfl rfl (by kernel_rfl) rfl hvl (by kernel_rfl) rfl ?_) | (go_at_call 106; refine (HT.out vs _ w.heap.size (by omega) HV.out).mono ?_; rintro e w2 ⟨us2, rfl, own2, hb2⟩; have hu2 : us2.length = 2 := own2.vs.1.trans (FBuffer.len x); have ON2 := hid (OwnL.onecell _ _ _ own2.choose_spec.1 (oneBuffer x)); have OWN2 := hid own2; have ROW2 := hid (own_below HROW.out hb2 (Nat.le_refl _)); have hsz2 : wr.heap.size ≤ w2.heap.size := hb2.size; have HB2 := hid (HB.out.trans (hb2.mono hws)); have HOWN2 := hid (HOWN.out.below hb2 (Nat.le_refl _)); clear own2 hb2) | (refine wpList_store_elem 210 _ _ (k * 2) us2 ROW2.out rfl rfl rfl hu2 (by omega) (by kernel_rfl) ON2.out rfl ?_; intro w3 row3 gr3; have ROW3 := hid row3; have GR3 := hid gr3; have hsz3 := gr3.size; clear row3 gr3))
      go_roundw
      case rel =>
        have hflat : FBuffer.flat (l.take (k + 1)) = FBuffer.flat (l.take k) ++ x.c := by
          rw [List.take_add_one, HX.out]
          simp
        have hset := sets_app us2 us zs (k * 2) HUS.out (by rw [HZS.out, hu2]; omega)
        refine ⟨k + 1, by omega, by go_num, ⟨us ++ us2, zs.drop 2, by rw [List.length_append, HUS.out, hu2]; omega, by rw [List.length_drop, HZS.out]; omega, ?_, ?_⟩, below_grownB HB2.out GR3.out (by omega) (Nat.le_refl _)⟩
        · have hr3 := ROW3.out
          rw [hset, hu2] at hr3
          exact hr3
        · rw [hflat]
          exact ((OwnI.app (m := wr.heap.size) (lo' := wr.heap.size) (hi := w2.heap.size) HOWN2.out OWN2.out (Nat.le_refl _) (by omega) (by omega)).grownB GR3.out (.inl (by omega))).wide (Nat.le_refl _) hsz3
      case measure => simp [intOf]; omega
    · obtain rfl : k = l.length := by omega
      clear hlt
      go_wp2_with fail
      go_ret
      have hz0 : zs = [] := List.eq_nil_of_length_eq_zero (by rw [HZS.out]; simp)
      have hr1 := HROW.out
      have ho1 := HOWN.out
      rw [hz0, List.append_nil] at hr1
      rw [List.take_length] at ho1
      exact ⟨_, _, rfl, OwnI.mk hr1 ho1 (fun g hg => by
        have e9 : w.heap.size = g := by simpa [Value.ownBlock] using hg
        omega) (by omega) (Nat.le_refl _), hb⟩
theorem toBuffer_any (x : FBuffer) (hw : x.wt ≤ 1048576) : ToBuffer x := by
  obtain ⟨z0, z1⟩ := x
  exact toBuffer_of z0 z1 
theorem toBufferS_any (l : List FBuffer) (hw : l.length + FBuffer.wts l ≤ 1048576) : ToBufferS l := (toBufferS_of l (by omega) (fun x hx => toBuffer_any x (by have := FBuffer.wts_at l x hx; omega)))
def ToOutput (x : FOutput) : Prop := ∀ (us : List Value) (w : World) (B : Nat), B ≤ w.heap.size → RdVs w B x.c us → Calls Tryz.prog 30 #[.agg us.toArray] w fun e w' => ∃ us', e = .returned (.agg us'.toArray) ∧ OwnI w' w.heap.size w'.heap.size x.c us' ∧ Below w.heap.size w w'
theorem toOutput_of (z0 : ByteArray) (z1 : List FHeader) (z2 : List FBuffer) (h1 : ToHeaderS z1) (h2 : ToBufferS z2) : ToOutput ⟨z0, z1, z2⟩ := by
  intro us w B hB0 hr
  rw [FOutput.c_eq] at hr ⊢
  obtain ⟨us0, rfl, hr_0⟩ := hr.unv
  obtain ⟨A1, c1, us1, rfl, r1, hr_1⟩ := hr_0.uns
  obtain ⟨A2, c2, us2, rfl, r2, hr_2⟩ := hr_1.uns
  obtain rfl := hr_2.un0
  have R1 := hid r1
  clear r1
  have R2 := hid r2
  clear r2
  have H1 := hid h1
  clear h1
  have H2 := hid h2
  clear h2
  go_enter Tryz.func30, Tryz.ntmps30
  go_wp2_with fail
  refine calls_worldD _ (fun X => Blk X (w.heap.size) 34 #[.string z0, .slice A1 z1.length c1, .slice A2 z2.length c2] ∧ Blk X (w.heap.size + 1) 51 #[.string ⟨#[]⟩, .slice none 0 0, .slice none 0 0] ∧ Blk X (w.heap.size + 1 + 1) 51 #[.string z0, .slice none 0 0, .slice none 0 0] ∧ Below w.heap.size w X) ⟨((Blk.new w _ _).alloc _).alloc _, (Blk.new' (w.alloc _) _ _ _ (by simp)).alloc _, Blk.new' ((w.alloc _).alloc _) _ _ _ (by simp), ((((Below.refl _ _).alloc (Nat.le_refl _) _).alloc (by simp) _).alloc (by simp; omega) _)⟩ ?_
  rintro X0 ⟨ba, br, bo, hB⟩
  have s0 := bo.lt
  refine (H1.out _ _ B (by omega) (R1.out.below hB hB0)).mono ?_
  rintro e Y0 ⟨D1, d1, rfl, own, hb⟩
  have o1 := own
  clear own
  replace ba := ba.below hb (Nat.le_refl _)
  replace br := br.below hb (Nat.le_refl _)
  replace bo := bo.below hb (Nat.le_refl _)
  replace hB := hB.trans (hb.mono (by omega))
  have t0 : X0.heap.size ≤ Y0.heap.size := hb.size
  clear hb
  have ba_2 : Y0.cell? ⟨w.heap.size, 2, none⟩ = some (.slice A2 z2.length c2) := ba.cell 2
  have ba_l := ba.lt
  have ba_f := fun i => ba.frozen i
  have bo_1 : Y0.cell? ⟨w.heap.size + 1 + 1, 1, none⟩ = some (.slice none 0 0) := bo.cell 1
  have bo_l := bo.lt
  have bo_f := fun i => bo.frozen i
  go_wp2_with fail
  clear ba_2 ba_l ba_f
  clear bo_1 bo_l bo_f
  refine calls_worldD _ (fun X => Blk X (w.heap.size) 34 #[.string z0, .slice A1 z1.length c1, .slice A2 z2.length c2] ∧ Blk X (w.heap.size + 1) 51 #[.string ⟨#[]⟩, .slice none 0 0, .slice none 0 0] ∧ Blk X (w.heap.size + 1 + 1) 51 #[.string z0, .slice D1 z1.length d1, .slice none 0 0] ∧ OwnI X X0.heap.size Y0.heap.size [.s 208 2 z1.length (FHeader.flat z1)] [.slice D1 z1.length d1] ∧ Below w.heap.size w X ∧ Y0.heap.size ≤ X.heap.size) ⟨(ba.far (by simp; try omega) _), (br.far (by simp; try omega) _), (by simpa using (bo.set_ 1 _)), (o1.set (.inl (by simp; omega)) _), (hB.setCell (by simp; try omega) _), (by simp)⟩ ?_
  clear ba br bo hB o1
  rintro X1 ⟨ba, br, bo, o1, hB, y1⟩
  have s1 := bo.lt
  refine (H2.out _ _ B (by omega) (R2.out.below hB hB0)).mono ?_
  rintro e Y1 ⟨D2, d2, rfl, own, hb⟩
  have o2 := own
  clear own
  replace ba := ba.below hb (Nat.le_refl _)
  replace br := br.below hb (Nat.le_refl _)
  replace bo := bo.below hb (Nat.le_refl _)
  replace o1 := o1.below hb (Nat.le_refl _)
  replace hB := hB.trans (hb.mono (by omega))
  have t1 : X1.heap.size ≤ Y1.heap.size := hb.size
  clear hb
  have ba_l := ba.lt
  have ba_f := fun i => ba.frozen i
  have br_0 : Y1.cell? ⟨w.heap.size + 1, 0, none⟩ = some (.string ⟨#[]⟩) := br.cell 0
  have br_1 : Y1.cell? ⟨w.heap.size + 1, 1, none⟩ = some (.slice none 0 0) := br.cell 1
  have br_2 : Y1.cell? ⟨w.heap.size + 1, 2, none⟩ = some (.slice none 0 0) := br.cell 2
  have br_l := br.lt
  have br_f := fun i => br.frozen i
  have bo_0 : Y1.cell? ⟨w.heap.size + 1 + 1, 0, none⟩ = some (.string z0) := bo.cell 0
  have bo_1 : Y1.cell? ⟨w.heap.size + 1 + 1, 1, none⟩ = some (.slice D1 z1.length d1) := bo.cell 1
  have bo_2 : Y1.cell? ⟨w.heap.size + 1 + 1, 2, none⟩ = some (.slice none 0 0) := bo.cell 2
  have bo_l := bo.lt
  have bo_f := fun i => bo.frozen i
  go_wp2_with fail
  skip
  refine bodyPost_ret (v := .agg #[.string z0, .slice D1 z1.length d1, .slice D2 z2.length d2]) (by simp [results, Tryz.results30, go_sem, br_0, br_1, br_2, bo_0, bo_1, bo_2, br_l, br_f, bo_l, bo_f]) rfl ⟨_, rfl, ?_, ?_⟩
  · refine OwnI.wide (lo := X0.heap.size) (hi := Y1.heap.size) ?_ (by omega) (by simp)
    repeat (refine OwnI.set ?_ (.inl (by simp; omega)) _)
    exact (OwnI.consv (OwnI.app (m := Y0.heap.size) (hi := Y1.heap.size) o1 (OwnI.wide (lo' := Y0.heap.size) (hi' := Y1.heap.size) (OwnI.app (m := Y1.heap.size) (hi := Y1.heap.size) o2 (OwnI.wide (lo' := Y1.heap.size) (hi' := Y1.heap.size) (OwnI.nil _ Y1.heap.size Y1.heap.size) (by omega) (by omega)) (Nat.le_refl _) (by omega) (by omega)) (by omega) (by omega)) (Nat.le_refl _) (by omega) (by omega)) _)
  · repeat (refine Below.setCell ?_ (by simp; try omega) _)
    exact hB
theorem toOutput_any (x : FOutput) (hw : x.wt ≤ 1048576) : ToOutput x := by
  obtain ⟨z0, z1, z2⟩ := x
  exact toOutput_of z0 z1 z2 (toHeaderS_any z1 (by rw [FOutput.wt_eq] at hw; omega)) (toBufferS_any z2 (by rw [FOutput.wt_eq] at hw; omega))
def ToMachine (x : FMachine) : Prop := ∀ (us : List Value) (w : World) (B : Nat), B ≤ w.heap.size → RdVs w B x.c us → Calls Tryz.prog 6 #[.agg us.toArray] w fun e w' => ∃ us', e = .returned (.agg us'.toArray) ∧ OwnI w' w.heap.size w'.heap.size x.c us' ∧ Below w.heap.size w w'
theorem toMachine_of (z0 : Int) (z1 : ByteArray) (z2 : Int) (z3 : Int) (z4 : List FValue) (z5 : List FPlace) (z6 : List FBlock) (z7 : List FObject) (z8 : List FClosure) (z9 : List FGen) (z10 : List FFrame) (z11 : ByteArray) (z12 : List FHeader) (z13 : List FBuffer) (h4 : ToValueS z4) (h5 : ToPlaceS z5) (h6 : ToHeap ⟨z6⟩) (h7 : ToObjectS z7) (h8 : ToClosureS z8) (h9 : ToGenS z9) (h10 : ToFrameS z10) (h11 : ToOutput ⟨z11, z12, z13⟩) : ToMachine ⟨z0, z1, z2, z3, z4, z5, ⟨z6⟩, z7, z8, z9, z10, ⟨z11, z12, z13⟩⟩ := by
  intro us w B hB0 hr
  rw [FMachine.c_eq] at hr ⊢
  obtain ⟨us0, rfl, hr_0⟩ := hr.unv
  obtain ⟨us1, rfl, hr_1⟩ := hr_0.unv
  obtain ⟨us2, rfl, hr_2⟩ := hr_1.unv
  obtain ⟨us3, rfl, hr_3⟩ := hr_2.unv
  obtain ⟨A4, c4, us4, rfl, r4, hr_4⟩ := hr_3.uns
  obtain ⟨A5, c5, us5, rfl, r5, hr_5⟩ := hr_4.uns
  obtain ⟨A6, c6, us6, rfl, r6, hr_6⟩ := hr_5.uns
  obtain ⟨A7, c7, us7, rfl, r7, hr_7⟩ := hr_6.uns
  obtain ⟨A8, c8, us8, rfl, r8, hr_8⟩ := hr_7.uns
  obtain ⟨A9, c9, us9, rfl, r9, hr_9⟩ := hr_8.uns
  obtain ⟨A10, c10, us10, rfl, r10, hr_10⟩ := hr_9.uns
  obtain ⟨us11, rfl, hr_11⟩ := hr_10.unv
  obtain ⟨A12, c12, us12, rfl, r12, hr_12⟩ := hr_11.uns
  obtain ⟨A13, c13, us13, rfl, r13, hr_13⟩ := hr_12.uns
  obtain rfl := hr_13.un0
  have R4 := hid r4
  clear r4
  have R5 := hid r5
  clear r5
  have R6 := hid r6
  clear r6
  have R7 := hid r7
  clear r7
  have R8 := hid r8
  clear r8
  have R9 := hid r9
  clear r9
  have R10 := hid r10
  clear r10
  have R12 := hid r12
  clear r12
  have R13 := hid r13
  clear r13
  have H4 := hid h4
  clear h4
  have H5 := hid h5
  clear h5
  have H6 := hid h6
  clear h6
  have H7 := hid h7
  clear h7
  have H8 := hid h8
  clear h8
  have H9 := hid h9
  clear h9
  have H10 := hid h10
  clear h10
  have H11 := hid h11
  clear h11
  go_enter Tryz.func6, Tryz.ntmps6
  go_wp2_with fail
  refine calls_worldD _ (fun X => Blk X (w.heap.size) 36 #[.int .i64 z0, .string z1, .int .i64 z2, .int .i64 z3, .slice A4 z4.length c4, .slice A5 z5.length c5, .slice A6 z6.length c6, .slice A7 z7.length c7, .slice A8 z8.length c8, .slice A9 z9.length c9, .slice A10 z10.length c10, .string z11, .slice A12 z12.length c12, .slice A13 z13.length c13] ∧ Blk X (w.heap.size + 1) 53 #[.int .i64 0, .string ⟨#[]⟩, .int .i64 0, .int .i64 0, .slice none 0 0, .slice none 0 0, .slice none 0 0, .slice none 0 0, .slice none 0 0, .slice none 0 0, .slice none 0 0, .string ⟨#[]⟩, .slice none 0 0, .slice none 0 0] ∧ Blk X (w.heap.size + 1 + 1) 53 #[.int .i64 z0, .string z1, .int .i64 z2, .int .i64 z3, .slice none 0 0, .slice none 0 0, .slice none 0 0, .slice none 0 0, .slice none 0 0, .slice none 0 0, .slice none 0 0, .string ⟨#[]⟩, .slice none 0 0, .slice none 0 0] ∧ Below w.heap.size w X) ⟨((Blk.new w _ _).alloc _).alloc _, (Blk.new' (w.alloc _) _ _ _ (by simp)).alloc _, Blk.new' ((w.alloc _).alloc _) _ _ _ (by simp), ((((Below.refl _ _).alloc (Nat.le_refl _) _).alloc (by simp) _).alloc (by simp; omega) _)⟩ ?_
  rintro X0 ⟨ba, br, bo, hB⟩
  have s0 := bo.lt
  refine (H4.out _ _ B (by omega) (R4.out.below hB hB0)).mono ?_
  rintro e Y0 ⟨D4, d4, rfl, own, hb⟩
  have o4 := own
  clear own
  replace ba := ba.below hb (Nat.le_refl _)
  replace br := br.below hb (Nat.le_refl _)
  replace bo := bo.below hb (Nat.le_refl _)
  replace hB := hB.trans (hb.mono (by omega))
  have t0 : X0.heap.size ≤ Y0.heap.size := hb.size
  clear hb
  have ba_5 : Y0.cell? ⟨w.heap.size, 5, none⟩ = some (.slice A5 z5.length c5) := ba.cell 5
  have ba_l := ba.lt
  have ba_f := fun i => ba.frozen i
  have bo_4 : Y0.cell? ⟨w.heap.size + 1 + 1, 4, none⟩ = some (.slice none 0 0) := bo.cell 4
  have bo_l := bo.lt
  have bo_f := fun i => bo.frozen i
  go_wp2_with fail
  clear ba_5 ba_l ba_f
  clear bo_4 bo_l bo_f
  refine calls_worldD _ (fun X => Blk X (w.heap.size) 36 #[.int .i64 z0, .string z1, .int .i64 z2, .int .i64 z3, .slice A4 z4.length c4, .slice A5 z5.length c5, .slice A6 z6.length c6, .slice A7 z7.length c7, .slice A8 z8.length c8, .slice A9 z9.length c9, .slice A10 z10.length c10, .string z11, .slice A12 z12.length c12, .slice A13 z13.length c13] ∧ Blk X (w.heap.size + 1) 53 #[.int .i64 0, .string ⟨#[]⟩, .int .i64 0, .int .i64 0, .slice none 0 0, .slice none 0 0, .slice none 0 0, .slice none 0 0, .slice none 0 0, .slice none 0 0, .slice none 0 0, .string ⟨#[]⟩, .slice none 0 0, .slice none 0 0] ∧ Blk X (w.heap.size + 1 + 1) 53 #[.int .i64 z0, .string z1, .int .i64 z2, .int .i64 z3, .slice D4 z4.length d4, .slice none 0 0, .slice none 0 0, .slice none 0 0, .slice none 0 0, .slice none 0 0, .slice none 0 0, .string ⟨#[]⟩, .slice none 0 0, .slice none 0 0] ∧ OwnI X X0.heap.size Y0.heap.size [.s 82 5 z4.length (FValue.flat z4)] [.slice D4 z4.length d4] ∧ Below w.heap.size w X ∧ Y0.heap.size ≤ X.heap.size) ⟨(ba.far (by simp; try omega) _), (br.far (by simp; try omega) _), (by simpa using (bo.set_ 4 _)), (o4.set (.inl (by simp; omega)) _), (hB.setCell (by simp; try omega) _), (by simp)⟩ ?_
  clear ba br bo hB o4
  rintro X1 ⟨ba, br, bo, o4, hB, y1⟩
  have s1 := bo.lt
  refine (H5.out _ _ B (by omega) (R5.out.below hB hB0)).mono ?_
  rintro e Y1 ⟨D5, d5, rfl, own, hb⟩
  have o5 := own
  clear own
  replace ba := ba.below hb (Nat.le_refl _)
  replace br := br.below hb (Nat.le_refl _)
  replace bo := bo.below hb (Nat.le_refl _)
  replace o4 := o4.below hb (Nat.le_refl _)
  replace hB := hB.trans (hb.mono (by omega))
  have t1 : X1.heap.size ≤ Y1.heap.size := hb.size
  clear hb
  have ba_6 : Y1.cell? ⟨w.heap.size, 6, none⟩ = some (.slice A6 z6.length c6) := ba.cell 6
  have ba_l := ba.lt
  have ba_f := fun i => ba.frozen i
  have bo_5 : Y1.cell? ⟨w.heap.size + 1 + 1, 5, none⟩ = some (.slice none 0 0) := bo.cell 5
  have bo_l := bo.lt
  have bo_f := fun i => bo.frozen i
  go_wp2_with fail
  clear ba_6 ba_l ba_f
  clear bo_5 bo_l bo_f
  refine calls_worldD _ (fun X => Blk X (w.heap.size) 36 #[.int .i64 z0, .string z1, .int .i64 z2, .int .i64 z3, .slice A4 z4.length c4, .slice A5 z5.length c5, .slice A6 z6.length c6, .slice A7 z7.length c7, .slice A8 z8.length c8, .slice A9 z9.length c9, .slice A10 z10.length c10, .string z11, .slice A12 z12.length c12, .slice A13 z13.length c13] ∧ Blk X (w.heap.size + 1) 53 #[.int .i64 0, .string ⟨#[]⟩, .int .i64 0, .int .i64 0, .slice none 0 0, .slice none 0 0, .slice none 0 0, .slice none 0 0, .slice none 0 0, .slice none 0 0, .slice none 0 0, .string ⟨#[]⟩, .slice none 0 0, .slice none 0 0] ∧ Blk X (w.heap.size + 1 + 1) 53 #[.int .i64 z0, .string z1, .int .i64 z2, .int .i64 z3, .slice D4 z4.length d4, .slice D5 z5.length d5, .slice none 0 0, .slice none 0 0, .slice none 0 0, .slice none 0 0, .slice none 0 0, .string ⟨#[]⟩, .slice none 0 0, .slice none 0 0] ∧ OwnI X X0.heap.size Y0.heap.size [.s 82 5 z4.length (FValue.flat z4)] [.slice D4 z4.length d4] ∧ OwnI X X1.heap.size Y1.heap.size [.s 140 2 z5.length (FPlace.flat z5)] [.slice D5 z5.length d5] ∧ Below w.heap.size w X ∧ Y1.heap.size ≤ X.heap.size) ⟨(ba.far (by simp; try omega) _), (br.far (by simp; try omega) _), (by simpa using (bo.set_ 5 _)), (o4.set (.inl (by simp; omega)) _), (o5.set (.inl (by simp; omega)) _), (hB.setCell (by simp; try omega) _), (by simp)⟩ ?_
  clear ba br bo hB o4 o5
  rintro X2 ⟨ba, br, bo, o4, o5, hB, y2⟩
  have s2 := bo.lt
  refine (H6.out [.slice A6 z6.length c6] _ B (by omega) (by rw [FHeap.c_eq]; exact (RdVs.cons (R6.out.below hB hB0) (RdVs.nil _ _)))).mono ?_
  rw [FHeap.c_eq]
  rintro e Y2 ⟨us_, rfl, own, hb⟩
  have hv := own.vs
  obtain ⟨D6, d6, us_6, rfl, _, hv_0⟩ := hv.uns
  obtain rfl := hv_0.un0
  have o6 := own
  clear own
  replace ba := ba.below hb (Nat.le_refl _)
  replace br := br.below hb (Nat.le_refl _)
  replace bo := bo.below hb (Nat.le_refl _)
  replace o4 := o4.below hb (Nat.le_refl _)
  replace o5 := o5.below hb (Nat.le_refl _)
  replace hB := hB.trans (hb.mono (by omega))
  have t2 : X2.heap.size ≤ Y2.heap.size := hb.size
  clear hb
  have ba_7 : Y2.cell? ⟨w.heap.size, 7, none⟩ = some (.slice A7 z7.length c7) := ba.cell 7
  have ba_l := ba.lt
  have ba_f := fun i => ba.frozen i
  have bo_6 : Y2.cell? ⟨w.heap.size + 1 + 1, 6, none⟩ = some (.slice none 0 0) := bo.cell 6
  have bo_l := bo.lt
  have bo_f := fun i => bo.frozen i
  go_wp2_with fail
  clear ba_7 ba_l ba_f
  clear bo_6 bo_l bo_f
  refine calls_worldD _ (fun X => Blk X (w.heap.size) 36 #[.int .i64 z0, .string z1, .int .i64 z2, .int .i64 z3, .slice A4 z4.length c4, .slice A5 z5.length c5, .slice A6 z6.length c6, .slice A7 z7.length c7, .slice A8 z8.length c8, .slice A9 z9.length c9, .slice A10 z10.length c10, .string z11, .slice A12 z12.length c12, .slice A13 z13.length c13] ∧ Blk X (w.heap.size + 1) 53 #[.int .i64 0, .string ⟨#[]⟩, .int .i64 0, .int .i64 0, .slice none 0 0, .slice none 0 0, .slice none 0 0, .slice none 0 0, .slice none 0 0, .slice none 0 0, .slice none 0 0, .string ⟨#[]⟩, .slice none 0 0, .slice none 0 0] ∧ Blk X (w.heap.size + 1 + 1) 53 #[.int .i64 z0, .string z1, .int .i64 z2, .int .i64 z3, .slice D4 z4.length d4, .slice D5 z5.length d5, .slice D6 z6.length d6, .slice none 0 0, .slice none 0 0, .slice none 0 0, .slice none 0 0, .string ⟨#[]⟩, .slice none 0 0, .slice none 0 0] ∧ OwnI X X0.heap.size Y0.heap.size [.s 82 5 z4.length (FValue.flat z4)] [.slice D4 z4.length d4] ∧ OwnI X X1.heap.size Y1.heap.size [.s 140 2 z5.length (FPlace.flat z5)] [.slice D5 z5.length d5] ∧ OwnI X X2.heap.size Y2.heap.size [.s 201 6 z6.length (FBlock.flat z6)] [.slice D6 z6.length d6] ∧ Below w.heap.size w X ∧ Y2.heap.size ≤ X.heap.size) ⟨(ba.far (by simp; try omega) _), (br.far (by simp; try omega) _), (by simpa using (bo.set_ 6 _)), (o4.set (.inl (by simp; omega)) _), (o5.set (.inl (by simp; omega)) _), (o6.set (.inl (by simp; omega)) _), (hB.setCell (by simp; try omega) _), (by simp)⟩ ?_
  clear ba br bo hB o4 o5 o6
  rintro X3 ⟨ba, br, bo, o4, o5, o6, hB, y3⟩
  have s3 := bo.lt
  refine (H7.out _ _ B (by omega) (R7.out.below hB hB0)).mono ?_
  rintro e Y3 ⟨D7, d7, rfl, own, hb⟩
  have o7 := own
  clear own
  replace ba := ba.below hb (Nat.le_refl _)
  replace br := br.below hb (Nat.le_refl _)
  replace bo := bo.below hb (Nat.le_refl _)
  replace o4 := o4.below hb (Nat.le_refl _)
  replace o5 := o5.below hb (Nat.le_refl _)
  replace o6 := o6.below hb (Nat.le_refl _)
  replace hB := hB.trans (hb.mono (by omega))
  have t3 : X3.heap.size ≤ Y3.heap.size := hb.size
  clear hb
  have ba_8 : Y3.cell? ⟨w.heap.size, 8, none⟩ = some (.slice A8 z8.length c8) := ba.cell 8
  have ba_l := ba.lt
  have ba_f := fun i => ba.frozen i
  have bo_7 : Y3.cell? ⟨w.heap.size + 1 + 1, 7, none⟩ = some (.slice none 0 0) := bo.cell 7
  have bo_l := bo.lt
  have bo_f := fun i => bo.frozen i
  go_wp2_with fail
  clear ba_8 ba_l ba_f
  clear bo_7 bo_l bo_f
  refine calls_worldD _ (fun X => Blk X (w.heap.size) 36 #[.int .i64 z0, .string z1, .int .i64 z2, .int .i64 z3, .slice A4 z4.length c4, .slice A5 z5.length c5, .slice A6 z6.length c6, .slice A7 z7.length c7, .slice A8 z8.length c8, .slice A9 z9.length c9, .slice A10 z10.length c10, .string z11, .slice A12 z12.length c12, .slice A13 z13.length c13] ∧ Blk X (w.heap.size + 1) 53 #[.int .i64 0, .string ⟨#[]⟩, .int .i64 0, .int .i64 0, .slice none 0 0, .slice none 0 0, .slice none 0 0, .slice none 0 0, .slice none 0 0, .slice none 0 0, .slice none 0 0, .string ⟨#[]⟩, .slice none 0 0, .slice none 0 0] ∧ Blk X (w.heap.size + 1 + 1) 53 #[.int .i64 z0, .string z1, .int .i64 z2, .int .i64 z3, .slice D4 z4.length d4, .slice D5 z5.length d5, .slice D6 z6.length d6, .slice D7 z7.length d7, .slice none 0 0, .slice none 0 0, .slice none 0 0, .string ⟨#[]⟩, .slice none 0 0, .slice none 0 0] ∧ OwnI X X0.heap.size Y0.heap.size [.s 82 5 z4.length (FValue.flat z4)] [.slice D4 z4.length d4] ∧ OwnI X X1.heap.size Y1.heap.size [.s 140 2 z5.length (FPlace.flat z5)] [.slice D5 z5.length d5] ∧ OwnI X X2.heap.size Y2.heap.size [.s 201 6 z6.length (FBlock.flat z6)] [.slice D6 z6.length d6] ∧ OwnI X X3.heap.size Y3.heap.size [.s 79 3 z7.length (FObject.flat z7)] [.slice D7 z7.length d7] ∧ Below w.heap.size w X ∧ Y3.heap.size ≤ X.heap.size) ⟨(ba.far (by simp; try omega) _), (br.far (by simp; try omega) _), (by simpa using (bo.set_ 7 _)), (o4.set (.inl (by simp; omega)) _), (o5.set (.inl (by simp; omega)) _), (o6.set (.inl (by simp; omega)) _), (o7.set (.inl (by simp; omega)) _), (hB.setCell (by simp; try omega) _), (by simp)⟩ ?_
  clear ba br bo hB o4 o5 o6 o7
  rintro X4 ⟨ba, br, bo, o4, o5, o6, o7, hB, y4⟩
  have s4 := bo.lt
  refine (H8.out _ _ B (by omega) (R8.out.below hB hB0)).mono ?_
  rintro e Y4 ⟨D8, d8, rfl, own, hb⟩
  have o8 := own
  clear own
  replace ba := ba.below hb (Nat.le_refl _)
  replace br := br.below hb (Nat.le_refl _)
  replace bo := bo.below hb (Nat.le_refl _)
  replace o4 := o4.below hb (Nat.le_refl _)
  replace o5 := o5.below hb (Nat.le_refl _)
  replace o6 := o6.below hb (Nat.le_refl _)
  replace o7 := o7.below hb (Nat.le_refl _)
  replace hB := hB.trans (hb.mono (by omega))
  have t4 : X4.heap.size ≤ Y4.heap.size := hb.size
  clear hb
  have ba_9 : Y4.cell? ⟨w.heap.size, 9, none⟩ = some (.slice A9 z9.length c9) := ba.cell 9
  have ba_l := ba.lt
  have ba_f := fun i => ba.frozen i
  have bo_8 : Y4.cell? ⟨w.heap.size + 1 + 1, 8, none⟩ = some (.slice none 0 0) := bo.cell 8
  have bo_l := bo.lt
  have bo_f := fun i => bo.frozen i
  go_wp2_with fail
  clear ba_9 ba_l ba_f
  clear bo_8 bo_l bo_f
  refine calls_worldD _ (fun X => Blk X (w.heap.size) 36 #[.int .i64 z0, .string z1, .int .i64 z2, .int .i64 z3, .slice A4 z4.length c4, .slice A5 z5.length c5, .slice A6 z6.length c6, .slice A7 z7.length c7, .slice A8 z8.length c8, .slice A9 z9.length c9, .slice A10 z10.length c10, .string z11, .slice A12 z12.length c12, .slice A13 z13.length c13] ∧ Blk X (w.heap.size + 1) 53 #[.int .i64 0, .string ⟨#[]⟩, .int .i64 0, .int .i64 0, .slice none 0 0, .slice none 0 0, .slice none 0 0, .slice none 0 0, .slice none 0 0, .slice none 0 0, .slice none 0 0, .string ⟨#[]⟩, .slice none 0 0, .slice none 0 0] ∧ Blk X (w.heap.size + 1 + 1) 53 #[.int .i64 z0, .string z1, .int .i64 z2, .int .i64 z3, .slice D4 z4.length d4, .slice D5 z5.length d5, .slice D6 z6.length d6, .slice D7 z7.length d7, .slice D8 z8.length d8, .slice none 0 0, .slice none 0 0, .string ⟨#[]⟩, .slice none 0 0, .slice none 0 0] ∧ OwnI X X0.heap.size Y0.heap.size [.s 82 5 z4.length (FValue.flat z4)] [.slice D4 z4.length d4] ∧ OwnI X X1.heap.size Y1.heap.size [.s 140 2 z5.length (FPlace.flat z5)] [.slice D5 z5.length d5] ∧ OwnI X X2.heap.size Y2.heap.size [.s 201 6 z6.length (FBlock.flat z6)] [.slice D6 z6.length d6] ∧ OwnI X X3.heap.size Y3.heap.size [.s 79 3 z7.length (FObject.flat z7)] [.slice D7 z7.length d7] ∧ OwnI X X4.heap.size Y4.heap.size [.s 144 5 z8.length (FClosure.flat z8)] [.slice D8 z8.length d8] ∧ Below w.heap.size w X ∧ Y4.heap.size ≤ X.heap.size) ⟨(ba.far (by simp; try omega) _), (br.far (by simp; try omega) _), (by simpa using (bo.set_ 8 _)), (o4.set (.inl (by simp; omega)) _), (o5.set (.inl (by simp; omega)) _), (o6.set (.inl (by simp; omega)) _), (o7.set (.inl (by simp; omega)) _), (o8.set (.inl (by simp; omega)) _), (hB.setCell (by simp; try omega) _), (by simp)⟩ ?_
  clear ba br bo hB o4 o5 o6 o7 o8
  rintro X5 ⟨ba, br, bo, o4, o5, o6, o7, o8, hB, y5⟩
  have s5 := bo.lt
  refine (H9.out _ _ B (by omega) (R9.out.below hB hB0)).mono ?_
  rintro e Y5 ⟨D9, d9, rfl, own, hb⟩
  have o9 := own
  clear own
  replace ba := ba.below hb (Nat.le_refl _)
  replace br := br.below hb (Nat.le_refl _)
  replace bo := bo.below hb (Nat.le_refl _)
  replace o4 := o4.below hb (Nat.le_refl _)
  replace o5 := o5.below hb (Nat.le_refl _)
  replace o6 := o6.below hb (Nat.le_refl _)
  replace o7 := o7.below hb (Nat.le_refl _)
  replace o8 := o8.below hb (Nat.le_refl _)
  replace hB := hB.trans (hb.mono (by omega))
  have t5 : X5.heap.size ≤ Y5.heap.size := hb.size
  clear hb
  have ba_10 : Y5.cell? ⟨w.heap.size, 10, none⟩ = some (.slice A10 z10.length c10) := ba.cell 10
  have ba_l := ba.lt
  have ba_f := fun i => ba.frozen i
  have bo_9 : Y5.cell? ⟨w.heap.size + 1 + 1, 9, none⟩ = some (.slice none 0 0) := bo.cell 9
  have bo_l := bo.lt
  have bo_f := fun i => bo.frozen i
  go_wp2_with fail
  clear ba_10 ba_l ba_f
  clear bo_9 bo_l bo_f
  refine calls_worldD _ (fun X => Blk X (w.heap.size) 36 #[.int .i64 z0, .string z1, .int .i64 z2, .int .i64 z3, .slice A4 z4.length c4, .slice A5 z5.length c5, .slice A6 z6.length c6, .slice A7 z7.length c7, .slice A8 z8.length c8, .slice A9 z9.length c9, .slice A10 z10.length c10, .string z11, .slice A12 z12.length c12, .slice A13 z13.length c13] ∧ Blk X (w.heap.size + 1) 53 #[.int .i64 0, .string ⟨#[]⟩, .int .i64 0, .int .i64 0, .slice none 0 0, .slice none 0 0, .slice none 0 0, .slice none 0 0, .slice none 0 0, .slice none 0 0, .slice none 0 0, .string ⟨#[]⟩, .slice none 0 0, .slice none 0 0] ∧ Blk X (w.heap.size + 1 + 1) 53 #[.int .i64 z0, .string z1, .int .i64 z2, .int .i64 z3, .slice D4 z4.length d4, .slice D5 z5.length d5, .slice D6 z6.length d6, .slice D7 z7.length d7, .slice D8 z8.length d8, .slice D9 z9.length d9, .slice none 0 0, .string ⟨#[]⟩, .slice none 0 0, .slice none 0 0] ∧ OwnI X X0.heap.size Y0.heap.size [.s 82 5 z4.length (FValue.flat z4)] [.slice D4 z4.length d4] ∧ OwnI X X1.heap.size Y1.heap.size [.s 140 2 z5.length (FPlace.flat z5)] [.slice D5 z5.length d5] ∧ OwnI X X2.heap.size Y2.heap.size [.s 201 6 z6.length (FBlock.flat z6)] [.slice D6 z6.length d6] ∧ OwnI X X3.heap.size Y3.heap.size [.s 79 3 z7.length (FObject.flat z7)] [.slice D7 z7.length d7] ∧ OwnI X X4.heap.size Y4.heap.size [.s 144 5 z8.length (FClosure.flat z8)] [.slice D8 z8.length d8] ∧ OwnI X X5.heap.size Y5.heap.size [.s 93 19 z9.length (FGen.flat z9)] [.slice D9 z9.length d9] ∧ Below w.heap.size w X ∧ Y5.heap.size ≤ X.heap.size) ⟨(ba.far (by simp; try omega) _), (br.far (by simp; try omega) _), (by simpa using (bo.set_ 9 _)), (o4.set (.inl (by simp; omega)) _), (o5.set (.inl (by simp; omega)) _), (o6.set (.inl (by simp; omega)) _), (o7.set (.inl (by simp; omega)) _), (o8.set (.inl (by simp; omega)) _), (o9.set (.inl (by simp; omega)) _), (hB.setCell (by simp; try omega) _), (by simp)⟩ ?_
  clear ba br bo hB o4 o5 o6 o7 o8 o9
  rintro X6 ⟨ba, br, bo, o4, o5, o6, o7, o8, o9, hB, y6⟩
  have s6 := bo.lt
  refine (H10.out _ _ B (by omega) (R10.out.below hB hB0)).mono ?_
  rintro e Y6 ⟨D10, d10, rfl, own, hb⟩
  have o10 := own
  clear own
  replace ba := ba.below hb (Nat.le_refl _)
  replace br := br.below hb (Nat.le_refl _)
  replace bo := bo.below hb (Nat.le_refl _)
  replace o4 := o4.below hb (Nat.le_refl _)
  replace o5 := o5.below hb (Nat.le_refl _)
  replace o6 := o6.below hb (Nat.le_refl _)
  replace o7 := o7.below hb (Nat.le_refl _)
  replace o8 := o8.below hb (Nat.le_refl _)
  replace o9 := o9.below hb (Nat.le_refl _)
  replace hB := hB.trans (hb.mono (by omega))
  have t6 : X6.heap.size ≤ Y6.heap.size := hb.size
  clear hb
  have ba_11 : Y6.cell? ⟨w.heap.size, 11, none⟩ = some (.string z11) := ba.cell 11
  have ba_12 : Y6.cell? ⟨w.heap.size, 12, none⟩ = some (.slice A12 z12.length c12) := ba.cell 12
  have ba_13 : Y6.cell? ⟨w.heap.size, 13, none⟩ = some (.slice A13 z13.length c13) := ba.cell 13
  have ba_l := ba.lt
  have ba_f := fun i => ba.frozen i
  have bo_10 : Y6.cell? ⟨w.heap.size + 1 + 1, 10, none⟩ = some (.slice none 0 0) := bo.cell 10
  have bo_l := bo.lt
  have bo_f := fun i => bo.frozen i
  go_wp2_with fail
  clear ba_11 ba_12 ba_13 ba_l ba_f
  clear bo_10 bo_l bo_f
  refine calls_worldD _ (fun X => Blk X (w.heap.size) 36 #[.int .i64 z0, .string z1, .int .i64 z2, .int .i64 z3, .slice A4 z4.length c4, .slice A5 z5.length c5, .slice A6 z6.length c6, .slice A7 z7.length c7, .slice A8 z8.length c8, .slice A9 z9.length c9, .slice A10 z10.length c10, .string z11, .slice A12 z12.length c12, .slice A13 z13.length c13] ∧ Blk X (w.heap.size + 1) 53 #[.int .i64 0, .string ⟨#[]⟩, .int .i64 0, .int .i64 0, .slice none 0 0, .slice none 0 0, .slice none 0 0, .slice none 0 0, .slice none 0 0, .slice none 0 0, .slice none 0 0, .string ⟨#[]⟩, .slice none 0 0, .slice none 0 0] ∧ Blk X (w.heap.size + 1 + 1) 53 #[.int .i64 z0, .string z1, .int .i64 z2, .int .i64 z3, .slice D4 z4.length d4, .slice D5 z5.length d5, .slice D6 z6.length d6, .slice D7 z7.length d7, .slice D8 z8.length d8, .slice D9 z9.length d9, .slice D10 z10.length d10, .string ⟨#[]⟩, .slice none 0 0, .slice none 0 0] ∧ OwnI X X0.heap.size Y0.heap.size [.s 82 5 z4.length (FValue.flat z4)] [.slice D4 z4.length d4] ∧ OwnI X X1.heap.size Y1.heap.size [.s 140 2 z5.length (FPlace.flat z5)] [.slice D5 z5.length d5] ∧ OwnI X X2.heap.size Y2.heap.size [.s 201 6 z6.length (FBlock.flat z6)] [.slice D6 z6.length d6] ∧ OwnI X X3.heap.size Y3.heap.size [.s 79 3 z7.length (FObject.flat z7)] [.slice D7 z7.length d7] ∧ OwnI X X4.heap.size Y4.heap.size [.s 144 5 z8.length (FClosure.flat z8)] [.slice D8 z8.length d8] ∧ OwnI X X5.heap.size Y5.heap.size [.s 93 19 z9.length (FGen.flat z9)] [.slice D9 z9.length d9] ∧ OwnI X X6.heap.size Y6.heap.size [.s 91 13 z10.length (FFrame.flat z10)] [.slice D10 z10.length d10] ∧ Below w.heap.size w X ∧ Y6.heap.size ≤ X.heap.size) ⟨(ba.far (by simp; try omega) _), (br.far (by simp; try omega) _), (by simpa using (bo.set_ 10 _)), (o4.set (.inl (by simp; omega)) _), (o5.set (.inl (by simp; omega)) _), (o6.set (.inl (by simp; omega)) _), (o7.set (.inl (by simp; omega)) _), (o8.set (.inl (by simp; omega)) _), (o9.set (.inl (by simp; omega)) _), (o10.set (.inl (by simp; omega)) _), (hB.setCell (by simp; try omega) _), (by simp)⟩ ?_
  clear ba br bo hB o4 o5 o6 o7 o8 o9 o10
  rintro X7 ⟨ba, br, bo, o4, o5, o6, o7, o8, o9, o10, hB, y7⟩
  have s7 := bo.lt
  refine (H11.out [.string z11, .slice A12 z12.length c12, .slice A13 z13.length c13] _ B (by omega) (by rw [FOutput.c_eq]; exact (RdVs.cons (by unfold RdC; rfl) (RdVs.cons (R12.out.below hB hB0) (RdVs.cons (R13.out.below hB hB0) (RdVs.nil _ _)))))).mono ?_
  rw [FOutput.c_eq]
  rintro e Y7 ⟨us_, rfl, own, hb⟩
  have hv := own.vs
  obtain ⟨us_11, rfl, hv_0⟩ := hv.unv
  obtain ⟨D12, d12, us_12, rfl, _, hv_1⟩ := hv_0.uns
  obtain ⟨D13, d13, us_13, rfl, _, hv_2⟩ := hv_1.uns
  obtain rfl := hv_2.un0
  have o11 := own
  clear own
  replace ba := ba.below hb (Nat.le_refl _)
  replace br := br.below hb (Nat.le_refl _)
  replace bo := bo.below hb (Nat.le_refl _)
  replace o4 := o4.below hb (Nat.le_refl _)
  replace o5 := o5.below hb (Nat.le_refl _)
  replace o6 := o6.below hb (Nat.le_refl _)
  replace o7 := o7.below hb (Nat.le_refl _)
  replace o8 := o8.below hb (Nat.le_refl _)
  replace o9 := o9.below hb (Nat.le_refl _)
  replace o10 := o10.below hb (Nat.le_refl _)
  replace hB := hB.trans (hb.mono (by omega))
  have t7 : X7.heap.size ≤ Y7.heap.size := hb.size
  clear hb
  have ba_l := ba.lt
  have ba_f := fun i => ba.frozen i
  have br_0 : Y7.cell? ⟨w.heap.size + 1, 0, none⟩ = some (.int .i64 0) := br.cell 0
  have br_1 : Y7.cell? ⟨w.heap.size + 1, 1, none⟩ = some (.string ⟨#[]⟩) := br.cell 1
  have br_2 : Y7.cell? ⟨w.heap.size + 1, 2, none⟩ = some (.int .i64 0) := br.cell 2
  have br_3 : Y7.cell? ⟨w.heap.size + 1, 3, none⟩ = some (.int .i64 0) := br.cell 3
  have br_4 : Y7.cell? ⟨w.heap.size + 1, 4, none⟩ = some (.slice none 0 0) := br.cell 4
  have br_5 : Y7.cell? ⟨w.heap.size + 1, 5, none⟩ = some (.slice none 0 0) := br.cell 5
  have br_6 : Y7.cell? ⟨w.heap.size + 1, 6, none⟩ = some (.slice none 0 0) := br.cell 6
  have br_7 : Y7.cell? ⟨w.heap.size + 1, 7, none⟩ = some (.slice none 0 0) := br.cell 7
  have br_8 : Y7.cell? ⟨w.heap.size + 1, 8, none⟩ = some (.slice none 0 0) := br.cell 8
  have br_9 : Y7.cell? ⟨w.heap.size + 1, 9, none⟩ = some (.slice none 0 0) := br.cell 9
  have br_10 : Y7.cell? ⟨w.heap.size + 1, 10, none⟩ = some (.slice none 0 0) := br.cell 10
  have br_11 : Y7.cell? ⟨w.heap.size + 1, 11, none⟩ = some (.string ⟨#[]⟩) := br.cell 11
  have br_12 : Y7.cell? ⟨w.heap.size + 1, 12, none⟩ = some (.slice none 0 0) := br.cell 12
  have br_13 : Y7.cell? ⟨w.heap.size + 1, 13, none⟩ = some (.slice none 0 0) := br.cell 13
  have br_l := br.lt
  have br_f := fun i => br.frozen i
  have bo_0 : Y7.cell? ⟨w.heap.size + 1 + 1, 0, none⟩ = some (.int .i64 z0) := bo.cell 0
  have bo_1 : Y7.cell? ⟨w.heap.size + 1 + 1, 1, none⟩ = some (.string z1) := bo.cell 1
  have bo_2 : Y7.cell? ⟨w.heap.size + 1 + 1, 2, none⟩ = some (.int .i64 z2) := bo.cell 2
  have bo_3 : Y7.cell? ⟨w.heap.size + 1 + 1, 3, none⟩ = some (.int .i64 z3) := bo.cell 3
  have bo_4 : Y7.cell? ⟨w.heap.size + 1 + 1, 4, none⟩ = some (.slice D4 z4.length d4) := bo.cell 4
  have bo_5 : Y7.cell? ⟨w.heap.size + 1 + 1, 5, none⟩ = some (.slice D5 z5.length d5) := bo.cell 5
  have bo_6 : Y7.cell? ⟨w.heap.size + 1 + 1, 6, none⟩ = some (.slice D6 z6.length d6) := bo.cell 6
  have bo_7 : Y7.cell? ⟨w.heap.size + 1 + 1, 7, none⟩ = some (.slice D7 z7.length d7) := bo.cell 7
  have bo_8 : Y7.cell? ⟨w.heap.size + 1 + 1, 8, none⟩ = some (.slice D8 z8.length d8) := bo.cell 8
  have bo_9 : Y7.cell? ⟨w.heap.size + 1 + 1, 9, none⟩ = some (.slice D9 z9.length d9) := bo.cell 9
  have bo_10 : Y7.cell? ⟨w.heap.size + 1 + 1, 10, none⟩ = some (.slice D10 z10.length d10) := bo.cell 10
  have bo_11 : Y7.cell? ⟨w.heap.size + 1 + 1, 11, none⟩ = some (.string ⟨#[]⟩) := bo.cell 11
  have bo_12 : Y7.cell? ⟨w.heap.size + 1 + 1, 12, none⟩ = some (.slice none 0 0) := bo.cell 12
  have bo_13 : Y7.cell? ⟨w.heap.size + 1 + 1, 13, none⟩ = some (.slice none 0 0) := bo.cell 13
  have bo_l := bo.lt
  have bo_f := fun i => bo.frozen i
  go_wp2_with fail
  skip
  refine bodyPost_ret (v := .agg #[.int .i64 z0, .string z1, .int .i64 z2, .int .i64 z3, .slice D4 z4.length d4, .slice D5 z5.length d5, .slice D6 z6.length d6, .slice D7 z7.length d7, .slice D8 z8.length d8, .slice D9 z9.length d9, .slice D10 z10.length d10, .string z11, .slice D12 z12.length d12, .slice D13 z13.length d13]) (by simp [results, Tryz.results6, go_sem, br_0, br_1, br_2, br_3, br_4, br_5, br_6, br_7, br_8, br_9, br_10, br_11, br_12, br_13, bo_0, bo_1, bo_2, bo_3, bo_4, bo_5, bo_6, bo_7, bo_8, bo_9, bo_10, bo_11, bo_12, bo_13, br_l, br_f, bo_l, bo_f]) rfl ⟨_, rfl, ?_, ?_⟩
  · refine OwnI.wide (lo := X0.heap.size) (hi := Y7.heap.size) ?_ (by omega) (by simp)
    repeat (refine OwnI.set ?_ (.inl (by simp; omega)) _)
    exact (OwnI.consv (OwnI.consv (OwnI.consv (OwnI.consv (OwnI.app (m := Y0.heap.size) (hi := Y7.heap.size) o4 (OwnI.wide (lo' := Y0.heap.size) (hi' := Y7.heap.size) (OwnI.app (m := Y1.heap.size) (hi := Y7.heap.size) o5 (OwnI.wide (lo' := Y1.heap.size) (hi' := Y7.heap.size) (OwnI.app (m := Y2.heap.size) (hi := Y7.heap.size) o6 (OwnI.wide (lo' := Y2.heap.size) (hi' := Y7.heap.size) (OwnI.app (m := Y3.heap.size) (hi := Y7.heap.size) o7 (OwnI.wide (lo' := Y3.heap.size) (hi' := Y7.heap.size) (OwnI.app (m := Y4.heap.size) (hi := Y7.heap.size) o8 (OwnI.wide (lo' := Y4.heap.size) (hi' := Y7.heap.size) (OwnI.app (m := Y5.heap.size) (hi := Y7.heap.size) o9 (OwnI.wide (lo' := Y5.heap.size) (hi' := Y7.heap.size) (OwnI.app (m := Y6.heap.size) (hi := Y7.heap.size) o10 (OwnI.wide (lo' := Y6.heap.size) (hi' := Y7.heap.size) (OwnI.app (m := Y7.heap.size) (hi := Y7.heap.size) o11 (OwnI.wide (lo' := Y7.heap.size) (hi' := Y7.heap.size) (OwnI.nil _ Y7.heap.size Y7.heap.size) (by omega) (by omega)) (Nat.le_refl _) (by omega) (by omega)) (by omega) (by omega)) (Nat.le_refl _) (by omega) (by omega)) (by omega) (by omega)) (Nat.le_refl _) (by omega) (by omega)) (by omega) (by omega)) (Nat.le_refl _) (by omega) (by omega)) (by omega) (by omega)) (Nat.le_refl _) (by omega) (by omega)) (by omega) (by omega)) (Nat.le_refl _) (by omega) (by omega)) (by omega) (by omega)) (Nat.le_refl _) (by omega) (by omega)) (by omega) (by omega)) (Nat.le_refl _) (by omega) (by omega)) _) _) _) _)
  · repeat (refine Below.setCell ?_ (by simp; try omega) _)
    exact hB
theorem toMachine_any (x : FMachine) (hw : x.wt ≤ 1048576) : ToMachine x := by
  obtain ⟨z0, z1, z2, z3, z4, z5, ⟨z6⟩, z7, z8, z9, z10, ⟨z11, z12, z13⟩⟩ := x
  exact toMachine_of z0 z1 z2 z3 z4 z5 z6 z7 z8 z9 z10 z11 z12 z13 (toValueS_any z4 (by rw [FMachine.wt_eq] at hw; omega)) (toPlaceS_any z5 (by rw [FMachine.wt_eq] at hw; omega)) (toHeap_any _ (by rw [FMachine.wt_eq] at hw; rw [FHeap.wt_eq]; omega)) (toObjectS_any z7 (by rw [FMachine.wt_eq] at hw; omega)) (toClosureS_any z8 (by rw [FMachine.wt_eq] at hw; omega)) (toGenS_any z9 (by rw [FMachine.wt_eq] at hw; omega)) (toFrameS_any z10 (by rw [FMachine.wt_eq] at hw; omega)) (toOutput_any _ (by rw [FMachine.wt_eq] at hw; rw [FOutput.wt_eq]; omega))
end Go.Proofs.YtahgcojmpafefaaGreat
