/-
  Parts of the proof: ToG. Conditions: none.
-/
import Derived.Test.YtdmbhmhfjappcaaGreatDoorQDataG
namespace Go.Proofs.YtdmbhmhfjappcaaGreatDoor
open Go.ChangeShapes Go.WideShapes Go.ChangeAt Go.RowKit Go.Deep Go.Joins
open Go.ChangeMaps (open_string shut_string)
set_option linter.unusedVariables false
set_option linter.unusedSimpArgs false
set_option maxRecDepth 100000

/-- What make lays, as a list of values. -/
def madeL (z : Array Value) (n : Nat) : List Value := (madeCells z n).toList
theorem own_madeL (w : World) (z : Array Value) (n k : Nat) (t : TypeId) (hz : z.size = k) (hk : 0 < k) (hn : n ≤ maxLen) : (w.alloc (.cells (madeCells z (n * k)) t)).ownsRow w.heap.size t k (.slice (some ⟨w.heap.size, 0, none⟩) n n) n ([] ++ madeL z (n * k)) := by
  rw [List.nil_append]
  have hsz : (madeCells z (n * k)).size = n * k := by simp [madeCells]
  refine ⟨by simp [madeL, hsz], .inr ⟨w.heap.size, n, madeCells z (n * k), rfl, Nat.le_refl _, heap_alloc_new w _, Nat.le_refl _, hn, hsz, ?_⟩⟩
  unfold madeL
  rw [List.take_of_length_le (by simp [hsz])]
theorem own_rowf {w : World} {base k n c g : Nat} {e : TypeId} {xs : List Value} (h : w.ownsRow base e k (.slice (some ⟨g, 0, none⟩) n c) n xs) : ∃ (g1 : Nat) (f : Nat → Value), w.rowIs g e (c * k) f := by
  rcases own_row h with ⟨hv, _⟩ | ⟨g1, cap, f, hv, _, _, _, hrow, _⟩
  · cases hv
  · simp only [Value.slice.injEq, Option.some.injEq, Addr.mk.injEq, true_and, and_true] at hv
    obtain ⟨rfl, rfl⟩ := hv
    exact ⟨g, f, hrow⟩
def ToStringS (l : List FStr) : Prop := ∀ (u : Value) (w : World) (B : Nat), B ≤ w.heap.size → RdC w B (.s 9 1 l.length (FStr.flat l)) u → Calls Tryz.prog 63 #[u] w fun e w' => ∃ A c, e = .returned (.slice A l.length c) ∧ OwnI w' w.heap.size w'.heap.size [.s 9 1 l.length (FStr.flat l)] [.slice A l.length c] ∧ Below w.heap.size w w'
theorem infoString : (Tryz.prog.info? 9).map (fun i => (i.zero.map Value.cells, i.size, i.bytes)) = some (some #[.string ByteArray.empty], 1, 16) := by kernel_rfl
set_option maxHeartbeats 1000000 in
theorem toStringS_of (l : List FStr) (hl : l.length ≤ 1048576) : ToStringS l := by
  intro u w B hB0 hr0
  have hr := hr0.up hB0
  clear hr0
  obtain ⟨A, c, rfl⟩ := hr.form
  have HC := Lib.hid hr
  have hcap := hr.cap
  have hn : l.length ≤ 9223372036854775807 := by omega
  have hmk := fun W => make_law (P := Tryz.prog) 48 9 _ 1 16 Tryz.underlying48 infoString l.length (by omega) hn W
  clear hr hcap
  go_enter Tryz.func63, Tryz.ntmps63
  go_wp2
  go_loopw [4] (fun i wr => ∃ k : Nat, k ≤ l.length ∧ i = .int .i64 k ∧ (∃ us zs, us.length = k * 1 ∧ zs.length = (l.length - k) * 1 ∧ wr.ownsRow w.heap.size 9 1 (.slice (some ⟨w.heap.size, 0, none⟩) l.length l.length) l.length (us ++ zs) ∧ OwnI wr (w.heap.size + 1) wr.heap.size (FStr.flat (l.take k)) us) ∧ Below w.heap.size w wr) (fun i _ => l.length - (intOf i).toNat)
  case atStart => exact ⟨0, Nat.zero_le _, rfl, ⟨[], madeL #[.string ByteArray.empty] (l.length), by simp, by simp [madeL, size_madeCells], (by simpa using own_madeL w #[.string ByteArray.empty] l.length 1 9 rfl (by omega) (by unfold maxLen; omega)), OwnI.nil _ _ _⟩, (Below.refl _ _).alloc (Nat.le_refl _) _⟩
  case round =>
    obtain ⟨k, hk, rfl, ⟨us, zs, hus, hzs, hrow, hown⟩, hb⟩ := hrel
    have HROW := Lib.hid hrow
    have HOWN := Lib.hid hown
    have HUS := Lib.hid hus
    have HZS := Lib.hid hzs
    have hsz : w.heap.size < wr.heap.size := (hrow.lt _ rfl).2
    clear hmk hrow hown hus hzs
    by_cases hlt : k < l.length
    · obtain ⟨x, hx⟩ : ∃ x, l[k]? = some x := ⟨_, List.getElem?_eq_getElem hlt⟩
      obtain ⟨bc, offc, rfl, hblc, hcc⟩ := RdC.at_ FStr.len HC.out hx
      obtain ⟨z0⟩ := x
      rw [FStr.c_eq] at hcc
      obtain ⟨u0, e0, q0⟩ := hcc 0 _ rfl
      obtain rfl := q0.val
      clear q0
      have c_0 : wr.cell? ⟨bc, offc + k, none⟩ = some (.string z0) := (hb.cell (p := ⟨bc, _, none⟩) hblc).trans (by simpa using e0)
      obtain ⟨g1, f1, hrow1⟩ := own_rowf HROW.out
      have HX := Lib.hid hx
      clear hcc hx e0
      have q0 := hrow1.cell (i := k) (by omega)
      have z0_ := hrow1.frozen (k)
      go_wp2_with fail
      go_roundw
      case rel =>
        have hflat : FStr.flat (l.take (k + 1)) = FStr.flat (l.take k) ++ [.v (.string z0)] := by
          rw [List.take_add_one, HX.out]
          simp [FStr.c_eq]
        have hset := sets_app [.string z0] us zs (k * 1) HUS.out (by rw [HZS.out]; simp; omega)
        refine ⟨k + 1, by omega, by go_num, ⟨us ++ [.string z0], zs.drop 1, by simp [HUS.out]; try omega, by rw [List.length_drop, HZS.out]; omega, ?_, ?_⟩, (hb.setCell (by simp) _)⟩
        · have hfin := (own_setC HROW.out (i := k) (by omega) (.string z0))
          rw [show us ++ [.string z0] ++ zs.drop 1 = _ from hset.symm]
          simpa [sets] using hfin
        · rw [hflat]
          have hfin := (OwnI.set (OwnI.app (m := wr.heap.size) (lo' := wr.heap.size) (hi := wr.heap.size) HOWN.out (OwnI.consv (OwnI.nil _ _ _) (.string z0)) (Nat.le_refl _) (by omega) (Nat.le_refl _)) (p := ⟨w.heap.size, k, none⟩) (.inl (by simp)) (.string z0))
          exact hfin.wide (Nat.le_refl _) (by simp)
      case measure => simp [intOf]; omega
    · obtain rfl : k = l.length := by omega
      clear hlt
      go_wp2_with fail
      go_ret
      have hz0 : zs = [] := List.eq_nil_of_length_eq_zero (by rw [HZS.out]; simp)
      have hr1 := HROW.out
      have ho1 := HOWN.out
      rw [hz0, List.append_nil] at hr1
      rw [List.take_length] at ho1
      exact ⟨_, _, rfl, OwnI.mk hr1 ho1 (fun g hg => by have : w.heap.size = g := by simpa [Value.ownBlock] using hg
                                                        omega) (by omega) (Nat.le_refl _), hb⟩
theorem toStringS_any (l : List FStr) (hw : l.length + FStr.wts l ≤ 1048576) : ToStringS l := (toStringS_of l (by omega))
def ToKey (x : FKey) : Prop := ∀ (us : List Value) (w : World) (B : Nat), B ≤ w.heap.size → RdVs w B x.c us → Calls Tryz.prog 124 #[.agg us.toArray] w fun e w' => ∃ us', e = .returned (.agg us'.toArray) ∧ OwnI w' w.heap.size w'.heap.size x.c us' ∧ Below w.heap.size w w'
set_option maxHeartbeats 1000000 in
theorem toKey_of (z0 : Bool) (z1 : Int) (z2 : ByteArray)  : ToKey ⟨z0, z1, z2⟩ := by
  intro us w B hB0 hr
  rw [FKey.c_eq] at hr ⊢
  obtain ⟨us0, rfl, hr_0⟩ := hr.unv
  obtain ⟨us1, rfl, hr_1⟩ := hr_0.unv
  obtain ⟨us2, rfl, hr_2⟩ := hr_1.unv
  obtain rfl := hr_2.un0
  go_enter Tryz.func124, Tryz.ntmps124
  go_wp2_with fail
  exact bodyPost_ret (v := .agg #[.bool z0, .int .i64 z1, .string z2]) (by simp [results, Tryz.results124, go_sem]) rfl ⟨_, rfl, (OwnI.consv (OwnI.consv (OwnI.consv (OwnI.nil _ _ _) _) _) _), by repeat (first | exact Below.refl _ _ | (refine Below.alloc ?_ (by simp; try omega) _) | (refine Below.setCell ?_ (by simp) _))⟩
theorem toKey_any (x : FKey) (hw : x.wt ≤ 1048576) : ToKey x := by
  obtain ⟨z0, z1, z2⟩ := x
  exact toKey_of z0 z1 z2 
def ToEntry (x : FEntry) : Prop := ∀ (us : List Value) (w : World) (B : Nat), B ≤ w.heap.size → RdVs w B x.c us → Calls Tryz.prog 118 #[.agg us.toArray] w fun e w' => ∃ us', e = .returned (.agg us'.toArray) ∧ OwnI w' w.heap.size w'.heap.size x.c us' ∧ Below w.heap.size w w'
def ToEntryS (l : List FEntry) : Prop := ∀ (u : Value) (w : World) (B : Nat), B ≤ w.heap.size → RdC w B (.s 106 8 l.length (FEntry.flat l)) u → Calls Tryz.prog 113 #[u] w fun e w' => ∃ A c, e = .returned (.slice A l.length c) ∧ OwnI w' w.heap.size w'.heap.size [.s 106 8 l.length (FEntry.flat l)] [.slice A l.length c] ∧ Below w.heap.size w w'
def ToValue (x : FValue) : Prop := ∀ (us : List Value) (w : World) (B : Nat), B ≤ w.heap.size → RdVs w B x.c us → Calls Tryz.prog 107 #[.agg us.toArray] w fun e w' => ∃ us', e = .returned (.agg us'.toArray) ∧ OwnI w' w.heap.size w'.heap.size x.c us' ∧ Below w.heap.size w w'
set_option maxHeartbeats 1000000 in
theorem toEntry_of (z0 : Bool) (z1 : Int) (z2 : ByteArray) (z3 : Int) (z4 : Int) (z5 : ByteArray) (z6 : Int) (z7 : List FEntry) (h0 : ToKey ⟨z0, z1, z2⟩) (h3 : ToValue ⟨z3, z4, z5, z6, z7⟩) : ToEntry ⟨⟨z0, z1, z2⟩, ⟨z3, z4, z5, z6, z7⟩⟩ := by
  intro us w B hB0 hr
  rw [FEntry.c_eq] at hr ⊢
  obtain ⟨us0, rfl, hr_0⟩ := hr.unv
  obtain ⟨us1, rfl, hr_1⟩ := hr_0.unv
  obtain ⟨us2, rfl, hr_2⟩ := hr_1.unv
  obtain ⟨us3, rfl, hr_3⟩ := hr_2.unv
  obtain ⟨us4, rfl, hr_4⟩ := hr_3.unv
  obtain ⟨us5, rfl, hr_5⟩ := hr_4.unv
  obtain ⟨us6, rfl, hr_6⟩ := hr_5.unv
  obtain ⟨A7, c7, us7, rfl, r7, hr_7⟩ := hr_6.uns
  obtain rfl := hr_7.un0
  have R7 := Lib.hid r7
  clear r7
  have H0 := Lib.hid h0
  clear h0
  have H3 := Lib.hid h3
  clear h3
  go_enter Tryz.func118, Tryz.ntmps118
  go_wp2_with fail
  refine calls_worldD _ (fun X => Blk X (w.heap.size) 161 #[.bool z0, .int .i64 z1, .string z2, .int .i64 z3, .int .i64 z4, .string z5, .int .i64 z6, .slice A7 z7.length c7] ∧ Blk X (w.heap.size + 1) 106 #[.bool false, .int .i64 0, .string ⟨#[]⟩, .int .i64 0, .int .i64 0, .string ⟨#[]⟩, .int .i64 0, .slice none 0 0] ∧ Blk X (w.heap.size + 1 + 1) 106 #[.bool false, .int .i64 0, .string ⟨#[]⟩, .int .i64 0, .int .i64 0, .string ⟨#[]⟩, .int .i64 0, .slice none 0 0] ∧ Below w.heap.size w X) ⟨((Blk.new w _ _).alloc _).alloc _, (Blk.new' (w.alloc _) _ _ _ (by simp)).alloc _, Blk.new' ((w.alloc _).alloc _) _ _ _ (by simp), ((((Below.refl _ _).alloc (Nat.le_refl _) _).alloc (by simp) _).alloc (by simp; omega) _)⟩ ?_
  rintro X0 ⟨ba, br, bo, hB⟩
  have s0 := bo.lt
  refine (H0.out [.bool z0, .int .i64 z1, .string z2] _ B (by omega) (by rw [FKey.c_eq]; exact (RdVs.cons (by unfold RdC; rfl) (RdVs.cons (by unfold RdC; rfl) (RdVs.cons (by unfold RdC; rfl) (RdVs.nil _ _)))))).mono ?_
  rw [FKey.c_eq]
  rintro e Y0 ⟨us_, rfl, own, hb⟩
  have hv := own.vs
  obtain ⟨us_0, rfl, hv_0⟩ := hv.unv
  obtain ⟨us_1, rfl, hv_1⟩ := hv_0.unv
  obtain ⟨us_2, rfl, hv_2⟩ := hv_1.unv
  obtain rfl := hv_2.un0
  have o0 := own
  clear own
  replace ba := ba.below hb (Nat.le_refl _)
  replace br := br.below hb (Nat.le_refl _)
  replace bo := bo.below hb (Nat.le_refl _)
  replace hB := hB.trans (hb.mono (by omega))
  have t0 : X0.heap.size ≤ Y0.heap.size := hb.size
  clear hb
  have ba_3 : Y0.cell? ⟨w.heap.size, 3, none⟩ = some (.int .i64 z3) := ba.cell 3
  have ba_4 : Y0.cell? ⟨w.heap.size, 4, none⟩ = some (.int .i64 z4) := ba.cell 4
  have ba_5 : Y0.cell? ⟨w.heap.size, 5, none⟩ = some (.string z5) := ba.cell 5
  have ba_6 : Y0.cell? ⟨w.heap.size, 6, none⟩ = some (.int .i64 z6) := ba.cell 6
  have ba_7 : Y0.cell? ⟨w.heap.size, 7, none⟩ = some (.slice A7 z7.length c7) := ba.cell 7
  have ba_l := ba.lt
  have ba_f := fun i => ba.frozen i
  have bo_0 : Y0.cell? ⟨w.heap.size + 1 + 1, 0, none⟩ = some (.bool false) := bo.cell 0
  have bo_1 : Y0.cell? ⟨w.heap.size + 1 + 1, 1, none⟩ = some (.int .i64 0) := bo.cell 1
  have bo_2 : Y0.cell? ⟨w.heap.size + 1 + 1, 2, none⟩ = some (.string ⟨#[]⟩) := bo.cell 2
  have bo_l := bo.lt
  have bo_f := fun i => bo.frozen i
  go_wp2_with fail
  clear ba_3 ba_4 ba_5 ba_6 ba_7 ba_l ba_f
  clear bo_0 bo_1 bo_2 bo_l bo_f
  refine calls_worldD _ (fun X => Blk X (w.heap.size) 161 #[.bool z0, .int .i64 z1, .string z2, .int .i64 z3, .int .i64 z4, .string z5, .int .i64 z6, .slice A7 z7.length c7] ∧ Blk X (w.heap.size + 1) 106 #[.bool false, .int .i64 0, .string ⟨#[]⟩, .int .i64 0, .int .i64 0, .string ⟨#[]⟩, .int .i64 0, .slice none 0 0] ∧ Blk X (w.heap.size + 1 + 1) 106 #[.bool z0, .int .i64 z1, .string z2, .int .i64 0, .int .i64 0, .string ⟨#[]⟩, .int .i64 0, .slice none 0 0] ∧ OwnI X X0.heap.size Y0.heap.size [.v (.bool z0), .v (.int .i64 z1), .v (.string z2)] [.bool z0, .int .i64 z1, .string z2] ∧ Below w.heap.size w X ∧ Y0.heap.size ≤ X.heap.size) ⟨(((ba.far (by simp; try omega) _).far (by simp; try omega) _).far (by simp; try omega) _), (((br.far (by simp; try omega) _).far (by simp; try omega) _).far (by simp; try omega) _), (by simpa using (((bo.set_ 0 _).set_ 1 _).set_ 2 _)), (((o0.set (.inl (by simp; omega)) _).set (.inl (by simp; omega)) _).set (.inl (by simp; omega)) _), (((hB.setCell (by simp; try omega) _).setCell (by simp; try omega) _).setCell (by simp; try omega) _), (by simp)⟩ ?_
  clear ba br bo hB o0
  rintro X1 ⟨ba, br, bo, o0, hB, y1⟩
  have s1 := bo.lt
  refine (H3.out [.int .i64 z3, .int .i64 z4, .string z5, .int .i64 z6, .slice A7 z7.length c7] _ B (by omega) (by rw [FValue.c_eq]; exact (RdVs.cons (by unfold RdC; rfl) (RdVs.cons (by unfold RdC; rfl) (RdVs.cons (by unfold RdC; rfl) (RdVs.cons (by unfold RdC; rfl) (RdVs.cons (R7.out.below hB hB0) (RdVs.nil _ _)))))))).mono ?_
  rw [FValue.c_eq]
  rintro e Y1 ⟨us_, rfl, own, hb⟩
  have hv := own.vs
  obtain ⟨us_3, rfl, hv_0⟩ := hv.unv
  obtain ⟨us_4, rfl, hv_1⟩ := hv_0.unv
  obtain ⟨us_5, rfl, hv_2⟩ := hv_1.unv
  obtain ⟨us_6, rfl, hv_3⟩ := hv_2.unv
  obtain ⟨D7, d7, us_7, rfl, _, hv_4⟩ := hv_3.uns
  obtain rfl := hv_4.un0
  have o3 := own
  clear own
  replace ba := ba.below hb (Nat.le_refl _)
  replace br := br.below hb (Nat.le_refl _)
  replace bo := bo.below hb (Nat.le_refl _)
  replace o0 := o0.below hb (Nat.le_refl _)
  replace hB := hB.trans (hb.mono (by omega))
  have t1 : X1.heap.size ≤ Y1.heap.size := hb.size
  clear hb
  have ba_l := ba.lt
  have ba_f := fun i => ba.frozen i
  have br_0 : Y1.cell? ⟨w.heap.size + 1, 0, none⟩ = some (.bool false) := br.cell 0
  have br_1 : Y1.cell? ⟨w.heap.size + 1, 1, none⟩ = some (.int .i64 0) := br.cell 1
  have br_2 : Y1.cell? ⟨w.heap.size + 1, 2, none⟩ = some (.string ⟨#[]⟩) := br.cell 2
  have br_3 : Y1.cell? ⟨w.heap.size + 1, 3, none⟩ = some (.int .i64 0) := br.cell 3
  have br_4 : Y1.cell? ⟨w.heap.size + 1, 4, none⟩ = some (.int .i64 0) := br.cell 4
  have br_5 : Y1.cell? ⟨w.heap.size + 1, 5, none⟩ = some (.string ⟨#[]⟩) := br.cell 5
  have br_6 : Y1.cell? ⟨w.heap.size + 1, 6, none⟩ = some (.int .i64 0) := br.cell 6
  have br_7 : Y1.cell? ⟨w.heap.size + 1, 7, none⟩ = some (.slice none 0 0) := br.cell 7
  have br_l := br.lt
  have br_f := fun i => br.frozen i
  have bo_0 : Y1.cell? ⟨w.heap.size + 1 + 1, 0, none⟩ = some (.bool z0) := bo.cell 0
  have bo_1 : Y1.cell? ⟨w.heap.size + 1 + 1, 1, none⟩ = some (.int .i64 z1) := bo.cell 1
  have bo_2 : Y1.cell? ⟨w.heap.size + 1 + 1, 2, none⟩ = some (.string z2) := bo.cell 2
  have bo_3 : Y1.cell? ⟨w.heap.size + 1 + 1, 3, none⟩ = some (.int .i64 0) := bo.cell 3
  have bo_4 : Y1.cell? ⟨w.heap.size + 1 + 1, 4, none⟩ = some (.int .i64 0) := bo.cell 4
  have bo_5 : Y1.cell? ⟨w.heap.size + 1 + 1, 5, none⟩ = some (.string ⟨#[]⟩) := bo.cell 5
  have bo_6 : Y1.cell? ⟨w.heap.size + 1 + 1, 6, none⟩ = some (.int .i64 0) := bo.cell 6
  have bo_7 : Y1.cell? ⟨w.heap.size + 1 + 1, 7, none⟩ = some (.slice none 0 0) := bo.cell 7
  have bo_l := bo.lt
  have bo_f := fun i => bo.frozen i
  go_wp2_with fail
  skip
  refine bodyPost_ret (v := .agg #[.bool z0, .int .i64 z1, .string z2, .int .i64 z3, .int .i64 z4, .string z5, .int .i64 z6, .slice D7 z7.length d7]) (by simp [results, Tryz.results118, go_sem, br_0, br_1, br_2, br_3, br_4, br_5, br_6, br_7, bo_0, bo_1, bo_2, bo_3, bo_4, bo_5, bo_6, bo_7, br_l, br_f, bo_l, bo_f]) rfl ⟨_, rfl, ?_, ?_⟩
  · refine OwnI.wide (lo := X0.heap.size) (hi := Y1.heap.size) ?_ (by omega) (by simp)
    repeat (refine OwnI.set ?_ (.inl (by simp; omega)) _)
    exact (OwnI.app (m := Y0.heap.size) (hi := Y1.heap.size) o0 (OwnI.wide (lo' := Y0.heap.size) (hi' := Y1.heap.size) (OwnI.app (m := Y1.heap.size) (hi := Y1.heap.size) o3 (OwnI.wide (lo' := Y1.heap.size) (hi' := Y1.heap.size) (OwnI.nil _ Y1.heap.size Y1.heap.size) (by omega) (by omega)) (Nat.le_refl _) (by omega) (by omega)) (by omega) (by omega)) (Nat.le_refl _) (by omega) (by omega))
  · repeat (refine Below.setCell ?_ (by simp; try omega) _)
    exact hB
theorem infoEntry : (Tryz.prog.info? 106).map (fun i => (i.zero.map Value.cells, i.size, i.bytes)) = some (some #[.bool false, .int .i64 0, .string ByteArray.empty, .int .i64 0, .int .i64 0, .string ByteArray.empty, .int .i64 0, .slice none 0 0], 8, 96) := by kernel_rfl
set_option maxHeartbeats 1000000 in
theorem toEntryS_of (l : List FEntry) (hl : l.length ≤ 1048576) (he : ∀ x, x ∈ l → ToEntry x) : ToEntryS l := by
  intro u w B hB0 hr0
  have hr := hr0.up hB0
  clear hr0
  obtain ⟨A, c, rfl⟩ := hr.form
  have HC := Lib.hid hr
  have hcap := hr.cap
  have hn : l.length ≤ 9223372036854775807 := by omega
  have hmk := fun W => make_law (P := Tryz.prog) 41 106 _ 8 96 Tryz.underlying41 infoEntry l.length (by omega) hn W
  have HE := Lib.hid he
  clear he
  clear hr hcap
  go_enter Tryz.func113, Tryz.ntmps113
  go_wp2
  go_loopw [4] (fun i wr => ∃ k : Nat, k ≤ l.length ∧ i = .int .i64 k ∧ (∃ us zs, us.length = k * 8 ∧ zs.length = (l.length - k) * 8 ∧ wr.ownsRow w.heap.size 106 8 (.slice (some ⟨w.heap.size, 0, none⟩) l.length l.length) l.length (us ++ zs) ∧ OwnI wr (w.heap.size + 1) wr.heap.size (FEntry.flat (l.take k)) us) ∧ Below w.heap.size w wr) (fun i _ => l.length - (intOf i).toNat)
  case atStart => exact ⟨0, Nat.zero_le _, rfl, ⟨[], madeL #[.bool false, .int .i64 0, .string ByteArray.empty, .int .i64 0, .int .i64 0, .string ByteArray.empty, .int .i64 0, .slice none 0 0] (l.length * 8), by simp, by simp [madeL, size_madeCells], own_madeL w _ l.length 8 _ rfl (by omega) (by unfold maxLen; omega), OwnI.nil _ _ _⟩, (Below.refl _ _).alloc (Nat.le_refl _) _⟩
  case round =>
    obtain ⟨k, hk, rfl, ⟨us, zs, hus, hzs, hrow, hown⟩, hb⟩ := hrel
    have HROW := Lib.hid hrow
    have HOWN := Lib.hid hown
    have HUS := Lib.hid hus
    have HZS := Lib.hid hzs
    have hsz : w.heap.size < wr.heap.size := (hrow.lt _ rfl).2
    clear hmk hrow hown hus hzs
    by_cases hlt : k < l.length
    · obtain ⟨x, hx⟩ : ∃ x, l[k]? = some x := ⟨_, List.getElem?_eq_getElem hlt⟩
      obtain ⟨bc, offc, rfl, hblc, hcc⟩ := RdC.at_ FEntry.len HC.out hx
      obtain ⟨⟨z0, z1, z2⟩, ⟨z3, z4, z5, z6, z7⟩⟩ := x
      rw [FEntry.c_eq] at hcc
      obtain ⟨u0, e0, q0⟩ := hcc 0 _ rfl
      obtain rfl := q0.val
      clear q0
      have c_0 : wr.cell? ⟨bc, offc + k * 8, none⟩ = some (.bool z0) := (hb.cell (p := ⟨bc, _, none⟩) hblc).trans (by simpa using e0)
      obtain ⟨u1, e1, q1⟩ := hcc 1 _ rfl
      obtain rfl := q1.val
      clear q1
      have c_1 : wr.cell? ⟨bc, offc + k * 8 + 1, none⟩ = some (.int .i64 z1) := (hb.cell (p := ⟨bc, _, none⟩) hblc).trans (by simpa using e1)
      obtain ⟨u2, e2, q2⟩ := hcc 2 _ rfl
      obtain rfl := q2.val
      clear q2
      have c_2 : wr.cell? ⟨bc, offc + k * 8 + 2, none⟩ = some (.string z2) := (hb.cell (p := ⟨bc, _, none⟩) hblc).trans (by simpa using e2)
      obtain ⟨u3, e3, q3⟩ := hcc 3 _ rfl
      obtain rfl := q3.val
      clear q3
      have c_3 : wr.cell? ⟨bc, offc + k * 8 + 3, none⟩ = some (.int .i64 z3) := (hb.cell (p := ⟨bc, _, none⟩) hblc).trans (by simpa using e3)
      obtain ⟨u4, e4, q4⟩ := hcc 4 _ rfl
      obtain rfl := q4.val
      clear q4
      have c_4 : wr.cell? ⟨bc, offc + k * 8 + 4, none⟩ = some (.int .i64 z4) := (hb.cell (p := ⟨bc, _, none⟩) hblc).trans (by simpa using e4)
      obtain ⟨u5, e5, q5⟩ := hcc 5 _ rfl
      obtain rfl := q5.val
      clear q5
      have c_5 : wr.cell? ⟨bc, offc + k * 8 + 5, none⟩ = some (.string z5) := (hb.cell (p := ⟨bc, _, none⟩) hblc).trans (by simpa using e5)
      obtain ⟨u6, e6, q6⟩ := hcc 6 _ rfl
      obtain rfl := q6.val
      clear q6
      have c_6 : wr.cell? ⟨bc, offc + k * 8 + 6, none⟩ = some (.int .i64 z6) := (hb.cell (p := ⟨bc, _, none⟩) hblc).trans (by simpa using e6)
      obtain ⟨u7, e7, q7⟩ := hcc 7 _ rfl
      obtain ⟨A7, c7, rfl⟩ := q7.form
      have Q7 := Lib.hid q7
      clear q7
      have c_7 : wr.cell? ⟨bc, offc + k * 8 + 7, none⟩ = some (.slice A7 z7.length c7) := (hb.cell (p := ⟨bc, _, none⟩) hblc).trans (by simpa using e7)
      obtain ⟨g1, f1, hrow1⟩ := own_rowf HROW.out
      have HX := Lib.hid hx
      clear hcc hx e0 e1 e2 e3 e4 e5 e6 e7
      have HT := Lib.hid (HE.out _ (List.mem_of_getElem? HX.out))
      have HV := Lib.hid (show RdVs wr w.heap.size (FEntry.c ⟨⟨z0, z1, z2⟩, ⟨z3, z4, z5, z6, z7⟩⟩) [.bool z0, .int .i64 z1, .string z2, .int .i64 z3, .int .i64 z4, .string z5, .int .i64 z6, .slice A7 z7.length c7] from by rw [FEntry.c_eq]; exact (RdVs.cons (by unfold RdC; rfl) (RdVs.cons (by unfold RdC; rfl) (RdVs.cons (by unfold RdC; rfl) (RdVs.cons (by unfold RdC; rfl) (RdVs.cons (by unfold RdC; rfl) (RdVs.cons (by unfold RdC; rfl) (RdVs.cons (by unfold RdC; rfl) (RdVs.cons (Q7.out.below hb (Nat.le_refl _)) (RdVs.nil _ _))))))))))
      go_wp2_with fail
      refine (HT.out _ _ w.heap.size (by omega) HV.out).mono ?_
      rw [FEntry.c_eq]
      rintro e w2 ⟨us2, rfl, own2, hb2⟩
      have hv := own2.vs
      obtain ⟨us2_0, rfl, hv_0⟩ := hv.unv
      obtain ⟨us2_1, rfl, hv_1⟩ := hv_0.unv
      obtain ⟨us2_2, rfl, hv_2⟩ := hv_1.unv
      obtain ⟨us2_3, rfl, hv_3⟩ := hv_2.unv
      obtain ⟨us2_4, rfl, hv_4⟩ := hv_3.unv
      obtain ⟨us2_5, rfl, hv_5⟩ := hv_4.unv
      obtain ⟨us2_6, rfl, hv_6⟩ := hv_5.unv
      obtain ⟨D7, d7, us2_7, rfl, _, hv_7⟩ := hv_6.uns
      obtain rfl := hv_7.un0
      have OWN2 := Lib.hid own2
      have row2 : w2.rowIs w.heap.size 106 (l.length * 8) f1 := hrow1.of_block (hb2.block _ hrow1.lt)
      have ROW2 := Lib.hid (own_below HROW.out hb2 (Nat.le_refl _))
      have hsz2 : wr.heap.size ≤ w2.heap.size := hb2.size
      have hB2 := hb.trans (hb2.mono hb.size)
      have HOWN2 := Lib.hid (HOWN.out.below hb2 (Nat.le_refl _))
      have r0 := row2.cell (i := k * 8) (by omega)
      have f0_ := row2.frozen (k * 8)
      have r1 := row2.cell (i := k * 8 + 1) (by omega)
      have f1_ := row2.frozen (k * 8 + 1)
      have r2 := row2.cell (i := k * 8 + 2) (by omega)
      have f2_ := row2.frozen (k * 8 + 2)
      have r3 := row2.cell (i := k * 8 + 3) (by omega)
      have f3_ := row2.frozen (k * 8 + 3)
      have r4 := row2.cell (i := k * 8 + 4) (by omega)
      have f4_ := row2.frozen (k * 8 + 4)
      have r5 := row2.cell (i := k * 8 + 5) (by omega)
      have f5_ := row2.frozen (k * 8 + 5)
      have r6 := row2.cell (i := k * 8 + 6) (by omega)
      have f6_ := row2.frozen (k * 8 + 6)
      have r7 := row2.cell (i := k * 8 + 7) (by omega)
      have f7_ := row2.frozen (k * 8 + 7)
      clear own2 row2 hrow1 c_0 c_1 c_2 c_3 c_4 c_5 c_6 c_7
      go_wp2_with fail
      go_roundw
      case rel =>
        have hflat : FEntry.flat (l.take (k + 1)) = FEntry.flat (l.take k) ++ [.v (.bool z0), .v (.int .i64 z1), .v (.string z2), .v (.int .i64 z3), .v (.int .i64 z4), .v (.string z5), .v (.int .i64 z6), .s 106 8 z7.length (FEntry.flat z7)] := by
          rw [List.take_add_one, HX.out]
          simp [FEntry.c_eq]
        have hset := sets_app [.bool z0, .int .i64 z1, .string z2, .int .i64 z3, .int .i64 z4, .string z5, .int .i64 z6, .slice D7 z7.length d7] us zs (k * 8) HUS.out (by rw [HZS.out]; simp; omega)
        refine ⟨k + 1, by omega, by go_num, ⟨us ++ [.bool z0, .int .i64 z1, .string z2, .int .i64 z3, .int .i64 z4, .string z5, .int .i64 z6, .slice D7 z7.length d7], zs.drop 8, by simp [HUS.out]; try omega, by rw [List.length_drop, HZS.out]; omega, ?_, ?_⟩, ((((((((hB2.setCell (by simp) _).setCell (by simp) _).setCell (by simp) _).setCell (by simp) _).setCell (by simp) _).setCell (by simp) _).setCell (by simp) _).setCell (by simp) _)⟩
        · have hfin := (own_setC (own_setC (own_setC (own_setC (own_setC (own_setC (own_setC (own_setC ROW2.out (i := k * 8) (by omega) (.bool z0)) (i := k * 8 + 1) (by omega) (.int .i64 z1)) (i := k * 8 + 2) (by omega) (.string z2)) (i := k * 8 + 3) (by omega) (.int .i64 z3)) (i := k * 8 + 4) (by omega) (.int .i64 z4)) (i := k * 8 + 5) (by omega) (.string z5)) (i := k * 8 + 6) (by omega) (.int .i64 z6)) (i := k * 8 + 7) (by omega) (.slice D7 z7.length d7))
          rw [show us ++ [.bool z0, .int .i64 z1, .string z2, .int .i64 z3, .int .i64 z4, .string z5, .int .i64 z6, .slice D7 z7.length d7] ++ zs.drop 8 = _ from hset.symm]
          simpa [sets] using hfin
        · rw [hflat]
          have hfin := (OwnI.set (OwnI.set (OwnI.set (OwnI.set (OwnI.set (OwnI.set (OwnI.set (OwnI.set (OwnI.app (m := wr.heap.size) (lo' := wr.heap.size) (hi := w2.heap.size) HOWN2.out OWN2.out (Nat.le_refl _) (by omega) (by omega)) (p := ⟨w.heap.size, k * 8, none⟩) (.inl (by simp)) (.bool z0)) (p := ⟨w.heap.size, k * 8 + 1, none⟩) (.inl (by simp)) (.int .i64 z1)) (p := ⟨w.heap.size, k * 8 + 2, none⟩) (.inl (by simp)) (.string z2)) (p := ⟨w.heap.size, k * 8 + 3, none⟩) (.inl (by simp)) (.int .i64 z3)) (p := ⟨w.heap.size, k * 8 + 4, none⟩) (.inl (by simp)) (.int .i64 z4)) (p := ⟨w.heap.size, k * 8 + 5, none⟩) (.inl (by simp)) (.string z5)) (p := ⟨w.heap.size, k * 8 + 6, none⟩) (.inl (by simp)) (.int .i64 z6)) (p := ⟨w.heap.size, k * 8 + 7, none⟩) (.inl (by simp)) (.slice D7 z7.length d7))
          exact hfin.wide (Nat.le_refl _) (by simp)
      case measure => simp [intOf]; omega
    · obtain rfl : k = l.length := by omega
      clear hlt
      go_wp2_with fail
      go_ret
      have hz0 : zs = [] := List.eq_nil_of_length_eq_zero (by rw [HZS.out]; simp)
      have hr1 := HROW.out
      have ho1 := HOWN.out
      rw [hz0, List.append_nil] at hr1
      rw [List.take_length] at ho1
      exact ⟨_, _, rfl, OwnI.mk hr1 ho1 (fun g hg => by have : w.heap.size = g := by simpa [Value.ownBlock] using hg
                                                        omega) (by omega) (Nat.le_refl _), hb⟩
set_option maxHeartbeats 1000000 in
theorem toValue_of (z0 : Int) (z1 : Int) (z2 : ByteArray) (z3 : Int) (z4 : List FEntry) (h4 : ToEntryS z4) : ToValue ⟨z0, z1, z2, z3, z4⟩ := by
  intro us w B hB0 hr
  rw [FValue.c_eq] at hr ⊢
  obtain ⟨us0, rfl, hr_0⟩ := hr.unv
  obtain ⟨us1, rfl, hr_1⟩ := hr_0.unv
  obtain ⟨us2, rfl, hr_2⟩ := hr_1.unv
  obtain ⟨us3, rfl, hr_3⟩ := hr_2.unv
  obtain ⟨A4, c4, us4, rfl, r4, hr_4⟩ := hr_3.uns
  obtain rfl := hr_4.un0
  have R4 := Lib.hid r4
  clear r4
  have H4 := Lib.hid h4
  clear h4
  go_enter Tryz.func107, Tryz.ntmps107
  go_wp2_with fail
  refine calls_worldD _ (fun X => Blk X (w.heap.size) 130 #[.int .i64 z0, .int .i64 z1, .string z2, .int .i64 z3, .slice A4 z4.length c4] ∧ Blk X (w.heap.size + 1) 43 #[.int .i64 0, .int .i64 0, .string ⟨#[]⟩, .int .i64 0, .slice none 0 0] ∧ Blk X (w.heap.size + 1 + 1) 43 #[.int .i64 z0, .int .i64 z1, .string z2, .int .i64 z3, .slice none 0 0] ∧ Below w.heap.size w X) ⟨((Blk.new w _ _).alloc _).alloc _, (Blk.new' (w.alloc _) _ _ _ (by simp)).alloc _, Blk.new' ((w.alloc _).alloc _) _ _ _ (by simp), ((((Below.refl _ _).alloc (Nat.le_refl _) _).alloc (by simp) _).alloc (by simp; omega) _)⟩ ?_
  rintro X0 ⟨ba, br, bo, hB⟩
  have s0 := bo.lt
  refine (H4.out _ _ B (by omega) (R4.out.below hB hB0)).mono ?_
  rintro e Y0 ⟨D4, d4, rfl, own, hb⟩
  have o4 := own
  clear own
  replace ba := ba.below hb (Nat.le_refl _)
  replace br := br.below hb (Nat.le_refl _)
  replace bo := bo.below hb (Nat.le_refl _)
  replace hB := hB.trans (hb.mono (by omega))
  have t0 : X0.heap.size ≤ Y0.heap.size := hb.size
  clear hb
  have ba_l := ba.lt
  have ba_f := fun i => ba.frozen i
  have br_0 : Y0.cell? ⟨w.heap.size + 1, 0, none⟩ = some (.int .i64 0) := br.cell 0
  have br_1 : Y0.cell? ⟨w.heap.size + 1, 1, none⟩ = some (.int .i64 0) := br.cell 1
  have br_2 : Y0.cell? ⟨w.heap.size + 1, 2, none⟩ = some (.string ⟨#[]⟩) := br.cell 2
  have br_3 : Y0.cell? ⟨w.heap.size + 1, 3, none⟩ = some (.int .i64 0) := br.cell 3
  have br_4 : Y0.cell? ⟨w.heap.size + 1, 4, none⟩ = some (.slice none 0 0) := br.cell 4
  have br_l := br.lt
  have br_f := fun i => br.frozen i
  have bo_0 : Y0.cell? ⟨w.heap.size + 1 + 1, 0, none⟩ = some (.int .i64 z0) := bo.cell 0
  have bo_1 : Y0.cell? ⟨w.heap.size + 1 + 1, 1, none⟩ = some (.int .i64 z1) := bo.cell 1
  have bo_2 : Y0.cell? ⟨w.heap.size + 1 + 1, 2, none⟩ = some (.string z2) := bo.cell 2
  have bo_3 : Y0.cell? ⟨w.heap.size + 1 + 1, 3, none⟩ = some (.int .i64 z3) := bo.cell 3
  have bo_4 : Y0.cell? ⟨w.heap.size + 1 + 1, 4, none⟩ = some (.slice none 0 0) := bo.cell 4
  have bo_l := bo.lt
  have bo_f := fun i => bo.frozen i
  go_wp2_with fail
  skip
  refine bodyPost_ret (v := .agg #[.int .i64 z0, .int .i64 z1, .string z2, .int .i64 z3, .slice D4 z4.length d4]) (by simp [results, Tryz.results107, go_sem, br_0, br_1, br_2, br_3, br_4, bo_0, bo_1, bo_2, bo_3, bo_4, br_l, br_f, bo_l, bo_f]) rfl ⟨_, rfl, ?_, ?_⟩
  · refine OwnI.wide (lo := X0.heap.size) (hi := Y0.heap.size) ?_ (by omega) (by simp)
    repeat (refine OwnI.set ?_ (.inl (by simp; omega)) _)
    exact (OwnI.consv (OwnI.consv (OwnI.consv (OwnI.consv (OwnI.app (m := Y0.heap.size) (hi := Y0.heap.size) o4 (OwnI.wide (lo' := Y0.heap.size) (hi' := Y0.heap.size) (OwnI.nil _ Y0.heap.size Y0.heap.size) (by omega) (by omega)) (Nat.le_refl _) (by omega) (by omega)) _) _) _) _)
  · repeat (refine Below.setCell ?_ (by simp; try omega) _)
    exact hB
mutual
theorem toEntry_any : ∀ (x : FEntry), x.wt ≤ 1048576 → ToEntry x
  | .mk a0 a1, hw => by
    unfold FEntry.wt at hw
    have k0 := toKey_any a0 (by omega)
    have k1 := toValue_any a1 (by omega)
    obtain ⟨b0_0, b0_1, b0_2⟩ := a0
    obtain ⟨b1_0, b1_1, b1_2, b1_3, b1_4⟩ := a1
    exact toEntry_of b0_0 b0_1 b0_2 b1_0 b1_1 b1_2 b1_3 b1_4 k0 k1
theorem toValue_any : ∀ (x : FValue), x.wt ≤ 1048576 → ToValue x
  | .mk a0 a1 a2 a3 a4, hw => by
    unfold FValue.wt at hw
    exact toValue_of a0 a1 a2 a3 a4 (toEntryS_of a4 (by omega) (toEntry_all a4 (by omega)))
theorem toEntry_all : ∀ (l : List FEntry), l.length + FEntry.wts l ≤ 1048576 → ∀ x, x ∈ l → ToEntry x
  | [], _, x, hx => by cases hx
  | y :: r, hw, x, hx => by
    unfold FEntry.wts at hw
    simp only [List.length_cons] at hw
    rcases List.mem_cons.1 hx with e | hx
    · rw [e]
      exact toEntry_any y (by omega)
    · exact toEntry_all r (by omega) x hx
end
theorem toEntryS_any (l : List FEntry) (hw : l.length + FEntry.wts l ≤ 1048576) : ToEntryS l := (toEntryS_of l (by omega) (toEntry_all l hw))
def ToIns (x : FIns) : Prop := ∀ (us : List Value) (w : World) (B : Nat), B ≤ w.heap.size → RdVs w B x.c us → Calls Tryz.prog 92 #[.agg us.toArray] w fun e w' => ∃ us', e = .returned (.agg us'.toArray) ∧ OwnI w' w.heap.size w'.heap.size x.c us' ∧ Below w.heap.size w w'
def ToInsS (l : List FIns) : Prop := ∀ (u : Value) (w : World) (B : Nat), B ≤ w.heap.size → RdC w B (.s 77 5 l.length (FIns.flat l)) u → Calls Tryz.prog 64 #[u] w fun e w' => ∃ A c, e = .returned (.slice A l.length c) ∧ OwnI w' w.heap.size w'.heap.size [.s 77 5 l.length (FIns.flat l)] [.slice A l.length c] ∧ Below w.heap.size w w'
set_option maxHeartbeats 1000000 in
theorem toIns_of (z0 : Int) (z1 : Int) (z2 : Int) (z3 : ByteArray) (z4 : ByteArray)  : ToIns ⟨z0, z1, z2, z3, z4⟩ := by
  intro us w B hB0 hr
  rw [FIns.c_eq] at hr ⊢
  obtain ⟨us0, rfl, hr_0⟩ := hr.unv
  obtain ⟨us1, rfl, hr_1⟩ := hr_0.unv
  obtain ⟨us2, rfl, hr_2⟩ := hr_1.unv
  obtain ⟨us3, rfl, hr_3⟩ := hr_2.unv
  obtain ⟨us4, rfl, hr_4⟩ := hr_3.unv
  obtain rfl := hr_4.un0
  go_enter Tryz.func92, Tryz.ntmps92
  go_wp2_with fail
  exact bodyPost_ret (v := .agg #[.int .i64 z0, .int .i64 z1, .int .i64 z2, .string z3, .string z4]) (by simp [results, Tryz.results92, go_sem]) rfl ⟨_, rfl, (OwnI.consv (OwnI.consv (OwnI.consv (OwnI.consv (OwnI.consv (OwnI.nil _ _ _) _) _) _) _) _), by repeat (first | exact Below.refl _ _ | (refine Below.alloc ?_ (by simp; try omega) _) | (refine Below.setCell ?_ (by simp) _))⟩
theorem infoIns : (Tryz.prog.info? 77).map (fun i => (i.zero.map Value.cells, i.size, i.bytes)) = some (some #[.int .i64 0, .int .i64 0, .int .i64 0, .string ByteArray.empty, .string ByteArray.empty], 5, 56) := by kernel_rfl
set_option maxHeartbeats 1000000 in
theorem toInsS_of (l : List FIns) (hl : l.length ≤ 1048576) (he : ∀ x, x ∈ l → ToIns x) : ToInsS l := by
  intro u w B hB0 hr0
  have hr := hr0.up hB0
  clear hr0
  obtain ⟨A, c, rfl⟩ := hr.form
  have HC := Lib.hid hr
  have hcap := hr.cap
  have hn : l.length ≤ 9223372036854775807 := by omega
  have hmk := fun W => make_law (P := Tryz.prog) 49 77 _ 5 56 Tryz.underlying49 infoIns l.length (by omega) hn W
  have HE := Lib.hid he
  clear he
  clear hr hcap
  go_enter Tryz.func64, Tryz.ntmps64
  go_wp2
  go_loopw [4] (fun i wr => ∃ k : Nat, k ≤ l.length ∧ i = .int .i64 k ∧ (∃ us zs, us.length = k * 5 ∧ zs.length = (l.length - k) * 5 ∧ wr.ownsRow w.heap.size 77 5 (.slice (some ⟨w.heap.size, 0, none⟩) l.length l.length) l.length (us ++ zs) ∧ OwnI wr (w.heap.size + 1) wr.heap.size (FIns.flat (l.take k)) us) ∧ Below w.heap.size w wr) (fun i _ => l.length - (intOf i).toNat)
  case atStart => exact ⟨0, Nat.zero_le _, rfl, ⟨[], madeL #[.int .i64 0, .int .i64 0, .int .i64 0, .string ByteArray.empty, .string ByteArray.empty] (l.length * 5), by simp, by simp [madeL, size_madeCells], own_madeL w _ l.length 5 _ rfl (by omega) (by unfold maxLen; omega), OwnI.nil _ _ _⟩, (Below.refl _ _).alloc (Nat.le_refl _) _⟩
  case round =>
    obtain ⟨k, hk, rfl, ⟨us, zs, hus, hzs, hrow, hown⟩, hb⟩ := hrel
    have HROW := Lib.hid hrow
    have HOWN := Lib.hid hown
    have HUS := Lib.hid hus
    have HZS := Lib.hid hzs
    have hsz : w.heap.size < wr.heap.size := (hrow.lt _ rfl).2
    clear hmk hrow hown hus hzs
    by_cases hlt : k < l.length
    · obtain ⟨x, hx⟩ : ∃ x, l[k]? = some x := ⟨_, List.getElem?_eq_getElem hlt⟩
      obtain ⟨bc, offc, rfl, hblc, hcc⟩ := RdC.at_ FIns.len HC.out hx
      obtain ⟨z0, z1, z2, z3, z4⟩ := x
      rw [FIns.c_eq] at hcc
      obtain ⟨u0, e0, q0⟩ := hcc 0 _ rfl
      obtain rfl := q0.val
      clear q0
      have c_0 : wr.cell? ⟨bc, offc + k * 5, none⟩ = some (.int .i64 z0) := (hb.cell (p := ⟨bc, _, none⟩) hblc).trans (by simpa using e0)
      obtain ⟨u1, e1, q1⟩ := hcc 1 _ rfl
      obtain rfl := q1.val
      clear q1
      have c_1 : wr.cell? ⟨bc, offc + k * 5 + 1, none⟩ = some (.int .i64 z1) := (hb.cell (p := ⟨bc, _, none⟩) hblc).trans (by simpa using e1)
      obtain ⟨u2, e2, q2⟩ := hcc 2 _ rfl
      obtain rfl := q2.val
      clear q2
      have c_2 : wr.cell? ⟨bc, offc + k * 5 + 2, none⟩ = some (.int .i64 z2) := (hb.cell (p := ⟨bc, _, none⟩) hblc).trans (by simpa using e2)
      obtain ⟨u3, e3, q3⟩ := hcc 3 _ rfl
      obtain rfl := q3.val
      clear q3
      have c_3 : wr.cell? ⟨bc, offc + k * 5 + 3, none⟩ = some (.string z3) := (hb.cell (p := ⟨bc, _, none⟩) hblc).trans (by simpa using e3)
      obtain ⟨u4, e4, q4⟩ := hcc 4 _ rfl
      obtain rfl := q4.val
      clear q4
      have c_4 : wr.cell? ⟨bc, offc + k * 5 + 4, none⟩ = some (.string z4) := (hb.cell (p := ⟨bc, _, none⟩) hblc).trans (by simpa using e4)
      obtain ⟨g1, f1, hrow1⟩ := own_rowf HROW.out
      have HX := Lib.hid hx
      clear hcc hx e0 e1 e2 e3 e4
      have HT := Lib.hid (HE.out _ (List.mem_of_getElem? HX.out))
      have HV := Lib.hid (show RdVs wr w.heap.size (FIns.c ⟨z0, z1, z2, z3, z4⟩) [.int .i64 z0, .int .i64 z1, .int .i64 z2, .string z3, .string z4] from by rw [FIns.c_eq]; exact (RdVs.cons (by unfold RdC; rfl) (RdVs.cons (by unfold RdC; rfl) (RdVs.cons (by unfold RdC; rfl) (RdVs.cons (by unfold RdC; rfl) (RdVs.cons (by unfold RdC; rfl) (RdVs.nil _ _)))))))
      go_wp2_with fail
      refine (HT.out _ _ w.heap.size (by omega) HV.out).mono ?_
      rw [FIns.c_eq]
      rintro e w2 ⟨us2, rfl, own2, hb2⟩
      have hv := own2.vs
      obtain ⟨us2_0, rfl, hv_0⟩ := hv.unv
      obtain ⟨us2_1, rfl, hv_1⟩ := hv_0.unv
      obtain ⟨us2_2, rfl, hv_2⟩ := hv_1.unv
      obtain ⟨us2_3, rfl, hv_3⟩ := hv_2.unv
      obtain ⟨us2_4, rfl, hv_4⟩ := hv_3.unv
      obtain rfl := hv_4.un0
      have OWN2 := Lib.hid own2
      have row2 : w2.rowIs w.heap.size 77 (l.length * 5) f1 := hrow1.of_block (hb2.block _ hrow1.lt)
      have ROW2 := Lib.hid (own_below HROW.out hb2 (Nat.le_refl _))
      have hsz2 : wr.heap.size ≤ w2.heap.size := hb2.size
      have hB2 := hb.trans (hb2.mono hb.size)
      have HOWN2 := Lib.hid (HOWN.out.below hb2 (Nat.le_refl _))
      have r0 := row2.cell (i := k * 5) (by omega)
      have f0_ := row2.frozen (k * 5)
      have r1 := row2.cell (i := k * 5 + 1) (by omega)
      have f1_ := row2.frozen (k * 5 + 1)
      have r2 := row2.cell (i := k * 5 + 2) (by omega)
      have f2_ := row2.frozen (k * 5 + 2)
      have r3 := row2.cell (i := k * 5 + 3) (by omega)
      have f3_ := row2.frozen (k * 5 + 3)
      have r4 := row2.cell (i := k * 5 + 4) (by omega)
      have f4_ := row2.frozen (k * 5 + 4)
      clear own2 row2 hrow1 c_0 c_1 c_2 c_3 c_4
      go_wp2_with fail
      go_roundw
      case rel =>
        have hflat : FIns.flat (l.take (k + 1)) = FIns.flat (l.take k) ++ [.v (.int .i64 z0), .v (.int .i64 z1), .v (.int .i64 z2), .v (.string z3), .v (.string z4)] := by
          rw [List.take_add_one, HX.out]
          simp [FIns.c_eq]
        have hset := sets_app [.int .i64 z0, .int .i64 z1, .int .i64 z2, .string z3, .string z4] us zs (k * 5) HUS.out (by rw [HZS.out]; simp; omega)
        refine ⟨k + 1, by omega, by go_num, ⟨us ++ [.int .i64 z0, .int .i64 z1, .int .i64 z2, .string z3, .string z4], zs.drop 5, by simp [HUS.out]; try omega, by rw [List.length_drop, HZS.out]; omega, ?_, ?_⟩, (((((hB2.setCell (by simp) _).setCell (by simp) _).setCell (by simp) _).setCell (by simp) _).setCell (by simp) _)⟩
        · have hfin := (own_setC (own_setC (own_setC (own_setC (own_setC ROW2.out (i := k * 5) (by omega) (.int .i64 z0)) (i := k * 5 + 1) (by omega) (.int .i64 z1)) (i := k * 5 + 2) (by omega) (.int .i64 z2)) (i := k * 5 + 3) (by omega) (.string z3)) (i := k * 5 + 4) (by omega) (.string z4))
          rw [show us ++ [.int .i64 z0, .int .i64 z1, .int .i64 z2, .string z3, .string z4] ++ zs.drop 5 = _ from hset.symm]
          simpa [sets] using hfin
        · rw [hflat]
          have hfin := (OwnI.set (OwnI.set (OwnI.set (OwnI.set (OwnI.set (OwnI.app (m := wr.heap.size) (lo' := wr.heap.size) (hi := w2.heap.size) HOWN2.out OWN2.out (Nat.le_refl _) (by omega) (by omega)) (p := ⟨w.heap.size, k * 5, none⟩) (.inl (by simp)) (.int .i64 z0)) (p := ⟨w.heap.size, k * 5 + 1, none⟩) (.inl (by simp)) (.int .i64 z1)) (p := ⟨w.heap.size, k * 5 + 2, none⟩) (.inl (by simp)) (.int .i64 z2)) (p := ⟨w.heap.size, k * 5 + 3, none⟩) (.inl (by simp)) (.string z3)) (p := ⟨w.heap.size, k * 5 + 4, none⟩) (.inl (by simp)) (.string z4))
          exact hfin.wide (Nat.le_refl _) (by simp)
      case measure => simp [intOf]; omega
    · obtain rfl : k = l.length := by omega
      clear hlt
      go_wp2_with fail
      go_ret
      have hz0 : zs = [] := List.eq_nil_of_length_eq_zero (by rw [HZS.out]; simp)
      have hr1 := HROW.out
      have ho1 := HOWN.out
      rw [hz0, List.append_nil] at hr1
      rw [List.take_length] at ho1
      exact ⟨_, _, rfl, OwnI.mk hr1 ho1 (fun g hg => by have : w.heap.size = g := by simpa [Value.ownBlock] using hg
                                                        omega) (by omega) (Nat.le_refl _), hb⟩
theorem toIns_any (x : FIns) (hw : x.wt ≤ 1048576) : ToIns x := by
  obtain ⟨z0, z1, z2, z3, z4⟩ := x
  exact toIns_of z0 z1 z2 z3 z4 
theorem toInsS_any (l : List FIns) (hw : l.length + FIns.wts l ≤ 1048576) : ToInsS l := (toInsS_of l (by omega) (fun x hx => toIns_any x (by have := FIns.wts_at l x hx; omega)))
def ToParam (x : FParam) : Prop := ∀ (us : List Value) (w : World) (B : Nat), B ≤ w.heap.size → RdVs w B x.c us → Calls Tryz.prog 91 #[.agg us.toArray] w fun e w' => ∃ us', e = .returned (.agg us'.toArray) ∧ OwnI w' w.heap.size w'.heap.size x.c us' ∧ Below w.heap.size w w'
def ToParamS (l : List FParam) : Prop := ∀ (u : Value) (w : World) (B : Nat), B ≤ w.heap.size → RdC w B (.s 86 2 l.length (FParam.flat l)) u → Calls Tryz.prog 62 #[u] w fun e w' => ∃ A c, e = .returned (.slice A l.length c) ∧ OwnI w' w.heap.size w'.heap.size [.s 86 2 l.length (FParam.flat l)] [.slice A l.length c] ∧ Below w.heap.size w w'
set_option maxHeartbeats 1000000 in
theorem toParam_of (z0 : ByteArray) (z1 : Bool)  : ToParam ⟨z0, z1⟩ := by
  intro us w B hB0 hr
  rw [FParam.c_eq] at hr ⊢
  obtain ⟨us0, rfl, hr_0⟩ := hr.unv
  obtain ⟨us1, rfl, hr_1⟩ := hr_0.unv
  obtain rfl := hr_1.un0
  go_enter Tryz.func91, Tryz.ntmps91
  go_wp2_with fail
  exact bodyPost_ret (v := .agg #[.string z0, .bool z1]) (by simp [results, Tryz.results91, go_sem]) rfl ⟨_, rfl, (OwnI.consv (OwnI.consv (OwnI.nil _ _ _) _) _), by repeat (first | exact Below.refl _ _ | (refine Below.alloc ?_ (by simp; try omega) _) | (refine Below.setCell ?_ (by simp) _))⟩
theorem infoParam : (Tryz.prog.info? 86).map (fun i => (i.zero.map Value.cells, i.size, i.bytes)) = some (some #[.string ByteArray.empty, .bool false], 2, 24) := by kernel_rfl
set_option maxHeartbeats 1000000 in
theorem toParamS_of (l : List FParam) (hl : l.length ≤ 1048576) (he : ∀ x, x ∈ l → ToParam x) : ToParamS l := by
  intro u w B hB0 hr0
  have hr := hr0.up hB0
  clear hr0
  obtain ⟨A, c, rfl⟩ := hr.form
  have HC := Lib.hid hr
  have hcap := hr.cap
  have hn : l.length ≤ 9223372036854775807 := by omega
  have hmk := fun W => make_law (P := Tryz.prog) 47 86 _ 2 24 Tryz.underlying47 infoParam l.length (by omega) hn W
  have HE := Lib.hid he
  clear he
  clear hr hcap
  go_enter Tryz.func62, Tryz.ntmps62
  go_wp2
  go_loopw [4] (fun i wr => ∃ k : Nat, k ≤ l.length ∧ i = .int .i64 k ∧ (∃ us zs, us.length = k * 2 ∧ zs.length = (l.length - k) * 2 ∧ wr.ownsRow w.heap.size 86 2 (.slice (some ⟨w.heap.size, 0, none⟩) l.length l.length) l.length (us ++ zs) ∧ OwnI wr (w.heap.size + 1) wr.heap.size (FParam.flat (l.take k)) us) ∧ Below w.heap.size w wr) (fun i _ => l.length - (intOf i).toNat)
  case atStart => exact ⟨0, Nat.zero_le _, rfl, ⟨[], madeL #[.string ByteArray.empty, .bool false] (l.length * 2), by simp, by simp [madeL, size_madeCells], own_madeL w _ l.length 2 _ rfl (by omega) (by unfold maxLen; omega), OwnI.nil _ _ _⟩, (Below.refl _ _).alloc (Nat.le_refl _) _⟩
  case round =>
    obtain ⟨k, hk, rfl, ⟨us, zs, hus, hzs, hrow, hown⟩, hb⟩ := hrel
    have HROW := Lib.hid hrow
    have HOWN := Lib.hid hown
    have HUS := Lib.hid hus
    have HZS := Lib.hid hzs
    have hsz : w.heap.size < wr.heap.size := (hrow.lt _ rfl).2
    clear hmk hrow hown hus hzs
    by_cases hlt : k < l.length
    · obtain ⟨x, hx⟩ : ∃ x, l[k]? = some x := ⟨_, List.getElem?_eq_getElem hlt⟩
      obtain ⟨bc, offc, rfl, hblc, hcc⟩ := RdC.at_ FParam.len HC.out hx
      obtain ⟨z0, z1⟩ := x
      rw [FParam.c_eq] at hcc
      obtain ⟨u0, e0, q0⟩ := hcc 0 _ rfl
      obtain rfl := q0.val
      clear q0
      have c_0 : wr.cell? ⟨bc, offc + k * 2, none⟩ = some (.string z0) := (hb.cell (p := ⟨bc, _, none⟩) hblc).trans (by simpa using e0)
      obtain ⟨u1, e1, q1⟩ := hcc 1 _ rfl
      obtain rfl := q1.val
      clear q1
      have c_1 : wr.cell? ⟨bc, offc + k * 2 + 1, none⟩ = some (.bool z1) := (hb.cell (p := ⟨bc, _, none⟩) hblc).trans (by simpa using e1)
      obtain ⟨g1, f1, hrow1⟩ := own_rowf HROW.out
      have HX := Lib.hid hx
      clear hcc hx e0 e1
      have HT := Lib.hid (HE.out _ (List.mem_of_getElem? HX.out))
      have HV := Lib.hid (show RdVs wr w.heap.size (FParam.c ⟨z0, z1⟩) [.string z0, .bool z1] from by rw [FParam.c_eq]; exact (RdVs.cons (by unfold RdC; rfl) (RdVs.cons (by unfold RdC; rfl) (RdVs.nil _ _))))
      go_wp2_with fail
      refine (HT.out _ _ w.heap.size (by omega) HV.out).mono ?_
      rw [FParam.c_eq]
      rintro e w2 ⟨us2, rfl, own2, hb2⟩
      have hv := own2.vs
      obtain ⟨us2_0, rfl, hv_0⟩ := hv.unv
      obtain ⟨us2_1, rfl, hv_1⟩ := hv_0.unv
      obtain rfl := hv_1.un0
      have OWN2 := Lib.hid own2
      have row2 : w2.rowIs w.heap.size 86 (l.length * 2) f1 := hrow1.of_block (hb2.block _ hrow1.lt)
      have ROW2 := Lib.hid (own_below HROW.out hb2 (Nat.le_refl _))
      have hsz2 : wr.heap.size ≤ w2.heap.size := hb2.size
      have hB2 := hb.trans (hb2.mono hb.size)
      have HOWN2 := Lib.hid (HOWN.out.below hb2 (Nat.le_refl _))
      have r0 := row2.cell (i := k * 2) (by omega)
      have f0_ := row2.frozen (k * 2)
      have r1 := row2.cell (i := k * 2 + 1) (by omega)
      have f1_ := row2.frozen (k * 2 + 1)
      clear own2 row2 hrow1 c_0 c_1
      go_wp2_with fail
      go_roundw
      case rel =>
        have hflat : FParam.flat (l.take (k + 1)) = FParam.flat (l.take k) ++ [.v (.string z0), .v (.bool z1)] := by
          rw [List.take_add_one, HX.out]
          simp [FParam.c_eq]
        have hset := sets_app [.string z0, .bool z1] us zs (k * 2) HUS.out (by rw [HZS.out]; simp; omega)
        refine ⟨k + 1, by omega, by go_num, ⟨us ++ [.string z0, .bool z1], zs.drop 2, by simp [HUS.out]; try omega, by rw [List.length_drop, HZS.out]; omega, ?_, ?_⟩, ((hB2.setCell (by simp) _).setCell (by simp) _)⟩
        · have hfin := (own_setC (own_setC ROW2.out (i := k * 2) (by omega) (.string z0)) (i := k * 2 + 1) (by omega) (.bool z1))
          rw [show us ++ [.string z0, .bool z1] ++ zs.drop 2 = _ from hset.symm]
          simpa [sets] using hfin
        · rw [hflat]
          have hfin := (OwnI.set (OwnI.set (OwnI.app (m := wr.heap.size) (lo' := wr.heap.size) (hi := w2.heap.size) HOWN2.out OWN2.out (Nat.le_refl _) (by omega) (by omega)) (p := ⟨w.heap.size, k * 2, none⟩) (.inl (by simp)) (.string z0)) (p := ⟨w.heap.size, k * 2 + 1, none⟩) (.inl (by simp)) (.bool z1))
          exact hfin.wide (Nat.le_refl _) (by simp)
      case measure => simp [intOf]; omega
    · obtain rfl : k = l.length := by omega
      clear hlt
      go_wp2_with fail
      go_ret
      have hz0 : zs = [] := List.eq_nil_of_length_eq_zero (by rw [HZS.out]; simp)
      have hr1 := HROW.out
      have ho1 := HOWN.out
      rw [hz0, List.append_nil] at hr1
      rw [List.take_length] at ho1
      exact ⟨_, _, rfl, OwnI.mk hr1 ho1 (fun g hg => by have : w.heap.size = g := by simpa [Value.ownBlock] using hg
                                                        omega) (by omega) (Nat.le_refl _), hb⟩
theorem toParam_any (x : FParam) (hw : x.wt ≤ 1048576) : ToParam x := by
  obtain ⟨z0, z1⟩ := x
  exact toParam_of z0 z1 
theorem toParamS_any (l : List FParam) (hw : l.length + FParam.wts l ≤ 1048576) : ToParamS l := (toParamS_of l (by omega) (fun x hx => toParam_any x (by have := FParam.wts_at l x hx; omega)))
def ToFunc (x : FFunc) : Prop := ∀ (us : List Value) (w : World) (B : Nat), B ≤ w.heap.size → RdVs w B x.c us → Calls Tryz.prog 35 #[.agg us.toArray] w fun e w' => ∃ us', e = .returned (.agg us'.toArray) ∧ OwnI w' w.heap.size w'.heap.size x.c us' ∧ Below w.heap.size w w'
def ToFuncS (l : List FFunc) : Prop := ∀ (u : Value) (w : World) (B : Nat), B ≤ w.heap.size → RdC w B (.s 51 6 l.length (FFunc.flat l)) u → Calls Tryz.prog 17 #[u] w fun e w' => ∃ A c, e = .returned (.slice A l.length c) ∧ OwnI w' w.heap.size w'.heap.size [.s 51 6 l.length (FFunc.flat l)] [.slice A l.length c] ∧ Below w.heap.size w w'
set_option maxHeartbeats 1000000 in
theorem toFunc_of (z0 : ByteArray) (z1 : List FParam) (z2 : List FParam) (z3 : List FStr) (z4 : Bool) (z5 : List FIns) (h1 : ToParamS z1) (h2 : ToParamS z2) (h3 : ToStringS z3) (h5 : ToInsS z5) : ToFunc ⟨z0, z1, z2, z3, z4, z5⟩ := by
  intro us w B hB0 hr
  rw [FFunc.c_eq] at hr ⊢
  obtain ⟨us0, rfl, hr_0⟩ := hr.unv
  obtain ⟨A1, c1, us1, rfl, r1, hr_1⟩ := hr_0.uns
  obtain ⟨A2, c2, us2, rfl, r2, hr_2⟩ := hr_1.uns
  obtain ⟨A3, c3, us3, rfl, r3, hr_3⟩ := hr_2.uns
  obtain ⟨us4, rfl, hr_4⟩ := hr_3.unv
  obtain ⟨A5, c5, us5, rfl, r5, hr_5⟩ := hr_4.uns
  obtain rfl := hr_5.un0
  have R1 := Lib.hid r1
  clear r1
  have R2 := Lib.hid r2
  clear r2
  have R3 := Lib.hid r3
  clear r3
  have R5 := Lib.hid r5
  clear r5
  have H1 := Lib.hid h1
  clear h1
  have H2 := Lib.hid h2
  clear h2
  have H3 := Lib.hid h3
  clear h3
  have H5 := Lib.hid h5
  clear h5
  go_enter Tryz.func35, Tryz.ntmps35
  go_wp2_with fail
  refine calls_worldD _ (fun X => Blk X (w.heap.size) 70 #[.string z0, .slice A1 z1.length c1, .slice A2 z2.length c2, .slice A3 z3.length c3, .bool z4, .slice A5 z5.length c5] ∧ Blk X (w.heap.size + 1) 51 #[.string ⟨#[]⟩, .slice none 0 0, .slice none 0 0, .slice none 0 0, .bool false, .slice none 0 0] ∧ Blk X (w.heap.size + 1 + 1) 51 #[.string z0, .slice none 0 0, .slice none 0 0, .slice none 0 0, .bool false, .slice none 0 0] ∧ Below w.heap.size w X) ⟨((Blk.new w _ _).alloc _).alloc _, (Blk.new' (w.alloc _) _ _ _ (by simp)).alloc _, Blk.new' ((w.alloc _).alloc _) _ _ _ (by simp), ((((Below.refl _ _).alloc (Nat.le_refl _) _).alloc (by simp) _).alloc (by simp; omega) _)⟩ ?_
  rintro X0 ⟨ba, br, bo, hB⟩
  have s0 := bo.lt
  refine (H1.out _ _ B (by omega) (R1.out.below hB hB0)).mono ?_
  rintro e Y0 ⟨D1, d1, rfl, own, hb⟩
  have o1 := own
  clear own
  replace ba := ba.below hb (Nat.le_refl _)
  replace br := br.below hb (Nat.le_refl _)
  replace bo := bo.below hb (Nat.le_refl _)
  replace hB := hB.trans (hb.mono (by omega))
  have t0 : X0.heap.size ≤ Y0.heap.size := hb.size
  clear hb
  have ba_2 : Y0.cell? ⟨w.heap.size, 2, none⟩ = some (.slice A2 z2.length c2) := ba.cell 2
  have ba_l := ba.lt
  have ba_f := fun i => ba.frozen i
  have bo_1 : Y0.cell? ⟨w.heap.size + 1 + 1, 1, none⟩ = some (.slice none 0 0) := bo.cell 1
  have bo_l := bo.lt
  have bo_f := fun i => bo.frozen i
  go_wp2_with fail
  clear ba_2 ba_l ba_f
  clear bo_1 bo_l bo_f
  refine calls_worldD _ (fun X => Blk X (w.heap.size) 70 #[.string z0, .slice A1 z1.length c1, .slice A2 z2.length c2, .slice A3 z3.length c3, .bool z4, .slice A5 z5.length c5] ∧ Blk X (w.heap.size + 1) 51 #[.string ⟨#[]⟩, .slice none 0 0, .slice none 0 0, .slice none 0 0, .bool false, .slice none 0 0] ∧ Blk X (w.heap.size + 1 + 1) 51 #[.string z0, .slice D1 z1.length d1, .slice none 0 0, .slice none 0 0, .bool false, .slice none 0 0] ∧ OwnI X X0.heap.size Y0.heap.size [.s 86 2 z1.length (FParam.flat z1)] [.slice D1 z1.length d1] ∧ Below w.heap.size w X ∧ Y0.heap.size ≤ X.heap.size) ⟨(ba.far (by simp; try omega) _), (br.far (by simp; try omega) _), (by simpa using (bo.set_ 1 _)), (o1.set (.inl (by simp; omega)) _), (hB.setCell (by simp; try omega) _), (by simp)⟩ ?_
  clear ba br bo hB o1
  rintro X1 ⟨ba, br, bo, o1, hB, y1⟩
  have s1 := bo.lt
  refine (H2.out _ _ B (by omega) (R2.out.below hB hB0)).mono ?_
  rintro e Y1 ⟨D2, d2, rfl, own, hb⟩
  have o2 := own
  clear own
  replace ba := ba.below hb (Nat.le_refl _)
  replace br := br.below hb (Nat.le_refl _)
  replace bo := bo.below hb (Nat.le_refl _)
  replace o1 := o1.below hb (Nat.le_refl _)
  replace hB := hB.trans (hb.mono (by omega))
  have t1 : X1.heap.size ≤ Y1.heap.size := hb.size
  clear hb
  have ba_3 : Y1.cell? ⟨w.heap.size, 3, none⟩ = some (.slice A3 z3.length c3) := ba.cell 3
  have ba_l := ba.lt
  have ba_f := fun i => ba.frozen i
  have bo_2 : Y1.cell? ⟨w.heap.size + 1 + 1, 2, none⟩ = some (.slice none 0 0) := bo.cell 2
  have bo_l := bo.lt
  have bo_f := fun i => bo.frozen i
  go_wp2_with fail
  clear ba_3 ba_l ba_f
  clear bo_2 bo_l bo_f
  refine calls_worldD _ (fun X => Blk X (w.heap.size) 70 #[.string z0, .slice A1 z1.length c1, .slice A2 z2.length c2, .slice A3 z3.length c3, .bool z4, .slice A5 z5.length c5] ∧ Blk X (w.heap.size + 1) 51 #[.string ⟨#[]⟩, .slice none 0 0, .slice none 0 0, .slice none 0 0, .bool false, .slice none 0 0] ∧ Blk X (w.heap.size + 1 + 1) 51 #[.string z0, .slice D1 z1.length d1, .slice D2 z2.length d2, .slice none 0 0, .bool false, .slice none 0 0] ∧ OwnI X X0.heap.size Y0.heap.size [.s 86 2 z1.length (FParam.flat z1)] [.slice D1 z1.length d1] ∧ OwnI X X1.heap.size Y1.heap.size [.s 86 2 z2.length (FParam.flat z2)] [.slice D2 z2.length d2] ∧ Below w.heap.size w X ∧ Y1.heap.size ≤ X.heap.size) ⟨(ba.far (by simp; try omega) _), (br.far (by simp; try omega) _), (by simpa using (bo.set_ 2 _)), (o1.set (.inl (by simp; omega)) _), (o2.set (.inl (by simp; omega)) _), (hB.setCell (by simp; try omega) _), (by simp)⟩ ?_
  clear ba br bo hB o1 o2
  rintro X2 ⟨ba, br, bo, o1, o2, hB, y2⟩
  have s2 := bo.lt
  refine (H3.out _ _ B (by omega) (R3.out.below hB hB0)).mono ?_
  rintro e Y2 ⟨D3, d3, rfl, own, hb⟩
  have o3 := own
  clear own
  replace ba := ba.below hb (Nat.le_refl _)
  replace br := br.below hb (Nat.le_refl _)
  replace bo := bo.below hb (Nat.le_refl _)
  replace o1 := o1.below hb (Nat.le_refl _)
  replace o2 := o2.below hb (Nat.le_refl _)
  replace hB := hB.trans (hb.mono (by omega))
  have t2 : X2.heap.size ≤ Y2.heap.size := hb.size
  clear hb
  have ba_4 : Y2.cell? ⟨w.heap.size, 4, none⟩ = some (.bool z4) := ba.cell 4
  have ba_5 : Y2.cell? ⟨w.heap.size, 5, none⟩ = some (.slice A5 z5.length c5) := ba.cell 5
  have ba_l := ba.lt
  have ba_f := fun i => ba.frozen i
  have bo_3 : Y2.cell? ⟨w.heap.size + 1 + 1, 3, none⟩ = some (.slice none 0 0) := bo.cell 3
  have bo_4 : Y2.cell? ⟨w.heap.size + 1 + 1, 4, none⟩ = some (.bool false) := bo.cell 4
  have bo_l := bo.lt
  have bo_f := fun i => bo.frozen i
  go_wp2_with fail
  clear ba_4 ba_5 ba_l ba_f
  clear bo_3 bo_4 bo_l bo_f
  refine calls_worldD _ (fun X => Blk X (w.heap.size) 70 #[.string z0, .slice A1 z1.length c1, .slice A2 z2.length c2, .slice A3 z3.length c3, .bool z4, .slice A5 z5.length c5] ∧ Blk X (w.heap.size + 1) 51 #[.string ⟨#[]⟩, .slice none 0 0, .slice none 0 0, .slice none 0 0, .bool false, .slice none 0 0] ∧ Blk X (w.heap.size + 1 + 1) 51 #[.string z0, .slice D1 z1.length d1, .slice D2 z2.length d2, .slice D3 z3.length d3, .bool z4, .slice none 0 0] ∧ OwnI X X0.heap.size Y0.heap.size [.s 86 2 z1.length (FParam.flat z1)] [.slice D1 z1.length d1] ∧ OwnI X X1.heap.size Y1.heap.size [.s 86 2 z2.length (FParam.flat z2)] [.slice D2 z2.length d2] ∧ OwnI X X2.heap.size Y2.heap.size [.s 9 1 z3.length (FStr.flat z3)] [.slice D3 z3.length d3] ∧ Below w.heap.size w X ∧ Y2.heap.size ≤ X.heap.size) ⟨((ba.far (by simp; try omega) _).far (by simp; try omega) _), ((br.far (by simp; try omega) _).far (by simp; try omega) _), (by simpa using ((bo.set_ 3 _).set_ 4 _)), ((o1.set (.inl (by simp; omega)) _).set (.inl (by simp; omega)) _), ((o2.set (.inl (by simp; omega)) _).set (.inl (by simp; omega)) _), ((o3.set (.inl (by simp; omega)) _).set (.inl (by simp; omega)) _), ((hB.setCell (by simp; try omega) _).setCell (by simp; try omega) _), (by simp)⟩ ?_
  clear ba br bo hB o1 o2 o3
  rintro X3 ⟨ba, br, bo, o1, o2, o3, hB, y3⟩
  have s3 := bo.lt
  refine (H5.out _ _ B (by omega) (R5.out.below hB hB0)).mono ?_
  rintro e Y3 ⟨D5, d5, rfl, own, hb⟩
  have o5 := own
  clear own
  replace ba := ba.below hb (Nat.le_refl _)
  replace br := br.below hb (Nat.le_refl _)
  replace bo := bo.below hb (Nat.le_refl _)
  replace o1 := o1.below hb (Nat.le_refl _)
  replace o2 := o2.below hb (Nat.le_refl _)
  replace o3 := o3.below hb (Nat.le_refl _)
  replace hB := hB.trans (hb.mono (by omega))
  have t3 : X3.heap.size ≤ Y3.heap.size := hb.size
  clear hb
  have ba_l := ba.lt
  have ba_f := fun i => ba.frozen i
  have br_0 : Y3.cell? ⟨w.heap.size + 1, 0, none⟩ = some (.string ⟨#[]⟩) := br.cell 0
  have br_1 : Y3.cell? ⟨w.heap.size + 1, 1, none⟩ = some (.slice none 0 0) := br.cell 1
  have br_2 : Y3.cell? ⟨w.heap.size + 1, 2, none⟩ = some (.slice none 0 0) := br.cell 2
  have br_3 : Y3.cell? ⟨w.heap.size + 1, 3, none⟩ = some (.slice none 0 0) := br.cell 3
  have br_4 : Y3.cell? ⟨w.heap.size + 1, 4, none⟩ = some (.bool false) := br.cell 4
  have br_5 : Y3.cell? ⟨w.heap.size + 1, 5, none⟩ = some (.slice none 0 0) := br.cell 5
  have br_l := br.lt
  have br_f := fun i => br.frozen i
  have bo_0 : Y3.cell? ⟨w.heap.size + 1 + 1, 0, none⟩ = some (.string z0) := bo.cell 0
  have bo_1 : Y3.cell? ⟨w.heap.size + 1 + 1, 1, none⟩ = some (.slice D1 z1.length d1) := bo.cell 1
  have bo_2 : Y3.cell? ⟨w.heap.size + 1 + 1, 2, none⟩ = some (.slice D2 z2.length d2) := bo.cell 2
  have bo_3 : Y3.cell? ⟨w.heap.size + 1 + 1, 3, none⟩ = some (.slice D3 z3.length d3) := bo.cell 3
  have bo_4 : Y3.cell? ⟨w.heap.size + 1 + 1, 4, none⟩ = some (.bool z4) := bo.cell 4
  have bo_5 : Y3.cell? ⟨w.heap.size + 1 + 1, 5, none⟩ = some (.slice none 0 0) := bo.cell 5
  have bo_l := bo.lt
  have bo_f := fun i => bo.frozen i
  go_wp2_with fail
  skip
  refine bodyPost_ret (v := .agg #[.string z0, .slice D1 z1.length d1, .slice D2 z2.length d2, .slice D3 z3.length d3, .bool z4, .slice D5 z5.length d5]) (by simp [results, Tryz.results35, go_sem, br_0, br_1, br_2, br_3, br_4, br_5, bo_0, bo_1, bo_2, bo_3, bo_4, bo_5, br_l, br_f, bo_l, bo_f]) rfl ⟨_, rfl, ?_, ?_⟩
  · refine OwnI.wide (lo := X0.heap.size) (hi := Y3.heap.size) ?_ (by omega) (by simp)
    repeat (refine OwnI.set ?_ (.inl (by simp; omega)) _)
    exact (OwnI.consv (OwnI.app (m := Y0.heap.size) (hi := Y3.heap.size) o1 (OwnI.wide (lo' := Y0.heap.size) (hi' := Y3.heap.size) (OwnI.app (m := Y1.heap.size) (hi := Y3.heap.size) o2 (OwnI.wide (lo' := Y1.heap.size) (hi' := Y3.heap.size) (OwnI.app (m := Y2.heap.size) (hi := Y3.heap.size) o3 (OwnI.wide (lo' := Y2.heap.size) (hi' := Y3.heap.size) (OwnI.consv (OwnI.app (m := Y3.heap.size) (hi := Y3.heap.size) o5 (OwnI.wide (lo' := Y3.heap.size) (hi' := Y3.heap.size) (OwnI.nil _ Y3.heap.size Y3.heap.size) (by omega) (by omega)) (Nat.le_refl _) (by omega) (by omega)) _) (by omega) (by omega)) (Nat.le_refl _) (by omega) (by omega)) (by omega) (by omega)) (Nat.le_refl _) (by omega) (by omega)) (by omega) (by omega)) (Nat.le_refl _) (by omega) (by omega)) _)
  · repeat (refine Below.setCell ?_ (by simp; try omega) _)
    exact hB
theorem infoFunc : (Tryz.prog.info? 51).map (fun i => (i.zero.map Value.cells, i.size, i.bytes)) = some (some #[.string ByteArray.empty, .slice none 0 0, .slice none 0 0, .slice none 0 0, .bool false, .slice none 0 0], 6, 120) := by kernel_rfl
set_option maxHeartbeats 1000000 in
theorem toFuncS_of (l : List FFunc) (hl : l.length ≤ 1048576) (he : ∀ x, x ∈ l → ToFunc x) : ToFuncS l := by
  intro u w B hB0 hr0
  have hr := hr0.up hB0
  clear hr0
  obtain ⟨A, c, rfl⟩ := hr.form
  have HC := Lib.hid hr
  have hcap := hr.cap
  have hn : l.length ≤ 9223372036854775807 := by omega
  have hmk := fun W => make_law (P := Tryz.prog) 28 51 _ 6 120 Tryz.underlying28 infoFunc l.length (by omega) hn W
  have HE := Lib.hid he
  clear he
  clear hr hcap
  go_enter Tryz.func17, Tryz.ntmps17
  go_wp2
  go_loopw [4] (fun i wr => ∃ k : Nat, k ≤ l.length ∧ i = .int .i64 k ∧ (∃ us zs, us.length = k * 6 ∧ zs.length = (l.length - k) * 6 ∧ wr.ownsRow w.heap.size 51 6 (.slice (some ⟨w.heap.size, 0, none⟩) l.length l.length) l.length (us ++ zs) ∧ OwnI wr (w.heap.size + 1) wr.heap.size (FFunc.flat (l.take k)) us) ∧ Below w.heap.size w wr) (fun i _ => l.length - (intOf i).toNat)
  case atStart => exact ⟨0, Nat.zero_le _, rfl, ⟨[], madeL #[.string ByteArray.empty, .slice none 0 0, .slice none 0 0, .slice none 0 0, .bool false, .slice none 0 0] (l.length * 6), by simp, by simp [madeL, size_madeCells], own_madeL w _ l.length 6 _ rfl (by omega) (by unfold maxLen; omega), OwnI.nil _ _ _⟩, (Below.refl _ _).alloc (Nat.le_refl _) _⟩
  case round =>
    obtain ⟨k, hk, rfl, ⟨us, zs, hus, hzs, hrow, hown⟩, hb⟩ := hrel
    have HROW := Lib.hid hrow
    have HOWN := Lib.hid hown
    have HUS := Lib.hid hus
    have HZS := Lib.hid hzs
    have hsz : w.heap.size < wr.heap.size := (hrow.lt _ rfl).2
    clear hmk hrow hown hus hzs
    by_cases hlt : k < l.length
    · obtain ⟨x, hx⟩ : ∃ x, l[k]? = some x := ⟨_, List.getElem?_eq_getElem hlt⟩
      obtain ⟨bc, offc, rfl, hblc, hcc⟩ := RdC.at_ FFunc.len HC.out hx
      obtain ⟨z0, z1, z2, z3, z4, z5⟩ := x
      rw [FFunc.c_eq] at hcc
      obtain ⟨u0, e0, q0⟩ := hcc 0 _ rfl
      obtain rfl := q0.val
      clear q0
      have c_0 : wr.cell? ⟨bc, offc + k * 6, none⟩ = some (.string z0) := (hb.cell (p := ⟨bc, _, none⟩) hblc).trans (by simpa using e0)
      obtain ⟨u1, e1, q1⟩ := hcc 1 _ rfl
      obtain ⟨A1, c1, rfl⟩ := q1.form
      have Q1 := Lib.hid q1
      clear q1
      have c_1 : wr.cell? ⟨bc, offc + k * 6 + 1, none⟩ = some (.slice A1 z1.length c1) := (hb.cell (p := ⟨bc, _, none⟩) hblc).trans (by simpa using e1)
      obtain ⟨u2, e2, q2⟩ := hcc 2 _ rfl
      obtain ⟨A2, c2, rfl⟩ := q2.form
      have Q2 := Lib.hid q2
      clear q2
      have c_2 : wr.cell? ⟨bc, offc + k * 6 + 2, none⟩ = some (.slice A2 z2.length c2) := (hb.cell (p := ⟨bc, _, none⟩) hblc).trans (by simpa using e2)
      obtain ⟨u3, e3, q3⟩ := hcc 3 _ rfl
      obtain ⟨A3, c3, rfl⟩ := q3.form
      have Q3 := Lib.hid q3
      clear q3
      have c_3 : wr.cell? ⟨bc, offc + k * 6 + 3, none⟩ = some (.slice A3 z3.length c3) := (hb.cell (p := ⟨bc, _, none⟩) hblc).trans (by simpa using e3)
      obtain ⟨u4, e4, q4⟩ := hcc 4 _ rfl
      obtain rfl := q4.val
      clear q4
      have c_4 : wr.cell? ⟨bc, offc + k * 6 + 4, none⟩ = some (.bool z4) := (hb.cell (p := ⟨bc, _, none⟩) hblc).trans (by simpa using e4)
      obtain ⟨u5, e5, q5⟩ := hcc 5 _ rfl
      obtain ⟨A5, c5, rfl⟩ := q5.form
      have Q5 := Lib.hid q5
      clear q5
      have c_5 : wr.cell? ⟨bc, offc + k * 6 + 5, none⟩ = some (.slice A5 z5.length c5) := (hb.cell (p := ⟨bc, _, none⟩) hblc).trans (by simpa using e5)
      obtain ⟨g1, f1, hrow1⟩ := own_rowf HROW.out
      have HX := Lib.hid hx
      clear hcc hx e0 e1 e2 e3 e4 e5
      have HT := Lib.hid (HE.out _ (List.mem_of_getElem? HX.out))
      have HV := Lib.hid (show RdVs wr w.heap.size (FFunc.c ⟨z0, z1, z2, z3, z4, z5⟩) [.string z0, .slice A1 z1.length c1, .slice A2 z2.length c2, .slice A3 z3.length c3, .bool z4, .slice A5 z5.length c5] from by rw [FFunc.c_eq]; exact (RdVs.cons (by unfold RdC; rfl) (RdVs.cons (Q1.out.below hb (Nat.le_refl _)) (RdVs.cons (Q2.out.below hb (Nat.le_refl _)) (RdVs.cons (Q3.out.below hb (Nat.le_refl _)) (RdVs.cons (by unfold RdC; rfl) (RdVs.cons (Q5.out.below hb (Nat.le_refl _)) (RdVs.nil _ _))))))))
      go_wp2_with fail
      refine (HT.out _ _ w.heap.size (by omega) HV.out).mono ?_
      rw [FFunc.c_eq]
      rintro e w2 ⟨us2, rfl, own2, hb2⟩
      have hv := own2.vs
      obtain ⟨us2_0, rfl, hv_0⟩ := hv.unv
      obtain ⟨D1, d1, us2_1, rfl, _, hv_1⟩ := hv_0.uns
      obtain ⟨D2, d2, us2_2, rfl, _, hv_2⟩ := hv_1.uns
      obtain ⟨D3, d3, us2_3, rfl, _, hv_3⟩ := hv_2.uns
      obtain ⟨us2_4, rfl, hv_4⟩ := hv_3.unv
      obtain ⟨D5, d5, us2_5, rfl, _, hv_5⟩ := hv_4.uns
      obtain rfl := hv_5.un0
      have OWN2 := Lib.hid own2
      have row2 : w2.rowIs w.heap.size 51 (l.length * 6) f1 := hrow1.of_block (hb2.block _ hrow1.lt)
      have ROW2 := Lib.hid (own_below HROW.out hb2 (Nat.le_refl _))
      have hsz2 : wr.heap.size ≤ w2.heap.size := hb2.size
      have hB2 := hb.trans (hb2.mono hb.size)
      have HOWN2 := Lib.hid (HOWN.out.below hb2 (Nat.le_refl _))
      have r0 := row2.cell (i := k * 6) (by omega)
      have f0_ := row2.frozen (k * 6)
      have r1 := row2.cell (i := k * 6 + 1) (by omega)
      have f1_ := row2.frozen (k * 6 + 1)
      have r2 := row2.cell (i := k * 6 + 2) (by omega)
      have f2_ := row2.frozen (k * 6 + 2)
      have r3 := row2.cell (i := k * 6 + 3) (by omega)
      have f3_ := row2.frozen (k * 6 + 3)
      have r4 := row2.cell (i := k * 6 + 4) (by omega)
      have f4_ := row2.frozen (k * 6 + 4)
      have r5 := row2.cell (i := k * 6 + 5) (by omega)
      have f5_ := row2.frozen (k * 6 + 5)
      clear own2 row2 hrow1 c_0 c_1 c_2 c_3 c_4 c_5
      go_wp2_with fail
      go_roundw
      case rel =>
        have hflat : FFunc.flat (l.take (k + 1)) = FFunc.flat (l.take k) ++ [.v (.string z0), .s 86 2 z1.length (FParam.flat z1), .s 86 2 z2.length (FParam.flat z2), .s 9 1 z3.length (FStr.flat z3), .v (.bool z4), .s 77 5 z5.length (FIns.flat z5)] := by
          rw [List.take_add_one, HX.out]
          simp [FFunc.c_eq]
        have hset := sets_app [.string z0, .slice D1 z1.length d1, .slice D2 z2.length d2, .slice D3 z3.length d3, .bool z4, .slice D5 z5.length d5] us zs (k * 6) HUS.out (by rw [HZS.out]; simp; omega)
        refine ⟨k + 1, by omega, by go_num, ⟨us ++ [.string z0, .slice D1 z1.length d1, .slice D2 z2.length d2, .slice D3 z3.length d3, .bool z4, .slice D5 z5.length d5], zs.drop 6, by simp [HUS.out]; try omega, by rw [List.length_drop, HZS.out]; omega, ?_, ?_⟩, ((((((hB2.setCell (by simp) _).setCell (by simp) _).setCell (by simp) _).setCell (by simp) _).setCell (by simp) _).setCell (by simp) _)⟩
        · have hfin := (own_setC (own_setC (own_setC (own_setC (own_setC (own_setC ROW2.out (i := k * 6) (by omega) (.string z0)) (i := k * 6 + 1) (by omega) (.slice D1 z1.length d1)) (i := k * 6 + 2) (by omega) (.slice D2 z2.length d2)) (i := k * 6 + 3) (by omega) (.slice D3 z3.length d3)) (i := k * 6 + 4) (by omega) (.bool z4)) (i := k * 6 + 5) (by omega) (.slice D5 z5.length d5))
          rw [show us ++ [.string z0, .slice D1 z1.length d1, .slice D2 z2.length d2, .slice D3 z3.length d3, .bool z4, .slice D5 z5.length d5] ++ zs.drop 6 = _ from hset.symm]
          simpa [sets] using hfin
        · rw [hflat]
          have hfin := (OwnI.set (OwnI.set (OwnI.set (OwnI.set (OwnI.set (OwnI.set (OwnI.app (m := wr.heap.size) (lo' := wr.heap.size) (hi := w2.heap.size) HOWN2.out OWN2.out (Nat.le_refl _) (by omega) (by omega)) (p := ⟨w.heap.size, k * 6, none⟩) (.inl (by simp)) (.string z0)) (p := ⟨w.heap.size, k * 6 + 1, none⟩) (.inl (by simp)) (.slice D1 z1.length d1)) (p := ⟨w.heap.size, k * 6 + 2, none⟩) (.inl (by simp)) (.slice D2 z2.length d2)) (p := ⟨w.heap.size, k * 6 + 3, none⟩) (.inl (by simp)) (.slice D3 z3.length d3)) (p := ⟨w.heap.size, k * 6 + 4, none⟩) (.inl (by simp)) (.bool z4)) (p := ⟨w.heap.size, k * 6 + 5, none⟩) (.inl (by simp)) (.slice D5 z5.length d5))
          exact hfin.wide (Nat.le_refl _) (by simp)
      case measure => simp [intOf]; omega
    · obtain rfl : k = l.length := by omega
      clear hlt
      go_wp2_with fail
      go_ret
      have hz0 : zs = [] := List.eq_nil_of_length_eq_zero (by rw [HZS.out]; simp)
      have hr1 := HROW.out
      have ho1 := HOWN.out
      rw [hz0, List.append_nil] at hr1
      rw [List.take_length] at ho1
      exact ⟨_, _, rfl, OwnI.mk hr1 ho1 (fun g hg => by have : w.heap.size = g := by simpa [Value.ownBlock] using hg
                                                        omega) (by omega) (Nat.le_refl _), hb⟩
theorem toFunc_any (x : FFunc) (hw : x.wt ≤ 1048576) : ToFunc x := by
  obtain ⟨z0, z1, z2, z3, z4, z5⟩ := x
  exact toFunc_of z0 z1 z2 z3 z4 z5 (toParamS_any z1 (by rw [FFunc.wt_eq] at hw; omega)) (toParamS_any z2 (by rw [FFunc.wt_eq] at hw; omega)) (toStringS_any z3 (by rw [FFunc.wt_eq] at hw; omega)) (toInsS_any z5 (by rw [FFunc.wt_eq] at hw; omega))
theorem toFuncS_any (l : List FFunc) (hw : l.length + FFunc.wts l ≤ 1048576) : ToFuncS l := (toFuncS_of l (by omega) (fun x hx => toFunc_any x (by have := FFunc.wts_at l x hx; omega)))
def ToMethod (x : FMethod) : Prop := ∀ (us : List Value) (w : World) (B : Nat), B ≤ w.heap.size → RdVs w B x.c us → Calls Tryz.prog 94 #[.agg us.toArray] w fun e w' => ∃ us', e = .returned (.agg us'.toArray) ∧ OwnI w' w.heap.size w'.heap.size x.c us' ∧ Below w.heap.size w w'
def ToMethodS (l : List FMethod) : Prop := ∀ (u : Value) (w : World) (B : Nat), B ≤ w.heap.size → RdC w B (.s 57 5 l.length (FMethod.flat l)) u → Calls Tryz.prog 66 #[u] w fun e w' => ∃ A c, e = .returned (.slice A l.length c) ∧ OwnI w' w.heap.size w'.heap.size [.s 57 5 l.length (FMethod.flat l)] [.slice A l.length c] ∧ Below w.heap.size w w'
set_option maxHeartbeats 1000000 in
theorem toMethod_of (z0 : ByteArray) (z1 : ByteArray) (z2 : ByteArray) (z3 : Bool) (z4 : Bool)  : ToMethod ⟨z0, z1, z2, z3, z4⟩ := by
  intro us w B hB0 hr
  rw [FMethod.c_eq] at hr ⊢
  obtain ⟨us0, rfl, hr_0⟩ := hr.unv
  obtain ⟨us1, rfl, hr_1⟩ := hr_0.unv
  obtain ⟨us2, rfl, hr_2⟩ := hr_1.unv
  obtain ⟨us3, rfl, hr_3⟩ := hr_2.unv
  obtain ⟨us4, rfl, hr_4⟩ := hr_3.unv
  obtain rfl := hr_4.un0
  go_enter Tryz.func94, Tryz.ntmps94
  go_wp2_with fail
  exact bodyPost_ret (v := .agg #[.string z0, .string z1, .string z2, .bool z3, .bool z4]) (by simp [results, Tryz.results94, go_sem]) rfl ⟨_, rfl, (OwnI.consv (OwnI.consv (OwnI.consv (OwnI.consv (OwnI.consv (OwnI.nil _ _ _) _) _) _) _) _), by repeat (first | exact Below.refl _ _ | (refine Below.alloc ?_ (by simp; try omega) _) | (refine Below.setCell ?_ (by simp) _))⟩
theorem infoMethod : (Tryz.prog.info? 57).map (fun i => (i.zero.map Value.cells, i.size, i.bytes)) = some (some #[.string ByteArray.empty, .string ByteArray.empty, .string ByteArray.empty, .bool false, .bool false], 5, 56) := by kernel_rfl
set_option maxHeartbeats 1000000 in
theorem toMethodS_of (l : List FMethod) (hl : l.length ≤ 1048576) (he : ∀ x, x ∈ l → ToMethod x) : ToMethodS l := by
  intro u w B hB0 hr0
  have hr := hr0.up hB0
  clear hr0
  obtain ⟨A, c, rfl⟩ := hr.form
  have HC := Lib.hid hr
  have hcap := hr.cap
  have hn : l.length ≤ 9223372036854775807 := by omega
  have hmk := fun W => make_law (P := Tryz.prog) 38 57 _ 5 56 Tryz.underlying38 infoMethod l.length (by omega) hn W
  have HE := Lib.hid he
  clear he
  clear hr hcap
  go_enter Tryz.func66, Tryz.ntmps66
  go_wp2
  go_loopw [4] (fun i wr => ∃ k : Nat, k ≤ l.length ∧ i = .int .i64 k ∧ (∃ us zs, us.length = k * 5 ∧ zs.length = (l.length - k) * 5 ∧ wr.ownsRow w.heap.size 57 5 (.slice (some ⟨w.heap.size, 0, none⟩) l.length l.length) l.length (us ++ zs) ∧ OwnI wr (w.heap.size + 1) wr.heap.size (FMethod.flat (l.take k)) us) ∧ Below w.heap.size w wr) (fun i _ => l.length - (intOf i).toNat)
  case atStart => exact ⟨0, Nat.zero_le _, rfl, ⟨[], madeL #[.string ByteArray.empty, .string ByteArray.empty, .string ByteArray.empty, .bool false, .bool false] (l.length * 5), by simp, by simp [madeL, size_madeCells], own_madeL w _ l.length 5 _ rfl (by omega) (by unfold maxLen; omega), OwnI.nil _ _ _⟩, (Below.refl _ _).alloc (Nat.le_refl _) _⟩
  case round =>
    obtain ⟨k, hk, rfl, ⟨us, zs, hus, hzs, hrow, hown⟩, hb⟩ := hrel
    have HROW := Lib.hid hrow
    have HOWN := Lib.hid hown
    have HUS := Lib.hid hus
    have HZS := Lib.hid hzs
    have hsz : w.heap.size < wr.heap.size := (hrow.lt _ rfl).2
    clear hmk hrow hown hus hzs
    by_cases hlt : k < l.length
    · obtain ⟨x, hx⟩ : ∃ x, l[k]? = some x := ⟨_, List.getElem?_eq_getElem hlt⟩
      obtain ⟨bc, offc, rfl, hblc, hcc⟩ := RdC.at_ FMethod.len HC.out hx
      obtain ⟨z0, z1, z2, z3, z4⟩ := x
      rw [FMethod.c_eq] at hcc
      obtain ⟨u0, e0, q0⟩ := hcc 0 _ rfl
      obtain rfl := q0.val
      clear q0
      have c_0 : wr.cell? ⟨bc, offc + k * 5, none⟩ = some (.string z0) := (hb.cell (p := ⟨bc, _, none⟩) hblc).trans (by simpa using e0)
      obtain ⟨u1, e1, q1⟩ := hcc 1 _ rfl
      obtain rfl := q1.val
      clear q1
      have c_1 : wr.cell? ⟨bc, offc + k * 5 + 1, none⟩ = some (.string z1) := (hb.cell (p := ⟨bc, _, none⟩) hblc).trans (by simpa using e1)
      obtain ⟨u2, e2, q2⟩ := hcc 2 _ rfl
      obtain rfl := q2.val
      clear q2
      have c_2 : wr.cell? ⟨bc, offc + k * 5 + 2, none⟩ = some (.string z2) := (hb.cell (p := ⟨bc, _, none⟩) hblc).trans (by simpa using e2)
      obtain ⟨u3, e3, q3⟩ := hcc 3 _ rfl
      obtain rfl := q3.val
      clear q3
      have c_3 : wr.cell? ⟨bc, offc + k * 5 + 3, none⟩ = some (.bool z3) := (hb.cell (p := ⟨bc, _, none⟩) hblc).trans (by simpa using e3)
      obtain ⟨u4, e4, q4⟩ := hcc 4 _ rfl
      obtain rfl := q4.val
      clear q4
      have c_4 : wr.cell? ⟨bc, offc + k * 5 + 4, none⟩ = some (.bool z4) := (hb.cell (p := ⟨bc, _, none⟩) hblc).trans (by simpa using e4)
      obtain ⟨g1, f1, hrow1⟩ := own_rowf HROW.out
      have HX := Lib.hid hx
      clear hcc hx e0 e1 e2 e3 e4
      have HT := Lib.hid (HE.out _ (List.mem_of_getElem? HX.out))
      have HV := Lib.hid (show RdVs wr w.heap.size (FMethod.c ⟨z0, z1, z2, z3, z4⟩) [.string z0, .string z1, .string z2, .bool z3, .bool z4] from by rw [FMethod.c_eq]; exact (RdVs.cons (by unfold RdC; rfl) (RdVs.cons (by unfold RdC; rfl) (RdVs.cons (by unfold RdC; rfl) (RdVs.cons (by unfold RdC; rfl) (RdVs.cons (by unfold RdC; rfl) (RdVs.nil _ _)))))))
      go_wp2_with fail
      refine (HT.out _ _ w.heap.size (by omega) HV.out).mono ?_
      rw [FMethod.c_eq]
      rintro e w2 ⟨us2, rfl, own2, hb2⟩
      have hv := own2.vs
      obtain ⟨us2_0, rfl, hv_0⟩ := hv.unv
      obtain ⟨us2_1, rfl, hv_1⟩ := hv_0.unv
      obtain ⟨us2_2, rfl, hv_2⟩ := hv_1.unv
      obtain ⟨us2_3, rfl, hv_3⟩ := hv_2.unv
      obtain ⟨us2_4, rfl, hv_4⟩ := hv_3.unv
      obtain rfl := hv_4.un0
      have OWN2 := Lib.hid own2
      have row2 : w2.rowIs w.heap.size 57 (l.length * 5) f1 := hrow1.of_block (hb2.block _ hrow1.lt)
      have ROW2 := Lib.hid (own_below HROW.out hb2 (Nat.le_refl _))
      have hsz2 : wr.heap.size ≤ w2.heap.size := hb2.size
      have hB2 := hb.trans (hb2.mono hb.size)
      have HOWN2 := Lib.hid (HOWN.out.below hb2 (Nat.le_refl _))
      have r0 := row2.cell (i := k * 5) (by omega)
      have f0_ := row2.frozen (k * 5)
      have r1 := row2.cell (i := k * 5 + 1) (by omega)
      have f1_ := row2.frozen (k * 5 + 1)
      have r2 := row2.cell (i := k * 5 + 2) (by omega)
      have f2_ := row2.frozen (k * 5 + 2)
      have r3 := row2.cell (i := k * 5 + 3) (by omega)
      have f3_ := row2.frozen (k * 5 + 3)
      have r4 := row2.cell (i := k * 5 + 4) (by omega)
      have f4_ := row2.frozen (k * 5 + 4)
      clear own2 row2 hrow1 c_0 c_1 c_2 c_3 c_4
      go_wp2_with fail
      go_roundw
      case rel =>
        have hflat : FMethod.flat (l.take (k + 1)) = FMethod.flat (l.take k) ++ [.v (.string z0), .v (.string z1), .v (.string z2), .v (.bool z3), .v (.bool z4)] := by
          rw [List.take_add_one, HX.out]
          simp [FMethod.c_eq]
        have hset := sets_app [.string z0, .string z1, .string z2, .bool z3, .bool z4] us zs (k * 5) HUS.out (by rw [HZS.out]; simp; omega)
        refine ⟨k + 1, by omega, by go_num, ⟨us ++ [.string z0, .string z1, .string z2, .bool z3, .bool z4], zs.drop 5, by simp [HUS.out]; try omega, by rw [List.length_drop, HZS.out]; omega, ?_, ?_⟩, (((((hB2.setCell (by simp) _).setCell (by simp) _).setCell (by simp) _).setCell (by simp) _).setCell (by simp) _)⟩
        · have hfin := (own_setC (own_setC (own_setC (own_setC (own_setC ROW2.out (i := k * 5) (by omega) (.string z0)) (i := k * 5 + 1) (by omega) (.string z1)) (i := k * 5 + 2) (by omega) (.string z2)) (i := k * 5 + 3) (by omega) (.bool z3)) (i := k * 5 + 4) (by omega) (.bool z4))
          rw [show us ++ [.string z0, .string z1, .string z2, .bool z3, .bool z4] ++ zs.drop 5 = _ from hset.symm]
          simpa [sets] using hfin
        · rw [hflat]
          have hfin := (OwnI.set (OwnI.set (OwnI.set (OwnI.set (OwnI.set (OwnI.app (m := wr.heap.size) (lo' := wr.heap.size) (hi := w2.heap.size) HOWN2.out OWN2.out (Nat.le_refl _) (by omega) (by omega)) (p := ⟨w.heap.size, k * 5, none⟩) (.inl (by simp)) (.string z0)) (p := ⟨w.heap.size, k * 5 + 1, none⟩) (.inl (by simp)) (.string z1)) (p := ⟨w.heap.size, k * 5 + 2, none⟩) (.inl (by simp)) (.string z2)) (p := ⟨w.heap.size, k * 5 + 3, none⟩) (.inl (by simp)) (.bool z3)) (p := ⟨w.heap.size, k * 5 + 4, none⟩) (.inl (by simp)) (.bool z4))
          exact hfin.wide (Nat.le_refl _) (by simp)
      case measure => simp [intOf]; omega
    · obtain rfl : k = l.length := by omega
      clear hlt
      go_wp2_with fail
      go_ret
      have hz0 : zs = [] := List.eq_nil_of_length_eq_zero (by rw [HZS.out]; simp)
      have hr1 := HROW.out
      have ho1 := HOWN.out
      rw [hz0, List.append_nil] at hr1
      rw [List.take_length] at ho1
      exact ⟨_, _, rfl, OwnI.mk hr1 ho1 (fun g hg => by have : w.heap.size = g := by simpa [Value.ownBlock] using hg
                                                        omega) (by omega) (Nat.le_refl _), hb⟩
theorem toMethod_any (x : FMethod) (hw : x.wt ≤ 1048576) : ToMethod x := by
  obtain ⟨z0, z1, z2, z3, z4⟩ := x
  exact toMethod_of z0 z1 z2 z3 z4 
theorem toMethodS_any (l : List FMethod) (hw : l.length + FMethod.wts l ≤ 1048576) : ToMethodS l := (toMethodS_of l (by omega) (fun x hx => toMethod_any x (by have := FMethod.wts_at l x hx; omega)))
def ToField (x : FField) : Prop := ∀ (us : List Value) (w : World) (B : Nat), B ≤ w.heap.size → RdVs w B x.c us → Calls Tryz.prog 93 #[.agg us.toArray] w fun e w' => ∃ us', e = .returned (.agg us'.toArray) ∧ OwnI w' w.heap.size w'.heap.size x.c us' ∧ Below w.heap.size w w'
def ToFieldS (l : List FField) : Prop := ∀ (u : Value) (w : World) (B : Nat), B ≤ w.heap.size → RdC w B (.s 45 8 l.length (FField.flat l)) u → Calls Tryz.prog 65 #[u] w fun e w' => ∃ A c, e = .returned (.slice A l.length c) ∧ OwnI w' w.heap.size w'.heap.size [.s 45 8 l.length (FField.flat l)] [.slice A l.length c] ∧ Below w.heap.size w w'
set_option maxHeartbeats 1000000 in
theorem toField_of (z0 : ByteArray) (z1 : ByteArray) (z2 : Bool) (z3 : Int) (z4 : Int) (z5 : ByteArray) (z6 : Int) (z7 : List FEntry) (h3 : ToValue ⟨z3, z4, z5, z6, z7⟩) : ToField ⟨z0, z1, z2, ⟨z3, z4, z5, z6, z7⟩⟩ := by
  intro us w B hB0 hr
  rw [FField.c_eq] at hr ⊢
  obtain ⟨us0, rfl, hr_0⟩ := hr.unv
  obtain ⟨us1, rfl, hr_1⟩ := hr_0.unv
  obtain ⟨us2, rfl, hr_2⟩ := hr_1.unv
  obtain ⟨us3, rfl, hr_3⟩ := hr_2.unv
  obtain ⟨us4, rfl, hr_4⟩ := hr_3.unv
  obtain ⟨us5, rfl, hr_5⟩ := hr_4.unv
  obtain ⟨us6, rfl, hr_6⟩ := hr_5.unv
  obtain ⟨A7, c7, us7, rfl, r7, hr_7⟩ := hr_6.uns
  obtain rfl := hr_7.un0
  have R7 := Lib.hid r7
  clear r7
  have H3 := Lib.hid h3
  clear h3
  go_enter Tryz.func93, Tryz.ntmps93
  go_wp2_with fail
  refine calls_worldD _ (fun X => Blk X (w.heap.size) 132 #[.string z0, .string z1, .bool z2, .int .i64 z3, .int .i64 z4, .string z5, .int .i64 z6, .slice A7 z7.length c7] ∧ Blk X (w.heap.size + 1) 45 #[.string ⟨#[]⟩, .string ⟨#[]⟩, .bool false, .int .i64 0, .int .i64 0, .string ⟨#[]⟩, .int .i64 0, .slice none 0 0] ∧ Blk X (w.heap.size + 1 + 1) 45 #[.string z0, .string z1, .bool z2, .int .i64 0, .int .i64 0, .string ⟨#[]⟩, .int .i64 0, .slice none 0 0] ∧ Below w.heap.size w X) ⟨((Blk.new w _ _).alloc _).alloc _, (Blk.new' (w.alloc _) _ _ _ (by simp)).alloc _, Blk.new' ((w.alloc _).alloc _) _ _ _ (by simp), ((((Below.refl _ _).alloc (Nat.le_refl _) _).alloc (by simp) _).alloc (by simp; omega) _)⟩ ?_
  rintro X0 ⟨ba, br, bo, hB⟩
  have s0 := bo.lt
  refine (H3.out [.int .i64 z3, .int .i64 z4, .string z5, .int .i64 z6, .slice A7 z7.length c7] _ B (by omega) (by rw [FValue.c_eq]; exact (RdVs.cons (by unfold RdC; rfl) (RdVs.cons (by unfold RdC; rfl) (RdVs.cons (by unfold RdC; rfl) (RdVs.cons (by unfold RdC; rfl) (RdVs.cons (R7.out.below hB hB0) (RdVs.nil _ _)))))))).mono ?_
  rw [FValue.c_eq]
  rintro e Y0 ⟨us_, rfl, own, hb⟩
  have hv := own.vs
  obtain ⟨us_3, rfl, hv_0⟩ := hv.unv
  obtain ⟨us_4, rfl, hv_1⟩ := hv_0.unv
  obtain ⟨us_5, rfl, hv_2⟩ := hv_1.unv
  obtain ⟨us_6, rfl, hv_3⟩ := hv_2.unv
  obtain ⟨D7, d7, us_7, rfl, _, hv_4⟩ := hv_3.uns
  obtain rfl := hv_4.un0
  have o3 := own
  clear own
  replace ba := ba.below hb (Nat.le_refl _)
  replace br := br.below hb (Nat.le_refl _)
  replace bo := bo.below hb (Nat.le_refl _)
  replace hB := hB.trans (hb.mono (by omega))
  have t0 : X0.heap.size ≤ Y0.heap.size := hb.size
  clear hb
  have ba_l := ba.lt
  have ba_f := fun i => ba.frozen i
  have br_0 : Y0.cell? ⟨w.heap.size + 1, 0, none⟩ = some (.string ⟨#[]⟩) := br.cell 0
  have br_1 : Y0.cell? ⟨w.heap.size + 1, 1, none⟩ = some (.string ⟨#[]⟩) := br.cell 1
  have br_2 : Y0.cell? ⟨w.heap.size + 1, 2, none⟩ = some (.bool false) := br.cell 2
  have br_3 : Y0.cell? ⟨w.heap.size + 1, 3, none⟩ = some (.int .i64 0) := br.cell 3
  have br_4 : Y0.cell? ⟨w.heap.size + 1, 4, none⟩ = some (.int .i64 0) := br.cell 4
  have br_5 : Y0.cell? ⟨w.heap.size + 1, 5, none⟩ = some (.string ⟨#[]⟩) := br.cell 5
  have br_6 : Y0.cell? ⟨w.heap.size + 1, 6, none⟩ = some (.int .i64 0) := br.cell 6
  have br_7 : Y0.cell? ⟨w.heap.size + 1, 7, none⟩ = some (.slice none 0 0) := br.cell 7
  have br_l := br.lt
  have br_f := fun i => br.frozen i
  have bo_0 : Y0.cell? ⟨w.heap.size + 1 + 1, 0, none⟩ = some (.string z0) := bo.cell 0
  have bo_1 : Y0.cell? ⟨w.heap.size + 1 + 1, 1, none⟩ = some (.string z1) := bo.cell 1
  have bo_2 : Y0.cell? ⟨w.heap.size + 1 + 1, 2, none⟩ = some (.bool z2) := bo.cell 2
  have bo_3 : Y0.cell? ⟨w.heap.size + 1 + 1, 3, none⟩ = some (.int .i64 0) := bo.cell 3
  have bo_4 : Y0.cell? ⟨w.heap.size + 1 + 1, 4, none⟩ = some (.int .i64 0) := bo.cell 4
  have bo_5 : Y0.cell? ⟨w.heap.size + 1 + 1, 5, none⟩ = some (.string ⟨#[]⟩) := bo.cell 5
  have bo_6 : Y0.cell? ⟨w.heap.size + 1 + 1, 6, none⟩ = some (.int .i64 0) := bo.cell 6
  have bo_7 : Y0.cell? ⟨w.heap.size + 1 + 1, 7, none⟩ = some (.slice none 0 0) := bo.cell 7
  have bo_l := bo.lt
  have bo_f := fun i => bo.frozen i
  go_wp2_with fail
  skip
  refine bodyPost_ret (v := .agg #[.string z0, .string z1, .bool z2, .int .i64 z3, .int .i64 z4, .string z5, .int .i64 z6, .slice D7 z7.length d7]) (by simp [results, Tryz.results93, go_sem, br_0, br_1, br_2, br_3, br_4, br_5, br_6, br_7, bo_0, bo_1, bo_2, bo_3, bo_4, bo_5, bo_6, bo_7, br_l, br_f, bo_l, bo_f]) rfl ⟨_, rfl, ?_, ?_⟩
  · refine OwnI.wide (lo := X0.heap.size) (hi := Y0.heap.size) ?_ (by omega) (by simp)
    repeat (refine OwnI.set ?_ (.inl (by simp; omega)) _)
    exact (OwnI.consv (OwnI.consv (OwnI.consv (OwnI.app (m := Y0.heap.size) (hi := Y0.heap.size) o3 (OwnI.wide (lo' := Y0.heap.size) (hi' := Y0.heap.size) (OwnI.nil _ Y0.heap.size Y0.heap.size) (by omega) (by omega)) (Nat.le_refl _) (by omega) (by omega)) _) _) _)
  · repeat (refine Below.setCell ?_ (by simp; try omega) _)
    exact hB
theorem infoField : (Tryz.prog.info? 45).map (fun i => (i.zero.map Value.cells, i.size, i.bytes)) = some (some #[.string ByteArray.empty, .string ByteArray.empty, .bool false, .int .i64 0, .int .i64 0, .string ByteArray.empty, .int .i64 0, .slice none 0 0], 8, 104) := by kernel_rfl
set_option maxHeartbeats 1000000 in
theorem toFieldS_of (l : List FField) (hl : l.length ≤ 1048576) (he : ∀ x, x ∈ l → ToField x) : ToFieldS l := by
  intro u w B hB0 hr0
  have hr := hr0.up hB0
  clear hr0
  obtain ⟨A, c, rfl⟩ := hr.form
  have HC := Lib.hid hr
  have hcap := hr.cap
  have hn : l.length ≤ 9223372036854775807 := by omega
  have hmk := fun W => make_law (P := Tryz.prog) 37 45 _ 8 104 Tryz.underlying37 infoField l.length (by omega) hn W
  have HE := Lib.hid he
  clear he
  clear hr hcap
  go_enter Tryz.func65, Tryz.ntmps65
  go_wp2
  go_loopw [4] (fun i wr => ∃ k : Nat, k ≤ l.length ∧ i = .int .i64 k ∧ (∃ us zs, us.length = k * 8 ∧ zs.length = (l.length - k) * 8 ∧ wr.ownsRow w.heap.size 45 8 (.slice (some ⟨w.heap.size, 0, none⟩) l.length l.length) l.length (us ++ zs) ∧ OwnI wr (w.heap.size + 1) wr.heap.size (FField.flat (l.take k)) us) ∧ Below w.heap.size w wr) (fun i _ => l.length - (intOf i).toNat)
  case atStart => exact ⟨0, Nat.zero_le _, rfl, ⟨[], madeL #[.string ByteArray.empty, .string ByteArray.empty, .bool false, .int .i64 0, .int .i64 0, .string ByteArray.empty, .int .i64 0, .slice none 0 0] (l.length * 8), by simp, by simp [madeL, size_madeCells], own_madeL w _ l.length 8 _ rfl (by omega) (by unfold maxLen; omega), OwnI.nil _ _ _⟩, (Below.refl _ _).alloc (Nat.le_refl _) _⟩
  case round =>
    obtain ⟨k, hk, rfl, ⟨us, zs, hus, hzs, hrow, hown⟩, hb⟩ := hrel
    have HROW := Lib.hid hrow
    have HOWN := Lib.hid hown
    have HUS := Lib.hid hus
    have HZS := Lib.hid hzs
    have hsz : w.heap.size < wr.heap.size := (hrow.lt _ rfl).2
    clear hmk hrow hown hus hzs
    by_cases hlt : k < l.length
    · obtain ⟨x, hx⟩ : ∃ x, l[k]? = some x := ⟨_, List.getElem?_eq_getElem hlt⟩
      obtain ⟨bc, offc, rfl, hblc, hcc⟩ := RdC.at_ FField.len HC.out hx
      obtain ⟨z0, z1, z2, ⟨z3, z4, z5, z6, z7⟩⟩ := x
      rw [FField.c_eq] at hcc
      obtain ⟨u0, e0, q0⟩ := hcc 0 _ rfl
      obtain rfl := q0.val
      clear q0
      have c_0 : wr.cell? ⟨bc, offc + k * 8, none⟩ = some (.string z0) := (hb.cell (p := ⟨bc, _, none⟩) hblc).trans (by simpa using e0)
      obtain ⟨u1, e1, q1⟩ := hcc 1 _ rfl
      obtain rfl := q1.val
      clear q1
      have c_1 : wr.cell? ⟨bc, offc + k * 8 + 1, none⟩ = some (.string z1) := (hb.cell (p := ⟨bc, _, none⟩) hblc).trans (by simpa using e1)
      obtain ⟨u2, e2, q2⟩ := hcc 2 _ rfl
      obtain rfl := q2.val
      clear q2
      have c_2 : wr.cell? ⟨bc, offc + k * 8 + 2, none⟩ = some (.bool z2) := (hb.cell (p := ⟨bc, _, none⟩) hblc).trans (by simpa using e2)
      obtain ⟨u3, e3, q3⟩ := hcc 3 _ rfl
      obtain rfl := q3.val
      clear q3
      have c_3 : wr.cell? ⟨bc, offc + k * 8 + 3, none⟩ = some (.int .i64 z3) := (hb.cell (p := ⟨bc, _, none⟩) hblc).trans (by simpa using e3)
      obtain ⟨u4, e4, q4⟩ := hcc 4 _ rfl
      obtain rfl := q4.val
      clear q4
      have c_4 : wr.cell? ⟨bc, offc + k * 8 + 4, none⟩ = some (.int .i64 z4) := (hb.cell (p := ⟨bc, _, none⟩) hblc).trans (by simpa using e4)
      obtain ⟨u5, e5, q5⟩ := hcc 5 _ rfl
      obtain rfl := q5.val
      clear q5
      have c_5 : wr.cell? ⟨bc, offc + k * 8 + 5, none⟩ = some (.string z5) := (hb.cell (p := ⟨bc, _, none⟩) hblc).trans (by simpa using e5)
      obtain ⟨u6, e6, q6⟩ := hcc 6 _ rfl
      obtain rfl := q6.val
      clear q6
      have c_6 : wr.cell? ⟨bc, offc + k * 8 + 6, none⟩ = some (.int .i64 z6) := (hb.cell (p := ⟨bc, _, none⟩) hblc).trans (by simpa using e6)
      obtain ⟨u7, e7, q7⟩ := hcc 7 _ rfl
      obtain ⟨A7, c7, rfl⟩ := q7.form
      have Q7 := Lib.hid q7
      clear q7
      have c_7 : wr.cell? ⟨bc, offc + k * 8 + 7, none⟩ = some (.slice A7 z7.length c7) := (hb.cell (p := ⟨bc, _, none⟩) hblc).trans (by simpa using e7)
      obtain ⟨g1, f1, hrow1⟩ := own_rowf HROW.out
      have HX := Lib.hid hx
      clear hcc hx e0 e1 e2 e3 e4 e5 e6 e7
      have HT := Lib.hid (HE.out _ (List.mem_of_getElem? HX.out))
      have HV := Lib.hid (show RdVs wr w.heap.size (FField.c ⟨z0, z1, z2, ⟨z3, z4, z5, z6, z7⟩⟩) [.string z0, .string z1, .bool z2, .int .i64 z3, .int .i64 z4, .string z5, .int .i64 z6, .slice A7 z7.length c7] from by rw [FField.c_eq]; exact (RdVs.cons (by unfold RdC; rfl) (RdVs.cons (by unfold RdC; rfl) (RdVs.cons (by unfold RdC; rfl) (RdVs.cons (by unfold RdC; rfl) (RdVs.cons (by unfold RdC; rfl) (RdVs.cons (by unfold RdC; rfl) (RdVs.cons (by unfold RdC; rfl) (RdVs.cons (Q7.out.below hb (Nat.le_refl _)) (RdVs.nil _ _))))))))))
      go_wp2_with fail
      refine (HT.out _ _ w.heap.size (by omega) HV.out).mono ?_
      rw [FField.c_eq]
      rintro e w2 ⟨us2, rfl, own2, hb2⟩
      have hv := own2.vs
      obtain ⟨us2_0, rfl, hv_0⟩ := hv.unv
      obtain ⟨us2_1, rfl, hv_1⟩ := hv_0.unv
      obtain ⟨us2_2, rfl, hv_2⟩ := hv_1.unv
      obtain ⟨us2_3, rfl, hv_3⟩ := hv_2.unv
      obtain ⟨us2_4, rfl, hv_4⟩ := hv_3.unv
      obtain ⟨us2_5, rfl, hv_5⟩ := hv_4.unv
      obtain ⟨us2_6, rfl, hv_6⟩ := hv_5.unv
      obtain ⟨D7, d7, us2_7, rfl, _, hv_7⟩ := hv_6.uns
      obtain rfl := hv_7.un0
      have OWN2 := Lib.hid own2
      have row2 : w2.rowIs w.heap.size 45 (l.length * 8) f1 := hrow1.of_block (hb2.block _ hrow1.lt)
      have ROW2 := Lib.hid (own_below HROW.out hb2 (Nat.le_refl _))
      have hsz2 : wr.heap.size ≤ w2.heap.size := hb2.size
      have hB2 := hb.trans (hb2.mono hb.size)
      have HOWN2 := Lib.hid (HOWN.out.below hb2 (Nat.le_refl _))
      have r0 := row2.cell (i := k * 8) (by omega)
      have f0_ := row2.frozen (k * 8)
      have r1 := row2.cell (i := k * 8 + 1) (by omega)
      have f1_ := row2.frozen (k * 8 + 1)
      have r2 := row2.cell (i := k * 8 + 2) (by omega)
      have f2_ := row2.frozen (k * 8 + 2)
      have r3 := row2.cell (i := k * 8 + 3) (by omega)
      have f3_ := row2.frozen (k * 8 + 3)
      have r4 := row2.cell (i := k * 8 + 4) (by omega)
      have f4_ := row2.frozen (k * 8 + 4)
      have r5 := row2.cell (i := k * 8 + 5) (by omega)
      have f5_ := row2.frozen (k * 8 + 5)
      have r6 := row2.cell (i := k * 8 + 6) (by omega)
      have f6_ := row2.frozen (k * 8 + 6)
      have r7 := row2.cell (i := k * 8 + 7) (by omega)
      have f7_ := row2.frozen (k * 8 + 7)
      clear own2 row2 hrow1 c_0 c_1 c_2 c_3 c_4 c_5 c_6 c_7
      go_wp2_with fail
      go_roundw
      case rel =>
        have hflat : FField.flat (l.take (k + 1)) = FField.flat (l.take k) ++ [.v (.string z0), .v (.string z1), .v (.bool z2), .v (.int .i64 z3), .v (.int .i64 z4), .v (.string z5), .v (.int .i64 z6), .s 106 8 z7.length (FEntry.flat z7)] := by
          rw [List.take_add_one, HX.out]
          simp [FField.c_eq]
        have hset := sets_app [.string z0, .string z1, .bool z2, .int .i64 z3, .int .i64 z4, .string z5, .int .i64 z6, .slice D7 z7.length d7] us zs (k * 8) HUS.out (by rw [HZS.out]; simp; omega)
        refine ⟨k + 1, by omega, by go_num, ⟨us ++ [.string z0, .string z1, .bool z2, .int .i64 z3, .int .i64 z4, .string z5, .int .i64 z6, .slice D7 z7.length d7], zs.drop 8, by simp [HUS.out]; try omega, by rw [List.length_drop, HZS.out]; omega, ?_, ?_⟩, ((((((((hB2.setCell (by simp) _).setCell (by simp) _).setCell (by simp) _).setCell (by simp) _).setCell (by simp) _).setCell (by simp) _).setCell (by simp) _).setCell (by simp) _)⟩
        · have hfin := (own_setC (own_setC (own_setC (own_setC (own_setC (own_setC (own_setC (own_setC ROW2.out (i := k * 8) (by omega) (.string z0)) (i := k * 8 + 1) (by omega) (.string z1)) (i := k * 8 + 2) (by omega) (.bool z2)) (i := k * 8 + 3) (by omega) (.int .i64 z3)) (i := k * 8 + 4) (by omega) (.int .i64 z4)) (i := k * 8 + 5) (by omega) (.string z5)) (i := k * 8 + 6) (by omega) (.int .i64 z6)) (i := k * 8 + 7) (by omega) (.slice D7 z7.length d7))
          rw [show us ++ [.string z0, .string z1, .bool z2, .int .i64 z3, .int .i64 z4, .string z5, .int .i64 z6, .slice D7 z7.length d7] ++ zs.drop 8 = _ from hset.symm]
          simpa [sets] using hfin
        · rw [hflat]
          have hfin := (OwnI.set (OwnI.set (OwnI.set (OwnI.set (OwnI.set (OwnI.set (OwnI.set (OwnI.set (OwnI.app (m := wr.heap.size) (lo' := wr.heap.size) (hi := w2.heap.size) HOWN2.out OWN2.out (Nat.le_refl _) (by omega) (by omega)) (p := ⟨w.heap.size, k * 8, none⟩) (.inl (by simp)) (.string z0)) (p := ⟨w.heap.size, k * 8 + 1, none⟩) (.inl (by simp)) (.string z1)) (p := ⟨w.heap.size, k * 8 + 2, none⟩) (.inl (by simp)) (.bool z2)) (p := ⟨w.heap.size, k * 8 + 3, none⟩) (.inl (by simp)) (.int .i64 z3)) (p := ⟨w.heap.size, k * 8 + 4, none⟩) (.inl (by simp)) (.int .i64 z4)) (p := ⟨w.heap.size, k * 8 + 5, none⟩) (.inl (by simp)) (.string z5)) (p := ⟨w.heap.size, k * 8 + 6, none⟩) (.inl (by simp)) (.int .i64 z6)) (p := ⟨w.heap.size, k * 8 + 7, none⟩) (.inl (by simp)) (.slice D7 z7.length d7))
          exact hfin.wide (Nat.le_refl _) (by simp)
      case measure => simp [intOf]; omega
    · obtain rfl : k = l.length := by omega
      clear hlt
      go_wp2_with fail
      go_ret
      have hz0 : zs = [] := List.eq_nil_of_length_eq_zero (by rw [HZS.out]; simp)
      have hr1 := HROW.out
      have ho1 := HOWN.out
      rw [hz0, List.append_nil] at hr1
      rw [List.take_length] at ho1
      exact ⟨_, _, rfl, OwnI.mk hr1 ho1 (fun g hg => by have : w.heap.size = g := by simpa [Value.ownBlock] using hg
                                                        omega) (by omega) (Nat.le_refl _), hb⟩
theorem toField_any (x : FField) (hw : x.wt ≤ 1048576) : ToField x := by
  obtain ⟨z0, z1, z2, ⟨z3, z4, z5, z6, z7⟩⟩ := x
  exact toField_of z0 z1 z2 z3 z4 z5 z6 z7 (toValue_any _ (by rw [FField.wt_eq] at hw; rw [FValue.wt_eq]; omega))
theorem toFieldS_any (l : List FField) (hw : l.length + FField.wts l ≤ 1048576) : ToFieldS l := (toFieldS_of l (by omega) (fun x hx => toField_any x (by have := FField.wts_at l x hx; omega)))
def ToClass (x : FClass) : Prop := ∀ (us : List Value) (w : World) (B : Nat), B ≤ w.heap.size → RdVs w B x.c us → Calls Tryz.prog 36 #[.agg us.toArray] w fun e w' => ∃ us', e = .returned (.agg us'.toArray) ∧ OwnI w' w.heap.size w'.heap.size x.c us' ∧ Below w.heap.size w w'
def ToClassS (l : List FClass) : Prop := ∀ (u : Value) (w : World) (B : Nat), B ≤ w.heap.size → RdC w B (.s 40 4 l.length (FClass.flat l)) u → Calls Tryz.prog 18 #[u] w fun e w' => ∃ A c, e = .returned (.slice A l.length c) ∧ OwnI w' w.heap.size w'.heap.size [.s 40 4 l.length (FClass.flat l)] [.slice A l.length c] ∧ Below w.heap.size w w'
set_option maxHeartbeats 1000000 in
theorem toClass_of (z0 : ByteArray) (z1 : ByteArray) (z2 : List FField) (z3 : List FMethod) (h2 : ToFieldS z2) (h3 : ToMethodS z3) : ToClass ⟨z0, z1, z2, z3⟩ := by
  intro us w B hB0 hr
  rw [FClass.c_eq] at hr ⊢
  obtain ⟨us0, rfl, hr_0⟩ := hr.unv
  obtain ⟨us1, rfl, hr_1⟩ := hr_0.unv
  obtain ⟨A2, c2, us2, rfl, r2, hr_2⟩ := hr_1.uns
  obtain ⟨A3, c3, us3, rfl, r3, hr_3⟩ := hr_2.uns
  obtain rfl := hr_3.un0
  have R2 := Lib.hid r2
  clear r2
  have R3 := Lib.hid r3
  clear r3
  have H2 := Lib.hid h2
  clear h2
  have H3 := Lib.hid h3
  clear h3
  go_enter Tryz.func36, Tryz.ntmps36
  go_wp2_with fail
  refine calls_worldD _ (fun X => Blk X (w.heap.size) 75 #[.string z0, .string z1, .slice A2 z2.length c2, .slice A3 z3.length c3] ∧ Blk X (w.heap.size + 1) 40 #[.string ⟨#[]⟩, .string ⟨#[]⟩, .slice none 0 0, .slice none 0 0] ∧ Blk X (w.heap.size + 1 + 1) 40 #[.string z0, .string z1, .slice none 0 0, .slice none 0 0] ∧ Below w.heap.size w X) ⟨((Blk.new w _ _).alloc _).alloc _, (Blk.new' (w.alloc _) _ _ _ (by simp)).alloc _, Blk.new' ((w.alloc _).alloc _) _ _ _ (by simp), ((((Below.refl _ _).alloc (Nat.le_refl _) _).alloc (by simp) _).alloc (by simp; omega) _)⟩ ?_
  rintro X0 ⟨ba, br, bo, hB⟩
  have s0 := bo.lt
  refine (H2.out _ _ B (by omega) (R2.out.below hB hB0)).mono ?_
  rintro e Y0 ⟨D2, d2, rfl, own, hb⟩
  have o2 := own
  clear own
  replace ba := ba.below hb (Nat.le_refl _)
  replace br := br.below hb (Nat.le_refl _)
  replace bo := bo.below hb (Nat.le_refl _)
  replace hB := hB.trans (hb.mono (by omega))
  have t0 : X0.heap.size ≤ Y0.heap.size := hb.size
  clear hb
  have ba_3 : Y0.cell? ⟨w.heap.size, 3, none⟩ = some (.slice A3 z3.length c3) := ba.cell 3
  have ba_l := ba.lt
  have ba_f := fun i => ba.frozen i
  have bo_2 : Y0.cell? ⟨w.heap.size + 1 + 1, 2, none⟩ = some (.slice none 0 0) := bo.cell 2
  have bo_l := bo.lt
  have bo_f := fun i => bo.frozen i
  go_wp2_with fail
  clear ba_3 ba_l ba_f
  clear bo_2 bo_l bo_f
  refine calls_worldD _ (fun X => Blk X (w.heap.size) 75 #[.string z0, .string z1, .slice A2 z2.length c2, .slice A3 z3.length c3] ∧ Blk X (w.heap.size + 1) 40 #[.string ⟨#[]⟩, .string ⟨#[]⟩, .slice none 0 0, .slice none 0 0] ∧ Blk X (w.heap.size + 1 + 1) 40 #[.string z0, .string z1, .slice D2 z2.length d2, .slice none 0 0] ∧ OwnI X X0.heap.size Y0.heap.size [.s 45 8 z2.length (FField.flat z2)] [.slice D2 z2.length d2] ∧ Below w.heap.size w X ∧ Y0.heap.size ≤ X.heap.size) ⟨(ba.far (by simp; try omega) _), (br.far (by simp; try omega) _), (by simpa using (bo.set_ 2 _)), (o2.set (.inl (by simp; omega)) _), (hB.setCell (by simp; try omega) _), (by simp)⟩ ?_
  clear ba br bo hB o2
  rintro X1 ⟨ba, br, bo, o2, hB, y1⟩
  have s1 := bo.lt
  refine (H3.out _ _ B (by omega) (R3.out.below hB hB0)).mono ?_
  rintro e Y1 ⟨D3, d3, rfl, own, hb⟩
  have o3 := own
  clear own
  replace ba := ba.below hb (Nat.le_refl _)
  replace br := br.below hb (Nat.le_refl _)
  replace bo := bo.below hb (Nat.le_refl _)
  replace o2 := o2.below hb (Nat.le_refl _)
  replace hB := hB.trans (hb.mono (by omega))
  have t1 : X1.heap.size ≤ Y1.heap.size := hb.size
  clear hb
  have ba_l := ba.lt
  have ba_f := fun i => ba.frozen i
  have br_0 : Y1.cell? ⟨w.heap.size + 1, 0, none⟩ = some (.string ⟨#[]⟩) := br.cell 0
  have br_1 : Y1.cell? ⟨w.heap.size + 1, 1, none⟩ = some (.string ⟨#[]⟩) := br.cell 1
  have br_2 : Y1.cell? ⟨w.heap.size + 1, 2, none⟩ = some (.slice none 0 0) := br.cell 2
  have br_3 : Y1.cell? ⟨w.heap.size + 1, 3, none⟩ = some (.slice none 0 0) := br.cell 3
  have br_l := br.lt
  have br_f := fun i => br.frozen i
  have bo_0 : Y1.cell? ⟨w.heap.size + 1 + 1, 0, none⟩ = some (.string z0) := bo.cell 0
  have bo_1 : Y1.cell? ⟨w.heap.size + 1 + 1, 1, none⟩ = some (.string z1) := bo.cell 1
  have bo_2 : Y1.cell? ⟨w.heap.size + 1 + 1, 2, none⟩ = some (.slice D2 z2.length d2) := bo.cell 2
  have bo_3 : Y1.cell? ⟨w.heap.size + 1 + 1, 3, none⟩ = some (.slice none 0 0) := bo.cell 3
  have bo_l := bo.lt
  have bo_f := fun i => bo.frozen i
  go_wp2_with fail
  skip
  refine bodyPost_ret (v := .agg #[.string z0, .string z1, .slice D2 z2.length d2, .slice D3 z3.length d3]) (by simp [results, Tryz.results36, go_sem, br_0, br_1, br_2, br_3, bo_0, bo_1, bo_2, bo_3, br_l, br_f, bo_l, bo_f]) rfl ⟨_, rfl, ?_, ?_⟩
  · refine OwnI.wide (lo := X0.heap.size) (hi := Y1.heap.size) ?_ (by omega) (by simp)
    repeat (refine OwnI.set ?_ (.inl (by simp; omega)) _)
    exact (OwnI.consv (OwnI.consv (OwnI.app (m := Y0.heap.size) (hi := Y1.heap.size) o2 (OwnI.wide (lo' := Y0.heap.size) (hi' := Y1.heap.size) (OwnI.app (m := Y1.heap.size) (hi := Y1.heap.size) o3 (OwnI.wide (lo' := Y1.heap.size) (hi' := Y1.heap.size) (OwnI.nil _ Y1.heap.size Y1.heap.size) (by omega) (by omega)) (Nat.le_refl _) (by omega) (by omega)) (by omega) (by omega)) (Nat.le_refl _) (by omega) (by omega)) _) _)
  · repeat (refine Below.setCell ?_ (by simp; try omega) _)
    exact hB
theorem infoClass : (Tryz.prog.info? 40).map (fun i => (i.zero.map Value.cells, i.size, i.bytes)) = some (some #[.string ByteArray.empty, .string ByteArray.empty, .slice none 0 0, .slice none 0 0], 4, 80) := by kernel_rfl
set_option maxHeartbeats 1000000 in
theorem toClassS_of (l : List FClass) (hl : l.length ≤ 1048576) (he : ∀ x, x ∈ l → ToClass x) : ToClassS l := by
  intro u w B hB0 hr0
  have hr := hr0.up hB0
  clear hr0
  obtain ⟨A, c, rfl⟩ := hr.form
  have HC := Lib.hid hr
  have hcap := hr.cap
  have hn : l.length ≤ 9223372036854775807 := by omega
  have hmk := fun W => make_law (P := Tryz.prog) 29 40 _ 4 80 Tryz.underlying29 infoClass l.length (by omega) hn W
  have HE := Lib.hid he
  clear he
  clear hr hcap
  go_enter Tryz.func18, Tryz.ntmps18
  go_wp2
  go_loopw [4] (fun i wr => ∃ k : Nat, k ≤ l.length ∧ i = .int .i64 k ∧ (∃ us zs, us.length = k * 4 ∧ zs.length = (l.length - k) * 4 ∧ wr.ownsRow w.heap.size 40 4 (.slice (some ⟨w.heap.size, 0, none⟩) l.length l.length) l.length (us ++ zs) ∧ OwnI wr (w.heap.size + 1) wr.heap.size (FClass.flat (l.take k)) us) ∧ Below w.heap.size w wr) (fun i _ => l.length - (intOf i).toNat)
  case atStart => exact ⟨0, Nat.zero_le _, rfl, ⟨[], madeL #[.string ByteArray.empty, .string ByteArray.empty, .slice none 0 0, .slice none 0 0] (l.length * 4), by simp, by simp [madeL, size_madeCells], own_madeL w _ l.length 4 _ rfl (by omega) (by unfold maxLen; omega), OwnI.nil _ _ _⟩, (Below.refl _ _).alloc (Nat.le_refl _) _⟩
  case round =>
    obtain ⟨k, hk, rfl, ⟨us, zs, hus, hzs, hrow, hown⟩, hb⟩ := hrel
    have HROW := Lib.hid hrow
    have HOWN := Lib.hid hown
    have HUS := Lib.hid hus
    have HZS := Lib.hid hzs
    have hsz : w.heap.size < wr.heap.size := (hrow.lt _ rfl).2
    clear hmk hrow hown hus hzs
    by_cases hlt : k < l.length
    · obtain ⟨x, hx⟩ : ∃ x, l[k]? = some x := ⟨_, List.getElem?_eq_getElem hlt⟩
      obtain ⟨bc, offc, rfl, hblc, hcc⟩ := RdC.at_ FClass.len HC.out hx
      obtain ⟨z0, z1, z2, z3⟩ := x
      rw [FClass.c_eq] at hcc
      obtain ⟨u0, e0, q0⟩ := hcc 0 _ rfl
      obtain rfl := q0.val
      clear q0
      have c_0 : wr.cell? ⟨bc, offc + k * 4, none⟩ = some (.string z0) := (hb.cell (p := ⟨bc, _, none⟩) hblc).trans (by simpa using e0)
      obtain ⟨u1, e1, q1⟩ := hcc 1 _ rfl
      obtain rfl := q1.val
      clear q1
      have c_1 : wr.cell? ⟨bc, offc + k * 4 + 1, none⟩ = some (.string z1) := (hb.cell (p := ⟨bc, _, none⟩) hblc).trans (by simpa using e1)
      obtain ⟨u2, e2, q2⟩ := hcc 2 _ rfl
      obtain ⟨A2, c2, rfl⟩ := q2.form
      have Q2 := Lib.hid q2
      clear q2
      have c_2 : wr.cell? ⟨bc, offc + k * 4 + 2, none⟩ = some (.slice A2 z2.length c2) := (hb.cell (p := ⟨bc, _, none⟩) hblc).trans (by simpa using e2)
      obtain ⟨u3, e3, q3⟩ := hcc 3 _ rfl
      obtain ⟨A3, c3, rfl⟩ := q3.form
      have Q3 := Lib.hid q3
      clear q3
      have c_3 : wr.cell? ⟨bc, offc + k * 4 + 3, none⟩ = some (.slice A3 z3.length c3) := (hb.cell (p := ⟨bc, _, none⟩) hblc).trans (by simpa using e3)
      obtain ⟨g1, f1, hrow1⟩ := own_rowf HROW.out
      have HX := Lib.hid hx
      clear hcc hx e0 e1 e2 e3
      have HT := Lib.hid (HE.out _ (List.mem_of_getElem? HX.out))
      have HV := Lib.hid (show RdVs wr w.heap.size (FClass.c ⟨z0, z1, z2, z3⟩) [.string z0, .string z1, .slice A2 z2.length c2, .slice A3 z3.length c3] from by rw [FClass.c_eq]; exact (RdVs.cons (by unfold RdC; rfl) (RdVs.cons (by unfold RdC; rfl) (RdVs.cons (Q2.out.below hb (Nat.le_refl _)) (RdVs.cons (Q3.out.below hb (Nat.le_refl _)) (RdVs.nil _ _))))))
      go_wp2_with fail
      refine (HT.out _ _ w.heap.size (by omega) HV.out).mono ?_
      rw [FClass.c_eq]
      rintro e w2 ⟨us2, rfl, own2, hb2⟩
      have hv := own2.vs
      obtain ⟨us2_0, rfl, hv_0⟩ := hv.unv
      obtain ⟨us2_1, rfl, hv_1⟩ := hv_0.unv
      obtain ⟨D2, d2, us2_2, rfl, _, hv_2⟩ := hv_1.uns
      obtain ⟨D3, d3, us2_3, rfl, _, hv_3⟩ := hv_2.uns
      obtain rfl := hv_3.un0
      have OWN2 := Lib.hid own2
      have row2 : w2.rowIs w.heap.size 40 (l.length * 4) f1 := hrow1.of_block (hb2.block _ hrow1.lt)
      have ROW2 := Lib.hid (own_below HROW.out hb2 (Nat.le_refl _))
      have hsz2 : wr.heap.size ≤ w2.heap.size := hb2.size
      have hB2 := hb.trans (hb2.mono hb.size)
      have HOWN2 := Lib.hid (HOWN.out.below hb2 (Nat.le_refl _))
      have r0 := row2.cell (i := k * 4) (by omega)
      have f0_ := row2.frozen (k * 4)
      have r1 := row2.cell (i := k * 4 + 1) (by omega)
      have f1_ := row2.frozen (k * 4 + 1)
      have r2 := row2.cell (i := k * 4 + 2) (by omega)
      have f2_ := row2.frozen (k * 4 + 2)
      have r3 := row2.cell (i := k * 4 + 3) (by omega)
      have f3_ := row2.frozen (k * 4 + 3)
      clear own2 row2 hrow1 c_0 c_1 c_2 c_3
      go_wp2_with fail
      go_roundw
      case rel =>
        have hflat : FClass.flat (l.take (k + 1)) = FClass.flat (l.take k) ++ [.v (.string z0), .v (.string z1), .s 45 8 z2.length (FField.flat z2), .s 57 5 z3.length (FMethod.flat z3)] := by
          rw [List.take_add_one, HX.out]
          simp [FClass.c_eq]
        have hset := sets_app [.string z0, .string z1, .slice D2 z2.length d2, .slice D3 z3.length d3] us zs (k * 4) HUS.out (by rw [HZS.out]; simp; omega)
        refine ⟨k + 1, by omega, by go_num, ⟨us ++ [.string z0, .string z1, .slice D2 z2.length d2, .slice D3 z3.length d3], zs.drop 4, by simp [HUS.out]; try omega, by rw [List.length_drop, HZS.out]; omega, ?_, ?_⟩, ((((hB2.setCell (by simp) _).setCell (by simp) _).setCell (by simp) _).setCell (by simp) _)⟩
        · have hfin := (own_setC (own_setC (own_setC (own_setC ROW2.out (i := k * 4) (by omega) (.string z0)) (i := k * 4 + 1) (by omega) (.string z1)) (i := k * 4 + 2) (by omega) (.slice D2 z2.length d2)) (i := k * 4 + 3) (by omega) (.slice D3 z3.length d3))
          rw [show us ++ [.string z0, .string z1, .slice D2 z2.length d2, .slice D3 z3.length d3] ++ zs.drop 4 = _ from hset.symm]
          simpa [sets] using hfin
        · rw [hflat]
          have hfin := (OwnI.set (OwnI.set (OwnI.set (OwnI.set (OwnI.app (m := wr.heap.size) (lo' := wr.heap.size) (hi := w2.heap.size) HOWN2.out OWN2.out (Nat.le_refl _) (by omega) (by omega)) (p := ⟨w.heap.size, k * 4, none⟩) (.inl (by simp)) (.string z0)) (p := ⟨w.heap.size, k * 4 + 1, none⟩) (.inl (by simp)) (.string z1)) (p := ⟨w.heap.size, k * 4 + 2, none⟩) (.inl (by simp)) (.slice D2 z2.length d2)) (p := ⟨w.heap.size, k * 4 + 3, none⟩) (.inl (by simp)) (.slice D3 z3.length d3))
          exact hfin.wide (Nat.le_refl _) (by simp)
      case measure => simp [intOf]; omega
    · obtain rfl : k = l.length := by omega
      clear hlt
      go_wp2_with fail
      go_ret
      have hz0 : zs = [] := List.eq_nil_of_length_eq_zero (by rw [HZS.out]; simp)
      have hr1 := HROW.out
      have ho1 := HOWN.out
      rw [hz0, List.append_nil] at hr1
      rw [List.take_length] at ho1
      exact ⟨_, _, rfl, OwnI.mk hr1 ho1 (fun g hg => by have : w.heap.size = g := by simpa [Value.ownBlock] using hg
                                                        omega) (by omega) (Nat.le_refl _), hb⟩
theorem toClass_any (x : FClass) (hw : x.wt ≤ 1048576) : ToClass x := by
  obtain ⟨z0, z1, z2, z3⟩ := x
  exact toClass_of z0 z1 z2 z3 (toFieldS_any z2 (by rw [FClass.wt_eq] at hw; omega)) (toMethodS_any z3 (by rw [FClass.wt_eq] at hw; omega))
theorem toClassS_any (l : List FClass) (hw : l.length + FClass.wts l ≤ 1048576) : ToClassS l := (toClassS_of l (by omega) (fun x hx => toClass_any x (by have := FClass.wts_at l x hx; omega)))
def ToProgram (x : FProgram) : Prop := ∀ (us : List Value) (w : World) (B : Nat), B ≤ w.heap.size → RdVs w B x.c us → Calls Tryz.prog 6 #[.agg us.toArray] w fun e w' => ∃ us', e = .returned (.agg us'.toArray) ∧ OwnI w' w.heap.size w'.heap.size x.c us' ∧ Below w.heap.size w w'
set_option maxHeartbeats 1000000 in
theorem toProgram_of (z0 : List FFunc) (z1 : List FClass) (h0 : ToFuncS z0) (h1 : ToClassS z1) : ToProgram ⟨z0, z1⟩ := by
  intro us w B hB0 hr
  rw [FProgram.c_eq] at hr ⊢
  obtain ⟨A0, c0, us0, rfl, r0, hr_0⟩ := hr.uns
  obtain ⟨A1, c1, us1, rfl, r1, hr_1⟩ := hr_0.uns
  obtain rfl := hr_1.un0
  have R0 := Lib.hid r0
  clear r0
  have R1 := Lib.hid r1
  clear r1
  have H0 := Lib.hid h0
  clear h0
  have H1 := Lib.hid h1
  clear h1
  go_enter Tryz.func6, Tryz.ntmps6
  go_wp2_with fail
  refine calls_worldD _ (fun X => Blk X (w.heap.size) 25 #[.slice A0 z0.length c0, .slice A1 z1.length c1] ∧ Blk X (w.heap.size + 1) 31 #[.slice none 0 0, .slice none 0 0] ∧ Blk X (w.heap.size + 1 + 1) 31 #[.slice none 0 0, .slice none 0 0] ∧ Below w.heap.size w X) ⟨((Blk.new w _ _).alloc _).alloc _, (Blk.new' (w.alloc _) _ _ _ (by simp)).alloc _, Blk.new' ((w.alloc _).alloc _) _ _ _ (by simp), ((((Below.refl _ _).alloc (Nat.le_refl _) _).alloc (by simp) _).alloc (by simp; omega) _)⟩ ?_
  rintro X0 ⟨ba, br, bo, hB⟩
  have s0 := bo.lt
  refine (H0.out _ _ B (by omega) (R0.out.below hB hB0)).mono ?_
  rintro e Y0 ⟨D0, d0, rfl, own, hb⟩
  have o0 := own
  clear own
  replace ba := ba.below hb (Nat.le_refl _)
  replace br := br.below hb (Nat.le_refl _)
  replace bo := bo.below hb (Nat.le_refl _)
  replace hB := hB.trans (hb.mono (by omega))
  have t0 : X0.heap.size ≤ Y0.heap.size := hb.size
  clear hb
  have ba_1 : Y0.cell? ⟨w.heap.size, 1, none⟩ = some (.slice A1 z1.length c1) := ba.cell 1
  have ba_l := ba.lt
  have ba_f := fun i => ba.frozen i
  have bo_0 : Y0.cell? ⟨w.heap.size + 1 + 1, 0, none⟩ = some (.slice none 0 0) := bo.cell 0
  have bo_l := bo.lt
  have bo_f := fun i => bo.frozen i
  go_wp2_with fail
  clear ba_1 ba_l ba_f
  clear bo_0 bo_l bo_f
  refine calls_worldD _ (fun X => Blk X (w.heap.size) 25 #[.slice A0 z0.length c0, .slice A1 z1.length c1] ∧ Blk X (w.heap.size + 1) 31 #[.slice none 0 0, .slice none 0 0] ∧ Blk X (w.heap.size + 1 + 1) 31 #[.slice D0 z0.length d0, .slice none 0 0] ∧ OwnI X X0.heap.size Y0.heap.size [.s 51 6 z0.length (FFunc.flat z0)] [.slice D0 z0.length d0] ∧ Below w.heap.size w X ∧ Y0.heap.size ≤ X.heap.size) ⟨(ba.far (by simp; try omega) _), (br.far (by simp; try omega) _), (by simpa using (bo.set_ 0 _)), (o0.set (.inl (by simp; omega)) _), (hB.setCell (by simp; try omega) _), (by simp)⟩ ?_
  clear ba br bo hB o0
  rintro X1 ⟨ba, br, bo, o0, hB, y1⟩
  have s1 := bo.lt
  refine (H1.out _ _ B (by omega) (R1.out.below hB hB0)).mono ?_
  rintro e Y1 ⟨D1, d1, rfl, own, hb⟩
  have o1 := own
  clear own
  replace ba := ba.below hb (Nat.le_refl _)
  replace br := br.below hb (Nat.le_refl _)
  replace bo := bo.below hb (Nat.le_refl _)
  replace o0 := o0.below hb (Nat.le_refl _)
  replace hB := hB.trans (hb.mono (by omega))
  have t1 : X1.heap.size ≤ Y1.heap.size := hb.size
  clear hb
  have ba_l := ba.lt
  have ba_f := fun i => ba.frozen i
  have br_0 : Y1.cell? ⟨w.heap.size + 1, 0, none⟩ = some (.slice none 0 0) := br.cell 0
  have br_1 : Y1.cell? ⟨w.heap.size + 1, 1, none⟩ = some (.slice none 0 0) := br.cell 1
  have br_l := br.lt
  have br_f := fun i => br.frozen i
  have bo_0 : Y1.cell? ⟨w.heap.size + 1 + 1, 0, none⟩ = some (.slice D0 z0.length d0) := bo.cell 0
  have bo_1 : Y1.cell? ⟨w.heap.size + 1 + 1, 1, none⟩ = some (.slice none 0 0) := bo.cell 1
  have bo_l := bo.lt
  have bo_f := fun i => bo.frozen i
  go_wp2_with fail
  skip
  refine bodyPost_ret (v := .agg #[.slice D0 z0.length d0, .slice D1 z1.length d1]) (by simp [results, Tryz.results6, go_sem, br_0, br_1, bo_0, bo_1, br_l, br_f, bo_l, bo_f]) rfl ⟨_, rfl, ?_, ?_⟩
  · refine OwnI.wide (lo := X0.heap.size) (hi := Y1.heap.size) ?_ (by omega) (by simp)
    repeat (refine OwnI.set ?_ (.inl (by simp; omega)) _)
    exact (OwnI.app (m := Y0.heap.size) (hi := Y1.heap.size) o0 (OwnI.wide (lo' := Y0.heap.size) (hi' := Y1.heap.size) (OwnI.app (m := Y1.heap.size) (hi := Y1.heap.size) o1 (OwnI.wide (lo' := Y1.heap.size) (hi' := Y1.heap.size) (OwnI.nil _ Y1.heap.size Y1.heap.size) (by omega) (by omega)) (Nat.le_refl _) (by omega) (by omega)) (by omega) (by omega)) (Nat.le_refl _) (by omega) (by omega))
  · repeat (refine Below.setCell ?_ (by simp; try omega) _)
    exact hB
theorem toProgram_any (x : FProgram) (hw : x.wt ≤ 1048576) : ToProgram x := by
  obtain ⟨z0, z1⟩ := x
  exact toProgram_of z0 z1 (toFuncS_any z0 (by rw [FProgram.wt_eq] at hw; omega)) (toClassS_any z1 (by rw [FProgram.wt_eq] at hw; omega))
end Go.Proofs.YtdmbhmhfjappcaaGreatDoor
