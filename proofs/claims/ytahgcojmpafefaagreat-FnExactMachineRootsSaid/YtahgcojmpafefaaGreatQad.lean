/-
  Parts of the proof: ToM. Conditions: none.
-/
import Derived.Test.YtahgcojmpafefaaGreatQab
import Derived.Test.YtahgcojmpafefaaGreatQac
import Derived.Test.YtahgcojmpafefaaGreatQaa
set_option linter.unusedVariables false
set_option linter.unusedSimpArgs false
namespace Go.Proofs.YtahgcojmpafefaaGreat
set_option maxHeartbeats 40000000
open Lib (hid)
open Go.ChangeShapes Go.WideShapes Go.ChangeAt Go.RowKit Go.Deep Go.Joins
open Go.ChangeMaps (open_string shut_string)
set_option maxRecDepth 100000

/-- What make lays, as a list of values. -/
def madeL (z : Array Value) (n : Nat) : List Value := (madeCells z n).toList
theorem own_madeL (w : World) (z : Array Value) (n k : Nat) (t : TypeId) (hz : z.size = k) (hk : 0 < k) (hn : n ≤ maxLen) : (w.alloc (.cells (madeCells z (n * k)) t)).ownsRow w.heap.size t k (.slice (some ⟨w.heap.size, 0, none⟩) n n) n ([] ++ madeL z (n * k)) := by
  rw [List.nil_append]
  have hsz : (madeCells z (n * k)).size = n * k := by simp [madeCells]
  refine ⟨by simp [madeL, hsz], .inr ⟨w.heap.size, n, madeCells z (n * k), rfl, Nat.le_refl _, heap_alloc_new w _, Nat.le_refl _, hn, hsz, ?_⟩⟩
  unfold madeL
  rw [List.take_of_length_le (by simp [hsz])]
theorem own_rowf {w : World} {base k n c g : Nat} {e : TypeId} {xs : List Value} (h : w.ownsRow base e k (.slice (some ⟨g, 0, none⟩) n c) n xs) : ∃ (g1 : Nat) (f : Nat → Value), w.rowIs g e (c * k) f := by
  rcases own_row h with ⟨hv, _⟩ | ⟨g1, cap, f, hv, _, _, _, hrow, _⟩
  · cases hv
  · simp only [Value.slice.injEq, Option.some.injEq, Addr.mk.injEq, true_and, and_true] at hv
    obtain ⟨rfl, rfl⟩ := hv
    exact ⟨g, f, hrow⟩
def ToIntS (l : List FInt) : Prop := ∀ (u : Value) (w : World) (B : Nat), B ≤ w.heap.size → RdC w B (.s 3 1 l.length (FInt.flat l)) u → Calls Tryz.prog 101 #[u] w fun e w' => ∃ A c, e = .returned (.slice A l.length c) ∧ OwnI w' w.heap.size w'.heap.size [.s 3 1 l.length (FInt.flat l)] [.slice A l.length c] ∧ Below w.heap.size w w'
theorem infoInt : (Tryz.prog.info? 3).map (fun i => (i.zero.map Value.cells, i.size, i.bytes)) = some (some #[.int .i64 0], 1, 8) := by kernel_rfl
theorem toIntS_of (l : List FInt) (hl : l.length ≤ 1048576) : ToIntS l := by
  intro u w B hB0 hr0
  have hr := hr0.up hB0
  clear hr0
  obtain ⟨A, c, rfl⟩ := hr.form
  have HC := hid hr
  have hcap := hr.cap
  have hn : l.length ≤ 9223372036854775807 := by omega
  have hmk := fun W => make_law (P := Tryz.prog) 86 3 _ 1 8 Tryz.underlying86 infoInt l.length (by omega) hn W
  clear hr hcap
  go_enter Tryz.func101, Tryz.ntmps101
  go_wp2
  go_loopw [4] (fun i wr => ∃ k : Nat, k ≤ l.length ∧ i = .int .i64 k ∧ (∃ us zs, us.length = k * 1 ∧ zs.length = (l.length - k) * 1 ∧ wr.ownsRow w.heap.size 3 1 (.slice (some ⟨w.heap.size, 0, none⟩) l.length l.length) l.length (us ++ zs) ∧ OwnI wr (w.heap.size + 1) wr.heap.size (FInt.flat (l.take k)) us) ∧ Below w.heap.size w wr) (fun i _ => l.length - (intOf i).toNat)
  case atStart => exact ⟨0, Nat.zero_le _, rfl, ⟨[], madeL #[.int .i64 0] (l.length), by simp, by simp [madeL, size_madeCells], (by simpa using own_madeL w #[.int .i64 0] l.length 1 3 rfl (by omega) (by unfold maxLen; omega)), OwnI.nil _ _ _⟩, (Below.refl _ _).alloc (Nat.le_refl _) _⟩
  case round =>
    obtain ⟨k, hk, rfl, ⟨us, zs, hus, hzs, hrow, hown⟩, hb⟩ := hrel
    have HROW := hid hrow
    have HOWN := hid hown
    have HUS := hid hus
    have HZS := hid hzs
    have hsz : w.heap.size < wr.heap.size := (hrow.lt _ rfl).2
    clear hmk hrow hown hus hzs
    by_cases hlt : k < l.length
    · obtain ⟨x, hx⟩ : ∃ x, l[k]? = some x := ⟨_, List.getElem?_eq_getElem hlt⟩
      obtain ⟨bc, offc, rfl, hblc, hcc⟩ := RdC.at_ FInt.len HC.out hx
      obtain ⟨z0⟩ := x
      rw [FInt.c_eq] at hcc
      obtain ⟨u0, e0, q0⟩ := hcc 0 _ rfl
      obtain rfl := q0.val
      clear q0
      have c_0 : wr.cell? ⟨bc, offc + k, none⟩ = some (.int .i64 z0) := (hb.cell (p := ⟨bc, _, none⟩) hblc).trans (by simpa using e0)
      obtain ⟨g1, f1, hrow1⟩ := own_rowf HROW.out
      have HX := hid hx
      clear hcc hx e0
      have q0 := hrow1.cell (i := k) (by omega)
      have z0_ := hrow1.frozen (k)
      go_wp2_with fail
      go_roundw
      case rel =>
        have hflat : FInt.flat (l.take (k + 1)) = FInt.flat (l.take k) ++ [.v (.int .i64 z0)] := by
          rw [List.take_add_one, HX.out]
          simp [FInt.c_eq]
        have hset := sets_app [.int .i64 z0] us zs (k * 1) HUS.out (by rw [HZS.out]; simp; omega)
        refine ⟨k + 1, by omega, by go_num, ⟨us ++ [.int .i64 z0], zs.drop 1, by simp [HUS.out]; try omega, by rw [List.length_drop, HZS.out]; omega, ?_, ?_⟩, (hb.setCell (by simp) _)⟩
        · have hfin := (own_setC HROW.out (i := k) (by omega) (.int .i64 z0))
          rw [show us ++ [.int .i64 z0] ++ zs.drop 1 = _ from hset.symm]
          simpa [sets] using hfin
        · rw [hflat]
          have hfin := (OwnI.set (OwnI.app (m := wr.heap.size) (lo' := wr.heap.size) (hi := wr.heap.size) HOWN.out (OwnI.consv (OwnI.nil _ _ _) (.int .i64 z0)) (Nat.le_refl _) (by omega) (Nat.le_refl _)) (p := ⟨w.heap.size, k, none⟩) (.inl (by simp)) (.int .i64 z0))
          exact hfin.wide (Nat.le_refl _) (by simp)
      case measure => simp [intOf]; omega
    · obtain rfl : k = l.length := by omega
      clear hlt
      go_wp2_with fail
      go_ret
      have hz0 : zs = [] := List.eq_nil_of_length_eq_zero (by rw [HZS.out]; simp)
      have hr1 := HROW.out
      have ho1 := HOWN.out
      rw [hz0, List.append_nil] at hr1
      rw [List.take_length] at ho1
      exact ⟨_, _, rfl, OwnI.mk hr1 ho1 (fun g hg => by have : w.heap.size = g := by simpa [Value.ownBlock] using hg
                                                        omega) (by omega) (Nat.le_refl _), hb⟩
theorem toIntS_any (l : List FInt) (hw : l.length + FInt.wts l ≤ 1048576) : ToIntS l := (toIntS_of l (by omega))
def ToKey (x : FKey) : Prop := ∀ (us : List Value) (w : World) (B : Nat), B ≤ w.heap.size → RdVs w B x.c us → Calls Tryz.prog 139 #[.agg us.toArray] w fun e w' => ∃ us', e = .returned (.agg us'.toArray) ∧ OwnI w' w.heap.size w'.heap.size x.c us' ∧ Below w.heap.size w w'
theorem toKey_of (z0 : Bool) (z1 : Int) (z2 : ByteArray)  : ToKey ⟨z0, z1, z2⟩ := by
  intro us w B hB0 hr
  rw [FKey.c_eq] at hr ⊢
  obtain ⟨us0, rfl, hr_0⟩ := hr.unv
  obtain ⟨us1, rfl, hr_1⟩ := hr_0.unv
  obtain ⟨us2, rfl, hr_2⟩ := hr_1.unv
  obtain rfl := hr_2.un0
  go_enter Tryz.func139, Tryz.ntmps139
  go_wp2_with fail
  exact bodyPost_ret (v := .agg #[.bool z0, .int .i64 z1, .string z2]) (by simp [results, Tryz.results139, go_sem]) rfl ⟨_, rfl, (OwnI.consv (OwnI.consv (OwnI.consv (OwnI.nil _ _ _) _) _) _), by repeat (first | exact Below.refl _ _ | (refine Below.alloc ?_ (by simp; try omega) _) | (refine Below.setCell ?_ (by simp) _))⟩
theorem toKey_any (x : FKey) (hw : x.wt ≤ 1048576) : ToKey x := by
  obtain ⟨z0, z1, z2⟩ := x
  exact toKey_of z0 z1 z2 
def ToEntry (x : FEntry) : Prop := ∀ (us : List Value) (w : World) (B : Nat), B ≤ w.heap.size → RdVs w B x.c us → Calls Tryz.prog 124 #[.agg us.toArray] w fun e w' => ∃ us', e = .returned (.agg us'.toArray) ∧ OwnI w' w.heap.size w'.heap.size x.c us' ∧ Below w.heap.size w w'
def ToEntryS (l : List FEntry) : Prop := ∀ (u : Value) (w : World) (B : Nat), B ≤ w.heap.size → RdC w B (.s 153 8 l.length (FEntry.flat l)) u → Calls Tryz.prog 98 #[u] w fun e w' => ∃ A c, e = .returned (.slice A l.length c) ∧ OwnI w' w.heap.size w'.heap.size [.s 153 8 l.length (FEntry.flat l)] [.slice A l.length c] ∧ Below w.heap.size w w'
def ToValue (x : FValue) : Prop := ∀ (us : List Value) (w : World) (B : Nat), B ≤ w.heap.size → RdVs w B x.c us → Calls Tryz.prog 63 #[.agg us.toArray] w fun e w' => ∃ us', e = .returned (.agg us'.toArray) ∧ OwnI w' w.heap.size w'.heap.size x.c us' ∧ Below w.heap.size w w'
def ToValueS (l : List FValue) : Prop := ∀ (u : Value) (w : World) (B : Nat), B ≤ w.heap.size → RdC w B (.s 82 5 l.length (FValue.flat l)) u → Calls Tryz.prog 23 #[u] w fun e w' => ∃ A c, e = .returned (.slice A l.length c) ∧ OwnI w' w.heap.size w'.heap.size [.s 82 5 l.length (FValue.flat l)] [.slice A l.length c] ∧ Below w.heap.size w w'
theorem toEntry_of (z0 : Bool) (z1 : Int) (z2 : ByteArray) (z3 : Int) (z4 : Int) (z5 : ByteArray) (z6 : Int) (z7 : List FEntry) (h0 : ToKey ⟨z0, z1, z2⟩) (h3 : ToValue ⟨z3, z4, z5, z6, z7⟩) : ToEntry ⟨⟨z0, z1, z2⟩, ⟨z3, z4, z5, z6, z7⟩⟩ := by
  intro us w B hB0 hr
  rw [FEntry.c_eq] at hr ⊢
  obtain ⟨us0, rfl, hr_0⟩ := hr.unv
  obtain ⟨us1, rfl, hr_1⟩ := hr_0.unv
  obtain ⟨us2, rfl, hr_2⟩ := hr_1.unv
  obtain ⟨us3, rfl, hr_3⟩ := hr_2.unv
  obtain ⟨us4, rfl, hr_4⟩ := hr_3.unv
  obtain ⟨us5, rfl, hr_5⟩ := hr_4.unv
  obtain ⟨us6, rfl, hr_6⟩ := hr_5.unv
  obtain ⟨A7, c7, us7, rfl, r7, hr_7⟩ := hr_6.uns
  obtain rfl := hr_7.un0
  have R7 := hid r7
  clear r7
  have H0 := hid h0
  clear h0
  have H3 := hid h3
  clear h3
  go_enter Tryz.func124, Tryz.ntmps124
  go_wp2_with fail
  refine calls_worldD _ (fun X => Blk X (w.heap.size) 228 #[.bool z0, .int .i64 z1, .string z2, .int .i64 z3, .int .i64 z4, .string z5, .int .i64 z6, .slice A7 z7.length c7] ∧ Blk X (w.heap.size + 1) 153 #[.bool false, .int .i64 0, .string ⟨#[]⟩, .int .i64 0, .int .i64 0, .string ⟨#[]⟩, .int .i64 0, .slice none 0 0] ∧ Blk X (w.heap.size + 1 + 1) 153 #[.bool false, .int .i64 0, .string ⟨#[]⟩, .int .i64 0, .int .i64 0, .string ⟨#[]⟩, .int .i64 0, .slice none 0 0] ∧ Below w.heap.size w X) ⟨((Blk.new w _ _).alloc _).alloc _, (Blk.new' (w.alloc _) _ _ _ (by simp)).alloc _, Blk.new' ((w.alloc _).alloc _) _ _ _ (by simp), ((((Below.refl _ _).alloc (Nat.le_refl _) _).alloc (by simp) _).alloc (by simp; omega) _)⟩ ?_
  rintro X0 ⟨ba, br, bo, hB⟩
  have s0 := bo.lt
  refine (H0.out [.bool z0, .int .i64 z1, .string z2] _ B (by omega) (by rw [FKey.c_eq]; exact (RdVs.cons (by unfold RdC; rfl) (RdVs.cons (by unfold RdC; rfl) (RdVs.cons (by unfold RdC; rfl) (RdVs.nil _ _)))))).mono ?_
  rw [FKey.c_eq]
  rintro e Y0 ⟨us_, rfl, own, hb⟩
  have hv := own.vs
  obtain ⟨us_0, rfl, hv_0⟩ := hv.unv
  obtain ⟨us_1, rfl, hv_1⟩ := hv_0.unv
  obtain ⟨us_2, rfl, hv_2⟩ := hv_1.unv
  obtain rfl := hv_2.un0
  have o0 := own
  clear own
  replace ba := ba.below hb (Nat.le_refl _)
  replace br := br.below hb (Nat.le_refl _)
  replace bo := bo.below hb (Nat.le_refl _)
  replace hB := hB.trans (hb.mono (by omega))
  have t0 : X0.heap.size ≤ Y0.heap.size := hb.size
  clear hb
  have ba_3 : Y0.cell? ⟨w.heap.size, 3, none⟩ = some (.int .i64 z3) := ba.cell 3
  have ba_4 : Y0.cell? ⟨w.heap.size, 4, none⟩ = some (.int .i64 z4) := ba.cell 4
  have ba_5 : Y0.cell? ⟨w.heap.size, 5, none⟩ = some (.string z5) := ba.cell 5
  have ba_6 : Y0.cell? ⟨w.heap.size, 6, none⟩ = some (.int .i64 z6) := ba.cell 6
  have ba_7 : Y0.cell? ⟨w.heap.size, 7, none⟩ = some (.slice A7 z7.length c7) := ba.cell 7
  have ba_l := ba.lt
  have ba_f := fun i => ba.frozen i
  have bo_0 : Y0.cell? ⟨w.heap.size + 1 + 1, 0, none⟩ = some (.bool false) := bo.cell 0
  have bo_1 : Y0.cell? ⟨w.heap.size + 1 + 1, 1, none⟩ = some (.int .i64 0) := bo.cell 1
  have bo_2 : Y0.cell? ⟨w.heap.size + 1 + 1, 2, none⟩ = some (.string ⟨#[]⟩) := bo.cell 2
  have bo_l := bo.lt
  have bo_f := fun i => bo.frozen i
  go_wp2_with fail
  clear ba_3 ba_4 ba_5 ba_6 ba_7 ba_l ba_f
  clear bo_0 bo_1 bo_2 bo_l bo_f
  refine calls_worldD _ (fun X => Blk X (w.heap.size) 228 #[.bool z0, .int .i64 z1, .string z2, .int .i64 z3, .int .i64 z4, .string z5, .int .i64 z6, .slice A7 z7.length c7] ∧ Blk X (w.heap.size + 1) 153 #[.bool false, .int .i64 0, .string ⟨#[]⟩, .int .i64 0, .int .i64 0, .string ⟨#[]⟩, .int .i64 0, .slice none 0 0] ∧ Blk X (w.heap.size + 1 + 1) 153 #[.bool z0, .int .i64 z1, .string z2, .int .i64 0, .int .i64 0, .string ⟨#[]⟩, .int .i64 0, .slice none 0 0] ∧ OwnI X X0.heap.size Y0.heap.size [.v (.bool z0), .v (.int .i64 z1), .v (.string z2)] [.bool z0, .int .i64 z1, .string z2] ∧ Below w.heap.size w X ∧ Y0.heap.size ≤ X.heap.size) ⟨(((ba.far (by simp; try omega) _).far (by simp; try omega) _).far (by simp; try omega) _), (((br.far (by simp; try omega) _).far (by simp; try omega) _).far (by simp; try omega) _), (by simpa using (((bo.set_ 0 _).set_ 1 _).set_ 2 _)), (((o0.set (.inl (by simp; omega)) _).set (.inl (by simp; omega)) _).set (.inl (by simp; omega)) _), (((hB.setCell (by simp; try omega) _).setCell (by simp; try omega) _).setCell (by simp; try omega) _), (by simp)⟩ ?_
  clear ba br bo hB o0
  rintro X1 ⟨ba, br, bo, o0, hB, y1⟩
  have s1 := bo.lt
  refine (H3.out [.int .i64 z3, .int .i64 z4, .string z5, .int .i64 z6, .slice A7 z7.length c7] _ B (by omega) (by rw [FValue.c_eq]; exact (RdVs.cons (by unfold RdC; rfl) (RdVs.cons (by unfold RdC; rfl) (RdVs.cons (by unfold RdC; rfl) (RdVs.cons (by unfold RdC; rfl) (RdVs.cons (R7.out.below hB hB0) (RdVs.nil _ _)))))))).mono ?_
  rw [FValue.c_eq]
  rintro e Y1 ⟨us_, rfl, own, hb⟩
  have hv := own.vs
  obtain ⟨us_3, rfl, hv_0⟩ := hv.unv
  obtain ⟨us_4, rfl, hv_1⟩ := hv_0.unv
  obtain ⟨us_5, rfl, hv_2⟩ := hv_1.unv
  obtain ⟨us_6, rfl, hv_3⟩ := hv_2.unv
  obtain ⟨D7, d7, us_7, rfl, _, hv_4⟩ := hv_3.uns
  obtain rfl := hv_4.un0
  have o3 := own
  clear own
  replace ba := ba.below hb (Nat.le_refl _)
  replace br := br.below hb (Nat.le_refl _)
  replace bo := bo.below hb (Nat.le_refl _)
  replace o0 := o0.below hb (Nat.le_refl _)
  replace hB := hB.trans (hb.mono (by omega))
  have t1 : X1.heap.size ≤ Y1.heap.size := hb.size
  clear hb
  have ba_l := ba.lt
  have ba_f := fun i => ba.frozen i
  have br_0 : Y1.cell? ⟨w.heap.size + 1, 0, none⟩ = some (.bool false) := br.cell 0
  have br_1 : Y1.cell? ⟨w.heap.size + 1, 1, none⟩ = some (.int .i64 0) := br.cell 1
  have br_2 : Y1.cell? ⟨w.heap.size + 1, 2, none⟩ = some (.string ⟨#[]⟩) := br.cell 2
  have br_3 : Y1.cell? ⟨w.heap.size + 1, 3, none⟩ = some (.int .i64 0) := br.cell 3
  have br_4 : Y1.cell? ⟨w.heap.size + 1, 4, none⟩ = some (.int .i64 0) := br.cell 4
  have br_5 : Y1.cell? ⟨w.heap.size + 1, 5, none⟩ = some (.string ⟨#[]⟩) := br.cell 5
  have br_6 : Y1.cell? ⟨w.heap.size + 1, 6, none⟩ = some (.int .i64 0) := br.cell 6
  have br_7 : Y1.cell? ⟨w.heap.size + 1, 7, none⟩ = some (.slice none 0 0) := br.cell 7
  have br_l := br.lt
  have br_f := fun i => br.frozen i
  have bo_0 : Y1.cell? ⟨w.heap.size + 1 + 1, 0, none⟩ = some (.bool z0) := bo.cell 0
  have bo_1 : Y1.cell? ⟨w.heap.size + 1 + 1, 1, none⟩ = some (.int .i64 z1) := bo.cell 1
  have bo_2 : Y1.cell? ⟨w.heap.size + 1 + 1, 2, none⟩ = some (.string z2) := bo.cell 2
  have bo_3 : Y1.cell? ⟨w.heap.size + 1 + 1, 3, none⟩ = some (.int .i64 0) := bo.cell 3
  have bo_4 : Y1.cell? ⟨w.heap.size + 1 + 1, 4, none⟩ = some (.int .i64 0) := bo.cell 4
  have bo_5 : Y1.cell? ⟨w.heap.size + 1 + 1, 5, none⟩ = some (.string ⟨#[]⟩) := bo.cell 5
  have bo_6 : Y1.cell? ⟨w.heap.size + 1 + 1, 6, none⟩ = some (.int .i64 0) := bo.cell 6
  have bo_7 : Y1.cell? ⟨w.heap.size + 1 + 1, 7, none⟩ = some (.slice none 0 0) := bo.cell 7
  have bo_l := bo.lt
  have bo_f := fun i => bo.frozen i
  go_wp2_with fail
  skip
  refine bodyPost_ret (v := .agg #[.bool z0, .int .i64 z1, .string z2, .int .i64 z3, .int .i64 z4, .string z5, .int .i64 z6, .slice D7 z7.length d7]) (by simp [results, Tryz.results124, go_sem, br_0, br_1, br_2, br_3, br_4, br_5, br_6, br_7, bo_0, bo_1, bo_2, bo_3, bo_4, bo_5, bo_6, bo_7, br_l, br_f, bo_l, bo_f]) rfl ⟨_, rfl, ?_, ?_⟩
  · refine OwnI.wide (lo := X0.heap.size) (hi := Y1.heap.size) ?_ (by omega) (by simp)
    repeat (refine OwnI.set ?_ (.inl (by simp; omega)) _)
    exact (OwnI.app (m := Y0.heap.size) (hi := Y1.heap.size) o0 (OwnI.wide (lo' := Y0.heap.size) (hi' := Y1.heap.size) (OwnI.app (m := Y1.heap.size) (hi := Y1.heap.size) o3 (OwnI.wide (lo' := Y1.heap.size) (hi' := Y1.heap.size) (OwnI.nil _ Y1.heap.size Y1.heap.size) (by omega) (by omega)) (Nat.le_refl _) (by omega) (by omega)) (by omega) (by omega)) (Nat.le_refl _) (by omega) (by omega))
  · repeat (refine Below.setCell ?_ (by simp; try omega) _)
    exact hB
theorem oneEntry (x : FEntry) : ∀ y, y ∈ x.c → ∀ u, y = .v u → u.oneCell' = true := by
  obtain ⟨⟨z0, z1, z2⟩, ⟨z3, z4, z5, z6, z7⟩⟩ := x
  rw [FEntry.c_eq]
  intro y hx u hu
  simp only [List.mem_cons, List.not_mem_nil, or_false] at hx
  rcases hx with rfl | rfl | rfl | rfl | rfl | rfl | rfl | rfl <;> (first | (injection hu with hu; subst hu; rfl) | cases hu)
theorem infoEntry : (Tryz.prog.info? 153).map (fun i => (i.zero.map Value.cells, i.size, i.bytes)) = some (some #[.bool false, .int .i64 0, .string ByteArray.empty, .int .i64 0, .int .i64 0, .string ByteArray.empty, .int .i64 0, .slice none 0 0], 8, 96) := by kernel_rfl
theorem toEntryS_of (l : List FEntry) (hl : l.length ≤ 1048576) (he : ∀ x, x ∈ l → ToEntry x) : ToEntryS l := by
  intro u w B hB0 hr0
  have hr := hr0.up hB0
  clear hr0
  obtain ⟨A, c, rfl⟩ := hr.form
  have HC := hid hr
  have hcap := hr.cap
  have hn : l.length ≤ 9223372036854775807 := by omega
  have hmk := fun W => make_law (P := Tryz.prog) 80 153 _ 8 96 Tryz.underlying80 infoEntry l.length (by omega) hn W
  have HE := hid he
  clear he hr hcap
  go_enter Tryz.func98, Tryz.ntmps98
  go_wp2
  go_loopw [4] (fun i wr => ∃ k : Nat, k ≤ l.length ∧ i = .int .i64 k ∧ (∃ us zs, us.length = k * 8 ∧ zs.length = (l.length - k) * 8 ∧ wr.ownsRow w.heap.size 153 8 (.slice (some ⟨w.heap.size, 0, none⟩) l.length l.length) l.length (us ++ zs) ∧ OwnI wr (w.heap.size + 1) wr.heap.size (FEntry.flat (l.take k)) us) ∧ Below w.heap.size w wr) (fun i _ => l.length - (intOf i).toNat)
  case atStart => exact ⟨0, Nat.zero_le _, rfl, ⟨[], madeL #[.bool false, .int .i64 0, .string ByteArray.empty, .int .i64 0, .int .i64 0, .string ByteArray.empty, .int .i64 0, .slice none 0 0] (l.length * 8), by simp, by simp [madeL, size_madeCells], own_madeL w _ l.length 8 _ rfl (by omega) (by unfold maxLen; omega), OwnI.nil _ _ _⟩, (Below.refl _ _).alloc (Nat.le_refl _) _⟩
  case round =>
    obtain ⟨k, hk, rfl, ⟨us, zs, hus, hzs, hrow, hown⟩, hb⟩ := hrel
    have HROW := hid hrow
    have HOWN := hid hown
    have HUS := hid hus
    have HZS := hid hzs
    have hsz : w.heap.size < wr.heap.size := (hrow.lt _ rfl).2
    clear hmk hrow hown hus hzs
    by_cases hlt : k < l.length
    · obtain ⟨x, hx⟩ : ∃ x, l[k]? = some x := ⟨_, List.getElem?_eq_getElem hlt⟩
      obtain ⟨bc, offc, vs, rfl, hblc, hvl, hv, hra⟩ := RdC.elem FEntry.len HC.out hx
      have HX := hid hx
      have HT := hid (HE.out _ (List.mem_of_getElem? hx))
      have HV := hid (hv.on hb (Nat.le_refl _) (Nat.le_refl _))
      have HRA := hid (range_below hra hb hblc)
      have hlt2 : (k : Int) < (l.length : Int) := by omega
      have hk0 : (0 : Int) ≤ (k : Int) := by omega
      have hws := hb.size
      have HB := hid hb
      clear hx hv hra hb
      go_wp2_with (first | (refine wpList_load_elem 228 _ bc (offc + k * 8) vs (.struct (flds Tryz.prog 228)) HRA.out rfl rfl (by kernel_rfl) rfl hvl (by kernel_rfl) rfl ?_) | (go_at_call 124; refine (HT.out vs _ w.heap.size (by omega) HV.out).mono ?_; rintro e w2 ⟨us2, rfl, own2, hb2⟩; have hu2 : us2.length = 8 := own2.vs.1.trans (FEntry.len x); have ON2 := hid (OwnL.onecell _ _ _ own2.choose_spec.1 (oneEntry x)); have OWN2 := hid own2; have ROW2 := hid (own_below HROW.out hb2 (Nat.le_refl _)); have hsz2 : wr.heap.size ≤ w2.heap.size := hb2.size; have HB2 := hid (HB.out.trans (hb2.mono hws)); have HOWN2 := hid (HOWN.out.below hb2 (Nat.le_refl _)); clear own2 hb2) | (refine wpList_store_elem 153 _ _ (k * 8) us2 ROW2.out rfl rfl rfl hu2 (by omega) (by kernel_rfl) ON2.out rfl ?_; intro w3 row3 gr3; have ROW3 := hid row3; have GR3 := hid gr3; have hsz3 := gr3.size; clear row3 gr3))
      go_roundw
      case rel =>
        have hflat : FEntry.flat (l.take (k + 1)) = FEntry.flat (l.take k) ++ x.c := by
          rw [List.take_add_one, HX.out]
          simp
        have hset := sets_app us2 us zs (k * 8) HUS.out (by rw [HZS.out, hu2]; omega)
        refine ⟨k + 1, by omega, by go_num, ⟨us ++ us2, zs.drop 8, by rw [List.length_append, HUS.out, hu2]; omega, by rw [List.length_drop, HZS.out]; omega, ?_, ?_⟩, below_grownB HB2.out GR3.out (by omega) (Nat.le_refl _)⟩
        · have hr3 := ROW3.out
          rw [hset, hu2] at hr3
          exact hr3
        · rw [hflat]
          exact ((OwnI.app (m := wr.heap.size) (lo' := wr.heap.size) (hi := w2.heap.size) HOWN2.out OWN2.out (Nat.le_refl _) (by omega) (by omega)).grownB GR3.out (.inl (by omega))).wide (Nat.le_refl _) hsz3
      case measure => simp [intOf]; omega
    · obtain rfl : k = l.length := by omega
      clear hlt
      go_wp2_with fail
      go_ret
      have hz0 : zs = [] := List.eq_nil_of_length_eq_zero (by rw [HZS.out]; simp)
      have hr1 := HROW.out
      have ho1 := HOWN.out
      rw [hz0, List.append_nil] at hr1
      rw [List.take_length] at ho1
      exact ⟨_, _, rfl, OwnI.mk hr1 ho1 (fun g hg => by
        have e9 : w.heap.size = g := by simpa [Value.ownBlock] using hg
        omega) (by omega) (Nat.le_refl _), hb⟩
theorem toValue_of (z0 : Int) (z1 : Int) (z2 : ByteArray) (z3 : Int) (z4 : List FEntry) (h4 : ToEntryS z4) : ToValue ⟨z0, z1, z2, z3, z4⟩ := by
  intro us w B hB0 hr
  rw [FValue.c_eq] at hr ⊢
  obtain ⟨us0, rfl, hr_0⟩ := hr.unv
  obtain ⟨us1, rfl, hr_1⟩ := hr_0.unv
  obtain ⟨us2, rfl, hr_2⟩ := hr_1.unv
  obtain ⟨us3, rfl, hr_3⟩ := hr_2.unv
  obtain ⟨A4, c4, us4, rfl, r4, hr_4⟩ := hr_3.uns
  obtain rfl := hr_4.un0
  have R4 := hid r4
  clear r4
  have H4 := hid h4
  clear h4
  go_enter Tryz.func63, Tryz.ntmps63
  go_wp2_with fail
  refine calls_worldD _ (fun X => Blk X (w.heap.size) 115 #[.int .i64 z0, .int .i64 z1, .string z2, .int .i64 z3, .slice A4 z4.length c4] ∧ Blk X (w.heap.size + 1) 82 #[.int .i64 0, .int .i64 0, .string ⟨#[]⟩, .int .i64 0, .slice none 0 0] ∧ Blk X (w.heap.size + 1 + 1) 82 #[.int .i64 z0, .int .i64 z1, .string z2, .int .i64 z3, .slice none 0 0] ∧ Below w.heap.size w X) ⟨((Blk.new w _ _).alloc _).alloc _, (Blk.new' (w.alloc _) _ _ _ (by simp)).alloc _, Blk.new' ((w.alloc _).alloc _) _ _ _ (by simp), ((((Below.refl _ _).alloc (Nat.le_refl _) _).alloc (by simp) _).alloc (by simp; omega) _)⟩ ?_
  rintro X0 ⟨ba, br, bo, hB⟩
  have s0 := bo.lt
  refine (H4.out _ _ B (by omega) (R4.out.below hB hB0)).mono ?_
  rintro e Y0 ⟨D4, d4, rfl, own, hb⟩
  have o4 := own
  clear own
  replace ba := ba.below hb (Nat.le_refl _)
  replace br := br.below hb (Nat.le_refl _)
  replace bo := bo.below hb (Nat.le_refl _)
  replace hB := hB.trans (hb.mono (by omega))
  have t0 : X0.heap.size ≤ Y0.heap.size := hb.size
  clear hb
  have ba_l := ba.lt
  have ba_f := fun i => ba.frozen i
  have br_0 : Y0.cell? ⟨w.heap.size + 1, 0, none⟩ = some (.int .i64 0) := br.cell 0
  have br_1 : Y0.cell? ⟨w.heap.size + 1, 1, none⟩ = some (.int .i64 0) := br.cell 1
  have br_2 : Y0.cell? ⟨w.heap.size + 1, 2, none⟩ = some (.string ⟨#[]⟩) := br.cell 2
  have br_3 : Y0.cell? ⟨w.heap.size + 1, 3, none⟩ = some (.int .i64 0) := br.cell 3
  have br_4 : Y0.cell? ⟨w.heap.size + 1, 4, none⟩ = some (.slice none 0 0) := br.cell 4
  have br_l := br.lt
  have br_f := fun i => br.frozen i
  have bo_0 : Y0.cell? ⟨w.heap.size + 1 + 1, 0, none⟩ = some (.int .i64 z0) := bo.cell 0
  have bo_1 : Y0.cell? ⟨w.heap.size + 1 + 1, 1, none⟩ = some (.int .i64 z1) := bo.cell 1
  have bo_2 : Y0.cell? ⟨w.heap.size + 1 + 1, 2, none⟩ = some (.string z2) := bo.cell 2
  have bo_3 : Y0.cell? ⟨w.heap.size + 1 + 1, 3, none⟩ = some (.int .i64 z3) := bo.cell 3
  have bo_4 : Y0.cell? ⟨w.heap.size + 1 + 1, 4, none⟩ = some (.slice none 0 0) := bo.cell 4
  have bo_l := bo.lt
  have bo_f := fun i => bo.frozen i
  go_wp2_with fail
  skip
  refine bodyPost_ret (v := .agg #[.int .i64 z0, .int .i64 z1, .string z2, .int .i64 z3, .slice D4 z4.length d4]) (by simp [results, Tryz.results63, go_sem, br_0, br_1, br_2, br_3, br_4, bo_0, bo_1, bo_2, bo_3, bo_4, br_l, br_f, bo_l, bo_f]) rfl ⟨_, rfl, ?_, ?_⟩
  · refine OwnI.wide (lo := X0.heap.size) (hi := Y0.heap.size) ?_ (by omega) (by simp)
    repeat (refine OwnI.set ?_ (.inl (by simp; omega)) _)
    exact (OwnI.consv (OwnI.consv (OwnI.consv (OwnI.consv (OwnI.app (m := Y0.heap.size) (hi := Y0.heap.size) o4 (OwnI.wide (lo' := Y0.heap.size) (hi' := Y0.heap.size) (OwnI.nil _ Y0.heap.size Y0.heap.size) (by omega) (by omega)) (Nat.le_refl _) (by omega) (by omega)) _) _) _) _)
  · repeat (refine Below.setCell ?_ (by simp; try omega) _)
    exact hB
theorem oneValue (x : FValue) : ∀ y, y ∈ x.c → ∀ u, y = .v u → u.oneCell' = true := by
  obtain ⟨z0, z1, z2, z3, z4⟩ := x
  rw [FValue.c_eq]
  intro y hx u hu
  simp only [List.mem_cons, List.not_mem_nil, or_false] at hx
  rcases hx with rfl | rfl | rfl | rfl | rfl <;> (first | (injection hu with hu; subst hu; rfl) | cases hu)
theorem infoValue : (Tryz.prog.info? 82).map (fun i => (i.zero.map Value.cells, i.size, i.bytes)) = some (some #[.int .i64 0, .int .i64 0, .string ByteArray.empty, .int .i64 0, .slice none 0 0], 5, 64) := by kernel_rfl
theorem toValueS_of (l : List FValue) (hl : l.length ≤ 1048576) (he : ∀ x, x ∈ l → ToValue x) : ToValueS l := by
  intro u w B hB0 hr0
  have hr := hr0.up hB0
  clear hr0
  obtain ⟨A, c, rfl⟩ := hr.form
  have HC := hid hr
  have hcap := hr.cap
  have hn : l.length ≤ 9223372036854775807 := by omega
  have hmk := fun W => make_law (P := Tryz.prog) 38 82 _ 5 64 Tryz.underlying38 infoValue l.length (by omega) hn W
  have HE := hid he
  clear he hr hcap
  go_enter Tryz.func23, Tryz.ntmps23
  go_wp2
  go_loopw [4] (fun i wr => ∃ k : Nat, k ≤ l.length ∧ i = .int .i64 k ∧ (∃ us zs, us.length = k * 5 ∧ zs.length = (l.length - k) * 5 ∧ wr.ownsRow w.heap.size 82 5 (.slice (some ⟨w.heap.size, 0, none⟩) l.length l.length) l.length (us ++ zs) ∧ OwnI wr (w.heap.size + 1) wr.heap.size (FValue.flat (l.take k)) us) ∧ Below w.heap.size w wr) (fun i _ => l.length - (intOf i).toNat)
  case atStart => exact ⟨0, Nat.zero_le _, rfl, ⟨[], madeL #[.int .i64 0, .int .i64 0, .string ByteArray.empty, .int .i64 0, .slice none 0 0] (l.length * 5), by simp, by simp [madeL, size_madeCells], own_madeL w _ l.length 5 _ rfl (by omega) (by unfold maxLen; omega), OwnI.nil _ _ _⟩, (Below.refl _ _).alloc (Nat.le_refl _) _⟩
  case round =>
    obtain ⟨k, hk, rfl, ⟨us, zs, hus, hzs, hrow, hown⟩, hb⟩ := hrel
    have HROW := hid hrow
    have HOWN := hid hown
    have HUS := hid hus
    have HZS := hid hzs
    have hsz : w.heap.size < wr.heap.size := (hrow.lt _ rfl).2
    clear hmk hrow hown hus hzs
    by_cases hlt : k < l.length
    · obtain ⟨x, hx⟩ : ∃ x, l[k]? = some x := ⟨_, List.getElem?_eq_getElem hlt⟩
      obtain ⟨bc, offc, vs, rfl, hblc, hvl, hv, hra⟩ := RdC.elem FValue.len HC.out hx
      have HX := hid hx
      have HT := hid (HE.out _ (List.mem_of_getElem? hx))
      have HV := hid (hv.on hb (Nat.le_refl _) (Nat.le_refl _))
      have HRA := hid (range_below hra hb hblc)
      have hlt2 : (k : Int) < (l.length : Int) := by omega
      have hk0 : (0 : Int) ≤ (k : Int) := by omega
      have hws := hb.size
      have HB := hid hb
      clear hx hv hra hb
      go_wp2_with (first | (refine wpList_load_elem 115 _ bc (offc + k * 5) vs (.struct (flds Tryz.prog 115)) HRA.out rfl rfl (by kernel_rfl) rfl hvl (by kernel_rfl) rfl ?_) | (go_at_call 63; refine (HT.out vs _ w.heap.size (by omega) HV.out).mono ?_; rintro e w2 ⟨us2, rfl, own2, hb2⟩; have hu2 : us2.length = 5 := own2.vs.1.trans (FValue.len x); have ON2 := hid (OwnL.onecell _ _ _ own2.choose_spec.1 (oneValue x)); have OWN2 := hid own2; have ROW2 := hid (own_below HROW.out hb2 (Nat.le_refl _)); have hsz2 : wr.heap.size ≤ w2.heap.size := hb2.size; have HB2 := hid (HB.out.trans (hb2.mono hws)); have HOWN2 := hid (HOWN.out.below hb2 (Nat.le_refl _)); clear own2 hb2) | (refine wpList_store_elem 82 _ _ (k * 5) us2 ROW2.out rfl rfl rfl hu2 (by omega) (by kernel_rfl) ON2.out rfl ?_; intro w3 row3 gr3; have ROW3 := hid row3; have GR3 := hid gr3; have hsz3 := gr3.size; clear row3 gr3))
      go_roundw
      case rel =>
        have hflat : FValue.flat (l.take (k + 1)) = FValue.flat (l.take k) ++ x.c := by
          rw [List.take_add_one, HX.out]
          simp
        have hset := sets_app us2 us zs (k * 5) HUS.out (by rw [HZS.out, hu2]; omega)
        refine ⟨k + 1, by omega, by go_num, ⟨us ++ us2, zs.drop 5, by rw [List.length_append, HUS.out, hu2]; omega, by rw [List.length_drop, HZS.out]; omega, ?_, ?_⟩, below_grownB HB2.out GR3.out (by omega) (Nat.le_refl _)⟩
        · have hr3 := ROW3.out
          rw [hset, hu2] at hr3
          exact hr3
        · rw [hflat]
          exact ((OwnI.app (m := wr.heap.size) (lo' := wr.heap.size) (hi := w2.heap.size) HOWN2.out OWN2.out (Nat.le_refl _) (by omega) (by omega)).grownB GR3.out (.inl (by omega))).wide (Nat.le_refl _) hsz3
      case measure => simp [intOf]; omega
    · obtain rfl : k = l.length := by omega
      clear hlt
      go_wp2_with fail
      go_ret
      have hz0 : zs = [] := List.eq_nil_of_length_eq_zero (by rw [HZS.out]; simp)
      have hr1 := HROW.out
      have ho1 := HOWN.out
      rw [hz0, List.append_nil] at hr1
      rw [List.take_length] at ho1
      exact ⟨_, _, rfl, OwnI.mk hr1 ho1 (fun g hg => by
        have e9 : w.heap.size = g := by simpa [Value.ownBlock] using hg
        omega) (by omega) (Nat.le_refl _), hb⟩
mutual
theorem toEntry_any : ∀ (x : FEntry), x.wt ≤ 1048576 → ToEntry x
  | .mk a0 a1, hw => by
    unfold FEntry.wt at hw
    have k0 := toKey_any a0 (by omega)
    have k1 := toValue_any a1 (by omega)
    obtain ⟨b0_0, b0_1, b0_2⟩ := a0
    obtain ⟨b1_0, b1_1, b1_2, b1_3, b1_4⟩ := a1
    exact toEntry_of b0_0 b0_1 b0_2 b1_0 b1_1 b1_2 b1_3 b1_4 k0 k1
theorem toValue_any : ∀ (x : FValue), x.wt ≤ 1048576 → ToValue x
  | .mk a0 a1 a2 a3 a4, hw => by
    unfold FValue.wt at hw
    exact toValue_of a0 a1 a2 a3 a4 (toEntryS_of a4 (by omega) (toEntry_all a4 (by omega)))
theorem toEntry_all : ∀ (l : List FEntry), l.length + FEntry.wts l ≤ 1048576 → ∀ x, x ∈ l → ToEntry x
  | [], _, x, hx => by cases hx
  | y :: r, hw, x, hx => by
    unfold FEntry.wts at hw
    simp only [List.length_cons] at hw
    rcases List.mem_cons.1 hx with e | hx
    · rw [e]
      exact toEntry_any y (by omega)
    · exact toEntry_all r (by omega) x hx
end
theorem toValueS_any (l : List FValue) (hw : l.length + FValue.wts l ≤ 1048576) : ToValueS l := (toValueS_of l (by omega) (fun x hx => toValue_any x (by have := FValue.wts_at l x hx; omega)))
def ToPlace (x : FPlace) : Prop := ∀ (us : List Value) (w : World) (B : Nat), B ≤ w.heap.size → RdVs w B x.c us → Calls Tryz.prog 64 #[.agg us.toArray] w fun e w' => ∃ us', e = .returned (.agg us'.toArray) ∧ OwnI w' w.heap.size w'.heap.size x.c us' ∧ Below w.heap.size w w'
def ToPlaceS (l : List FPlace) : Prop := ∀ (u : Value) (w : World) (B : Nat), B ≤ w.heap.size → RdC w B (.s 140 2 l.length (FPlace.flat l)) u → Calls Tryz.prog 24 #[u] w fun e w' => ∃ A c, e = .returned (.slice A l.length c) ∧ OwnI w' w.heap.size w'.heap.size [.s 140 2 l.length (FPlace.flat l)] [.slice A l.length c] ∧ Below w.heap.size w w'
theorem toPlace_of (z0 : ByteArray) (z1 : Int)  : ToPlace ⟨z0, z1⟩ := by
  intro us w B hB0 hr
  rw [FPlace.c_eq] at hr ⊢
  obtain ⟨us0, rfl, hr_0⟩ := hr.unv
  obtain ⟨us1, rfl, hr_1⟩ := hr_0.unv
  obtain rfl := hr_1.un0
  go_enter Tryz.func64, Tryz.ntmps64
  go_wp2_with fail
  exact bodyPost_ret (v := .agg #[.string z0, .int .i64 z1]) (by simp [results, Tryz.results64, go_sem]) rfl ⟨_, rfl, (OwnI.consv (OwnI.consv (OwnI.nil _ _ _) _) _), by repeat (first | exact Below.refl _ _ | (refine Below.alloc ?_ (by simp; try omega) _) | (refine Below.setCell ?_ (by simp) _))⟩
theorem onePlace (x : FPlace) : ∀ y, y ∈ x.c → ∀ u, y = .v u → u.oneCell' = true := by
  obtain ⟨z0, z1⟩ := x
  rw [FPlace.c_eq]
  intro y hx u hu
  simp only [List.mem_cons, List.not_mem_nil, or_false] at hx
  rcases hx with rfl | rfl <;> (first | (injection hu with hu; subst hu; rfl) | cases hu)
theorem infoPlace : (Tryz.prog.info? 140).map (fun i => (i.zero.map Value.cells, i.size, i.bytes)) = some (some #[.string ByteArray.empty, .int .i64 0], 2, 24) := by kernel_rfl
theorem toPlaceS_of (l : List FPlace) (hl : l.length ≤ 1048576) (he : ∀ x, x ∈ l → ToPlace x) : ToPlaceS l := by
  intro u w B hB0 hr0
  have hr := hr0.up hB0
  clear hr0
  obtain ⟨A, c, rfl⟩ := hr.form
  have HC := hid hr
  have hcap := hr.cap
  have hn : l.length ≤ 9223372036854775807 := by omega
  have hmk := fun W => make_law (P := Tryz.prog) 40 140 _ 2 24 Tryz.underlying40 infoPlace l.length (by omega) hn W
  have HE := hid he
  clear he hr hcap
  go_enter Tryz.func24, Tryz.ntmps24
  go_wp2
  go_loopw [4] (fun i wr => ∃ k : Nat, k ≤ l.length ∧ i = .int .i64 k ∧ (∃ us zs, us.length = k * 2 ∧ zs.length = (l.length - k) * 2 ∧ wr.ownsRow w.heap.size 140 2 (.slice (some ⟨w.heap.size, 0, none⟩) l.length l.length) l.length (us ++ zs) ∧ OwnI wr (w.heap.size + 1) wr.heap.size (FPlace.flat (l.take k)) us) ∧ Below w.heap.size w wr) (fun i _ => l.length - (intOf i).toNat)
  case atStart => exact ⟨0, Nat.zero_le _, rfl, ⟨[], madeL #[.string ByteArray.empty, .int .i64 0] (l.length * 2), by simp, by simp [madeL, size_madeCells], own_madeL w _ l.length 2 _ rfl (by omega) (by unfold maxLen; omega), OwnI.nil _ _ _⟩, (Below.refl _ _).alloc (Nat.le_refl _) _⟩
  case round =>
    obtain ⟨k, hk, rfl, ⟨us, zs, hus, hzs, hrow, hown⟩, hb⟩ := hrel
    have HROW := hid hrow
    have HOWN := hid hown
    have HUS := hid hus
    have HZS := hid hzs
    have hsz : w.heap.size < wr.heap.size := (hrow.lt _ rfl).2
    clear hmk hrow hown hus hzs
    by_cases hlt : k < l.length
    · obtain ⟨x, hx⟩ : ∃ x, l[k]? = some x := ⟨_, List.getElem?_eq_getElem hlt⟩
      obtain ⟨bc, offc, vs, rfl, hblc, hvl, hv, hra⟩ := RdC.elem FPlace.len HC.out hx
      have HX := hid hx
      have HT := hid (HE.out _ (List.mem_of_getElem? hx))
      have HV := hid (hv.on hb (Nat.le_refl _) (Nat.le_refl _))
      have HRA := hid (range_below hra hb hblc)
      have hlt2 : (k : Int) < (l.length : Int) := by omega
      have hk0 : (0 : Int) ≤ (k : Int) := by omega
      have hws := hb.size
      have HB := hid hb
      clear hx hv hra hb
      go_wp2_with (first | (refine wpList_load_elem 118 _ bc (offc + k * 2) vs (.struct (flds Tryz.prog 118)) HRA.out rfl rfl (by kernel_rfl) rfl hvl (by kernel_rfl) rfl ?_) | (go_at_call 64; refine (HT.out vs _ w.heap.size (by omega) HV.out).mono ?_; rintro e w2 ⟨us2, rfl, own2, hb2⟩; have hu2 : us2.length = 2 := own2.vs.1.trans (FPlace.len x); have ON2 := hid (OwnL.onecell _ _ _ own2.choose_spec.1 (onePlace x)); have OWN2 := hid own2; have ROW2 := hid (own_below HROW.out hb2 (Nat.le_refl _)); have hsz2 : wr.heap.size ≤ w2.heap.size := hb2.size; have HB2 := hid (HB.out.trans (hb2.mono hws)); have HOWN2 := hid (HOWN.out.below hb2 (Nat.le_refl _)); clear own2 hb2) | (refine wpList_store_elem 140 _ _ (k * 2) us2 ROW2.out rfl rfl rfl hu2 (by omega) (by kernel_rfl) ON2.out rfl ?_; intro w3 row3 gr3; have ROW3 := hid row3; have GR3 := hid gr3; have hsz3 := gr3.size; clear row3 gr3))
      go_roundw
      case rel =>
        have hflat : FPlace.flat (l.take (k + 1)) = FPlace.flat (l.take k) ++ x.c := by
          rw [List.take_add_one, HX.out]
          simp
        have hset := sets_app us2 us zs (k * 2) HUS.out (by rw [HZS.out, hu2]; omega)
        refine ⟨k + 1, by omega, by go_num, ⟨us ++ us2, zs.drop 2, by rw [List.length_append, HUS.out, hu2]; omega, by rw [List.length_drop, HZS.out]; omega, ?_, ?_⟩, below_grownB HB2.out GR3.out (by omega) (Nat.le_refl _)⟩
        · have hr3 := ROW3.out
          rw [hset, hu2] at hr3
          exact hr3
        · rw [hflat]
          exact ((OwnI.app (m := wr.heap.size) (lo' := wr.heap.size) (hi := w2.heap.size) HOWN2.out OWN2.out (Nat.le_refl _) (by omega) (by omega)).grownB GR3.out (.inl (by omega))).wide (Nat.le_refl _) hsz3
      case measure => simp [intOf]; omega
    · obtain rfl : k = l.length := by omega
      clear hlt
      go_wp2_with fail
      go_ret
      have hz0 : zs = [] := List.eq_nil_of_length_eq_zero (by rw [HZS.out]; simp)
      have hr1 := HROW.out
      have ho1 := HOWN.out
      rw [hz0, List.append_nil] at hr1
      rw [List.take_length] at ho1
      exact ⟨_, _, rfl, OwnI.mk hr1 ho1 (fun g hg => by
        have e9 : w.heap.size = g := by simpa [Value.ownBlock] using hg
        omega) (by omega) (Nat.le_refl _), hb⟩
theorem toPlace_any (x : FPlace) (hw : x.wt ≤ 1048576) : ToPlace x := by
  obtain ⟨z0, z1⟩ := x
  exact toPlace_of z0 z1 
theorem toPlaceS_any (l : List FPlace) (hw : l.length + FPlace.wts l ≤ 1048576) : ToPlaceS l := (toPlaceS_of l (by omega) (fun x hx => toPlace_any x (by have := FPlace.wts_at l x hx; omega)))
def ToSlot (x : FSlot) : Prop := ∀ (us : List Value) (w : World) (B : Nat), B ≤ w.heap.size → RdVs w B x.c us → Calls Tryz.prog 146 #[.agg us.toArray] w fun e w' => ∃ us', e = .returned (.agg us'.toArray) ∧ OwnI w' w.heap.size w'.heap.size x.c us' ∧ Below w.heap.size w w'
def ToSlotS (l : List FSlot) : Prop := ∀ (u : Value) (w : World) (B : Nat), B ≤ w.heap.size → RdC w B (.s 255 10 l.length (FSlot.flat l)) u → Calls Tryz.prog 140 #[u] w fun e w' => ∃ A c, e = .returned (.slice A l.length c) ∧ OwnI w' w.heap.size w'.heap.size [.s 255 10 l.length (FSlot.flat l)] [.slice A l.length c] ∧ Below w.heap.size w w'
theorem toSlot_of (z0 : Bool) (z1 : Int) (z2 : ByteArray) (z3 : Int) (z4 : Int) (z5 : ByteArray) (z6 : Int) (z7 : List FEntry) (z8 : Bool) (z9 : Int) (h0 : ToKey ⟨z0, z1, z2⟩) (h3 : ToValue ⟨z3, z4, z5, z6, z7⟩) : ToSlot ⟨⟨z0, z1, z2⟩, ⟨z3, z4, z5, z6, z7⟩, z8, z9⟩ := by
  intro us w B hB0 hr
  rw [FSlot.c_eq] at hr ⊢
  obtain ⟨us0, rfl, hr_0⟩ := hr.unv
  obtain ⟨us1, rfl, hr_1⟩ := hr_0.unv
  obtain ⟨us2, rfl, hr_2⟩ := hr_1.unv
  obtain ⟨us3, rfl, hr_3⟩ := hr_2.unv
  obtain ⟨us4, rfl, hr_4⟩ := hr_3.unv
  obtain ⟨us5, rfl, hr_5⟩ := hr_4.unv
  obtain ⟨us6, rfl, hr_6⟩ := hr_5.unv
  obtain ⟨A7, c7, us7, rfl, r7, hr_7⟩ := hr_6.uns
  obtain ⟨us8, rfl, hr_8⟩ := hr_7.unv
  obtain ⟨us9, rfl, hr_9⟩ := hr_8.unv
  obtain rfl := hr_9.un0
  have R7 := hid r7
  clear r7
  have H0 := hid h0
  clear h0
  have H3 := hid h3
  clear h3
  go_enter Tryz.func146, Tryz.ntmps146
  go_wp2_with fail
  refine calls_worldD _ (fun X => Blk X (w.heap.size) 266 #[.bool z0, .int .i64 z1, .string z2, .int .i64 z3, .int .i64 z4, .string z5, .int .i64 z6, .slice A7 z7.length c7, .bool z8, .int .i64 z9] ∧ Blk X (w.heap.size + 1) 255 #[.bool false, .int .i64 0, .string ⟨#[]⟩, .int .i64 0, .int .i64 0, .string ⟨#[]⟩, .int .i64 0, .slice none 0 0, .bool false, .int .i64 0] ∧ Blk X (w.heap.size + 1 + 1) 255 #[.bool false, .int .i64 0, .string ⟨#[]⟩, .int .i64 0, .int .i64 0, .string ⟨#[]⟩, .int .i64 0, .slice none 0 0, .bool false, .int .i64 0] ∧ Below w.heap.size w X) ⟨((Blk.new w _ _).alloc _).alloc _, (Blk.new' (w.alloc _) _ _ _ (by simp)).alloc _, Blk.new' ((w.alloc _).alloc _) _ _ _ (by simp), ((((Below.refl _ _).alloc (Nat.le_refl _) _).alloc (by simp) _).alloc (by simp; omega) _)⟩ ?_
  rintro X0 ⟨ba, br, bo, hB⟩
  have s0 := bo.lt
  refine (H0.out [.bool z0, .int .i64 z1, .string z2] _ B (by omega) (by rw [FKey.c_eq]; exact (RdVs.cons (by unfold RdC; rfl) (RdVs.cons (by unfold RdC; rfl) (RdVs.cons (by unfold RdC; rfl) (RdVs.nil _ _)))))).mono ?_
  rw [FKey.c_eq]
  rintro e Y0 ⟨us_, rfl, own, hb⟩
  have hv := own.vs
  obtain ⟨us_0, rfl, hv_0⟩ := hv.unv
  obtain ⟨us_1, rfl, hv_1⟩ := hv_0.unv
  obtain ⟨us_2, rfl, hv_2⟩ := hv_1.unv
  obtain rfl := hv_2.un0
  have o0 := own
  clear own
  replace ba := ba.below hb (Nat.le_refl _)
  replace br := br.below hb (Nat.le_refl _)
  replace bo := bo.below hb (Nat.le_refl _)
  replace hB := hB.trans (hb.mono (by omega))
  have t0 : X0.heap.size ≤ Y0.heap.size := hb.size
  clear hb
  have ba_3 : Y0.cell? ⟨w.heap.size, 3, none⟩ = some (.int .i64 z3) := ba.cell 3
  have ba_4 : Y0.cell? ⟨w.heap.size, 4, none⟩ = some (.int .i64 z4) := ba.cell 4
  have ba_5 : Y0.cell? ⟨w.heap.size, 5, none⟩ = some (.string z5) := ba.cell 5
  have ba_6 : Y0.cell? ⟨w.heap.size, 6, none⟩ = some (.int .i64 z6) := ba.cell 6
  have ba_7 : Y0.cell? ⟨w.heap.size, 7, none⟩ = some (.slice A7 z7.length c7) := ba.cell 7
  have ba_l := ba.lt
  have ba_f := fun i => ba.frozen i
  have bo_0 : Y0.cell? ⟨w.heap.size + 1 + 1, 0, none⟩ = some (.bool false) := bo.cell 0
  have bo_1 : Y0.cell? ⟨w.heap.size + 1 + 1, 1, none⟩ = some (.int .i64 0) := bo.cell 1
  have bo_2 : Y0.cell? ⟨w.heap.size + 1 + 1, 2, none⟩ = some (.string ⟨#[]⟩) := bo.cell 2
  have bo_l := bo.lt
  have bo_f := fun i => bo.frozen i
  go_wp2_with fail
  clear ba_3 ba_4 ba_5 ba_6 ba_7 ba_l ba_f
  clear bo_0 bo_1 bo_2 bo_l bo_f
  refine calls_worldD _ (fun X => Blk X (w.heap.size) 266 #[.bool z0, .int .i64 z1, .string z2, .int .i64 z3, .int .i64 z4, .string z5, .int .i64 z6, .slice A7 z7.length c7, .bool z8, .int .i64 z9] ∧ Blk X (w.heap.size + 1) 255 #[.bool false, .int .i64 0, .string ⟨#[]⟩, .int .i64 0, .int .i64 0, .string ⟨#[]⟩, .int .i64 0, .slice none 0 0, .bool false, .int .i64 0] ∧ Blk X (w.heap.size + 1 + 1) 255 #[.bool z0, .int .i64 z1, .string z2, .int .i64 0, .int .i64 0, .string ⟨#[]⟩, .int .i64 0, .slice none 0 0, .bool false, .int .i64 0] ∧ OwnI X X0.heap.size Y0.heap.size [.v (.bool z0), .v (.int .i64 z1), .v (.string z2)] [.bool z0, .int .i64 z1, .string z2] ∧ Below w.heap.size w X ∧ Y0.heap.size ≤ X.heap.size) ⟨(((ba.far (by simp; try omega) _).far (by simp; try omega) _).far (by simp; try omega) _), (((br.far (by simp; try omega) _).far (by simp; try omega) _).far (by simp; try omega) _), (by simpa using (((bo.set_ 0 _).set_ 1 _).set_ 2 _)), (((o0.set (.inl (by simp; omega)) _).set (.inl (by simp; omega)) _).set (.inl (by simp; omega)) _), (((hB.setCell (by simp; try omega) _).setCell (by simp; try omega) _).setCell (by simp; try omega) _), (by simp)⟩ ?_
  clear ba br bo hB o0
  rintro X1 ⟨ba, br, bo, o0, hB, y1⟩
  have s1 := bo.lt
  refine (H3.out [.int .i64 z3, .int .i64 z4, .string z5, .int .i64 z6, .slice A7 z7.length c7] _ B (by omega) (by rw [FValue.c_eq]; exact (RdVs.cons (by unfold RdC; rfl) (RdVs.cons (by unfold RdC; rfl) (RdVs.cons (by unfold RdC; rfl) (RdVs.cons (by unfold RdC; rfl) (RdVs.cons (R7.out.below hB hB0) (RdVs.nil _ _)))))))).mono ?_
  rw [FValue.c_eq]
  rintro e Y1 ⟨us_, rfl, own, hb⟩
  have hv := own.vs
  obtain ⟨us_3, rfl, hv_0⟩ := hv.unv
  obtain ⟨us_4, rfl, hv_1⟩ := hv_0.unv
  obtain ⟨us_5, rfl, hv_2⟩ := hv_1.unv
  obtain ⟨us_6, rfl, hv_3⟩ := hv_2.unv
  obtain ⟨D7, d7, us_7, rfl, _, hv_4⟩ := hv_3.uns
  obtain rfl := hv_4.un0
  have o3 := own
  clear own
  replace ba := ba.below hb (Nat.le_refl _)
  replace br := br.below hb (Nat.le_refl _)
  replace bo := bo.below hb (Nat.le_refl _)
  replace o0 := o0.below hb (Nat.le_refl _)
  replace hB := hB.trans (hb.mono (by omega))
  have t1 : X1.heap.size ≤ Y1.heap.size := hb.size
  clear hb
  have ba_8 : Y1.cell? ⟨w.heap.size, 8, none⟩ = some (.bool z8) := ba.cell 8
  have ba_9 : Y1.cell? ⟨w.heap.size, 9, none⟩ = some (.int .i64 z9) := ba.cell 9
  have ba_l := ba.lt
  have ba_f := fun i => ba.frozen i
  have br_0 : Y1.cell? ⟨w.heap.size + 1, 0, none⟩ = some (.bool false) := br.cell 0
  have br_1 : Y1.cell? ⟨w.heap.size + 1, 1, none⟩ = some (.int .i64 0) := br.cell 1
  have br_2 : Y1.cell? ⟨w.heap.size + 1, 2, none⟩ = some (.string ⟨#[]⟩) := br.cell 2
  have br_3 : Y1.cell? ⟨w.heap.size + 1, 3, none⟩ = some (.int .i64 0) := br.cell 3
  have br_4 : Y1.cell? ⟨w.heap.size + 1, 4, none⟩ = some (.int .i64 0) := br.cell 4
  have br_5 : Y1.cell? ⟨w.heap.size + 1, 5, none⟩ = some (.string ⟨#[]⟩) := br.cell 5
  have br_6 : Y1.cell? ⟨w.heap.size + 1, 6, none⟩ = some (.int .i64 0) := br.cell 6
  have br_7 : Y1.cell? ⟨w.heap.size + 1, 7, none⟩ = some (.slice none 0 0) := br.cell 7
  have br_8 : Y1.cell? ⟨w.heap.size + 1, 8, none⟩ = some (.bool false) := br.cell 8
  have br_9 : Y1.cell? ⟨w.heap.size + 1, 9, none⟩ = some (.int .i64 0) := br.cell 9
  have br_l := br.lt
  have br_f := fun i => br.frozen i
  have bo_0 : Y1.cell? ⟨w.heap.size + 1 + 1, 0, none⟩ = some (.bool z0) := bo.cell 0
  have bo_1 : Y1.cell? ⟨w.heap.size + 1 + 1, 1, none⟩ = some (.int .i64 z1) := bo.cell 1
  have bo_2 : Y1.cell? ⟨w.heap.size + 1 + 1, 2, none⟩ = some (.string z2) := bo.cell 2
  have bo_3 : Y1.cell? ⟨w.heap.size + 1 + 1, 3, none⟩ = some (.int .i64 0) := bo.cell 3
  have bo_4 : Y1.cell? ⟨w.heap.size + 1 + 1, 4, none⟩ = some (.int .i64 0) := bo.cell 4
  have bo_5 : Y1.cell? ⟨w.heap.size + 1 + 1, 5, none⟩ = some (.string ⟨#[]⟩) := bo.cell 5
  have bo_6 : Y1.cell? ⟨w.heap.size + 1 + 1, 6, none⟩ = some (.int .i64 0) := bo.cell 6
  have bo_7 : Y1.cell? ⟨w.heap.size + 1 + 1, 7, none⟩ = some (.slice none 0 0) := bo.cell 7
  have bo_8 : Y1.cell? ⟨w.heap.size + 1 + 1, 8, none⟩ = some (.bool false) := bo.cell 8
  have bo_9 : Y1.cell? ⟨w.heap.size + 1 + 1, 9, none⟩ = some (.int .i64 0) := bo.cell 9
  have bo_l := bo.lt
  have bo_f := fun i => bo.frozen i
  go_wp2_with fail
  skip
  refine bodyPost_ret (v := .agg #[.bool z0, .int .i64 z1, .string z2, .int .i64 z3, .int .i64 z4, .string z5, .int .i64 z6, .slice D7 z7.length d7, .bool z8, .int .i64 z9]) (by simp [results, Tryz.results146, go_sem, br_0, br_1, br_2, br_3, br_4, br_5, br_6, br_7, br_8, br_9, bo_0, bo_1, bo_2, bo_3, bo_4, bo_5, bo_6, bo_7, bo_8, bo_9, br_l, br_f, bo_l, bo_f]) rfl ⟨_, rfl, ?_, ?_⟩
  · refine OwnI.wide (lo := X0.heap.size) (hi := Y1.heap.size) ?_ (by omega) (by simp)
    repeat (refine OwnI.set ?_ (.inl (by simp; omega)) _)
    exact (OwnI.app (m := Y0.heap.size) (hi := Y1.heap.size) o0 (OwnI.wide (lo' := Y0.heap.size) (hi' := Y1.heap.size) (OwnI.app (m := Y1.heap.size) (hi := Y1.heap.size) o3 (OwnI.wide (lo' := Y1.heap.size) (hi' := Y1.heap.size) (OwnI.consv (OwnI.consv (OwnI.nil _ Y1.heap.size Y1.heap.size) _) _) (by omega) (by omega)) (Nat.le_refl _) (by omega) (by omega)) (by omega) (by omega)) (Nat.le_refl _) (by omega) (by omega))
  · repeat (refine Below.setCell ?_ (by simp; try omega) _)
    exact hB
theorem oneSlot (x : FSlot) : ∀ y, y ∈ x.c → ∀ u, y = .v u → u.oneCell' = true := by
  obtain ⟨⟨z0, z1, z2⟩, ⟨z3, z4, z5, z6, z7⟩, z8, z9⟩ := x
  rw [FSlot.c_eq]
  intro y hx u hu
  simp only [List.mem_cons, List.not_mem_nil, or_false] at hx
  rcases hx with rfl | rfl | rfl | rfl | rfl | rfl | rfl | rfl | rfl | rfl <;> (first | (injection hu with hu; subst hu; rfl) | cases hu)
theorem infoSlot : (Tryz.prog.info? 255).map (fun i => (i.zero.map Value.cells, i.size, i.bytes)) = some (some #[.bool false, .int .i64 0, .string ByteArray.empty, .int .i64 0, .int .i64 0, .string ByteArray.empty, .int .i64 0, .slice none 0 0, .bool false, .int .i64 0], 10, 112) := by kernel_rfl
theorem toSlotS_of (l : List FSlot) (hl : l.length ≤ 1048576) (he : ∀ x, x ∈ l → ToSlot x) : ToSlotS l := by
  intro u w B hB0 hr0
  have hr := hr0.up hB0
  clear hr0
  obtain ⟨A, c, rfl⟩ := hr.form
  have HC := hid hr
  have hcap := hr.cap
  have hn : l.length ≤ 9223372036854775807 := by omega
  have hmk := fun W => make_law (P := Tryz.prog) 197 255 _ 10 112 Tryz.underlying197 infoSlot l.length (by omega) hn W
  have HE := hid he
  clear he hr hcap
  go_enter Tryz.func140, Tryz.ntmps140
  go_wp2
  go_loopw [4] (fun i wr => ∃ k : Nat, k ≤ l.length ∧ i = .int .i64 k ∧ (∃ us zs, us.length = k * 10 ∧ zs.length = (l.length - k) * 10 ∧ wr.ownsRow w.heap.size 255 10 (.slice (some ⟨w.heap.size, 0, none⟩) l.length l.length) l.length (us ++ zs) ∧ OwnI wr (w.heap.size + 1) wr.heap.size (FSlot.flat (l.take k)) us) ∧ Below w.heap.size w wr) (fun i _ => l.length - (intOf i).toNat)
  case atStart => exact ⟨0, Nat.zero_le _, rfl, ⟨[], madeL #[.bool false, .int .i64 0, .string ByteArray.empty, .int .i64 0, .int .i64 0, .string ByteArray.empty, .int .i64 0, .slice none 0 0, .bool false, .int .i64 0] (l.length * 10), by simp, by simp [madeL, size_madeCells], own_madeL w _ l.length 10 _ rfl (by omega) (by unfold maxLen; omega), OwnI.nil _ _ _⟩, (Below.refl _ _).alloc (Nat.le_refl _) _⟩
  case round =>
    obtain ⟨k, hk, rfl, ⟨us, zs, hus, hzs, hrow, hown⟩, hb⟩ := hrel
    have HROW := hid hrow
    have HOWN := hid hown
    have HUS := hid hus
    have HZS := hid hzs
    have hsz : w.heap.size < wr.heap.size := (hrow.lt _ rfl).2
    clear hmk hrow hown hus hzs
    by_cases hlt : k < l.length
    · obtain ⟨x, hx⟩ : ∃ x, l[k]? = some x := ⟨_, List.getElem?_eq_getElem hlt⟩
      obtain ⟨bc, offc, vs, rfl, hblc, hvl, hv, hra⟩ := RdC.elem FSlot.len HC.out hx
      have HX := hid hx
      have HT := hid (HE.out _ (List.mem_of_getElem? hx))
      have HV := hid (hv.on hb (Nat.le_refl _) (Nat.le_refl _))
      have HRA := hid (range_below hra hb hblc)
      have hlt2 : (k : Int) < (l.length : Int) := by omega
      have hk0 : (0 : Int) ≤ (k : Int) := by omega
      have hws := hb.size
      have HB := hid hb
      clear hx hv hra hb
      go_wp2_with (first | (refine wpList_load_elem 266 _ bc (offc + k * 10) vs (.struct (flds Tryz.prog 266)) HRA.out rfl rfl (by kernel_rfl) rfl hvl (by kernel_rfl) rfl ?_) | (go_at_call 146; refine (HT.out vs _ w.heap.size (by omega) HV.out).mono ?_; rintro e w2 ⟨us2, rfl, own2, hb2⟩; have hu2 : us2.length = 10 := own2.vs.1.trans (FSlot.len x); have ON2 := hid (OwnL.onecell _ _ _ own2.choose_spec.1 (oneSlot x)); have OWN2 := hid own2; have ROW2 := hid (own_below HROW.out hb2 (Nat.le_refl _)); have hsz2 : wr.heap.size ≤ w2.heap.size := hb2.size; have HB2 := hid (HB.out.trans (hb2.mono hws)); have HOWN2 := hid (HOWN.out.below hb2 (Nat.le_refl _)); clear own2 hb2) | (refine wpList_store_elem 255 _ _ (k * 10) us2 ROW2.out rfl rfl rfl hu2 (by omega) (by kernel_rfl) ON2.out rfl ?_; intro w3 row3 gr3; have ROW3 := hid row3; have GR3 := hid gr3; have hsz3 := gr3.size; clear row3 gr3))
      go_roundw
      case rel =>
        have hflat : FSlot.flat (l.take (k + 1)) = FSlot.flat (l.take k) ++ x.c := by
          rw [List.take_add_one, HX.out]
          simp
        have hset := sets_app us2 us zs (k * 10) HUS.out (by rw [HZS.out, hu2]; omega)
        refine ⟨k + 1, by omega, by go_num, ⟨us ++ us2, zs.drop 10, by rw [List.length_append, HUS.out, hu2]; omega, by rw [List.length_drop, HZS.out]; omega, ?_, ?_⟩, below_grownB HB2.out GR3.out (by omega) (Nat.le_refl _)⟩
        · have hr3 := ROW3.out
          rw [hset, hu2] at hr3
          exact hr3
        · rw [hflat]
          exact ((OwnI.app (m := wr.heap.size) (lo' := wr.heap.size) (hi := w2.heap.size) HOWN2.out OWN2.out (Nat.le_refl _) (by omega) (by omega)).grownB GR3.out (.inl (by omega))).wide (Nat.le_refl _) hsz3
      case measure => simp [intOf]; omega
    · obtain rfl : k = l.length := by omega
      clear hlt
      go_wp2_with fail
      go_ret
      have hz0 : zs = [] := List.eq_nil_of_length_eq_zero (by rw [HZS.out]; simp)
      have hr1 := HROW.out
      have ho1 := HOWN.out
      rw [hz0, List.append_nil] at hr1
      rw [List.take_length] at ho1
      exact ⟨_, _, rfl, OwnI.mk hr1 ho1 (fun g hg => by
        have e9 : w.heap.size = g := by simpa [Value.ownBlock] using hg
        omega) (by omega) (Nat.le_refl _), hb⟩
theorem toSlot_any (x : FSlot) (hw : x.wt ≤ 1048576) : ToSlot x := by
  obtain ⟨⟨z0, z1, z2⟩, ⟨z3, z4, z5, z6, z7⟩, z8, z9⟩ := x
  exact toSlot_of z0 z1 z2 z3 z4 z5 z6 z7 z8 z9 (toKey_any _ (by rw [FSlot.wt_eq] at hw; rw [FKey.wt_eq]; omega)) (toValue_any _ (by rw [FSlot.wt_eq] at hw; rw [FValue.wt_eq]; omega))
theorem toSlotS_any (l : List FSlot) (hw : l.length + FSlot.wts l ≤ 1048576) : ToSlotS l := (toSlotS_of l (by omega) (fun x hx => toSlot_any x (by have := FSlot.wts_at l x hx; omega)))
def ToTable (x : FTable) : Prop := ∀ (us : List Value) (w : World) (B : Nat), B ≤ w.heap.size → RdVs w B x.c us → Calls Tryz.prog 125 #[.agg us.toArray] w fun e w' => ∃ us', e = .returned (.agg us'.toArray) ∧ OwnI w' w.heap.size w'.heap.size x.c us' ∧ Below w.heap.size w w'
theorem toTable_of (z0 : Bool) (z1 : List FInt) (z2 : List FSlot) (z3 : Int) (z4 : Int) (h1 : ToIntS z1) (h2 : ToSlotS z2) : ToTable ⟨z0, z1, z2, z3, z4⟩ := by
  intro us w B hB0 hr
  rw [FTable.c_eq] at hr ⊢
  obtain ⟨us0, rfl, hr_0⟩ := hr.unv
  obtain ⟨A1, c1, us1, rfl, r1, hr_1⟩ := hr_0.uns
  obtain ⟨A2, c2, us2, rfl, r2, hr_2⟩ := hr_1.uns
  obtain ⟨us3, rfl, hr_3⟩ := hr_2.unv
  obtain ⟨us4, rfl, hr_4⟩ := hr_3.unv
  obtain rfl := hr_4.un0
  have R1 := hid r1
  clear r1
  have R2 := hid r2
  clear r2
  have H1 := hid h1
  clear h1
  have H2 := hid h2
  clear h2
  go_enter Tryz.func125, Tryz.ntmps125
  go_wp2_with fail
  refine calls_worldD _ (fun X => Blk X (w.heap.size) 183 #[.bool z0, .slice A1 z1.length c1, .slice A2 z2.length c2, .int .i64 z3, .int .i64 z4] ∧ Blk X (w.heap.size + 1) 199 #[.bool false, .slice none 0 0, .slice none 0 0, .int .i64 0, .int .i64 0] ∧ Blk X (w.heap.size + 1 + 1) 199 #[.bool z0, .slice none 0 0, .slice none 0 0, .int .i64 0, .int .i64 0] ∧ Below w.heap.size w X) ⟨((Blk.new w _ _).alloc _).alloc _, (Blk.new' (w.alloc _) _ _ _ (by simp)).alloc _, Blk.new' ((w.alloc _).alloc _) _ _ _ (by simp), ((((Below.refl _ _).alloc (Nat.le_refl _) _).alloc (by simp) _).alloc (by simp; omega) _)⟩ ?_
  rintro X0 ⟨ba, br, bo, hB⟩
  have s0 := bo.lt
  refine (H1.out _ _ B (by omega) (R1.out.below hB hB0)).mono ?_
  rintro e Y0 ⟨D1, d1, rfl, own, hb⟩
  have o1 := own
  clear own
  replace ba := ba.below hb (Nat.le_refl _)
  replace br := br.below hb (Nat.le_refl _)
  replace bo := bo.below hb (Nat.le_refl _)
  replace hB := hB.trans (hb.mono (by omega))
  have t0 : X0.heap.size ≤ Y0.heap.size := hb.size
  clear hb
  have ba_2 : Y0.cell? ⟨w.heap.size, 2, none⟩ = some (.slice A2 z2.length c2) := ba.cell 2
  have ba_l := ba.lt
  have ba_f := fun i => ba.frozen i
  have bo_1 : Y0.cell? ⟨w.heap.size + 1 + 1, 1, none⟩ = some (.slice none 0 0) := bo.cell 1
  have bo_l := bo.lt
  have bo_f := fun i => bo.frozen i
  go_wp2_with fail
  clear ba_2 ba_l ba_f
  clear bo_1 bo_l bo_f
  refine calls_worldD _ (fun X => Blk X (w.heap.size) 183 #[.bool z0, .slice A1 z1.length c1, .slice A2 z2.length c2, .int .i64 z3, .int .i64 z4] ∧ Blk X (w.heap.size + 1) 199 #[.bool false, .slice none 0 0, .slice none 0 0, .int .i64 0, .int .i64 0] ∧ Blk X (w.heap.size + 1 + 1) 199 #[.bool z0, .slice D1 z1.length d1, .slice none 0 0, .int .i64 0, .int .i64 0] ∧ OwnI X X0.heap.size Y0.heap.size [.s 3 1 z1.length (FInt.flat z1)] [.slice D1 z1.length d1] ∧ Below w.heap.size w X ∧ Y0.heap.size ≤ X.heap.size) ⟨(ba.far (by simp; try omega) _), (br.far (by simp; try omega) _), (by simpa using (bo.set_ 1 _)), (o1.set (.inl (by simp; omega)) _), (hB.setCell (by simp; try omega) _), (by simp)⟩ ?_
  clear ba br bo hB o1
  rintro X1 ⟨ba, br, bo, o1, hB, y1⟩
  have s1 := bo.lt
  refine (H2.out _ _ B (by omega) (R2.out.below hB hB0)).mono ?_
  rintro e Y1 ⟨D2, d2, rfl, own, hb⟩
  have o2 := own
  clear own
  replace ba := ba.below hb (Nat.le_refl _)
  replace br := br.below hb (Nat.le_refl _)
  replace bo := bo.below hb (Nat.le_refl _)
  replace o1 := o1.below hb (Nat.le_refl _)
  replace hB := hB.trans (hb.mono (by omega))
  have t1 : X1.heap.size ≤ Y1.heap.size := hb.size
  clear hb
  have ba_3 : Y1.cell? ⟨w.heap.size, 3, none⟩ = some (.int .i64 z3) := ba.cell 3
  have ba_4 : Y1.cell? ⟨w.heap.size, 4, none⟩ = some (.int .i64 z4) := ba.cell 4
  have ba_l := ba.lt
  have ba_f := fun i => ba.frozen i
  have br_0 : Y1.cell? ⟨w.heap.size + 1, 0, none⟩ = some (.bool false) := br.cell 0
  have br_1 : Y1.cell? ⟨w.heap.size + 1, 1, none⟩ = some (.slice none 0 0) := br.cell 1
  have br_2 : Y1.cell? ⟨w.heap.size + 1, 2, none⟩ = some (.slice none 0 0) := br.cell 2
  have br_3 : Y1.cell? ⟨w.heap.size + 1, 3, none⟩ = some (.int .i64 0) := br.cell 3
  have br_4 : Y1.cell? ⟨w.heap.size + 1, 4, none⟩ = some (.int .i64 0) := br.cell 4
  have br_l := br.lt
  have br_f := fun i => br.frozen i
  have bo_0 : Y1.cell? ⟨w.heap.size + 1 + 1, 0, none⟩ = some (.bool z0) := bo.cell 0
  have bo_1 : Y1.cell? ⟨w.heap.size + 1 + 1, 1, none⟩ = some (.slice D1 z1.length d1) := bo.cell 1
  have bo_2 : Y1.cell? ⟨w.heap.size + 1 + 1, 2, none⟩ = some (.slice none 0 0) := bo.cell 2
  have bo_3 : Y1.cell? ⟨w.heap.size + 1 + 1, 3, none⟩ = some (.int .i64 0) := bo.cell 3
  have bo_4 : Y1.cell? ⟨w.heap.size + 1 + 1, 4, none⟩ = some (.int .i64 0) := bo.cell 4
  have bo_l := bo.lt
  have bo_f := fun i => bo.frozen i
  go_wp2_with fail
  skip
  refine bodyPost_ret (v := .agg #[.bool z0, .slice D1 z1.length d1, .slice D2 z2.length d2, .int .i64 z3, .int .i64 z4]) (by simp [results, Tryz.results125, go_sem, br_0, br_1, br_2, br_3, br_4, bo_0, bo_1, bo_2, bo_3, bo_4, br_l, br_f, bo_l, bo_f]) rfl ⟨_, rfl, ?_, ?_⟩
  · refine OwnI.wide (lo := X0.heap.size) (hi := Y1.heap.size) ?_ (by omega) (by simp)
    repeat (refine OwnI.set ?_ (.inl (by simp; omega)) _)
    exact (OwnI.consv (OwnI.app (m := Y0.heap.size) (hi := Y1.heap.size) o1 (OwnI.wide (lo' := Y0.heap.size) (hi' := Y1.heap.size) (OwnI.app (m := Y1.heap.size) (hi := Y1.heap.size) o2 (OwnI.wide (lo' := Y1.heap.size) (hi' := Y1.heap.size) (OwnI.consv (OwnI.consv (OwnI.nil _ Y1.heap.size Y1.heap.size) _) _) (by omega) (by omega)) (Nat.le_refl _) (by omega) (by omega)) (by omega) (by omega)) (Nat.le_refl _) (by omega) (by omega)) _)
  · repeat (refine Below.setCell ?_ (by simp; try omega) _)
    exact hB
theorem toTable_any (x : FTable) (hw : x.wt ≤ 1048576) : ToTable x := by
  obtain ⟨z0, z1, z2, z3, z4⟩ := x
  exact toTable_of z0 z1 z2 z3 z4 (toIntS_any z1 (by rw [FTable.wt_eq] at hw; omega)) (toSlotS_any z2 (by rw [FTable.wt_eq] at hw; omega))
def ToBlock (x : FBlock) : Prop := ∀ (us : List Value) (w : World) (B : Nat), B ≤ w.heap.size → RdVs w B x.c us → Calls Tryz.prog 99 #[.agg us.toArray] w fun e w' => ∃ us', e = .returned (.agg us'.toArray) ∧ OwnI w' w.heap.size w'.heap.size x.c us' ∧ Below w.heap.size w w'
def ToBlockS (l : List FBlock) : Prop := ∀ (u : Value) (w : World) (B : Nat), B ≤ w.heap.size → RdC w B (.s 201 6 l.length (FBlock.flat l)) u → Calls Tryz.prog 65 #[u] w fun e w' => ∃ A c, e = .returned (.slice A l.length c) ∧ OwnI w' w.heap.size w'.heap.size [.s 201 6 l.length (FBlock.flat l)] [.slice A l.length c] ∧ Below w.heap.size w w'
theorem toBlock_of (z0 : Int) (z1 : Bool) (z2 : List FInt) (z3 : List FSlot) (z4 : Int) (z5 : Int) (h1 : ToTable ⟨z1, z2, z3, z4, z5⟩) : ToBlock ⟨z0, ⟨z1, z2, z3, z4, z5⟩⟩ := by
  intro us w B hB0 hr
  rw [FBlock.c_eq] at hr ⊢
  obtain ⟨us0, rfl, hr_0⟩ := hr.unv
  obtain ⟨us1, rfl, hr_1⟩ := hr_0.unv
  obtain ⟨A2, c2, us2, rfl, r2, hr_2⟩ := hr_1.uns
  obtain ⟨A3, c3, us3, rfl, r3, hr_3⟩ := hr_2.uns
  obtain ⟨us4, rfl, hr_4⟩ := hr_3.unv
  obtain ⟨us5, rfl, hr_5⟩ := hr_4.unv
  obtain rfl := hr_5.un0
  have R2 := hid r2
  clear r2
  have R3 := hid r3
  clear r3
  have H1 := hid h1
  clear h1
  go_enter Tryz.func99, Tryz.ntmps99
  go_wp2_with fail
  refine calls_worldD _ (fun X => Blk X (w.heap.size) 185 #[.int .i64 z0, .bool z1, .slice A2 z2.length c2, .slice A3 z3.length c3, .int .i64 z4, .int .i64 z5] ∧ Blk X (w.heap.size + 1) 201 #[.int .i64 0, .bool false, .slice none 0 0, .slice none 0 0, .int .i64 0, .int .i64 0] ∧ Blk X (w.heap.size + 1 + 1) 201 #[.int .i64 z0, .bool false, .slice none 0 0, .slice none 0 0, .int .i64 0, .int .i64 0] ∧ Below w.heap.size w X) ⟨((Blk.new w _ _).alloc _).alloc _, (Blk.new' (w.alloc _) _ _ _ (by simp)).alloc _, Blk.new' ((w.alloc _).alloc _) _ _ _ (by simp), ((((Below.refl _ _).alloc (Nat.le_refl _) _).alloc (by simp) _).alloc (by simp; omega) _)⟩ ?_
  rintro X0 ⟨ba, br, bo, hB⟩
  have s0 := bo.lt
  refine (H1.out [.bool z1, .slice A2 z2.length c2, .slice A3 z3.length c3, .int .i64 z4, .int .i64 z5] _ B (by omega) (by rw [FTable.c_eq]; exact (RdVs.cons (by unfold RdC; rfl) (RdVs.cons (R2.out.below hB hB0) (RdVs.cons (R3.out.below hB hB0) (RdVs.cons (by unfold RdC; rfl) (RdVs.cons (by unfold RdC; rfl) (RdVs.nil _ _)))))))).mono ?_
  rw [FTable.c_eq]
  rintro e Y0 ⟨us_, rfl, own, hb⟩
  have hv := own.vs
  obtain ⟨us_1, rfl, hv_0⟩ := hv.unv
  obtain ⟨D2, d2, us_2, rfl, _, hv_1⟩ := hv_0.uns
  obtain ⟨D3, d3, us_3, rfl, _, hv_2⟩ := hv_1.uns
  obtain ⟨us_4, rfl, hv_3⟩ := hv_2.unv
  obtain ⟨us_5, rfl, hv_4⟩ := hv_3.unv
  obtain rfl := hv_4.un0
  have o1 := own
  clear own
  replace ba := ba.below hb (Nat.le_refl _)
  replace br := br.below hb (Nat.le_refl _)
  replace bo := bo.below hb (Nat.le_refl _)
  replace hB := hB.trans (hb.mono (by omega))
  have t0 : X0.heap.size ≤ Y0.heap.size := hb.size
  clear hb
  have ba_l := ba.lt
  have ba_f := fun i => ba.frozen i
  have br_0 : Y0.cell? ⟨w.heap.size + 1, 0, none⟩ = some (.int .i64 0) := br.cell 0
  have br_1 : Y0.cell? ⟨w.heap.size + 1, 1, none⟩ = some (.bool false) := br.cell 1
  have br_2 : Y0.cell? ⟨w.heap.size + 1, 2, none⟩ = some (.slice none 0 0) := br.cell 2
  have br_3 : Y0.cell? ⟨w.heap.size + 1, 3, none⟩ = some (.slice none 0 0) := br.cell 3
  have br_4 : Y0.cell? ⟨w.heap.size + 1, 4, none⟩ = some (.int .i64 0) := br.cell 4
  have br_5 : Y0.cell? ⟨w.heap.size + 1, 5, none⟩ = some (.int .i64 0) := br.cell 5
  have br_l := br.lt
  have br_f := fun i => br.frozen i
  have bo_0 : Y0.cell? ⟨w.heap.size + 1 + 1, 0, none⟩ = some (.int .i64 z0) := bo.cell 0
  have bo_1 : Y0.cell? ⟨w.heap.size + 1 + 1, 1, none⟩ = some (.bool false) := bo.cell 1
  have bo_2 : Y0.cell? ⟨w.heap.size + 1 + 1, 2, none⟩ = some (.slice none 0 0) := bo.cell 2
  have bo_3 : Y0.cell? ⟨w.heap.size + 1 + 1, 3, none⟩ = some (.slice none 0 0) := bo.cell 3
  have bo_4 : Y0.cell? ⟨w.heap.size + 1 + 1, 4, none⟩ = some (.int .i64 0) := bo.cell 4
  have bo_5 : Y0.cell? ⟨w.heap.size + 1 + 1, 5, none⟩ = some (.int .i64 0) := bo.cell 5
  have bo_l := bo.lt
  have bo_f := fun i => bo.frozen i
  go_wp2_with fail
  skip
  refine bodyPost_ret (v := .agg #[.int .i64 z0, .bool z1, .slice D2 z2.length d2, .slice D3 z3.length d3, .int .i64 z4, .int .i64 z5]) (by simp [results, Tryz.results99, go_sem, br_0, br_1, br_2, br_3, br_4, br_5, bo_0, bo_1, bo_2, bo_3, bo_4, bo_5, br_l, br_f, bo_l, bo_f]) rfl ⟨_, rfl, ?_, ?_⟩
  · refine OwnI.wide (lo := X0.heap.size) (hi := Y0.heap.size) ?_ (by omega) (by simp)
    repeat (refine OwnI.set ?_ (.inl (by simp; omega)) _)
    exact (OwnI.consv (OwnI.app (m := Y0.heap.size) (hi := Y0.heap.size) o1 (OwnI.wide (lo' := Y0.heap.size) (hi' := Y0.heap.size) (OwnI.nil _ Y0.heap.size Y0.heap.size) (by omega) (by omega)) (Nat.le_refl _) (by omega) (by omega)) _)
  · repeat (refine Below.setCell ?_ (by simp; try omega) _)
    exact hB
theorem oneBlock (x : FBlock) : ∀ y, y ∈ x.c → ∀ u, y = .v u → u.oneCell' = true := by
  obtain ⟨z0, ⟨z1, z2, z3, z4, z5⟩⟩ := x
  rw [FBlock.c_eq]
  intro y hx u hu
  simp only [List.mem_cons, List.not_mem_nil, or_false] at hx
  rcases hx with rfl | rfl | rfl | rfl | rfl | rfl <;> (first | (injection hu with hu; subst hu; rfl) | cases hu)
theorem infoBlock : (Tryz.prog.info? 201).map (fun i => (i.zero.map Value.cells, i.size, i.bytes)) = some (some #[.int .i64 0, .bool false, .slice none 0 0, .slice none 0 0, .int .i64 0, .int .i64 0], 6, 80) := by kernel_rfl
theorem toBlockS_of (l : List FBlock) (hl : l.length ≤ 1048576) (he : ∀ x, x ∈ l → ToBlock x) : ToBlockS l := by
  intro u w B hB0 hr0
  have hr := hr0.up hB0
  clear hr0
  obtain ⟨A, c, rfl⟩ := hr.form
  have HC := hid hr
  have hcap := hr.cap
  have hn : l.length ≤ 9223372036854775807 := by omega
  have hmk := fun W => make_law (P := Tryz.prog) 41 201 _ 6 80 Tryz.underlying41 infoBlock l.length (by omega) hn W
  have HE := hid he
  clear he hr hcap
  go_enter Tryz.func65, Tryz.ntmps65
  go_wp2
  go_loopw [4] (fun i wr => ∃ k : Nat, k ≤ l.length ∧ i = .int .i64 k ∧ (∃ us zs, us.length = k * 6 ∧ zs.length = (l.length - k) * 6 ∧ wr.ownsRow w.heap.size 201 6 (.slice (some ⟨w.heap.size, 0, none⟩) l.length l.length) l.length (us ++ zs) ∧ OwnI wr (w.heap.size + 1) wr.heap.size (FBlock.flat (l.take k)) us) ∧ Below w.heap.size w wr) (fun i _ => l.length - (intOf i).toNat)
  case atStart => exact ⟨0, Nat.zero_le _, rfl, ⟨[], madeL #[.int .i64 0, .bool false, .slice none 0 0, .slice none 0 0, .int .i64 0, .int .i64 0] (l.length * 6), by simp, by simp [madeL, size_madeCells], own_madeL w _ l.length 6 _ rfl (by omega) (by unfold maxLen; omega), OwnI.nil _ _ _⟩, (Below.refl _ _).alloc (Nat.le_refl _) _⟩
  case round =>
    obtain ⟨k, hk, rfl, ⟨us, zs, hus, hzs, hrow, hown⟩, hb⟩ := hrel
    have HROW := hid hrow
    have HOWN := hid hown
    have HUS := hid hus
    have HZS := hid hzs
    have hsz : w.heap.size < wr.heap.size := (hrow.lt _ rfl).2
    clear hmk hrow hown hus hzs
    by_cases hlt : k < l.length
    · obtain ⟨x, hx⟩ : ∃ x, l[k]? = some x := ⟨_, List.getElem?_eq_getElem hlt⟩
      obtain ⟨bc, offc, vs, rfl, hblc, hvl, hv, hra⟩ := RdC.elem FBlock.len HC.out hx
      have HX := hid hx
      have HT := hid (HE.out _ (List.mem_of_getElem? hx))
      have HV := hid (hv.on hb (Nat.le_refl _) (Nat.le_refl _))
      have HRA := hid (range_below hra hb hblc)
      have hlt2 : (k : Int) < (l.length : Int) := by omega
      have hk0 : (0 : Int) ≤ (k : Int) := by omega
      have hws := hb.size
      have HB := hid hb
      clear hx hv hra hb
      go_wp2_with (first | (refine wpList_load_elem 185 _ bc (offc + k * 6) vs (.struct (flds Tryz.prog 185)) HRA.out rfl rfl (by kernel_rfl) rfl hvl (by kernel_rfl) rfl ?_) | (go_at_call 99; refine (HT.out vs _ w.heap.size (by omega) HV.out).mono ?_; rintro e w2 ⟨us2, rfl, own2, hb2⟩; have hu2 : us2.length = 6 := own2.vs.1.trans (FBlock.len x); have ON2 := hid (OwnL.onecell _ _ _ own2.choose_spec.1 (oneBlock x)); have OWN2 := hid own2; have ROW2 := hid (own_below HROW.out hb2 (Nat.le_refl _)); have hsz2 : wr.heap.size ≤ w2.heap.size := hb2.size; have HB2 := hid (HB.out.trans (hb2.mono hws)); have HOWN2 := hid (HOWN.out.below hb2 (Nat.le_refl _)); clear own2 hb2) | (refine wpList_store_elem 201 _ _ (k * 6) us2 ROW2.out rfl rfl rfl hu2 (by omega) (by kernel_rfl) ON2.out rfl ?_; intro w3 row3 gr3; have ROW3 := hid row3; have GR3 := hid gr3; have hsz3 := gr3.size; clear row3 gr3))
      go_roundw
      case rel =>
        have hflat : FBlock.flat (l.take (k + 1)) = FBlock.flat (l.take k) ++ x.c := by
          rw [List.take_add_one, HX.out]
          simp
        have hset := sets_app us2 us zs (k * 6) HUS.out (by rw [HZS.out, hu2]; omega)
        refine ⟨k + 1, by omega, by go_num, ⟨us ++ us2, zs.drop 6, by rw [List.length_append, HUS.out, hu2]; omega, by rw [List.length_drop, HZS.out]; omega, ?_, ?_⟩, below_grownB HB2.out GR3.out (by omega) (Nat.le_refl _)⟩
        · have hr3 := ROW3.out
          rw [hset, hu2] at hr3
          exact hr3
        · rw [hflat]
          exact ((OwnI.app (m := wr.heap.size) (lo' := wr.heap.size) (hi := w2.heap.size) HOWN2.out OWN2.out (Nat.le_refl _) (by omega) (by omega)).grownB GR3.out (.inl (by omega))).wide (Nat.le_refl _) hsz3
      case measure => simp [intOf]; omega
    · obtain rfl : k = l.length := by omega
      clear hlt
      go_wp2_with fail
      go_ret
      have hz0 : zs = [] := List.eq_nil_of_length_eq_zero (by rw [HZS.out]; simp)
      have hr1 := HROW.out
      have ho1 := HOWN.out
      rw [hz0, List.append_nil] at hr1
      rw [List.take_length] at ho1
      exact ⟨_, _, rfl, OwnI.mk hr1 ho1 (fun g hg => by
        have e9 : w.heap.size = g := by simpa [Value.ownBlock] using hg
        omega) (by omega) (Nat.le_refl _), hb⟩
theorem toBlock_any (x : FBlock) (hw : x.wt ≤ 1048576) : ToBlock x := by
  obtain ⟨z0, ⟨z1, z2, z3, z4, z5⟩⟩ := x
  exact toBlock_of z0 z1 z2 z3 z4 z5 (toTable_any _ (by rw [FBlock.wt_eq] at hw; rw [FTable.wt_eq]; omega))
theorem toBlockS_any (l : List FBlock) (hw : l.length + FBlock.wts l ≤ 1048576) : ToBlockS l := (toBlockS_of l (by omega) (fun x hx => toBlock_any x (by have := FBlock.wts_at l x hx; omega)))
def ToHeap (x : FHeap) : Prop := ∀ (us : List Value) (w : World) (B : Nat), B ≤ w.heap.size → RdVs w B x.c us → Calls Tryz.prog 25 #[.agg us.toArray] w fun e w' => ∃ us', e = .returned (.agg us'.toArray) ∧ OwnI w' w.heap.size w'.heap.size x.c us' ∧ Below w.heap.size w w'
theorem toHeap_of (z0 : List FBlock) (h0 : ToBlockS z0) : ToHeap ⟨z0⟩ := by
  intro us w B hB0 hr
  rw [FHeap.c_eq] at hr ⊢
  obtain ⟨A0, c0, us0, rfl, r0, hr_0⟩ := hr.uns
  obtain rfl := hr_0.un0
  have R0 := hid r0
  clear r0
  have H0 := hid h0
  clear h0
  go_enter Tryz.func25, Tryz.ntmps25
  go_wp2_with fail
  refine calls_worldD _ (fun X => Blk X (w.heap.size) 26 #[.slice A0 z0.length c0] ∧ Blk X (w.heap.size + 1) 43 #[.slice none 0 0] ∧ Blk X (w.heap.size + 1 + 1) 43 #[.slice none 0 0] ∧ Below w.heap.size w X) ⟨((Blk.new w _ _).alloc _).alloc _, (Blk.new' (w.alloc _) _ _ _ (by simp)).alloc _, Blk.new' ((w.alloc _).alloc _) _ _ _ (by simp), ((((Below.refl _ _).alloc (Nat.le_refl _) _).alloc (by simp) _).alloc (by simp; omega) _)⟩ ?_
  rintro X0 ⟨ba, br, bo, hB⟩
  have s0 := bo.lt
  refine (H0.out _ _ B (by omega) (R0.out.below hB hB0)).mono ?_
  rintro e Y0 ⟨D0, d0, rfl, own, hb⟩
  have o0 := own
  clear own
  replace ba := ba.below hb (Nat.le_refl _)
  replace br := br.below hb (Nat.le_refl _)
  replace bo := bo.below hb (Nat.le_refl _)
  replace hB := hB.trans (hb.mono (by omega))
  have t0 : X0.heap.size ≤ Y0.heap.size := hb.size
  clear hb
  have ba_l := ba.lt
  have ba_f := fun i => ba.frozen i
  have br_0 : Y0.cell? ⟨w.heap.size + 1, 0, none⟩ = some (.slice none 0 0) := br.cell 0
  have br_l := br.lt
  have br_f := fun i => br.frozen i
  have bo_0 : Y0.cell? ⟨w.heap.size + 1 + 1, 0, none⟩ = some (.slice none 0 0) := bo.cell 0
  have bo_l := bo.lt
  have bo_f := fun i => bo.frozen i
  go_wp2_with fail
  skip
  refine bodyPost_ret (v := .agg #[.slice D0 z0.length d0]) (by simp [results, Tryz.results25, go_sem, br_0, bo_0, br_l, br_f, bo_l, bo_f]) rfl ⟨_, rfl, ?_, ?_⟩
  · refine OwnI.wide (lo := X0.heap.size) (hi := Y0.heap.size) ?_ (by omega) (by simp)
    repeat (refine OwnI.set ?_ (.inl (by simp; omega)) _)
    exact (OwnI.app (m := Y0.heap.size) (hi := Y0.heap.size) o0 (OwnI.wide (lo' := Y0.heap.size) (hi' := Y0.heap.size) (OwnI.nil _ Y0.heap.size Y0.heap.size) (by omega) (by omega)) (Nat.le_refl _) (by omega) (by omega))
  · repeat (refine Below.setCell ?_ (by simp; try omega) _)
    exact hB
theorem toHeap_any (x : FHeap) (hw : x.wt ≤ 1048576) : ToHeap x := by
  obtain ⟨z0⟩ := x
  exact toHeap_of z0 (toBlockS_any z0 (by rw [FHeap.wt_eq] at hw; omega))
def ToBinding (x : FBinding) : Prop := ∀ (us : List Value) (w : World) (B : Nat), B ≤ w.heap.size → RdVs w B x.c us → Calls Tryz.prog 126 #[.agg us.toArray] w fun e w' => ∃ us', e = .returned (.agg us'.toArray) ∧ OwnI w' w.heap.size w'.heap.size x.c us' ∧ Below w.heap.size w w'
def ToBindingS (l : List FBinding) : Prop := ∀ (u : Value) (w : World) (B : Nat), B ≤ w.heap.size → RdC w B (.s 84 6 l.length (FBinding.flat l)) u → Calls Tryz.prog 100 #[u] w fun e w' => ∃ A c, e = .returned (.slice A l.length c) ∧ OwnI w' w.heap.size w'.heap.size [.s 84 6 l.length (FBinding.flat l)] [.slice A l.length c] ∧ Below w.heap.size w w'
theorem toBinding_of (z0 : ByteArray) (z1 : Int) (z2 : Int) (z3 : ByteArray) (z4 : Int) (z5 : List FEntry) (h1 : ToValue ⟨z1, z2, z3, z4, z5⟩) : ToBinding ⟨z0, ⟨z1, z2, z3, z4, z5⟩⟩ := by
  intro us w B hB0 hr
  rw [FBinding.c_eq] at hr ⊢
  obtain ⟨us0, rfl, hr_0⟩ := hr.unv
  obtain ⟨us1, rfl, hr_1⟩ := hr_0.unv
  obtain ⟨us2, rfl, hr_2⟩ := hr_1.unv
  obtain ⟨us3, rfl, hr_3⟩ := hr_2.unv
  obtain ⟨us4, rfl, hr_4⟩ := hr_3.unv
  obtain ⟨A5, c5, us5, rfl, r5, hr_5⟩ := hr_4.uns
  obtain rfl := hr_5.un0
  have R5 := hid r5
  clear r5
  have H1 := hid h1
  clear h1
  go_enter Tryz.func126, Tryz.ntmps126
  go_wp2_with fail
  refine calls_worldD _ (fun X => Blk X (w.heap.size) 232 #[.string z0, .int .i64 z1, .int .i64 z2, .string z3, .int .i64 z4, .slice A5 z5.length c5] ∧ Blk X (w.heap.size + 1) 84 #[.string ⟨#[]⟩, .int .i64 0, .int .i64 0, .string ⟨#[]⟩, .int .i64 0, .slice none 0 0] ∧ Blk X (w.heap.size + 1 + 1) 84 #[.string z0, .int .i64 0, .int .i64 0, .string ⟨#[]⟩, .int .i64 0, .slice none 0 0] ∧ Below w.heap.size w X) ⟨((Blk.new w _ _).alloc _).alloc _, (Blk.new' (w.alloc _) _ _ _ (by simp)).alloc _, Blk.new' ((w.alloc _).alloc _) _ _ _ (by simp), ((((Below.refl _ _).alloc (Nat.le_refl _) _).alloc (by simp) _).alloc (by simp; omega) _)⟩ ?_
  rintro X0 ⟨ba, br, bo, hB⟩
  have s0 := bo.lt
  refine (H1.out [.int .i64 z1, .int .i64 z2, .string z3, .int .i64 z4, .slice A5 z5.length c5] _ B (by omega) (by rw [FValue.c_eq]; exact (RdVs.cons (by unfold RdC; rfl) (RdVs.cons (by unfold RdC; rfl) (RdVs.cons (by unfold RdC; rfl) (RdVs.cons (by unfold RdC; rfl) (RdVs.cons (R5.out.below hB hB0) (RdVs.nil _ _)))))))).mono ?_
  rw [FValue.c_eq]
  rintro e Y0 ⟨us_, rfl, own, hb⟩
  have hv := own.vs
  obtain ⟨us_1, rfl, hv_0⟩ := hv.unv
  obtain ⟨us_2, rfl, hv_1⟩ := hv_0.unv
  obtain ⟨us_3, rfl, hv_2⟩ := hv_1.unv
  obtain ⟨us_4, rfl, hv_3⟩ := hv_2.unv
  obtain ⟨D5, d5, us_5, rfl, _, hv_4⟩ := hv_3.uns
  obtain rfl := hv_4.un0
  have o1 := own
  clear own
  replace ba := ba.below hb (Nat.le_refl _)
  replace br := br.below hb (Nat.le_refl _)
  replace bo := bo.below hb (Nat.le_refl _)
  replace hB := hB.trans (hb.mono (by omega))
  have t0 : X0.heap.size ≤ Y0.heap.size := hb.size
  clear hb
  have ba_l := ba.lt
  have ba_f := fun i => ba.frozen i
  have br_0 : Y0.cell? ⟨w.heap.size + 1, 0, none⟩ = some (.string ⟨#[]⟩) := br.cell 0
  have br_1 : Y0.cell? ⟨w.heap.size + 1, 1, none⟩ = some (.int .i64 0) := br.cell 1
  have br_2 : Y0.cell? ⟨w.heap.size + 1, 2, none⟩ = some (.int .i64 0) := br.cell 2
  have br_3 : Y0.cell? ⟨w.heap.size + 1, 3, none⟩ = some (.string ⟨#[]⟩) := br.cell 3
  have br_4 : Y0.cell? ⟨w.heap.size + 1, 4, none⟩ = some (.int .i64 0) := br.cell 4
  have br_5 : Y0.cell? ⟨w.heap.size + 1, 5, none⟩ = some (.slice none 0 0) := br.cell 5
  have br_l := br.lt
  have br_f := fun i => br.frozen i
  have bo_0 : Y0.cell? ⟨w.heap.size + 1 + 1, 0, none⟩ = some (.string z0) := bo.cell 0
  have bo_1 : Y0.cell? ⟨w.heap.size + 1 + 1, 1, none⟩ = some (.int .i64 0) := bo.cell 1
  have bo_2 : Y0.cell? ⟨w.heap.size + 1 + 1, 2, none⟩ = some (.int .i64 0) := bo.cell 2
  have bo_3 : Y0.cell? ⟨w.heap.size + 1 + 1, 3, none⟩ = some (.string ⟨#[]⟩) := bo.cell 3
  have bo_4 : Y0.cell? ⟨w.heap.size + 1 + 1, 4, none⟩ = some (.int .i64 0) := bo.cell 4
  have bo_5 : Y0.cell? ⟨w.heap.size + 1 + 1, 5, none⟩ = some (.slice none 0 0) := bo.cell 5
  have bo_l := bo.lt
  have bo_f := fun i => bo.frozen i
  go_wp2_with fail
  skip
  refine bodyPost_ret (v := .agg #[.string z0, .int .i64 z1, .int .i64 z2, .string z3, .int .i64 z4, .slice D5 z5.length d5]) (by simp [results, Tryz.results126, go_sem, br_0, br_1, br_2, br_3, br_4, br_5, bo_0, bo_1, bo_2, bo_3, bo_4, bo_5, br_l, br_f, bo_l, bo_f]) rfl ⟨_, rfl, ?_, ?_⟩
  · refine OwnI.wide (lo := X0.heap.size) (hi := Y0.heap.size) ?_ (by omega) (by simp)
    repeat (refine OwnI.set ?_ (.inl (by simp; omega)) _)
    exact (OwnI.consv (OwnI.app (m := Y0.heap.size) (hi := Y0.heap.size) o1 (OwnI.wide (lo' := Y0.heap.size) (hi' := Y0.heap.size) (OwnI.nil _ Y0.heap.size Y0.heap.size) (by omega) (by omega)) (Nat.le_refl _) (by omega) (by omega)) _)
  · repeat (refine Below.setCell ?_ (by simp; try omega) _)
    exact hB
theorem oneBinding (x : FBinding) : ∀ y, y ∈ x.c → ∀ u, y = .v u → u.oneCell' = true := by
  obtain ⟨z0, ⟨z1, z2, z3, z4, z5⟩⟩ := x
  rw [FBinding.c_eq]
  intro y hx u hu
  simp only [List.mem_cons, List.not_mem_nil, or_false] at hx
  rcases hx with rfl | rfl | rfl | rfl | rfl | rfl <;> (first | (injection hu with hu; subst hu; rfl) | cases hu)
theorem infoBinding : (Tryz.prog.info? 84).map (fun i => (i.zero.map Value.cells, i.size, i.bytes)) = some (some #[.string ByteArray.empty, .int .i64 0, .int .i64 0, .string ByteArray.empty, .int .i64 0, .slice none 0 0], 6, 80) := by kernel_rfl
theorem toBindingS_of (l : List FBinding) (hl : l.length ≤ 1048576) (he : ∀ x, x ∈ l → ToBinding x) : ToBindingS l := by
  intro u w B hB0 hr0
  have hr := hr0.up hB0
  clear hr0
  obtain ⟨A, c, rfl⟩ := hr.form
  have HC := hid hr
  have hcap := hr.cap
  have hn : l.length ≤ 9223372036854775807 := by omega
  have hmk := fun W => make_law (P := Tryz.prog) 77 84 _ 6 80 Tryz.underlying77 infoBinding l.length (by omega) hn W
  have HE := hid he
  clear he hr hcap
  go_enter Tryz.func100, Tryz.ntmps100
  go_wp2
  go_loopw [4] (fun i wr => ∃ k : Nat, k ≤ l.length ∧ i = .int .i64 k ∧ (∃ us zs, us.length = k * 6 ∧ zs.length = (l.length - k) * 6 ∧ wr.ownsRow w.heap.size 84 6 (.slice (some ⟨w.heap.size, 0, none⟩) l.length l.length) l.length (us ++ zs) ∧ OwnI wr (w.heap.size + 1) wr.heap.size (FBinding.flat (l.take k)) us) ∧ Below w.heap.size w wr) (fun i _ => l.length - (intOf i).toNat)
  case atStart => exact ⟨0, Nat.zero_le _, rfl, ⟨[], madeL #[.string ByteArray.empty, .int .i64 0, .int .i64 0, .string ByteArray.empty, .int .i64 0, .slice none 0 0] (l.length * 6), by simp, by simp [madeL, size_madeCells], own_madeL w _ l.length 6 _ rfl (by omega) (by unfold maxLen; omega), OwnI.nil _ _ _⟩, (Below.refl _ _).alloc (Nat.le_refl _) _⟩
  case round =>
    obtain ⟨k, hk, rfl, ⟨us, zs, hus, hzs, hrow, hown⟩, hb⟩ := hrel
    have HROW := hid hrow
    have HOWN := hid hown
    have HUS := hid hus
    have HZS := hid hzs
    have hsz : w.heap.size < wr.heap.size := (hrow.lt _ rfl).2
    clear hmk hrow hown hus hzs
    by_cases hlt : k < l.length
    · obtain ⟨x, hx⟩ : ∃ x, l[k]? = some x := ⟨_, List.getElem?_eq_getElem hlt⟩
      obtain ⟨bc, offc, vs, rfl, hblc, hvl, hv, hra⟩ := RdC.elem FBinding.len HC.out hx
      have HX := hid hx
      have HT := hid (HE.out _ (List.mem_of_getElem? hx))
      have HV := hid (hv.on hb (Nat.le_refl _) (Nat.le_refl _))
      have HRA := hid (range_below hra hb hblc)
      have hlt2 : (k : Int) < (l.length : Int) := by omega
      have hk0 : (0 : Int) ≤ (k : Int) := by omega
      have hws := hb.size
      have HB := hid hb
      clear hx hv hra hb
      go_wp2_with (first | (refine wpList_load_elem 232 _ bc (offc + k * 6) vs (.struct (flds Tryz.prog 232)) HRA.out rfl rfl (by kernel_rfl) rfl hvl (by kernel_rfl) rfl ?_) | (go_at_call 126; refine (HT.out vs _ w.heap.size (by omega) HV.out).mono ?_; rintro e w2 ⟨us2, rfl, own2, hb2⟩; have hu2 : us2.length = 6 := own2.vs.1.trans (FBinding.len x); have ON2 := hid (OwnL.onecell _ _ _ own2.choose_spec.1 (oneBinding x)); have OWN2 := hid own2; have ROW2 := hid (own_below HROW.out hb2 (Nat.le_refl _)); have hsz2 : wr.heap.size ≤ w2.heap.size := hb2.size; have HB2 := hid (HB.out.trans (hb2.mono hws)); have HOWN2 := hid (HOWN.out.below hb2 (Nat.le_refl _)); clear own2 hb2) | (refine wpList_store_elem 84 _ _ (k * 6) us2 ROW2.out rfl rfl rfl hu2 (by omega) (by kernel_rfl) ON2.out rfl ?_; intro w3 row3 gr3; have ROW3 := hid row3; have GR3 := hid gr3; have hsz3 := gr3.size; clear row3 gr3))
      go_roundw
      case rel =>
        have hflat : FBinding.flat (l.take (k + 1)) = FBinding.flat (l.take k) ++ x.c := by
          rw [List.take_add_one, HX.out]
          simp
        have hset := sets_app us2 us zs (k * 6) HUS.out (by rw [HZS.out, hu2]; omega)
        refine ⟨k + 1, by omega, by go_num, ⟨us ++ us2, zs.drop 6, by rw [List.length_append, HUS.out, hu2]; omega, by rw [List.length_drop, HZS.out]; omega, ?_, ?_⟩, below_grownB HB2.out GR3.out (by omega) (Nat.le_refl _)⟩
        · have hr3 := ROW3.out
          rw [hset, hu2] at hr3
          exact hr3
        · rw [hflat]
          exact ((OwnI.app (m := wr.heap.size) (lo' := wr.heap.size) (hi := w2.heap.size) HOWN2.out OWN2.out (Nat.le_refl _) (by omega) (by omega)).grownB GR3.out (.inl (by omega))).wide (Nat.le_refl _) hsz3
      case measure => simp [intOf]; omega
    · obtain rfl : k = l.length := by omega
      clear hlt
      go_wp2_with fail
      go_ret
      have hz0 : zs = [] := List.eq_nil_of_length_eq_zero (by rw [HZS.out]; simp)
      have hr1 := HROW.out
      have ho1 := HOWN.out
      rw [hz0, List.append_nil] at hr1
      rw [List.take_length] at ho1
      exact ⟨_, _, rfl, OwnI.mk hr1 ho1 (fun g hg => by
        have e9 : w.heap.size = g := by simpa [Value.ownBlock] using hg
        omega) (by omega) (Nat.le_refl _), hb⟩
theorem toBinding_any (x : FBinding) (hw : x.wt ≤ 1048576) : ToBinding x := by
  obtain ⟨z0, ⟨z1, z2, z3, z4, z5⟩⟩ := x
  exact toBinding_of z0 z1 z2 z3 z4 z5 (toValue_any _ (by rw [FBinding.wt_eq] at hw; rw [FValue.wt_eq]; omega))
theorem toBindingS_any (l : List FBinding) (hw : l.length + FBinding.wts l ≤ 1048576) : ToBindingS l := (toBindingS_of l (by omega) (fun x hx => toBinding_any x (by have := FBinding.wts_at l x hx; omega)))
def ToObject (x : FObject) : Prop := ∀ (us : List Value) (w : World) (B : Nat), B ≤ w.heap.size → RdVs w B x.c us → Calls Tryz.prog 66 #[.agg us.toArray] w fun e w' => ∃ us', e = .returned (.agg us'.toArray) ∧ OwnI w' w.heap.size w'.heap.size x.c us' ∧ Below w.heap.size w w'
def ToObjectS (l : List FObject) : Prop := ∀ (u : Value) (w : World) (B : Nat), B ≤ w.heap.size → RdC w B (.s 79 3 l.length (FObject.flat l)) u → Calls Tryz.prog 26 #[u] w fun e w' => ∃ A c, e = .returned (.slice A l.length c) ∧ OwnI w' w.heap.size w'.heap.size [.s 79 3 l.length (FObject.flat l)] [.slice A l.length c] ∧ Below w.heap.size w w'
theorem toObject_of (z0 : ByteArray) (z1 : Bool) (z2 : List FBinding) (h2 : ToBindingS z2) : ToObject ⟨z0, z1, z2⟩ := by
  intro us w B hB0 hr
  rw [FObject.c_eq] at hr ⊢
  obtain ⟨us0, rfl, hr_0⟩ := hr.unv
  obtain ⟨us1, rfl, hr_1⟩ := hr_0.unv
  obtain ⟨A2, c2, us2, rfl, r2, hr_2⟩ := hr_1.uns
  obtain rfl := hr_2.un0
  have R2 := hid r2
  clear r2
  have H2 := hid h2
  clear h2
  go_enter Tryz.func66, Tryz.ntmps66
  go_wp2_with fail
  refine calls_worldD _ (fun X => Blk X (w.heap.size) 123 #[.string z0, .bool z1, .slice A2 z2.length c2] ∧ Blk X (w.heap.size + 1) 79 #[.string ⟨#[]⟩, .bool false, .slice none 0 0] ∧ Blk X (w.heap.size + 1 + 1) 79 #[.string z0, .bool z1, .slice none 0 0] ∧ Below w.heap.size w X) ⟨((Blk.new w _ _).alloc _).alloc _, (Blk.new' (w.alloc _) _ _ _ (by simp)).alloc _, Blk.new' ((w.alloc _).alloc _) _ _ _ (by simp), ((((Below.refl _ _).alloc (Nat.le_refl _) _).alloc (by simp) _).alloc (by simp; omega) _)⟩ ?_
  rintro X0 ⟨ba, br, bo, hB⟩
  have s0 := bo.lt
  refine (H2.out _ _ B (by omega) (R2.out.below hB hB0)).mono ?_
  rintro e Y0 ⟨D2, d2, rfl, own, hb⟩
  have o2 := own
  clear own
  replace ba := ba.below hb (Nat.le_refl _)
  replace br := br.below hb (Nat.le_refl _)
  replace bo := bo.below hb (Nat.le_refl _)
  replace hB := hB.trans (hb.mono (by omega))
  have t0 : X0.heap.size ≤ Y0.heap.size := hb.size
  clear hb
  have ba_l := ba.lt
  have ba_f := fun i => ba.frozen i
  have br_0 : Y0.cell? ⟨w.heap.size + 1, 0, none⟩ = some (.string ⟨#[]⟩) := br.cell 0
  have br_1 : Y0.cell? ⟨w.heap.size + 1, 1, none⟩ = some (.bool false) := br.cell 1
  have br_2 : Y0.cell? ⟨w.heap.size + 1, 2, none⟩ = some (.slice none 0 0) := br.cell 2
  have br_l := br.lt
  have br_f := fun i => br.frozen i
  have bo_0 : Y0.cell? ⟨w.heap.size + 1 + 1, 0, none⟩ = some (.string z0) := bo.cell 0
  have bo_1 : Y0.cell? ⟨w.heap.size + 1 + 1, 1, none⟩ = some (.bool z1) := bo.cell 1
  have bo_2 : Y0.cell? ⟨w.heap.size + 1 + 1, 2, none⟩ = some (.slice none 0 0) := bo.cell 2
  have bo_l := bo.lt
  have bo_f := fun i => bo.frozen i
  go_wp2_with fail
  skip
  refine bodyPost_ret (v := .agg #[.string z0, .bool z1, .slice D2 z2.length d2]) (by simp [results, Tryz.results66, go_sem, br_0, br_1, br_2, bo_0, bo_1, bo_2, br_l, br_f, bo_l, bo_f]) rfl ⟨_, rfl, ?_, ?_⟩
  · refine OwnI.wide (lo := X0.heap.size) (hi := Y0.heap.size) ?_ (by omega) (by simp)
    repeat (refine OwnI.set ?_ (.inl (by simp; omega)) _)
    exact (OwnI.consv (OwnI.consv (OwnI.app (m := Y0.heap.size) (hi := Y0.heap.size) o2 (OwnI.wide (lo' := Y0.heap.size) (hi' := Y0.heap.size) (OwnI.nil _ Y0.heap.size Y0.heap.size) (by omega) (by omega)) (Nat.le_refl _) (by omega) (by omega)) _) _)
  · repeat (refine Below.setCell ?_ (by simp; try omega) _)
    exact hB
theorem oneObject (x : FObject) : ∀ y, y ∈ x.c → ∀ u, y = .v u → u.oneCell' = true := by
  obtain ⟨z0, z1, z2⟩ := x
  rw [FObject.c_eq]
  intro y hx u hu
  simp only [List.mem_cons, List.not_mem_nil, or_false] at hx
  rcases hx with rfl | rfl | rfl <;> (first | (injection hu with hu; subst hu; rfl) | cases hu)
theorem infoObject : (Tryz.prog.info? 79).map (fun i => (i.zero.map Value.cells, i.size, i.bytes)) = some (some #[.string ByteArray.empty, .bool false, .slice none 0 0], 3, 48) := by kernel_rfl
theorem toObjectS_of (l : List FObject) (hl : l.length ≤ 1048576) (he : ∀ x, x ∈ l → ToObject x) : ToObjectS l := by
  intro u w B hB0 hr0
  have hr := hr0.up hB0
  clear hr0
  obtain ⟨A, c, rfl⟩ := hr.form
  have HC := hid hr
  have hcap := hr.cap
  have hn : l.length ≤ 9223372036854775807 := by omega
  have hmk := fun W => make_law (P := Tryz.prog) 44 79 _ 3 48 Tryz.underlying44 infoObject l.length (by omega) hn W
  have HE := hid he
  clear he hr hcap
  go_enter Tryz.func26, Tryz.ntmps26
  go_wp2
  go_loopw [4] (fun i wr => ∃ k : Nat, k ≤ l.length ∧ i = .int .i64 k ∧ (∃ us zs, us.length = k * 3 ∧ zs.length = (l.length - k) * 3 ∧ wr.ownsRow w.heap.size 79 3 (.slice (some ⟨w.heap.size, 0, none⟩) l.length l.length) l.length (us ++ zs) ∧ OwnI wr (w.heap.size + 1) wr.heap.size (FObject.flat (l.take k)) us) ∧ Below w.heap.size w wr) (fun i _ => l.length - (intOf i).toNat)
  case atStart => exact ⟨0, Nat.zero_le _, rfl, ⟨[], madeL #[.string ByteArray.empty, .bool false, .slice none 0 0] (l.length * 3), by simp, by simp [madeL, size_madeCells], own_madeL w _ l.length 3 _ rfl (by omega) (by unfold maxLen; omega), OwnI.nil _ _ _⟩, (Below.refl _ _).alloc (Nat.le_refl _) _⟩
  case round =>
    obtain ⟨k, hk, rfl, ⟨us, zs, hus, hzs, hrow, hown⟩, hb⟩ := hrel
    have HROW := hid hrow
    have HOWN := hid hown
    have HUS := hid hus
    have HZS := hid hzs
    have hsz : w.heap.size < wr.heap.size := (hrow.lt _ rfl).2
    clear hmk hrow hown hus hzs
    by_cases hlt : k < l.length
    · obtain ⟨x, hx⟩ : ∃ x, l[k]? = some x := ⟨_, List.getElem?_eq_getElem hlt⟩
      obtain ⟨bc, offc, vs, rfl, hblc, hvl, hv, hra⟩ := RdC.elem FObject.len HC.out hx
      have HX := hid hx
      have HT := hid (HE.out _ (List.mem_of_getElem? hx))
      have HV := hid (hv.on hb (Nat.le_refl _) (Nat.le_refl _))
      have HRA := hid (range_below hra hb hblc)
      have hlt2 : (k : Int) < (l.length : Int) := by omega
      have hk0 : (0 : Int) ≤ (k : Int) := by omega
      have hws := hb.size
      have HB := hid hb
      clear hx hv hra hb
      go_wp2_with (first | (refine wpList_load_elem 123 _ bc (offc + k * 3) vs (.struct (flds Tryz.prog 123)) HRA.out rfl rfl (by kernel_rfl) rfl hvl (by kernel_rfl) rfl ?_) | (go_at_call 66; refine (HT.out vs _ w.heap.size (by omega) HV.out).mono ?_; rintro e w2 ⟨us2, rfl, own2, hb2⟩; have hu2 : us2.length = 3 := own2.vs.1.trans (FObject.len x); have ON2 := hid (OwnL.onecell _ _ _ own2.choose_spec.1 (oneObject x)); have OWN2 := hid own2; have ROW2 := hid (own_below HROW.out hb2 (Nat.le_refl _)); have hsz2 : wr.heap.size ≤ w2.heap.size := hb2.size; have HB2 := hid (HB.out.trans (hb2.mono hws)); have HOWN2 := hid (HOWN.out.below hb2 (Nat.le_refl _)); clear own2 hb2) | (refine wpList_store_elem 79 _ _ (k * 3) us2 ROW2.out rfl rfl rfl hu2 (by omega) (by kernel_rfl) ON2.out rfl ?_; intro w3 row3 gr3; have ROW3 := hid row3; have GR3 := hid gr3; have hsz3 := gr3.size; clear row3 gr3))
      go_roundw
      case rel =>
        have hflat : FObject.flat (l.take (k + 1)) = FObject.flat (l.take k) ++ x.c := by
          rw [List.take_add_one, HX.out]
          simp
        have hset := sets_app us2 us zs (k * 3) HUS.out (by rw [HZS.out, hu2]; omega)
        refine ⟨k + 1, by omega, by go_num, ⟨us ++ us2, zs.drop 3, by rw [List.length_append, HUS.out, hu2]; omega, by rw [List.length_drop, HZS.out]; omega, ?_, ?_⟩, below_grownB HB2.out GR3.out (by omega) (Nat.le_refl _)⟩
        · have hr3 := ROW3.out
          rw [hset, hu2] at hr3
          exact hr3
        · rw [hflat]
          exact ((OwnI.app (m := wr.heap.size) (lo' := wr.heap.size) (hi := w2.heap.size) HOWN2.out OWN2.out (Nat.le_refl _) (by omega) (by omega)).grownB GR3.out (.inl (by omega))).wide (Nat.le_refl _) hsz3
      case measure => simp [intOf]; omega
    · obtain rfl : k = l.length := by omega
      clear hlt
      go_wp2_with fail
      go_ret
      have hz0 : zs = [] := List.eq_nil_of_length_eq_zero (by rw [HZS.out]; simp)
      have hr1 := HROW.out
      have ho1 := HOWN.out
      rw [hz0, List.append_nil] at hr1
      rw [List.take_length] at ho1
      exact ⟨_, _, rfl, OwnI.mk hr1 ho1 (fun g hg => by
        have e9 : w.heap.size = g := by simpa [Value.ownBlock] using hg
        omega) (by omega) (Nat.le_refl _), hb⟩
theorem toObject_any (x : FObject) (hw : x.wt ≤ 1048576) : ToObject x := by
  obtain ⟨z0, z1, z2⟩ := x
  exact toObject_of z0 z1 z2 (toBindingS_any z2 (by rw [FObject.wt_eq] at hw; omega))
theorem toObjectS_any (l : List FObject) (hw : l.length + FObject.wts l ≤ 1048576) : ToObjectS l := (toObjectS_of l (by omega) (fun x hx => toObject_any x (by have := FObject.wts_at l x hx; omega)))
def ToClosure (x : FClosure) : Prop := ∀ (us : List Value) (w : World) (B : Nat), B ≤ w.heap.size → RdVs w B x.c us → Calls Tryz.prog 67 #[.agg us.toArray] w fun e w' => ∃ us', e = .returned (.agg us'.toArray) ∧ OwnI w' w.heap.size w'.heap.size x.c us' ∧ Below w.heap.size w w'
def ToClosureS (l : List FClosure) : Prop := ∀ (u : Value) (w : World) (B : Nat), B ≤ w.heap.size → RdC w B (.s 144 5 l.length (FClosure.flat l)) u → Calls Tryz.prog 27 #[u] w fun e w' => ∃ A c, e = .returned (.slice A l.length c) ∧ OwnI w' w.heap.size w'.heap.size [.s 144 5 l.length (FClosure.flat l)] [.slice A l.length c] ∧ Below w.heap.size w w'
theorem toClosure_of (z0 : Int) (z1 : List FInt) (z2 : Int) (z3 : ByteArray) (z4 : ByteArray) (h1 : ToIntS z1) : ToClosure ⟨z0, z1, z2, z3, z4⟩ := by
  intro us w B hB0 hr
  rw [FClosure.c_eq] at hr ⊢
  obtain ⟨us0, rfl, hr_0⟩ := hr.unv
  obtain ⟨A1, c1, us1, rfl, r1, hr_1⟩ := hr_0.uns
  obtain ⟨us2, rfl, hr_2⟩ := hr_1.unv
  obtain ⟨us3, rfl, hr_3⟩ := hr_2.unv
  obtain ⟨us4, rfl, hr_4⟩ := hr_3.unv
  obtain rfl := hr_4.un0
  have R1 := hid r1
  clear r1
  have H1 := hid h1
  clear h1
  go_enter Tryz.func67, Tryz.ntmps67
  go_wp2_with fail
  refine calls_worldD _ (fun X => Blk X (w.heap.size) 126 #[.int .i64 z0, .slice A1 z1.length c1, .int .i64 z2, .string z3, .string z4] ∧ Blk X (w.heap.size + 1) 144 #[.int .i64 0, .slice none 0 0, .int .i64 0, .string ⟨#[]⟩, .string ⟨#[]⟩] ∧ Blk X (w.heap.size + 1 + 1) 144 #[.int .i64 z0, .slice none 0 0, .int .i64 0, .string ⟨#[]⟩, .string ⟨#[]⟩] ∧ Below w.heap.size w X) ⟨((Blk.new w _ _).alloc _).alloc _, (Blk.new' (w.alloc _) _ _ _ (by simp)).alloc _, Blk.new' ((w.alloc _).alloc _) _ _ _ (by simp), ((((Below.refl _ _).alloc (Nat.le_refl _) _).alloc (by simp) _).alloc (by simp; omega) _)⟩ ?_
  rintro X0 ⟨ba, br, bo, hB⟩
  have s0 := bo.lt
  refine (H1.out _ _ B (by omega) (R1.out.below hB hB0)).mono ?_
  rintro e Y0 ⟨D1, d1, rfl, own, hb⟩
  have o1 := own
  clear own
  replace ba := ba.below hb (Nat.le_refl _)
  replace br := br.below hb (Nat.le_refl _)
  replace bo := bo.below hb (Nat.le_refl _)
  replace hB := hB.trans (hb.mono (by omega))
  have t0 : X0.heap.size ≤ Y0.heap.size := hb.size
  clear hb
  have ba_2 : Y0.cell? ⟨w.heap.size, 2, none⟩ = some (.int .i64 z2) := ba.cell 2
  have ba_3 : Y0.cell? ⟨w.heap.size, 3, none⟩ = some (.string z3) := ba.cell 3
  have ba_4 : Y0.cell? ⟨w.heap.size, 4, none⟩ = some (.string z4) := ba.cell 4
  have ba_l := ba.lt
  have ba_f := fun i => ba.frozen i
  have br_0 : Y0.cell? ⟨w.heap.size + 1, 0, none⟩ = some (.int .i64 0) := br.cell 0
  have br_1 : Y0.cell? ⟨w.heap.size + 1, 1, none⟩ = some (.slice none 0 0) := br.cell 1
  have br_2 : Y0.cell? ⟨w.heap.size + 1, 2, none⟩ = some (.int .i64 0) := br.cell 2
  have br_3 : Y0.cell? ⟨w.heap.size + 1, 3, none⟩ = some (.string ⟨#[]⟩) := br.cell 3
  have br_4 : Y0.cell? ⟨w.heap.size + 1, 4, none⟩ = some (.string ⟨#[]⟩) := br.cell 4
  have br_l := br.lt
  have br_f := fun i => br.frozen i
  have bo_0 : Y0.cell? ⟨w.heap.size + 1 + 1, 0, none⟩ = some (.int .i64 z0) := bo.cell 0
  have bo_1 : Y0.cell? ⟨w.heap.size + 1 + 1, 1, none⟩ = some (.slice none 0 0) := bo.cell 1
  have bo_2 : Y0.cell? ⟨w.heap.size + 1 + 1, 2, none⟩ = some (.int .i64 0) := bo.cell 2
  have bo_3 : Y0.cell? ⟨w.heap.size + 1 + 1, 3, none⟩ = some (.string ⟨#[]⟩) := bo.cell 3
  have bo_4 : Y0.cell? ⟨w.heap.size + 1 + 1, 4, none⟩ = some (.string ⟨#[]⟩) := bo.cell 4
  have bo_l := bo.lt
  have bo_f := fun i => bo.frozen i
  go_wp2_with fail
  skip
  refine bodyPost_ret (v := .agg #[.int .i64 z0, .slice D1 z1.length d1, .int .i64 z2, .string z3, .string z4]) (by simp [results, Tryz.results67, go_sem, br_0, br_1, br_2, br_3, br_4, bo_0, bo_1, bo_2, bo_3, bo_4, br_l, br_f, bo_l, bo_f]) rfl ⟨_, rfl, ?_, ?_⟩
  · refine OwnI.wide (lo := X0.heap.size) (hi := Y0.heap.size) ?_ (by omega) (by simp)
    repeat (refine OwnI.set ?_ (.inl (by simp; omega)) _)
    exact (OwnI.consv (OwnI.app (m := Y0.heap.size) (hi := Y0.heap.size) o1 (OwnI.wide (lo' := Y0.heap.size) (hi' := Y0.heap.size) (OwnI.consv (OwnI.consv (OwnI.consv (OwnI.nil _ Y0.heap.size Y0.heap.size) _) _) _) (by omega) (by omega)) (Nat.le_refl _) (by omega) (by omega)) _)
  · repeat (refine Below.setCell ?_ (by simp; try omega) _)
    exact hB
theorem oneClosure (x : FClosure) : ∀ y, y ∈ x.c → ∀ u, y = .v u → u.oneCell' = true := by
  obtain ⟨z0, z1, z2, z3, z4⟩ := x
  rw [FClosure.c_eq]
  intro y hx u hu
  simp only [List.mem_cons, List.not_mem_nil, or_false] at hx
  rcases hx with rfl | rfl | rfl | rfl | rfl <;> (first | (injection hu with hu; subst hu; rfl) | cases hu)
theorem infoClosure : (Tryz.prog.info? 144).map (fun i => (i.zero.map Value.cells, i.size, i.bytes)) = some (some #[.int .i64 0, .slice none 0 0, .int .i64 0, .string ByteArray.empty, .string ByteArray.empty], 5, 72) := by kernel_rfl
theorem toClosureS_of (l : List FClosure) (hl : l.length ≤ 1048576) (he : ∀ x, x ∈ l → ToClosure x) : ToClosureS l := by
  intro u w B hB0 hr0
  have hr := hr0.up hB0
  clear hr0
  obtain ⟨A, c, rfl⟩ := hr.form
  have HC := hid hr
  have hcap := hr.cap
  have hn : l.length ≤ 9223372036854775807 := by omega
  have hmk := fun W => make_law (P := Tryz.prog) 45 144 _ 5 72 Tryz.underlying45 infoClosure l.length (by omega) hn W
  have HE := hid he
  clear he hr hcap
  go_enter Tryz.func27, Tryz.ntmps27
  go_wp2
  go_loopw [4] (fun i wr => ∃ k : Nat, k ≤ l.length ∧ i = .int .i64 k ∧ (∃ us zs, us.length = k * 5 ∧ zs.length = (l.length - k) * 5 ∧ wr.ownsRow w.heap.size 144 5 (.slice (some ⟨w.heap.size, 0, none⟩) l.length l.length) l.length (us ++ zs) ∧ OwnI wr (w.heap.size + 1) wr.heap.size (FClosure.flat (l.take k)) us) ∧ Below w.heap.size w wr) (fun i _ => l.length - (intOf i).toNat)
  case atStart => exact ⟨0, Nat.zero_le _, rfl, ⟨[], madeL #[.int .i64 0, .slice none 0 0, .int .i64 0, .string ByteArray.empty, .string ByteArray.empty] (l.length * 5), by simp, by simp [madeL, size_madeCells], own_madeL w _ l.length 5 _ rfl (by omega) (by unfold maxLen; omega), OwnI.nil _ _ _⟩, (Below.refl _ _).alloc (Nat.le_refl _) _⟩
  case round =>
    obtain ⟨k, hk, rfl, ⟨us, zs, hus, hzs, hrow, hown⟩, hb⟩ := hrel
    have HROW := hid hrow
    have HOWN := hid hown
    have HUS := hid hus
    have HZS := hid hzs
    have hsz : w.heap.size < wr.heap.size := (hrow.lt _ rfl).2
    clear hmk hrow hown hus hzs
    by_cases hlt : k < l.length
    · obtain ⟨x, hx⟩ : ∃ x, l[k]? = some x := ⟨_, List.getElem?_eq_getElem hlt⟩
      obtain ⟨bc, offc, vs, rfl, hblc, hvl, hv, hra⟩ := RdC.elem FClosure.len HC.out hx
      have HX := hid hx
      have HT := hid (HE.out _ (List.mem_of_getElem? hx))
      have HV := hid (hv.on hb (Nat.le_refl _) (Nat.le_refl _))
      have HRA := hid (range_below hra hb hblc)
      have hlt2 : (k : Int) < (l.length : Int) := by omega
      have hk0 : (0 : Int) ≤ (k : Int) := by omega
      have hws := hb.size
      have HB := hid hb
      clear hx hv hra hb
      go_wp2_with (first | (refine wpList_load_elem 126 _ bc (offc + k * 5) vs (.struct (flds Tryz.prog 126)) HRA.out rfl rfl (by kernel_rfl) rfl hvl (by kernel_rfl) rfl ?_) | (go_at_call 67; refine (HT.out vs _ w.heap.size (by omega) HV.out).mono ?_; rintro e w2 ⟨us2, rfl, own2, hb2⟩; have hu2 : us2.length = 5 := own2.vs.1.trans (FClosure.len x); have ON2 := hid (OwnL.onecell _ _ _ own2.choose_spec.1 (oneClosure x)); have OWN2 := hid own2; have ROW2 := hid (own_below HROW.out hb2 (Nat.le_refl _)); have hsz2 : wr.heap.size ≤ w2.heap.size := hb2.size; have HB2 := hid (HB.out.trans (hb2.mono hws)); have HOWN2 := hid (HOWN.out.below hb2 (Nat.le_refl _)); clear own2 hb2) | (refine wpList_store_elem 144 _ _ (k * 5) us2 ROW2.out rfl rfl rfl hu2 (by omega) (by kernel_rfl) ON2.out rfl ?_; intro w3 row3 gr3; have ROW3 := hid row3; have GR3 := hid gr3; have hsz3 := gr3.size; clear row3 gr3))
      go_roundw
      case rel =>
        have hflat : FClosure.flat (l.take (k + 1)) = FClosure.flat (l.take k) ++ x.c := by
          rw [List.take_add_one, HX.out]
          simp
        have hset := sets_app us2 us zs (k * 5) HUS.out (by rw [HZS.out, hu2]; omega)
        refine ⟨k + 1, by omega, by go_num, ⟨us ++ us2, zs.drop 5, by rw [List.length_append, HUS.out, hu2]; omega, by rw [List.length_drop, HZS.out]; omega, ?_, ?_⟩, below_grownB HB2.out GR3.out (by omega) (Nat.le_refl _)⟩
        · have hr3 := ROW3.out
          rw [hset, hu2] at hr3
          exact hr3
        · rw [hflat]
          exact ((OwnI.app (m := wr.heap.size) (lo' := wr.heap.size) (hi := w2.heap.size) HOWN2.out OWN2.out (Nat.le_refl _) (by omega) (by omega)).grownB GR3.out (.inl (by omega))).wide (Nat.le_refl _) hsz3
      case measure => simp [intOf]; omega
    · obtain rfl : k = l.length := by omega
      clear hlt
      go_wp2_with fail
      go_ret
      have hz0 : zs = [] := List.eq_nil_of_length_eq_zero (by rw [HZS.out]; simp)
      have hr1 := HROW.out
      have ho1 := HOWN.out
      rw [hz0, List.append_nil] at hr1
      rw [List.take_length] at ho1
      exact ⟨_, _, rfl, OwnI.mk hr1 ho1 (fun g hg => by
        have e9 : w.heap.size = g := by simpa [Value.ownBlock] using hg
        omega) (by omega) (Nat.le_refl _), hb⟩
theorem toClosure_any (x : FClosure) (hw : x.wt ≤ 1048576) : ToClosure x := by
  obtain ⟨z0, z1, z2, z3, z4⟩ := x
  exact toClosure_of z0 z1 z2 z3 z4 (toIntS_any z1 (by rw [FClosure.wt_eq] at hw; omega))
theorem toClosureS_any (l : List FClosure) (hw : l.length + FClosure.wts l ≤ 1048576) : ToClosureS l := (toClosureS_of l (by omega) (fun x hx => toClosure_any x (by have := FClosure.wts_at l x hx; omega)))
end Go.Proofs.YtahgcojmpafefaaGreat
