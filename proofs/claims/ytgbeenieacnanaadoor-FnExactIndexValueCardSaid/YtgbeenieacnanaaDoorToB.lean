/-
  string, int, Key, Entry, Value, Binding: the conversions of the laws hand back a copy in memory of its own. Conditions: none.
-/
import Derived.Test.YtgbeenieacnanaaDoorDataB
namespace Go.Proofs.YtgbeenieacnanaaDoor
open Go.ChangeShapes Go.WideShapes Go.ChangeAt Go.RowKit Go.Deep Go.Joins
open Go.ChangeMaps (open_string shut_string)
set_option linter.unusedVariables false
set_option linter.unusedSimpArgs false
set_option maxRecDepth 100000

/-- What make lays, as a list of values. -/
def madeL (z : Array Value) (n : Nat) : List Value := (madeCells z n).toList
theorem own_madeL (w : World) (z : Array Value) (n k : Nat) (t : TypeId) (hz : z.size = k) (hk : 0 < k) (hn : n ≤ maxLen) : (w.alloc (.cells (madeCells z (n * k)) t)).ownsRow w.heap.size t k (.slice (some ⟨w.heap.size, 0, none⟩) n n) n ([] ++ madeL z (n * k)) := by
  rw [List.nil_append]
  have hsz : (madeCells z (n * k)).size = n * k := by simp [madeCells]
  refine ⟨by simp [madeL, hsz], .inr ⟨w.heap.size, n, madeCells z (n * k), rfl, Nat.le_refl _, heap_alloc_new w _, Nat.le_refl _, hn, hsz, ?_⟩⟩
  unfold madeL
  rw [List.take_of_length_le (by simp [hsz])]
theorem own_rowf {w : World} {base k n c g : Nat} {e : TypeId} {xs : List Value} (h : w.ownsRow base e k (.slice (some ⟨g, 0, none⟩) n c) n xs) : ∃ (g1 : Nat) (f : Nat → Value), w.rowIs g e (c * k) f := by
  rcases own_row h with ⟨hv, _⟩ | ⟨g1, cap, f, hv, _, _, _, hrow, _⟩
  · cases hv
  · simp only [Value.slice.injEq, Option.some.injEq, Addr.mk.injEq, true_and, and_true] at hv
    obtain ⟨rfl, rfl⟩ := hv
    exact ⟨g, f, hrow⟩
def ToKey (x : FKey) : Prop := ∀ (us : List Value) (w : World) (B : Nat), B ≤ w.heap.size → RdVs w B x.c us → Calls Tryd.prog 61 #[.agg us.toArray] w fun e w' => ∃ us', e = .returned (.agg us'.toArray) ∧ OwnI w' w.heap.size w'.heap.size x.c us' ∧ Below w.heap.size w w'
set_option maxHeartbeats 1000000 in
theorem toKey_of (z0 : Bool) (z1 : Int) (z2 : ByteArray)  : ToKey ⟨z0, z1, z2⟩ := by
  intro us w B hB0 hr
  rw [FKey.c_eq] at hr ⊢
  obtain ⟨us0, rfl, hr_0⟩ := hr.unv
  obtain ⟨us1, rfl, hr_1⟩ := hr_0.unv
  obtain ⟨us2, rfl, hr_2⟩ := hr_1.unv
  obtain rfl := hr_2.un0
  go_enter Tryd.func61, Tryd.ntmps61
  go_wp2_with fail
  exact bodyPost_ret (v := .agg #[.bool z0, .int .i64 z1, .string z2]) (by simp [results, Tryd.results61, go_sem]) rfl ⟨_, rfl, (OwnI.consv (OwnI.consv (OwnI.consv (OwnI.nil _ _ _) _) _) _), by repeat (first | exact Below.refl _ _ | (refine Below.alloc ?_ (by simp; try omega) _) | (refine Below.setCell ?_ (by simp) _))⟩
theorem toKey_any (x : FKey) (hw : x.wt ≤ 1048576) : ToKey x := by
  obtain ⟨z0, z1, z2⟩ := x
  exact toKey_of z0 z1 z2 
def ToEntry (x : FEntry) : Prop := ∀ (us : List Value) (w : World) (B : Nat), B ≤ w.heap.size → RdVs w B x.c us → Calls Tryd.prog 44 #[.agg us.toArray] w fun e w' => ∃ us', e = .returned (.agg us'.toArray) ∧ OwnI w' w.heap.size w'.heap.size x.c us' ∧ Below w.heap.size w w'
def ToEntryS (l : List FEntry) : Prop := ∀ (u : Value) (w : World) (B : Nat), B ≤ w.heap.size → RdC w B (.s 73 8 l.length (FEntry.flat l)) u → Calls Tryd.prog 23 #[u] w fun e w' => ∃ A c, e = .returned (.slice A l.length c) ∧ OwnI w' w.heap.size w'.heap.size [.s 73 8 l.length (FEntry.flat l)] [.slice A l.length c] ∧ Below w.heap.size w w'
def ToValue (x : FValue) : Prop := ∀ (us : List Value) (w : World) (B : Nat), B ≤ w.heap.size → RdVs w B x.c us → Calls Tryd.prog 7 #[.agg us.toArray] w fun e w' => ∃ us', e = .returned (.agg us'.toArray) ∧ OwnI w' w.heap.size w'.heap.size x.c us' ∧ Below w.heap.size w w'
set_option maxHeartbeats 1000000 in
theorem toEntry_of (z0 : Bool) (z1 : Int) (z2 : ByteArray) (z3 : Int) (z4 : Int) (z5 : ByteArray) (z6 : Int) (z7 : List FEntry) (h0 : ToKey ⟨z0, z1, z2⟩) (h3 : ToValue ⟨z3, z4, z5, z6, z7⟩) : ToEntry ⟨⟨z0, z1, z2⟩, ⟨z3, z4, z5, z6, z7⟩⟩ := by
  intro us w B hB0 hr
  rw [FEntry.c_eq] at hr ⊢
  obtain ⟨us0, rfl, hr_0⟩ := hr.unv
  obtain ⟨us1, rfl, hr_1⟩ := hr_0.unv
  obtain ⟨us2, rfl, hr_2⟩ := hr_1.unv
  obtain ⟨us3, rfl, hr_3⟩ := hr_2.unv
  obtain ⟨us4, rfl, hr_4⟩ := hr_3.unv
  obtain ⟨us5, rfl, hr_5⟩ := hr_4.unv
  obtain ⟨us6, rfl, hr_6⟩ := hr_5.unv
  obtain ⟨A7, c7, us7, rfl, r7, hr_7⟩ := hr_6.uns
  obtain rfl := hr_7.un0
  have R7 := Lib.hid r7
  clear r7
  have H0 := Lib.hid h0
  clear h0
  have H3 := Lib.hid h3
  clear h3
  go_enter Tryd.func44, Tryd.ntmps44
  go_wp2_with fail
  refine calls_worldD _ (fun X => Blk X (w.heap.size) 69 #[.bool z0, .int .i64 z1, .string z2, .int .i64 z3, .int .i64 z4, .string z5, .int .i64 z6, .slice A7 z7.length c7] ∧ Blk X (w.heap.size + 1) 73 #[.bool false, .int .i64 0, .string ⟨#[]⟩, .int .i64 0, .int .i64 0, .string ⟨#[]⟩, .int .i64 0, .slice none 0 0] ∧ Blk X (w.heap.size + 1 + 1) 73 #[.bool false, .int .i64 0, .string ⟨#[]⟩, .int .i64 0, .int .i64 0, .string ⟨#[]⟩, .int .i64 0, .slice none 0 0] ∧ Below w.heap.size w X) ⟨((Blk.new w _ _).alloc _).alloc _, (Blk.new' (w.alloc _) _ _ _ (by simp)).alloc _, Blk.new' ((w.alloc _).alloc _) _ _ _ (by simp), ((((Below.refl _ _).alloc (Nat.le_refl _) _).alloc (by simp) _).alloc (by simp; omega) _)⟩ ?_
  rintro X0 ⟨ba, br, bo, hB⟩
  have s0 := bo.lt
  refine (H0.out [.bool z0, .int .i64 z1, .string z2] _ B (by omega) (by rw [FKey.c_eq]; exact (RdVs.cons (by unfold RdC; rfl) (RdVs.cons (by unfold RdC; rfl) (RdVs.cons (by unfold RdC; rfl) (RdVs.nil _ _)))))).mono ?_
  rw [FKey.c_eq]
  rintro e Y0 ⟨us_, rfl, own, hb⟩
  have hv := own.vs
  obtain ⟨us_0, rfl, hv_0⟩ := hv.unv
  obtain ⟨us_1, rfl, hv_1⟩ := hv_0.unv
  obtain ⟨us_2, rfl, hv_2⟩ := hv_1.unv
  obtain rfl := hv_2.un0
  have o0 := own
  clear own
  replace ba := ba.below hb (Nat.le_refl _)
  replace br := br.below hb (Nat.le_refl _)
  replace bo := bo.below hb (Nat.le_refl _)
  replace hB := hB.trans (hb.mono (by omega))
  have t0 : X0.heap.size ≤ Y0.heap.size := hb.size
  clear hb
  have ba_3 : Y0.cell? ⟨w.heap.size, 3, none⟩ = some (.int .i64 z3) := ba.cell 3
  have ba_4 : Y0.cell? ⟨w.heap.size, 4, none⟩ = some (.int .i64 z4) := ba.cell 4
  have ba_5 : Y0.cell? ⟨w.heap.size, 5, none⟩ = some (.string z5) := ba.cell 5
  have ba_6 : Y0.cell? ⟨w.heap.size, 6, none⟩ = some (.int .i64 z6) := ba.cell 6
  have ba_7 : Y0.cell? ⟨w.heap.size, 7, none⟩ = some (.slice A7 z7.length c7) := ba.cell 7
  have ba_l := ba.lt
  have ba_f := fun i => ba.frozen i
  have bo_0 : Y0.cell? ⟨w.heap.size + 1 + 1, 0, none⟩ = some (.bool false) := bo.cell 0
  have bo_1 : Y0.cell? ⟨w.heap.size + 1 + 1, 1, none⟩ = some (.int .i64 0) := bo.cell 1
  have bo_2 : Y0.cell? ⟨w.heap.size + 1 + 1, 2, none⟩ = some (.string ⟨#[]⟩) := bo.cell 2
  have bo_l := bo.lt
  have bo_f := fun i => bo.frozen i
  go_wp2_with fail
  clear ba_3 ba_4 ba_5 ba_6 ba_7 ba_l ba_f
  clear bo_0 bo_1 bo_2 bo_l bo_f
  refine calls_worldD _ (fun X => Blk X (w.heap.size) 69 #[.bool z0, .int .i64 z1, .string z2, .int .i64 z3, .int .i64 z4, .string z5, .int .i64 z6, .slice A7 z7.length c7] ∧ Blk X (w.heap.size + 1) 73 #[.bool false, .int .i64 0, .string ⟨#[]⟩, .int .i64 0, .int .i64 0, .string ⟨#[]⟩, .int .i64 0, .slice none 0 0] ∧ Blk X (w.heap.size + 1 + 1) 73 #[.bool z0, .int .i64 z1, .string z2, .int .i64 0, .int .i64 0, .string ⟨#[]⟩, .int .i64 0, .slice none 0 0] ∧ OwnI X X0.heap.size Y0.heap.size [.v (.bool z0), .v (.int .i64 z1), .v (.string z2)] [.bool z0, .int .i64 z1, .string z2] ∧ Below w.heap.size w X ∧ Y0.heap.size ≤ X.heap.size) ⟨(((ba.far (by simp; try omega) _).far (by simp; try omega) _).far (by simp; try omega) _), (((br.far (by simp; try omega) _).far (by simp; try omega) _).far (by simp; try omega) _), (by simpa using (((bo.set_ 0 _).set_ 1 _).set_ 2 _)), (((o0.set (.inl (by simp; omega)) _).set (.inl (by simp; omega)) _).set (.inl (by simp; omega)) _), (((hB.setCell (by simp; try omega) _).setCell (by simp; try omega) _).setCell (by simp; try omega) _), (by simp)⟩ ?_
  clear ba br bo hB o0
  rintro X1 ⟨ba, br, bo, o0, hB, y1⟩
  have s1 := bo.lt
  refine (H3.out [.int .i64 z3, .int .i64 z4, .string z5, .int .i64 z6, .slice A7 z7.length c7] _ B (by omega) (by rw [FValue.c_eq]; exact (RdVs.cons (by unfold RdC; rfl) (RdVs.cons (by unfold RdC; rfl) (RdVs.cons (by unfold RdC; rfl) (RdVs.cons (by unfold RdC; rfl) (RdVs.cons (R7.out.below hB hB0) (RdVs.nil _ _)))))))).mono ?_
  rw [FValue.c_eq]
  rintro e Y1 ⟨us_, rfl, own, hb⟩
  have hv := own.vs
  obtain ⟨us_3, rfl, hv_0⟩ := hv.unv
  obtain ⟨us_4, rfl, hv_1⟩ := hv_0.unv
  obtain ⟨us_5, rfl, hv_2⟩ := hv_1.unv
  obtain ⟨us_6, rfl, hv_3⟩ := hv_2.unv
  obtain ⟨D7, d7, us_7, rfl, _, hv_4⟩ := hv_3.uns
  obtain rfl := hv_4.un0
  have o3 := own
  clear own
  replace ba := ba.below hb (Nat.le_refl _)
  replace br := br.below hb (Nat.le_refl _)
  replace bo := bo.below hb (Nat.le_refl _)
  replace o0 := o0.below hb (Nat.le_refl _)
  replace hB := hB.trans (hb.mono (by omega))
  have t1 : X1.heap.size ≤ Y1.heap.size := hb.size
  clear hb
  have ba_l := ba.lt
  have ba_f := fun i => ba.frozen i
  have br_0 : Y1.cell? ⟨w.heap.size + 1, 0, none⟩ = some (.bool false) := br.cell 0
  have br_1 : Y1.cell? ⟨w.heap.size + 1, 1, none⟩ = some (.int .i64 0) := br.cell 1
  have br_2 : Y1.cell? ⟨w.heap.size + 1, 2, none⟩ = some (.string ⟨#[]⟩) := br.cell 2
  have br_3 : Y1.cell? ⟨w.heap.size + 1, 3, none⟩ = some (.int .i64 0) := br.cell 3
  have br_4 : Y1.cell? ⟨w.heap.size + 1, 4, none⟩ = some (.int .i64 0) := br.cell 4
  have br_5 : Y1.cell? ⟨w.heap.size + 1, 5, none⟩ = some (.string ⟨#[]⟩) := br.cell 5
  have br_6 : Y1.cell? ⟨w.heap.size + 1, 6, none⟩ = some (.int .i64 0) := br.cell 6
  have br_7 : Y1.cell? ⟨w.heap.size + 1, 7, none⟩ = some (.slice none 0 0) := br.cell 7
  have br_l := br.lt
  have br_f := fun i => br.frozen i
  have bo_0 : Y1.cell? ⟨w.heap.size + 1 + 1, 0, none⟩ = some (.bool z0) := bo.cell 0
  have bo_1 : Y1.cell? ⟨w.heap.size + 1 + 1, 1, none⟩ = some (.int .i64 z1) := bo.cell 1
  have bo_2 : Y1.cell? ⟨w.heap.size + 1 + 1, 2, none⟩ = some (.string z2) := bo.cell 2
  have bo_3 : Y1.cell? ⟨w.heap.size + 1 + 1, 3, none⟩ = some (.int .i64 0) := bo.cell 3
  have bo_4 : Y1.cell? ⟨w.heap.size + 1 + 1, 4, none⟩ = some (.int .i64 0) := bo.cell 4
  have bo_5 : Y1.cell? ⟨w.heap.size + 1 + 1, 5, none⟩ = some (.string ⟨#[]⟩) := bo.cell 5
  have bo_6 : Y1.cell? ⟨w.heap.size + 1 + 1, 6, none⟩ = some (.int .i64 0) := bo.cell 6
  have bo_7 : Y1.cell? ⟨w.heap.size + 1 + 1, 7, none⟩ = some (.slice none 0 0) := bo.cell 7
  have bo_l := bo.lt
  have bo_f := fun i => bo.frozen i
  go_wp2_with fail
  skip
  refine bodyPost_ret (v := .agg #[.bool z0, .int .i64 z1, .string z2, .int .i64 z3, .int .i64 z4, .string z5, .int .i64 z6, .slice D7 z7.length d7]) (by simp [results, Tryd.results44, go_sem, br_0, br_1, br_2, br_3, br_4, br_5, br_6, br_7, bo_0, bo_1, bo_2, bo_3, bo_4, bo_5, bo_6, bo_7, br_l, br_f, bo_l, bo_f]) rfl ⟨_, rfl, ?_, ?_⟩
  · refine OwnI.wide (lo := X0.heap.size) (hi := Y1.heap.size) ?_ (by omega) (by simp)
    repeat (refine OwnI.set ?_ (.inl (by simp; omega)) _)
    exact (OwnI.app (m := Y0.heap.size) (hi := Y1.heap.size) o0 (OwnI.wide (lo' := Y0.heap.size) (hi' := Y1.heap.size) (OwnI.app (m := Y1.heap.size) (hi := Y1.heap.size) o3 (OwnI.wide (lo' := Y1.heap.size) (hi' := Y1.heap.size) (OwnI.nil _ Y1.heap.size Y1.heap.size) (by omega) (by omega)) (Nat.le_refl _) (by omega) (by omega)) (by omega) (by omega)) (Nat.le_refl _) (by omega) (by omega))
  · repeat (refine Below.setCell ?_ (by simp; try omega) _)
    exact hB
theorem infoEntry : (Tryd.prog.info? 73).map (fun i => (i.zero.map Value.cells, i.size, i.bytes)) = some (some #[.bool false, .int .i64 0, .string ByteArray.empty, .int .i64 0, .int .i64 0, .string ByteArray.empty, .int .i64 0, .slice none 0 0], 8, 96) := by kernel_rfl
set_option maxHeartbeats 1000000 in
theorem toEntryS_of (l : List FEntry) (hl : l.length ≤ 1048576) (he : ∀ x, x ∈ l → ToEntry x) : ToEntryS l := by
  intro u w B hB0 hr0
  have hr := hr0.up hB0
  clear hr0
  obtain ⟨A, c, rfl⟩ := hr.form
  have HC := Lib.hid hr
  have hcap := hr.cap
  have hn : l.length ≤ 9223372036854775807 := by omega
  have hmk := fun W => make_law (P := Tryd.prog) 26 73 _ 8 96 Tryd.underlying26 infoEntry l.length (by omega) hn W
  have HE := Lib.hid he
  clear he
  clear hr hcap
  go_enter Tryd.func23, Tryd.ntmps23
  go_wp2
  go_loopw [4] (fun i wr => ∃ k : Nat, k ≤ l.length ∧ i = .int .i64 k ∧ (∃ us zs, us.length = k * 8 ∧ zs.length = (l.length - k) * 8 ∧ wr.ownsRow w.heap.size 73 8 (.slice (some ⟨w.heap.size, 0, none⟩) l.length l.length) l.length (us ++ zs) ∧ OwnI wr (w.heap.size + 1) wr.heap.size (FEntry.flat (l.take k)) us) ∧ Below w.heap.size w wr) (fun i _ => l.length - (intOf i).toNat)
  case atStart => exact ⟨0, Nat.zero_le _, rfl, ⟨[], madeL #[.bool false, .int .i64 0, .string ByteArray.empty, .int .i64 0, .int .i64 0, .string ByteArray.empty, .int .i64 0, .slice none 0 0] (l.length * 8), by simp, by simp [madeL, size_madeCells], own_madeL w _ l.length 8 _ rfl (by omega) (by unfold maxLen; omega), OwnI.nil _ _ _⟩, (Below.refl _ _).alloc (Nat.le_refl _) _⟩
  case round =>
    obtain ⟨k, hk, rfl, ⟨us, zs, hus, hzs, hrow, hown⟩, hb⟩ := hrel
    have HROW := Lib.hid hrow
    have HOWN := Lib.hid hown
    have HUS := Lib.hid hus
    have HZS := Lib.hid hzs
    have hsz : w.heap.size < wr.heap.size := (hrow.lt _ rfl).2
    clear hmk hrow hown hus hzs
    by_cases hlt : k < l.length
    · obtain ⟨x, hx⟩ : ∃ x, l[k]? = some x := ⟨_, List.getElem?_eq_getElem hlt⟩
      obtain ⟨bc, offc, rfl, hblc, hcc⟩ := RdC.at_ FEntry.len HC.out hx
      obtain ⟨⟨z0, z1, z2⟩, ⟨z3, z4, z5, z6, z7⟩⟩ := x
      rw [FEntry.c_eq] at hcc
      obtain ⟨u0, e0, q0⟩ := hcc 0 _ rfl
      obtain rfl := q0.val
      clear q0
      have c_0 : wr.cell? ⟨bc, offc + k * 8, none⟩ = some (.bool z0) := (hb.cell (p := ⟨bc, _, none⟩) hblc).trans (by simpa using e0)
      obtain ⟨u1, e1, q1⟩ := hcc 1 _ rfl
      obtain rfl := q1.val
      clear q1
      have c_1 : wr.cell? ⟨bc, offc + k * 8 + 1, none⟩ = some (.int .i64 z1) := (hb.cell (p := ⟨bc, _, none⟩) hblc).trans (by simpa using e1)
      obtain ⟨u2, e2, q2⟩ := hcc 2 _ rfl
      obtain rfl := q2.val
      clear q2
      have c_2 : wr.cell? ⟨bc, offc + k * 8 + 2, none⟩ = some (.string z2) := (hb.cell (p := ⟨bc, _, none⟩) hblc).trans (by simpa using e2)
      obtain ⟨u3, e3, q3⟩ := hcc 3 _ rfl
      obtain rfl := q3.val
      clear q3
      have c_3 : wr.cell? ⟨bc, offc + k * 8 + 3, none⟩ = some (.int .i64 z3) := (hb.cell (p := ⟨bc, _, none⟩) hblc).trans (by simpa using e3)
      obtain ⟨u4, e4, q4⟩ := hcc 4 _ rfl
      obtain rfl := q4.val
      clear q4
      have c_4 : wr.cell? ⟨bc, offc + k * 8 + 4, none⟩ = some (.int .i64 z4) := (hb.cell (p := ⟨bc, _, none⟩) hblc).trans (by simpa using e4)
      obtain ⟨u5, e5, q5⟩ := hcc 5 _ rfl
      obtain rfl := q5.val
      clear q5
      have c_5 : wr.cell? ⟨bc, offc + k * 8 + 5, none⟩ = some (.string z5) := (hb.cell (p := ⟨bc, _, none⟩) hblc).trans (by simpa using e5)
      obtain ⟨u6, e6, q6⟩ := hcc 6 _ rfl
      obtain rfl := q6.val
      clear q6
      have c_6 : wr.cell? ⟨bc, offc + k * 8 + 6, none⟩ = some (.int .i64 z6) := (hb.cell (p := ⟨bc, _, none⟩) hblc).trans (by simpa using e6)
      obtain ⟨u7, e7, q7⟩ := hcc 7 _ rfl
      obtain ⟨A7, c7, rfl⟩ := q7.form
      have Q7 := Lib.hid q7
      clear q7
      have c_7 : wr.cell? ⟨bc, offc + k * 8 + 7, none⟩ = some (.slice A7 z7.length c7) := (hb.cell (p := ⟨bc, _, none⟩) hblc).trans (by simpa using e7)
      obtain ⟨g1, f1, hrow1⟩ := own_rowf HROW.out
      have HX := Lib.hid hx
      clear hcc hx e0 e1 e2 e3 e4 e5 e6 e7
      have HT := Lib.hid (HE.out _ (List.mem_of_getElem? HX.out))
      have HV := Lib.hid (show RdVs wr w.heap.size (FEntry.c ⟨⟨z0, z1, z2⟩, ⟨z3, z4, z5, z6, z7⟩⟩) [.bool z0, .int .i64 z1, .string z2, .int .i64 z3, .int .i64 z4, .string z5, .int .i64 z6, .slice A7 z7.length c7] from by rw [FEntry.c_eq]; exact (RdVs.cons (by unfold RdC; rfl) (RdVs.cons (by unfold RdC; rfl) (RdVs.cons (by unfold RdC; rfl) (RdVs.cons (by unfold RdC; rfl) (RdVs.cons (by unfold RdC; rfl) (RdVs.cons (by unfold RdC; rfl) (RdVs.cons (by unfold RdC; rfl) (RdVs.cons (Q7.out.below hb (Nat.le_refl _)) (RdVs.nil _ _))))))))))
      go_wp2_with fail
      refine (HT.out _ _ w.heap.size (by omega) HV.out).mono ?_
      rw [FEntry.c_eq]
      rintro e w2 ⟨us2, rfl, own2, hb2⟩
      have hv := own2.vs
      obtain ⟨us2_0, rfl, hv_0⟩ := hv.unv
      obtain ⟨us2_1, rfl, hv_1⟩ := hv_0.unv
      obtain ⟨us2_2, rfl, hv_2⟩ := hv_1.unv
      obtain ⟨us2_3, rfl, hv_3⟩ := hv_2.unv
      obtain ⟨us2_4, rfl, hv_4⟩ := hv_3.unv
      obtain ⟨us2_5, rfl, hv_5⟩ := hv_4.unv
      obtain ⟨us2_6, rfl, hv_6⟩ := hv_5.unv
      obtain ⟨D7, d7, us2_7, rfl, _, hv_7⟩ := hv_6.uns
      obtain rfl := hv_7.un0
      have OWN2 := Lib.hid own2
      have row2 : w2.rowIs w.heap.size 73 (l.length * 8) f1 := hrow1.of_block (hb2.block _ hrow1.lt)
      have ROW2 := Lib.hid (own_below HROW.out hb2 (Nat.le_refl _))
      have hsz2 : wr.heap.size ≤ w2.heap.size := hb2.size
      have hB2 := hb.trans (hb2.mono hb.size)
      have HOWN2 := Lib.hid (HOWN.out.below hb2 (Nat.le_refl _))
      have r0 := row2.cell (i := k * 8) (by omega)
      have f0_ := row2.frozen (k * 8)
      have r1 := row2.cell (i := k * 8 + 1) (by omega)
      have f1_ := row2.frozen (k * 8 + 1)
      have r2 := row2.cell (i := k * 8 + 2) (by omega)
      have f2_ := row2.frozen (k * 8 + 2)
      have r3 := row2.cell (i := k * 8 + 3) (by omega)
      have f3_ := row2.frozen (k * 8 + 3)
      have r4 := row2.cell (i := k * 8 + 4) (by omega)
      have f4_ := row2.frozen (k * 8 + 4)
      have r5 := row2.cell (i := k * 8 + 5) (by omega)
      have f5_ := row2.frozen (k * 8 + 5)
      have r6 := row2.cell (i := k * 8 + 6) (by omega)
      have f6_ := row2.frozen (k * 8 + 6)
      have r7 := row2.cell (i := k * 8 + 7) (by omega)
      have f7_ := row2.frozen (k * 8 + 7)
      clear own2 row2 hrow1 c_0 c_1 c_2 c_3 c_4 c_5 c_6 c_7
      go_wp2_with fail
      go_roundw
      case rel =>
        have hflat : FEntry.flat (l.take (k + 1)) = FEntry.flat (l.take k) ++ [.v (.bool z0), .v (.int .i64 z1), .v (.string z2), .v (.int .i64 z3), .v (.int .i64 z4), .v (.string z5), .v (.int .i64 z6), .s 73 8 z7.length (FEntry.flat z7)] := by
          rw [List.take_add_one, HX.out]
          simp [FEntry.c_eq]
        have hset := sets_app [.bool z0, .int .i64 z1, .string z2, .int .i64 z3, .int .i64 z4, .string z5, .int .i64 z6, .slice D7 z7.length d7] us zs (k * 8) HUS.out (by rw [HZS.out]; simp; omega)
        refine ⟨k + 1, by omega, by go_num, ⟨us ++ [.bool z0, .int .i64 z1, .string z2, .int .i64 z3, .int .i64 z4, .string z5, .int .i64 z6, .slice D7 z7.length d7], zs.drop 8, by simp [HUS.out]; try omega, by rw [List.length_drop, HZS.out]; omega, ?_, ?_⟩, ((((((((hB2.setCell (by simp) _).setCell (by simp) _).setCell (by simp) _).setCell (by simp) _).setCell (by simp) _).setCell (by simp) _).setCell (by simp) _).setCell (by simp) _)⟩
        · have hfin := (own_setC (own_setC (own_setC (own_setC (own_setC (own_setC (own_setC (own_setC ROW2.out (i := k * 8) (by omega) (.bool z0)) (i := k * 8 + 1) (by omega) (.int .i64 z1)) (i := k * 8 + 2) (by omega) (.string z2)) (i := k * 8 + 3) (by omega) (.int .i64 z3)) (i := k * 8 + 4) (by omega) (.int .i64 z4)) (i := k * 8 + 5) (by omega) (.string z5)) (i := k * 8 + 6) (by omega) (.int .i64 z6)) (i := k * 8 + 7) (by omega) (.slice D7 z7.length d7))
          rw [show us ++ [.bool z0, .int .i64 z1, .string z2, .int .i64 z3, .int .i64 z4, .string z5, .int .i64 z6, .slice D7 z7.length d7] ++ zs.drop 8 = _ from hset.symm]
          simpa [sets] using hfin
        · rw [hflat]
          have hfin := (OwnI.set (OwnI.set (OwnI.set (OwnI.set (OwnI.set (OwnI.set (OwnI.set (OwnI.set (OwnI.app (m := wr.heap.size) (lo' := wr.heap.size) (hi := w2.heap.size) HOWN2.out OWN2.out (Nat.le_refl _) (by omega) (by omega)) (p := ⟨w.heap.size, k * 8, none⟩) (.inl (by simp)) (.bool z0)) (p := ⟨w.heap.size, k * 8 + 1, none⟩) (.inl (by simp)) (.int .i64 z1)) (p := ⟨w.heap.size, k * 8 + 2, none⟩) (.inl (by simp)) (.string z2)) (p := ⟨w.heap.size, k * 8 + 3, none⟩) (.inl (by simp)) (.int .i64 z3)) (p := ⟨w.heap.size, k * 8 + 4, none⟩) (.inl (by simp)) (.int .i64 z4)) (p := ⟨w.heap.size, k * 8 + 5, none⟩) (.inl (by simp)) (.string z5)) (p := ⟨w.heap.size, k * 8 + 6, none⟩) (.inl (by simp)) (.int .i64 z6)) (p := ⟨w.heap.size, k * 8 + 7, none⟩) (.inl (by simp)) (.slice D7 z7.length d7))
          exact hfin.wide (Nat.le_refl _) (by simp)
      case measure => simp [intOf]; omega
    · obtain rfl : k = l.length := by omega
      clear hlt
      go_wp2_with fail
      go_ret
      have hz0 : zs = [] := List.eq_nil_of_length_eq_zero (by rw [HZS.out]; simp)
      have hr1 := HROW.out
      have ho1 := HOWN.out
      rw [hz0, List.append_nil] at hr1
      rw [List.take_length] at ho1
      exact ⟨_, _, rfl, OwnI.mk hr1 ho1 (fun g hg => by have : w.heap.size = g := by simpa [Value.ownBlock] using hg
                                                        omega) (by omega) (Nat.le_refl _), hb⟩
set_option maxHeartbeats 1000000 in
theorem toValue_of (z0 : Int) (z1 : Int) (z2 : ByteArray) (z3 : Int) (z4 : List FEntry) (h4 : ToEntryS z4) : ToValue ⟨z0, z1, z2, z3, z4⟩ := by
  intro us w B hB0 hr
  rw [FValue.c_eq] at hr ⊢
  obtain ⟨us0, rfl, hr_0⟩ := hr.unv
  obtain ⟨us1, rfl, hr_1⟩ := hr_0.unv
  obtain ⟨us2, rfl, hr_2⟩ := hr_1.unv
  obtain ⟨us3, rfl, hr_3⟩ := hr_2.unv
  obtain ⟨A4, c4, us4, rfl, r4, hr_4⟩ := hr_3.uns
  obtain rfl := hr_4.un0
  have R4 := Lib.hid r4
  clear r4
  have H4 := Lib.hid h4
  clear h4
  go_enter Tryd.func7, Tryd.ntmps7
  go_wp2_with fail
  refine calls_worldD _ (fun X => Blk X (w.heap.size) 24 #[.int .i64 z0, .int .i64 z1, .string z2, .int .i64 z3, .slice A4 z4.length c4] ∧ Blk X (w.heap.size + 1) 28 #[.int .i64 0, .int .i64 0, .string ⟨#[]⟩, .int .i64 0, .slice none 0 0] ∧ Blk X (w.heap.size + 1 + 1) 28 #[.int .i64 z0, .int .i64 z1, .string z2, .int .i64 z3, .slice none 0 0] ∧ Below w.heap.size w X) ⟨((Blk.new w _ _).alloc _).alloc _, (Blk.new' (w.alloc _) _ _ _ (by simp)).alloc _, Blk.new' ((w.alloc _).alloc _) _ _ _ (by simp), ((((Below.refl _ _).alloc (Nat.le_refl _) _).alloc (by simp) _).alloc (by simp; omega) _)⟩ ?_
  rintro X0 ⟨ba, br, bo, hB⟩
  have s0 := bo.lt
  refine (H4.out _ _ B (by omega) (R4.out.below hB hB0)).mono ?_
  rintro e Y0 ⟨D4, d4, rfl, own, hb⟩
  have o4 := own
  clear own
  replace ba := ba.below hb (Nat.le_refl _)
  replace br := br.below hb (Nat.le_refl _)
  replace bo := bo.below hb (Nat.le_refl _)
  replace hB := hB.trans (hb.mono (by omega))
  have t0 : X0.heap.size ≤ Y0.heap.size := hb.size
  clear hb
  have ba_l := ba.lt
  have ba_f := fun i => ba.frozen i
  have br_0 : Y0.cell? ⟨w.heap.size + 1, 0, none⟩ = some (.int .i64 0) := br.cell 0
  have br_1 : Y0.cell? ⟨w.heap.size + 1, 1, none⟩ = some (.int .i64 0) := br.cell 1
  have br_2 : Y0.cell? ⟨w.heap.size + 1, 2, none⟩ = some (.string ⟨#[]⟩) := br.cell 2
  have br_3 : Y0.cell? ⟨w.heap.size + 1, 3, none⟩ = some (.int .i64 0) := br.cell 3
  have br_4 : Y0.cell? ⟨w.heap.size + 1, 4, none⟩ = some (.slice none 0 0) := br.cell 4
  have br_l := br.lt
  have br_f := fun i => br.frozen i
  have bo_0 : Y0.cell? ⟨w.heap.size + 1 + 1, 0, none⟩ = some (.int .i64 z0) := bo.cell 0
  have bo_1 : Y0.cell? ⟨w.heap.size + 1 + 1, 1, none⟩ = some (.int .i64 z1) := bo.cell 1
  have bo_2 : Y0.cell? ⟨w.heap.size + 1 + 1, 2, none⟩ = some (.string z2) := bo.cell 2
  have bo_3 : Y0.cell? ⟨w.heap.size + 1 + 1, 3, none⟩ = some (.int .i64 z3) := bo.cell 3
  have bo_4 : Y0.cell? ⟨w.heap.size + 1 + 1, 4, none⟩ = some (.slice none 0 0) := bo.cell 4
  have bo_l := bo.lt
  have bo_f := fun i => bo.frozen i
  go_wp2_with fail
  skip
  refine bodyPost_ret (v := .agg #[.int .i64 z0, .int .i64 z1, .string z2, .int .i64 z3, .slice D4 z4.length d4]) (by simp [results, Tryd.results7, go_sem, br_0, br_1, br_2, br_3, br_4, bo_0, bo_1, bo_2, bo_3, bo_4, br_l, br_f, bo_l, bo_f]) rfl ⟨_, rfl, ?_, ?_⟩
  · refine OwnI.wide (lo := X0.heap.size) (hi := Y0.heap.size) ?_ (by omega) (by simp)
    repeat (refine OwnI.set ?_ (.inl (by simp; omega)) _)
    exact (OwnI.consv (OwnI.consv (OwnI.consv (OwnI.consv (OwnI.app (m := Y0.heap.size) (hi := Y0.heap.size) o4 (OwnI.wide (lo' := Y0.heap.size) (hi' := Y0.heap.size) (OwnI.nil _ Y0.heap.size Y0.heap.size) (by omega) (by omega)) (Nat.le_refl _) (by omega) (by omega)) _) _) _) _)
  · repeat (refine Below.setCell ?_ (by simp; try omega) _)
    exact hB
mutual
theorem toEntry_any : ∀ (x : FEntry), x.wt ≤ 1048576 → ToEntry x
  | .mk a0 a1, hw => by
    unfold FEntry.wt at hw
    have k0 := toKey_any a0 (by omega)
    have k1 := toValue_any a1 (by omega)
    obtain ⟨b0_0, b0_1, b0_2⟩ := a0
    obtain ⟨b1_0, b1_1, b1_2, b1_3, b1_4⟩ := a1
    exact toEntry_of b0_0 b0_1 b0_2 b1_0 b1_1 b1_2 b1_3 b1_4 k0 k1
theorem toValue_any : ∀ (x : FValue), x.wt ≤ 1048576 → ToValue x
  | .mk a0 a1 a2 a3 a4, hw => by
    unfold FValue.wt at hw
    exact toValue_of a0 a1 a2 a3 a4 (toEntryS_of a4 (by omega) (toEntry_all a4 (by omega)))
theorem toEntry_all : ∀ (l : List FEntry), l.length + FEntry.wts l ≤ 1048576 → ∀ x, x ∈ l → ToEntry x
  | [], _, x, hx => by cases hx
  | y :: r, hw, x, hx => by
    unfold FEntry.wts at hw
    simp only [List.length_cons] at hw
    rcases List.mem_cons.1 hx with e | hx
    · rw [e]
      exact toEntry_any y (by omega)
    · exact toEntry_all r (by omega) x hx
end
theorem toEntryS_any (l : List FEntry) (hw : l.length + FEntry.wts l ≤ 1048576) : ToEntryS l := (toEntryS_of l (by omega) (toEntry_all l hw))
def ToBinding (x : FBinding) : Prop := ∀ (us : List Value) (w : World) (B : Nat), B ≤ w.heap.size → RdVs w B x.c us → Calls Tryd.prog 36 #[.agg us.toArray] w fun e w' => ∃ us', e = .returned (.agg us'.toArray) ∧ OwnI w' w.heap.size w'.heap.size x.c us' ∧ Below w.heap.size w w'
def ToBindingS (l : List FBinding) : Prop := ∀ (u : Value) (w : World) (B : Nat), B ≤ w.heap.size → RdC w B (.s 60 6 l.length (FBinding.flat l)) u → Calls Tryd.prog 14 #[u] w fun e w' => ∃ A c, e = .returned (.slice A l.length c) ∧ OwnI w' w.heap.size w'.heap.size [.s 60 6 l.length (FBinding.flat l)] [.slice A l.length c] ∧ Below w.heap.size w w'
set_option maxHeartbeats 1000000 in
theorem toBinding_of (z0 : ByteArray) (z1 : Int) (z2 : Int) (z3 : ByteArray) (z4 : Int) (z5 : List FEntry) (h1 : ToValue ⟨z1, z2, z3, z4, z5⟩) : ToBinding ⟨z0, ⟨z1, z2, z3, z4, z5⟩⟩ := by
  intro us w B hB0 hr
  rw [FBinding.c_eq] at hr ⊢
  obtain ⟨us0, rfl, hr_0⟩ := hr.unv
  obtain ⟨us1, rfl, hr_1⟩ := hr_0.unv
  obtain ⟨us2, rfl, hr_2⟩ := hr_1.unv
  obtain ⟨us3, rfl, hr_3⟩ := hr_2.unv
  obtain ⟨us4, rfl, hr_4⟩ := hr_3.unv
  obtain ⟨A5, c5, us5, rfl, r5, hr_5⟩ := hr_4.uns
  obtain rfl := hr_5.un0
  have R5 := Lib.hid r5
  clear r5
  have H1 := Lib.hid h1
  clear h1
  go_enter Tryd.func36, Tryd.ntmps36
  go_wp2_with fail
  refine calls_worldD _ (fun X => Blk X (w.heap.size) 58 #[.string z0, .int .i64 z1, .int .i64 z2, .string z3, .int .i64 z4, .slice A5 z5.length c5] ∧ Blk X (w.heap.size + 1) 60 #[.string ⟨#[]⟩, .int .i64 0, .int .i64 0, .string ⟨#[]⟩, .int .i64 0, .slice none 0 0] ∧ Blk X (w.heap.size + 1 + 1) 60 #[.string z0, .int .i64 0, .int .i64 0, .string ⟨#[]⟩, .int .i64 0, .slice none 0 0] ∧ Below w.heap.size w X) ⟨((Blk.new w _ _).alloc _).alloc _, (Blk.new' (w.alloc _) _ _ _ (by simp)).alloc _, Blk.new' ((w.alloc _).alloc _) _ _ _ (by simp), ((((Below.refl _ _).alloc (Nat.le_refl _) _).alloc (by simp) _).alloc (by simp; omega) _)⟩ ?_
  rintro X0 ⟨ba, br, bo, hB⟩
  have s0 := bo.lt
  refine (H1.out [.int .i64 z1, .int .i64 z2, .string z3, .int .i64 z4, .slice A5 z5.length c5] _ B (by omega) (by rw [FValue.c_eq]; exact (RdVs.cons (by unfold RdC; rfl) (RdVs.cons (by unfold RdC; rfl) (RdVs.cons (by unfold RdC; rfl) (RdVs.cons (by unfold RdC; rfl) (RdVs.cons (R5.out.below hB hB0) (RdVs.nil _ _)))))))).mono ?_
  rw [FValue.c_eq]
  rintro e Y0 ⟨us_, rfl, own, hb⟩
  have hv := own.vs
  obtain ⟨us_1, rfl, hv_0⟩ := hv.unv
  obtain ⟨us_2, rfl, hv_1⟩ := hv_0.unv
  obtain ⟨us_3, rfl, hv_2⟩ := hv_1.unv
  obtain ⟨us_4, rfl, hv_3⟩ := hv_2.unv
  obtain ⟨D5, d5, us_5, rfl, _, hv_4⟩ := hv_3.uns
  obtain rfl := hv_4.un0
  have o1 := own
  clear own
  replace ba := ba.below hb (Nat.le_refl _)
  replace br := br.below hb (Nat.le_refl _)
  replace bo := bo.below hb (Nat.le_refl _)
  replace hB := hB.trans (hb.mono (by omega))
  have t0 : X0.heap.size ≤ Y0.heap.size := hb.size
  clear hb
  have ba_l := ba.lt
  have ba_f := fun i => ba.frozen i
  have br_0 : Y0.cell? ⟨w.heap.size + 1, 0, none⟩ = some (.string ⟨#[]⟩) := br.cell 0
  have br_1 : Y0.cell? ⟨w.heap.size + 1, 1, none⟩ = some (.int .i64 0) := br.cell 1
  have br_2 : Y0.cell? ⟨w.heap.size + 1, 2, none⟩ = some (.int .i64 0) := br.cell 2
  have br_3 : Y0.cell? ⟨w.heap.size + 1, 3, none⟩ = some (.string ⟨#[]⟩) := br.cell 3
  have br_4 : Y0.cell? ⟨w.heap.size + 1, 4, none⟩ = some (.int .i64 0) := br.cell 4
  have br_5 : Y0.cell? ⟨w.heap.size + 1, 5, none⟩ = some (.slice none 0 0) := br.cell 5
  have br_l := br.lt
  have br_f := fun i => br.frozen i
  have bo_0 : Y0.cell? ⟨w.heap.size + 1 + 1, 0, none⟩ = some (.string z0) := bo.cell 0
  have bo_1 : Y0.cell? ⟨w.heap.size + 1 + 1, 1, none⟩ = some (.int .i64 0) := bo.cell 1
  have bo_2 : Y0.cell? ⟨w.heap.size + 1 + 1, 2, none⟩ = some (.int .i64 0) := bo.cell 2
  have bo_3 : Y0.cell? ⟨w.heap.size + 1 + 1, 3, none⟩ = some (.string ⟨#[]⟩) := bo.cell 3
  have bo_4 : Y0.cell? ⟨w.heap.size + 1 + 1, 4, none⟩ = some (.int .i64 0) := bo.cell 4
  have bo_5 : Y0.cell? ⟨w.heap.size + 1 + 1, 5, none⟩ = some (.slice none 0 0) := bo.cell 5
  have bo_l := bo.lt
  have bo_f := fun i => bo.frozen i
  go_wp2_with fail
  skip
  refine bodyPost_ret (v := .agg #[.string z0, .int .i64 z1, .int .i64 z2, .string z3, .int .i64 z4, .slice D5 z5.length d5]) (by simp [results, Tryd.results36, go_sem, br_0, br_1, br_2, br_3, br_4, br_5, bo_0, bo_1, bo_2, bo_3, bo_4, bo_5, br_l, br_f, bo_l, bo_f]) rfl ⟨_, rfl, ?_, ?_⟩
  · refine OwnI.wide (lo := X0.heap.size) (hi := Y0.heap.size) ?_ (by omega) (by simp)
    repeat (refine OwnI.set ?_ (.inl (by simp; omega)) _)
    exact (OwnI.consv (OwnI.app (m := Y0.heap.size) (hi := Y0.heap.size) o1 (OwnI.wide (lo' := Y0.heap.size) (hi' := Y0.heap.size) (OwnI.nil _ Y0.heap.size Y0.heap.size) (by omega) (by omega)) (Nat.le_refl _) (by omega) (by omega)) _)
  · repeat (refine Below.setCell ?_ (by simp; try omega) _)
    exact hB
theorem infoBinding : (Tryd.prog.info? 60).map (fun i => (i.zero.map Value.cells, i.size, i.bytes)) = some (some #[.string ByteArray.empty, .int .i64 0, .int .i64 0, .string ByteArray.empty, .int .i64 0, .slice none 0 0], 6, 80) := by kernel_rfl
set_option maxHeartbeats 1000000 in
theorem toBindingS_of (l : List FBinding) (hl : l.length ≤ 1048576) (he : ∀ x, x ∈ l → ToBinding x) : ToBindingS l := by
  intro u w B hB0 hr0
  have hr := hr0.up hB0
  clear hr0
  obtain ⟨A, c, rfl⟩ := hr.form
  have HC := Lib.hid hr
  have hcap := hr.cap
  have hn : l.length ≤ 9223372036854775807 := by omega
  have hmk := fun W => make_law (P := Tryd.prog) 38 60 _ 6 80 Tryd.underlying38 infoBinding l.length (by omega) hn W
  have HE := Lib.hid he
  clear he
  clear hr hcap
  go_enter Tryd.func14, Tryd.ntmps14
  go_wp2
  go_loopw [4] (fun i wr => ∃ k : Nat, k ≤ l.length ∧ i = .int .i64 k ∧ (∃ us zs, us.length = k * 6 ∧ zs.length = (l.length - k) * 6 ∧ wr.ownsRow w.heap.size 60 6 (.slice (some ⟨w.heap.size, 0, none⟩) l.length l.length) l.length (us ++ zs) ∧ OwnI wr (w.heap.size + 1) wr.heap.size (FBinding.flat (l.take k)) us) ∧ Below w.heap.size w wr) (fun i _ => l.length - (intOf i).toNat)
  case atStart => exact ⟨0, Nat.zero_le _, rfl, ⟨[], madeL #[.string ByteArray.empty, .int .i64 0, .int .i64 0, .string ByteArray.empty, .int .i64 0, .slice none 0 0] (l.length * 6), by simp, by simp [madeL, size_madeCells], own_madeL w _ l.length 6 _ rfl (by omega) (by unfold maxLen; omega), OwnI.nil _ _ _⟩, (Below.refl _ _).alloc (Nat.le_refl _) _⟩
  case round =>
    obtain ⟨k, hk, rfl, ⟨us, zs, hus, hzs, hrow, hown⟩, hb⟩ := hrel
    have HROW := Lib.hid hrow
    have HOWN := Lib.hid hown
    have HUS := Lib.hid hus
    have HZS := Lib.hid hzs
    have hsz : w.heap.size < wr.heap.size := (hrow.lt _ rfl).2
    clear hmk hrow hown hus hzs
    by_cases hlt : k < l.length
    · obtain ⟨x, hx⟩ : ∃ x, l[k]? = some x := ⟨_, List.getElem?_eq_getElem hlt⟩
      obtain ⟨bc, offc, rfl, hblc, hcc⟩ := RdC.at_ FBinding.len HC.out hx
      obtain ⟨z0, ⟨z1, z2, z3, z4, z5⟩⟩ := x
      rw [FBinding.c_eq] at hcc
      obtain ⟨u0, e0, q0⟩ := hcc 0 _ rfl
      obtain rfl := q0.val
      clear q0
      have c_0 : wr.cell? ⟨bc, offc + k * 6, none⟩ = some (.string z0) := (hb.cell (p := ⟨bc, _, none⟩) hblc).trans (by simpa using e0)
      obtain ⟨u1, e1, q1⟩ := hcc 1 _ rfl
      obtain rfl := q1.val
      clear q1
      have c_1 : wr.cell? ⟨bc, offc + k * 6 + 1, none⟩ = some (.int .i64 z1) := (hb.cell (p := ⟨bc, _, none⟩) hblc).trans (by simpa using e1)
      obtain ⟨u2, e2, q2⟩ := hcc 2 _ rfl
      obtain rfl := q2.val
      clear q2
      have c_2 : wr.cell? ⟨bc, offc + k * 6 + 2, none⟩ = some (.int .i64 z2) := (hb.cell (p := ⟨bc, _, none⟩) hblc).trans (by simpa using e2)
      obtain ⟨u3, e3, q3⟩ := hcc 3 _ rfl
      obtain rfl := q3.val
      clear q3
      have c_3 : wr.cell? ⟨bc, offc + k * 6 + 3, none⟩ = some (.string z3) := (hb.cell (p := ⟨bc, _, none⟩) hblc).trans (by simpa using e3)
      obtain ⟨u4, e4, q4⟩ := hcc 4 _ rfl
      obtain rfl := q4.val
      clear q4
      have c_4 : wr.cell? ⟨bc, offc + k * 6 + 4, none⟩ = some (.int .i64 z4) := (hb.cell (p := ⟨bc, _, none⟩) hblc).trans (by simpa using e4)
      obtain ⟨u5, e5, q5⟩ := hcc 5 _ rfl
      obtain ⟨A5, c5, rfl⟩ := q5.form
      have Q5 := Lib.hid q5
      clear q5
      have c_5 : wr.cell? ⟨bc, offc + k * 6 + 5, none⟩ = some (.slice A5 z5.length c5) := (hb.cell (p := ⟨bc, _, none⟩) hblc).trans (by simpa using e5)
      obtain ⟨g1, f1, hrow1⟩ := own_rowf HROW.out
      have HX := Lib.hid hx
      clear hcc hx e0 e1 e2 e3 e4 e5
      have HT := Lib.hid (HE.out _ (List.mem_of_getElem? HX.out))
      have HV := Lib.hid (show RdVs wr w.heap.size (FBinding.c ⟨z0, ⟨z1, z2, z3, z4, z5⟩⟩) [.string z0, .int .i64 z1, .int .i64 z2, .string z3, .int .i64 z4, .slice A5 z5.length c5] from by rw [FBinding.c_eq]; exact (RdVs.cons (by unfold RdC; rfl) (RdVs.cons (by unfold RdC; rfl) (RdVs.cons (by unfold RdC; rfl) (RdVs.cons (by unfold RdC; rfl) (RdVs.cons (by unfold RdC; rfl) (RdVs.cons (Q5.out.below hb (Nat.le_refl _)) (RdVs.nil _ _))))))))
      go_wp2_with fail
      refine (HT.out _ _ w.heap.size (by omega) HV.out).mono ?_
      rw [FBinding.c_eq]
      rintro e w2 ⟨us2, rfl, own2, hb2⟩
      have hv := own2.vs
      obtain ⟨us2_0, rfl, hv_0⟩ := hv.unv
      obtain ⟨us2_1, rfl, hv_1⟩ := hv_0.unv
      obtain ⟨us2_2, rfl, hv_2⟩ := hv_1.unv
      obtain ⟨us2_3, rfl, hv_3⟩ := hv_2.unv
      obtain ⟨us2_4, rfl, hv_4⟩ := hv_3.unv
      obtain ⟨D5, d5, us2_5, rfl, _, hv_5⟩ := hv_4.uns
      obtain rfl := hv_5.un0
      have OWN2 := Lib.hid own2
      have row2 : w2.rowIs w.heap.size 60 (l.length * 6) f1 := hrow1.of_block (hb2.block _ hrow1.lt)
      have ROW2 := Lib.hid (own_below HROW.out hb2 (Nat.le_refl _))
      have hsz2 : wr.heap.size ≤ w2.heap.size := hb2.size
      have hB2 := hb.trans (hb2.mono hb.size)
      have HOWN2 := Lib.hid (HOWN.out.below hb2 (Nat.le_refl _))
      have r0 := row2.cell (i := k * 6) (by omega)
      have f0_ := row2.frozen (k * 6)
      have r1 := row2.cell (i := k * 6 + 1) (by omega)
      have f1_ := row2.frozen (k * 6 + 1)
      have r2 := row2.cell (i := k * 6 + 2) (by omega)
      have f2_ := row2.frozen (k * 6 + 2)
      have r3 := row2.cell (i := k * 6 + 3) (by omega)
      have f3_ := row2.frozen (k * 6 + 3)
      have r4 := row2.cell (i := k * 6 + 4) (by omega)
      have f4_ := row2.frozen (k * 6 + 4)
      have r5 := row2.cell (i := k * 6 + 5) (by omega)
      have f5_ := row2.frozen (k * 6 + 5)
      clear own2 row2 hrow1 c_0 c_1 c_2 c_3 c_4 c_5
      go_wp2_with fail
      go_roundw
      case rel =>
        have hflat : FBinding.flat (l.take (k + 1)) = FBinding.flat (l.take k) ++ [.v (.string z0), .v (.int .i64 z1), .v (.int .i64 z2), .v (.string z3), .v (.int .i64 z4), .s 73 8 z5.length (FEntry.flat z5)] := by
          rw [List.take_add_one, HX.out]
          simp [FBinding.c_eq]
        have hset := sets_app [.string z0, .int .i64 z1, .int .i64 z2, .string z3, .int .i64 z4, .slice D5 z5.length d5] us zs (k * 6) HUS.out (by rw [HZS.out]; simp; omega)
        refine ⟨k + 1, by omega, by go_num, ⟨us ++ [.string z0, .int .i64 z1, .int .i64 z2, .string z3, .int .i64 z4, .slice D5 z5.length d5], zs.drop 6, by simp [HUS.out]; try omega, by rw [List.length_drop, HZS.out]; omega, ?_, ?_⟩, ((((((hB2.setCell (by simp) _).setCell (by simp) _).setCell (by simp) _).setCell (by simp) _).setCell (by simp) _).setCell (by simp) _)⟩
        · have hfin := (own_setC (own_setC (own_setC (own_setC (own_setC (own_setC ROW2.out (i := k * 6) (by omega) (.string z0)) (i := k * 6 + 1) (by omega) (.int .i64 z1)) (i := k * 6 + 2) (by omega) (.int .i64 z2)) (i := k * 6 + 3) (by omega) (.string z3)) (i := k * 6 + 4) (by omega) (.int .i64 z4)) (i := k * 6 + 5) (by omega) (.slice D5 z5.length d5))
          rw [show us ++ [.string z0, .int .i64 z1, .int .i64 z2, .string z3, .int .i64 z4, .slice D5 z5.length d5] ++ zs.drop 6 = _ from hset.symm]
          simpa [sets] using hfin
        · rw [hflat]
          have hfin := (OwnI.set (OwnI.set (OwnI.set (OwnI.set (OwnI.set (OwnI.set (OwnI.app (m := wr.heap.size) (lo' := wr.heap.size) (hi := w2.heap.size) HOWN2.out OWN2.out (Nat.le_refl _) (by omega) (by omega)) (p := ⟨w.heap.size, k * 6, none⟩) (.inl (by simp)) (.string z0)) (p := ⟨w.heap.size, k * 6 + 1, none⟩) (.inl (by simp)) (.int .i64 z1)) (p := ⟨w.heap.size, k * 6 + 2, none⟩) (.inl (by simp)) (.int .i64 z2)) (p := ⟨w.heap.size, k * 6 + 3, none⟩) (.inl (by simp)) (.string z3)) (p := ⟨w.heap.size, k * 6 + 4, none⟩) (.inl (by simp)) (.int .i64 z4)) (p := ⟨w.heap.size, k * 6 + 5, none⟩) (.inl (by simp)) (.slice D5 z5.length d5))
          exact hfin.wide (Nat.le_refl _) (by simp)
      case measure => simp [intOf]; omega
    · obtain rfl : k = l.length := by omega
      clear hlt
      go_wp2_with fail
      go_ret
      have hz0 : zs = [] := List.eq_nil_of_length_eq_zero (by rw [HZS.out]; simp)
      have hr1 := HROW.out
      have ho1 := HOWN.out
      rw [hz0, List.append_nil] at hr1
      rw [List.take_length] at ho1
      exact ⟨_, _, rfl, OwnI.mk hr1 ho1 (fun g hg => by have : w.heap.size = g := by simpa [Value.ownBlock] using hg
                                                        omega) (by omega) (Nat.le_refl _), hb⟩
theorem toBinding_any (x : FBinding) (hw : x.wt ≤ 1048576) : ToBinding x := by
  obtain ⟨z0, ⟨z1, z2, z3, z4, z5⟩⟩ := x
  exact toBinding_of z0 z1 z2 z3 z4 z5 (toValue_any _ (by rw [FBinding.wt_eq] at hw; rw [FValue.wt_eq]; omega))
theorem toBindingS_any (l : List FBinding) (hw : l.length + FBinding.wts l ≤ 1048576) : ToBindingS l := (toBindingS_of l (by omega) (fun x hx => toBinding_any x (by have := FBinding.wts_at l x hx; omega)))
end Go.Proofs.YtgbeenieacnanaaDoor
