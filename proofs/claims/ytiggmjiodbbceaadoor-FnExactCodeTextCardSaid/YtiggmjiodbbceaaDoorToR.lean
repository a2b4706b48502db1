/-
  string, int, Ins, Param, Func: the conversions of the laws hand back a copy in memory of its own. Conditions: none.
-/
import Derived.Test.YtiggmjiodbbceaaDoorDataR
namespace Go.Proofs.YtiggmjiodbbceaaDoor
open Go.ChangeShapes Go.WideShapes Go.ChangeAt Go.RowKit Go.Deep Go.Joins
open Go.ChangeMaps (open_string shut_string)
set_option linter.unusedVariables false
set_option linter.unusedSimpArgs false
set_option maxRecDepth 100000

/-- What make lays, as a list of values. -/
def madeL (z : Array Value) (n : Nat) : List Value := (madeCells z n).toList
theorem own_madeL (w : World) (z : Array Value) (n k : Nat) (t : TypeId) (hz : z.size = k) (hk : 0 < k) (hn : n ≤ maxLen) : (w.alloc (.cells (madeCells z (n * k)) t)).ownsRow w.heap.size t k (.slice (some ⟨w.heap.size, 0, none⟩) n n) n ([] ++ madeL z (n * k)) := by
  rw [List.nil_append]
  have hsz : (madeCells z (n * k)).size = n * k := by simp [madeCells]
  refine ⟨by simp [madeL, hsz], .inr ⟨w.heap.size, n, madeCells z (n * k), rfl, Nat.le_refl _, heap_alloc_new w _, Nat.le_refl _, hn, hsz, ?_⟩⟩
  unfold madeL
  rw [List.take_of_length_le (by simp [hsz])]
theorem own_rowf {w : World} {base k n c g : Nat} {e : TypeId} {xs : List Value} (h : w.ownsRow base e k (.slice (some ⟨g, 0, none⟩) n c) n xs) : ∃ (g1 : Nat) (f : Nat → Value), w.rowIs g e (c * k) f := by
  rcases own_row h with ⟨hv, _⟩ | ⟨g1, cap, f, hv, _, _, _, hrow, _⟩
  · cases hv
  · simp only [Value.slice.injEq, Option.some.injEq, Addr.mk.injEq, true_and, and_true] at hv
    obtain ⟨rfl, rfl⟩ := hv
    exact ⟨g, f, hrow⟩
def ToStringS (l : List FStr) : Prop := ∀ (u : Value) (w : World) (B : Nat), B ≤ w.heap.size → RdC w B (.s 9 1 l.length (FStr.flat l)) u → Calls Tryd.prog 50 #[u] w fun e w' => ∃ A c, e = .returned (.slice A l.length c) ∧ OwnI w' w.heap.size w'.heap.size [.s 9 1 l.length (FStr.flat l)] [.slice A l.length c] ∧ Below w.heap.size w w'
theorem infoString : (Tryd.prog.info? 9).map (fun i => (i.zero.map Value.cells, i.size, i.bytes)) = some (some #[.string ByteArray.empty], 1, 16) := by kernel_rfl
set_option maxHeartbeats 1000000 in
theorem toStringS_of (l : List FStr) (hl : l.length ≤ 1048576) : ToStringS l := by
  intro u w B hB0 hr0
  have hr := hr0.up hB0
  clear hr0
  obtain ⟨A, c, rfl⟩ := hr.form
  have HC := Lib.hid hr
  have hcap := hr.cap
  have hn : l.length ≤ 9223372036854775807 := by omega
  have hmk := fun W => make_law (P := Tryd.prog) 39 9 _ 1 16 Tryd.underlying39 infoString l.length (by omega) hn W
  clear hr hcap
  go_enter Tryd.func50, Tryd.ntmps50
  go_wp2
  go_loopw [4] (fun i wr => ∃ k : Nat, k ≤ l.length ∧ i = .int .i64 k ∧ (∃ us zs, us.length = k * 1 ∧ zs.length = (l.length - k) * 1 ∧ wr.ownsRow w.heap.size 9 1 (.slice (some ⟨w.heap.size, 0, none⟩) l.length l.length) l.length (us ++ zs) ∧ OwnI wr (w.heap.size + 1) wr.heap.size (FStr.flat (l.take k)) us) ∧ Below w.heap.size w wr) (fun i _ => l.length - (intOf i).toNat)
  case atStart => exact ⟨0, Nat.zero_le _, rfl, ⟨[], madeL #[.string ByteArray.empty] (l.length), by simp, by simp [madeL, size_madeCells], (by simpa using own_madeL w #[.string ByteArray.empty] l.length 1 9 rfl (by omega) (by unfold maxLen; omega)), OwnI.nil _ _ _⟩, (Below.refl _ _).alloc (Nat.le_refl _) _⟩
  case round =>
    obtain ⟨k, hk, rfl, ⟨us, zs, hus, hzs, hrow, hown⟩, hb⟩ := hrel
    have HROW := Lib.hid hrow
    have HOWN := Lib.hid hown
    have HUS := Lib.hid hus
    have HZS := Lib.hid hzs
    have hsz : w.heap.size < wr.heap.size := (hrow.lt _ rfl).2
    clear hmk hrow hown hus hzs
    by_cases hlt : k < l.length
    · obtain ⟨x, hx⟩ : ∃ x, l[k]? = some x := ⟨_, List.getElem?_eq_getElem hlt⟩
      obtain ⟨bc, offc, rfl, hblc, hcc⟩ := RdC.at_ FStr.len HC.out hx
      obtain ⟨z0⟩ := x
      rw [FStr.c_eq] at hcc
      obtain ⟨u0, e0, q0⟩ := hcc 0 _ rfl
      obtain rfl := q0.val
      clear q0
      have c_0 : wr.cell? ⟨bc, offc + k, none⟩ = some (.string z0) := (hb.cell (p := ⟨bc, _, none⟩) hblc).trans (by simpa using e0)
      obtain ⟨g1, f1, hrow1⟩ := own_rowf HROW.out
      have HX := Lib.hid hx
      clear hcc hx e0
      have q0 := hrow1.cell (i := k) (by omega)
      have z0_ := hrow1.frozen (k)
      go_wp2_with fail
      go_roundw
      case rel =>
        have hflat : FStr.flat (l.take (k + 1)) = FStr.flat (l.take k) ++ [.v (.string z0)] := by
          rw [List.take_add_one, HX.out]
          simp [FStr.c_eq]
        have hset := sets_app [.string z0] us zs (k * 1) HUS.out (by rw [HZS.out]; simp; omega)
        refine ⟨k + 1, by omega, by go_num, ⟨us ++ [.string z0], zs.drop 1, by simp [HUS.out]; try omega, by rw [List.length_drop, HZS.out]; omega, ?_, ?_⟩, (hb.setCell (by simp) _)⟩
        · have hfin := (own_setC HROW.out (i := k) (by omega) (.string z0))
          rw [show us ++ [.string z0] ++ zs.drop 1 = _ from hset.symm]
          simpa [sets] using hfin
        · rw [hflat]
          have hfin := (OwnI.set (OwnI.app (m := wr.heap.size) (lo' := wr.heap.size) (hi := wr.heap.size) HOWN.out (OwnI.consv (OwnI.nil _ _ _) (.string z0)) (Nat.le_refl _) (by omega) (Nat.le_refl _)) (p := ⟨w.heap.size, k, none⟩) (.inl (by simp)) (.string z0))
          exact hfin.wide (Nat.le_refl _) (by simp)
      case measure => simp [intOf]; omega
    · obtain rfl : k = l.length := by omega
      clear hlt
      go_wp2_with fail
      go_ret
      have hz0 : zs = [] := List.eq_nil_of_length_eq_zero (by rw [HZS.out]; simp)
      have hr1 := HROW.out
      have ho1 := HOWN.out
      rw [hz0, List.append_nil] at hr1
      rw [List.take_length] at ho1
      exact ⟨_, _, rfl, OwnI.mk hr1 ho1 (fun g hg => by have : w.heap.size = g := by simpa [Value.ownBlock] using hg
                                                        omega) (by omega) (Nat.le_refl _), hb⟩
theorem toStringS_any (l : List FStr) (hw : l.length + FStr.wts l ≤ 1048576) : ToStringS l := (toStringS_of l (by omega))
def ToIns (x : FIns) : Prop := ∀ (us : List Value) (w : World) (B : Nat), B ≤ w.heap.size → RdVs w B x.c us → Calls Tryd.prog 11 #[.agg us.toArray] w fun e w' => ∃ us', e = .returned (.agg us'.toArray) ∧ OwnI w' w.heap.size w'.heap.size x.c us' ∧ Below w.heap.size w w'
def ToInsS (l : List FIns) : Prop := ∀ (u : Value) (w : World) (B : Nat), B ≤ w.heap.size → RdC w B (.s 28 5 l.length (FIns.flat l)) u → Calls Tryd.prog 51 #[u] w fun e w' => ∃ A c, e = .returned (.slice A l.length c) ∧ OwnI w' w.heap.size w'.heap.size [.s 28 5 l.length (FIns.flat l)] [.slice A l.length c] ∧ Below w.heap.size w w'
set_option maxHeartbeats 1000000 in
theorem toIns_of (z0 : Int) (z1 : Int) (z2 : Int) (z3 : ByteArray) (z4 : ByteArray)  : ToIns ⟨z0, z1, z2, z3, z4⟩ := by
  intro us w B hB0 hr
  rw [FIns.c_eq] at hr ⊢
  obtain ⟨us0, rfl, hr_0⟩ := hr.unv
  obtain ⟨us1, rfl, hr_1⟩ := hr_0.unv
  obtain ⟨us2, rfl, hr_2⟩ := hr_1.unv
  obtain ⟨us3, rfl, hr_3⟩ := hr_2.unv
  obtain ⟨us4, rfl, hr_4⟩ := hr_3.unv
  obtain rfl := hr_4.un0
  go_enter Tryd.func11, Tryd.ntmps11
  go_wp2_with fail
  exact bodyPost_ret (v := .agg #[.int .i64 z0, .int .i64 z1, .int .i64 z2, .string z3, .string z4]) (by simp [results, Tryd.results11, go_sem]) rfl ⟨_, rfl, (OwnI.consv (OwnI.consv (OwnI.consv (OwnI.consv (OwnI.consv (OwnI.nil _ _ _) _) _) _) _) _), by repeat (first | exact Below.refl _ _ | (refine Below.alloc ?_ (by simp; try omega) _) | (refine Below.setCell ?_ (by simp) _))⟩
theorem infoIns : (Tryd.prog.info? 28).map (fun i => (i.zero.map Value.cells, i.size, i.bytes)) = some (some #[.int .i64 0, .int .i64 0, .int .i64 0, .string ByteArray.empty, .string ByteArray.empty], 5, 56) := by kernel_rfl
set_option maxHeartbeats 1000000 in
theorem toInsS_of (l : List FIns) (hl : l.length ≤ 1048576) (he : ∀ x, x ∈ l → ToIns x) : ToInsS l := by
  intro u w B hB0 hr0
  have hr := hr0.up hB0
  clear hr0
  obtain ⟨A, c, rfl⟩ := hr.form
  have HC := Lib.hid hr
  have hcap := hr.cap
  have hn : l.length ≤ 9223372036854775807 := by omega
  have hmk := fun W => make_law (P := Tryd.prog) 46 28 _ 5 56 Tryd.underlying46 infoIns l.length (by omega) hn W
  have HE := Lib.hid he
  clear he
  clear hr hcap
  go_enter Tryd.func51, Tryd.ntmps51
  go_wp2
  go_loopw [4] (fun i wr => ∃ k : Nat, k ≤ l.length ∧ i = .int .i64 k ∧ (∃ us zs, us.length = k * 5 ∧ zs.length = (l.length - k) * 5 ∧ wr.ownsRow w.heap.size 28 5 (.slice (some ⟨w.heap.size, 0, none⟩) l.length l.length) l.length (us ++ zs) ∧ OwnI wr (w.heap.size + 1) wr.heap.size (FIns.flat (l.take k)) us) ∧ Below w.heap.size w wr) (fun i _ => l.length - (intOf i).toNat)
  case atStart => exact ⟨0, Nat.zero_le _, rfl, ⟨[], madeL #[.int .i64 0, .int .i64 0, .int .i64 0, .string ByteArray.empty, .string ByteArray.empty] (l.length * 5), by simp, by simp [madeL, size_madeCells], own_madeL w _ l.length 5 _ rfl (by omega) (by unfold maxLen; omega), OwnI.nil _ _ _⟩, (Below.refl _ _).alloc (Nat.le_refl _) _⟩
  case round =>
    obtain ⟨k, hk, rfl, ⟨us, zs, hus, hzs, hrow, hown⟩, hb⟩ := hrel
    have HROW := Lib.hid hrow
    have HOWN := Lib.hid hown
    have HUS := Lib.hid hus
    have HZS := Lib.hid hzs
    have hsz : w.heap.size < wr.heap.size := (hrow.lt _ rfl).2
    clear hmk hrow hown hus hzs
    by_cases hlt : k < l.length
    · obtain ⟨x, hx⟩ : ∃ x, l[k]? = some x := ⟨_, List.getElem?_eq_getElem hlt⟩
      obtain ⟨bc, offc, rfl, hblc, hcc⟩ := RdC.at_ FIns.len HC.out hx
      obtain ⟨z0, z1, z2, z3, z4⟩ := x
      rw [FIns.c_eq] at hcc
      obtain ⟨u0, e0, q0⟩ := hcc 0 _ rfl
      obtain rfl := q0.val
      clear q0
      have c_0 : wr.cell? ⟨bc, offc + k * 5, none⟩ = some (.int .i64 z0) := (hb.cell (p := ⟨bc, _, none⟩) hblc).trans (by simpa using e0)
      obtain ⟨u1, e1, q1⟩ := hcc 1 _ rfl
      obtain rfl := q1.val
      clear q1
      have c_1 : wr.cell? ⟨bc, offc + k * 5 + 1, none⟩ = some (.int .i64 z1) := (hb.cell (p := ⟨bc, _, none⟩) hblc).trans (by simpa using e1)
      obtain ⟨u2, e2, q2⟩ := hcc 2 _ rfl
      obtain rfl := q2.val
      clear q2
      have c_2 : wr.cell? ⟨bc, offc + k * 5 + 2, none⟩ = some (.int .i64 z2) := (hb.cell (p := ⟨bc, _, none⟩) hblc).trans (by simpa using e2)
      obtain ⟨u3, e3, q3⟩ := hcc 3 _ rfl
      obtain rfl := q3.val
      clear q3
      have c_3 : wr.cell? ⟨bc, offc + k * 5 + 3, none⟩ = some (.string z3) := (hb.cell (p := ⟨bc, _, none⟩) hblc).trans (by simpa using e3)
      obtain ⟨u4, e4, q4⟩ := hcc 4 _ rfl
      obtain rfl := q4.val
      clear q4
      have c_4 : wr.cell? ⟨bc, offc + k * 5 + 4, none⟩ = some (.string z4) := (hb.cell (p := ⟨bc, _, none⟩) hblc).trans (by simpa using e4)
      obtain ⟨g1, f1, hrow1⟩ := own_rowf HROW.out
      have HX := Lib.hid hx
      clear hcc hx e0 e1 e2 e3 e4
      have HT := Lib.hid (HE.out _ (List.mem_of_getElem? HX.out))
      have HV := Lib.hid (show RdVs wr w.heap.size (FIns.c ⟨z0, z1, z2, z3, z4⟩) [.int .i64 z0, .int .i64 z1, .int .i64 z2, .string z3, .string z4] from by rw [FIns.c_eq]; exact (RdVs.cons (by unfold RdC; rfl) (RdVs.cons (by unfold RdC; rfl) (RdVs.cons (by unfold RdC; rfl) (RdVs.cons (by unfold RdC; rfl) (RdVs.cons (by unfold RdC; rfl) (RdVs.nil _ _)))))))
      go_wp2_with fail
      refine (HT.out _ _ w.heap.size (by omega) HV.out).mono ?_
      rw [FIns.c_eq]
      rintro e w2 ⟨us2, rfl, own2, hb2⟩
      have hv := own2.vs
      obtain ⟨us2_0, rfl, hv_0⟩ := hv.unv
      obtain ⟨us2_1, rfl, hv_1⟩ := hv_0.unv
      obtain ⟨us2_2, rfl, hv_2⟩ := hv_1.unv
      obtain ⟨us2_3, rfl, hv_3⟩ := hv_2.unv
      obtain ⟨us2_4, rfl, hv_4⟩ := hv_3.unv
      obtain rfl := hv_4.un0
      have OWN2 := Lib.hid own2
      have row2 : w2.rowIs w.heap.size 28 (l.length * 5) f1 := hrow1.of_block (hb2.block _ hrow1.lt)
      have ROW2 := Lib.hid (own_below HROW.out hb2 (Nat.le_refl _))
      have hsz2 : wr.heap.size ≤ w2.heap.size := hb2.size
      have hB2 := hb.trans (hb2.mono hb.size)
      have HOWN2 := Lib.hid (HOWN.out.below hb2 (Nat.le_refl _))
      have r0 := row2.cell (i := k * 5) (by omega)
      have f0_ := row2.frozen (k * 5)
      have r1 := row2.cell (i := k * 5 + 1) (by omega)
      have f1_ := row2.frozen (k * 5 + 1)
      have r2 := row2.cell (i := k * 5 + 2) (by omega)
      have f2_ := row2.frozen (k * 5 + 2)
      have r3 := row2.cell (i := k * 5 + 3) (by omega)
      have f3_ := row2.frozen (k * 5 + 3)
      have r4 := row2.cell (i := k * 5 + 4) (by omega)
      have f4_ := row2.frozen (k * 5 + 4)
      clear own2 row2 hrow1 c_0 c_1 c_2 c_3 c_4
      go_wp2_with fail
      go_roundw
      case rel =>
        have hflat : FIns.flat (l.take (k + 1)) = FIns.flat (l.take k) ++ [.v (.int .i64 z0), .v (.int .i64 z1), .v (.int .i64 z2), .v (.string z3), .v (.string z4)] := by
          rw [List.take_add_one, HX.out]
          simp [FIns.c_eq]
        have hset := sets_app [.int .i64 z0, .int .i64 z1, .int .i64 z2, .string z3, .string z4] us zs (k * 5) HUS.out (by rw [HZS.out]; simp; omega)
        refine ⟨k + 1, by omega, by go_num, ⟨us ++ [.int .i64 z0, .int .i64 z1, .int .i64 z2, .string z3, .string z4], zs.drop 5, by simp [HUS.out]; try omega, by rw [List.length_drop, HZS.out]; omega, ?_, ?_⟩, (((((hB2.setCell (by simp) _).setCell (by simp) _).setCell (by simp) _).setCell (by simp) _).setCell (by simp) _)⟩
        · have hfin := (own_setC (own_setC (own_setC (own_setC (own_setC ROW2.out (i := k * 5) (by omega) (.int .i64 z0)) (i := k * 5 + 1) (by omega) (.int .i64 z1)) (i := k * 5 + 2) (by omega) (.int .i64 z2)) (i := k * 5 + 3) (by omega) (.string z3)) (i := k * 5 + 4) (by omega) (.string z4))
          rw [show us ++ [.int .i64 z0, .int .i64 z1, .int .i64 z2, .string z3, .string z4] ++ zs.drop 5 = _ from hset.symm]
          simpa [sets] using hfin
        · rw [hflat]
          have hfin := (OwnI.set (OwnI.set (OwnI.set (OwnI.set (OwnI.set (OwnI.app (m := wr.heap.size) (lo' := wr.heap.size) (hi := w2.heap.size) HOWN2.out OWN2.out (Nat.le_refl _) (by omega) (by omega)) (p := ⟨w.heap.size, k * 5, none⟩) (.inl (by simp)) (.int .i64 z0)) (p := ⟨w.heap.size, k * 5 + 1, none⟩) (.inl (by simp)) (.int .i64 z1)) (p := ⟨w.heap.size, k * 5 + 2, none⟩) (.inl (by simp)) (.int .i64 z2)) (p := ⟨w.heap.size, k * 5 + 3, none⟩) (.inl (by simp)) (.string z3)) (p := ⟨w.heap.size, k * 5 + 4, none⟩) (.inl (by simp)) (.string z4))
          exact hfin.wide (Nat.le_refl _) (by simp)
      case measure => simp [intOf]; omega
    · obtain rfl : k = l.length := by omega
      clear hlt
      go_wp2_with fail
      go_ret
      have hz0 : zs = [] := List.eq_nil_of_length_eq_zero (by rw [HZS.out]; simp)
      have hr1 := HROW.out
      have ho1 := HOWN.out
      rw [hz0, List.append_nil] at hr1
      rw [List.take_length] at ho1
      exact ⟨_, _, rfl, OwnI.mk hr1 ho1 (fun g hg => by have : w.heap.size = g := by simpa [Value.ownBlock] using hg
                                                        omega) (by omega) (Nat.le_refl _), hb⟩
theorem toIns_any (x : FIns) (hw : x.wt ≤ 1048576) : ToIns x := by
  obtain ⟨z0, z1, z2, z3, z4⟩ := x
  exact toIns_of z0 z1 z2 z3 z4 
theorem toInsS_any (l : List FIns) (hw : l.length + FIns.wts l ≤ 1048576) : ToInsS l := (toInsS_of l (by omega) (fun x hx => toIns_any x (by have := FIns.wts_at l x hx; omega)))
def ToParam (x : FParam) : Prop := ∀ (us : List Value) (w : World) (B : Nat), B ≤ w.heap.size → RdVs w B x.c us → Calls Tryd.prog 70 #[.agg us.toArray] w fun e w' => ∃ us', e = .returned (.agg us'.toArray) ∧ OwnI w' w.heap.size w'.heap.size x.c us' ∧ Below w.heap.size w w'
def ToParamS (l : List FParam) : Prop := ∀ (u : Value) (w : World) (B : Nat), B ≤ w.heap.size → RdC w B (.s 90 2 l.length (FParam.flat l)) u → Calls Tryd.prog 49 #[u] w fun e w' => ∃ A c, e = .returned (.slice A l.length c) ∧ OwnI w' w.heap.size w'.heap.size [.s 90 2 l.length (FParam.flat l)] [.slice A l.length c] ∧ Below w.heap.size w w'
set_option maxHeartbeats 1000000 in
theorem toParam_of (z0 : ByteArray) (z1 : Bool)  : ToParam ⟨z0, z1⟩ := by
  intro us w B hB0 hr
  rw [FParam.c_eq] at hr ⊢
  obtain ⟨us0, rfl, hr_0⟩ := hr.unv
  obtain ⟨us1, rfl, hr_1⟩ := hr_0.unv
  obtain rfl := hr_1.un0
  go_enter Tryd.func70, Tryd.ntmps70
  go_wp2_with fail
  exact bodyPost_ret (v := .agg #[.string z0, .bool z1]) (by simp [results, Tryd.results70, go_sem]) rfl ⟨_, rfl, (OwnI.consv (OwnI.consv (OwnI.nil _ _ _) _) _), by repeat (first | exact Below.refl _ _ | (refine Below.alloc ?_ (by simp; try omega) _) | (refine Below.setCell ?_ (by simp) _))⟩
theorem infoParam : (Tryd.prog.info? 90).map (fun i => (i.zero.map Value.cells, i.size, i.bytes)) = some (some #[.string ByteArray.empty, .bool false], 2, 24) := by kernel_rfl
set_option maxHeartbeats 1000000 in
theorem toParamS_of (l : List FParam) (hl : l.length ≤ 1048576) (he : ∀ x, x ∈ l → ToParam x) : ToParamS l := by
  intro u w B hB0 hr0
  have hr := hr0.up hB0
  clear hr0
  obtain ⟨A, c, rfl⟩ := hr.form
  have HC := Lib.hid hr
  have hcap := hr.cap
  have hn : l.length ≤ 9223372036854775807 := by omega
  have hmk := fun W => make_law (P := Tryd.prog) 45 90 _ 2 24 Tryd.underlying45 infoParam l.length (by omega) hn W
  have HE := Lib.hid he
  clear he
  clear hr hcap
  go_enter Tryd.func49, Tryd.ntmps49
  go_wp2
  go_loopw [4] (fun i wr => ∃ k : Nat, k ≤ l.length ∧ i = .int .i64 k ∧ (∃ us zs, us.length = k * 2 ∧ zs.length = (l.length - k) * 2 ∧ wr.ownsRow w.heap.size 90 2 (.slice (some ⟨w.heap.size, 0, none⟩) l.length l.length) l.length (us ++ zs) ∧ OwnI wr (w.heap.size + 1) wr.heap.size (FParam.flat (l.take k)) us) ∧ Below w.heap.size w wr) (fun i _ => l.length - (intOf i).toNat)
  case atStart => exact ⟨0, Nat.zero_le _, rfl, ⟨[], madeL #[.string ByteArray.empty, .bool false] (l.length * 2), by simp, by simp [madeL, size_madeCells], own_madeL w _ l.length 2 _ rfl (by omega) (by unfold maxLen; omega), OwnI.nil _ _ _⟩, (Below.refl _ _).alloc (Nat.le_refl _) _⟩
  case round =>
    obtain ⟨k, hk, rfl, ⟨us, zs, hus, hzs, hrow, hown⟩, hb⟩ := hrel
    have HROW := Lib.hid hrow
    have HOWN := Lib.hid hown
    have HUS := Lib.hid hus
    have HZS := Lib.hid hzs
    have hsz : w.heap.size < wr.heap.size := (hrow.lt _ rfl).2
    clear hmk hrow hown hus hzs
    by_cases hlt : k < l.length
    · obtain ⟨x, hx⟩ : ∃ x, l[k]? = some x := ⟨_, List.getElem?_eq_getElem hlt⟩
      obtain ⟨bc, offc, rfl, hblc, hcc⟩ := RdC.at_ FParam.len HC.out hx
      obtain ⟨z0, z1⟩ := x
      rw [FParam.c_eq] at hcc
      obtain ⟨u0, e0, q0⟩ := hcc 0 _ rfl
      obtain rfl := q0.val
      clear q0
      have c_0 : wr.cell? ⟨bc, offc + k * 2, none⟩ = some (.string z0) := (hb.cell (p := ⟨bc, _, none⟩) hblc).trans (by simpa using e0)
      obtain ⟨u1, e1, q1⟩ := hcc 1 _ rfl
      obtain rfl := q1.val
      clear q1
      have c_1 : wr.cell? ⟨bc, offc + k * 2 + 1, none⟩ = some (.bool z1) := (hb.cell (p := ⟨bc, _, none⟩) hblc).trans (by simpa using e1)
      obtain ⟨g1, f1, hrow1⟩ := own_rowf HROW.out
      have HX := Lib.hid hx
      clear hcc hx e0 e1
      have HT := Lib.hid (HE.out _ (List.mem_of_getElem? HX.out))
      have HV := Lib.hid (show RdVs wr w.heap.size (FParam.c ⟨z0, z1⟩) [.string z0, .bool z1] from by rw [FParam.c_eq]; exact (RdVs.cons (by unfold RdC; rfl) (RdVs.cons (by unfold RdC; rfl) (RdVs.nil _ _))))
      go_wp2_with fail
      refine (HT.out _ _ w.heap.size (by omega) HV.out).mono ?_
      rw [FParam.c_eq]
      rintro e w2 ⟨us2, rfl, own2, hb2⟩
      have hv := own2.vs
      obtain ⟨us2_0, rfl, hv_0⟩ := hv.unv
      obtain ⟨us2_1, rfl, hv_1⟩ := hv_0.unv
      obtain rfl := hv_1.un0
      have OWN2 := Lib.hid own2
      have row2 : w2.rowIs w.heap.size 90 (l.length * 2) f1 := hrow1.of_block (hb2.block _ hrow1.lt)
      have ROW2 := Lib.hid (own_below HROW.out hb2 (Nat.le_refl _))
      have hsz2 : wr.heap.size ≤ w2.heap.size := hb2.size
      have hB2 := hb.trans (hb2.mono hb.size)
      have HOWN2 := Lib.hid (HOWN.out.below hb2 (Nat.le_refl _))
      have r0 := row2.cell (i := k * 2) (by omega)
      have f0_ := row2.frozen (k * 2)
      have r1 := row2.cell (i := k * 2 + 1) (by omega)
      have f1_ := row2.frozen (k * 2 + 1)
      clear own2 row2 hrow1 c_0 c_1
      go_wp2_with fail
      go_roundw
      case rel =>
        have hflat : FParam.flat (l.take (k + 1)) = FParam.flat (l.take k) ++ [.v (.string z0), .v (.bool z1)] := by
          rw [List.take_add_one, HX.out]
          simp [FParam.c_eq]
        have hset := sets_app [.string z0, .bool z1] us zs (k * 2) HUS.out (by rw [HZS.out]; simp; omega)
        refine ⟨k + 1, by omega, by go_num, ⟨us ++ [.string z0, .bool z1], zs.drop 2, by simp [HUS.out]; try omega, by rw [List.length_drop, HZS.out]; omega, ?_, ?_⟩, ((hB2.setCell (by simp) _).setCell (by simp) _)⟩
        · have hfin := (own_setC (own_setC ROW2.out (i := k * 2) (by omega) (.string z0)) (i := k * 2 + 1) (by omega) (.bool z1))
          rw [show us ++ [.string z0, .bool z1] ++ zs.drop 2 = _ from hset.symm]
          simpa [sets] using hfin
        · rw [hflat]
          have hfin := (OwnI.set (OwnI.set (OwnI.app (m := wr.heap.size) (lo' := wr.heap.size) (hi := w2.heap.size) HOWN2.out OWN2.out (Nat.le_refl _) (by omega) (by omega)) (p := ⟨w.heap.size, k * 2, none⟩) (.inl (by simp)) (.string z0)) (p := ⟨w.heap.size, k * 2 + 1, none⟩) (.inl (by simp)) (.bool z1))
          exact hfin.wide (Nat.le_refl _) (by simp)
      case measure => simp [intOf]; omega
    · obtain rfl : k = l.length := by omega
      clear hlt
      go_wp2_with fail
      go_ret
      have hz0 : zs = [] := List.eq_nil_of_length_eq_zero (by rw [HZS.out]; simp)
      have hr1 := HROW.out
      have ho1 := HOWN.out
      rw [hz0, List.append_nil] at hr1
      rw [List.take_length] at ho1
      exact ⟨_, _, rfl, OwnI.mk hr1 ho1 (fun g hg => by have : w.heap.size = g := by simpa [Value.ownBlock] using hg
                                                        omega) (by omega) (Nat.le_refl _), hb⟩
theorem toParam_any (x : FParam) (hw : x.wt ≤ 1048576) : ToParam x := by
  obtain ⟨z0, z1⟩ := x
  exact toParam_of z0 z1 
theorem toParamS_any (l : List FParam) (hw : l.length + FParam.wts l ≤ 1048576) : ToParamS l := (toParamS_of l (by omega) (fun x hx => toParam_any x (by have := FParam.wts_at l x hx; omega)))
def ToFunc (x : FFunc) : Prop := ∀ (us : List Value) (w : World) (B : Nat), B ≤ w.heap.size → RdVs w B x.c us → Calls Tryd.prog 24 #[.agg us.toArray] w fun e w' => ∃ us', e = .returned (.agg us'.toArray) ∧ OwnI w' w.heap.size w'.heap.size x.c us' ∧ Below w.heap.size w w'
set_option maxHeartbeats 1000000 in
theorem toFunc_of (z0 : ByteArray) (z1 : List FParam) (z2 : List FParam) (z3 : List FStr) (z4 : Bool) (z5 : List FIns) (h1 : ToParamS z1) (h2 : ToParamS z2) (h3 : ToStringS z3) (h5 : ToInsS z5) : ToFunc ⟨z0, z1, z2, z3, z4, z5⟩ := by
  intro us w B hB0 hr
  rw [FFunc.c_eq] at hr ⊢
  obtain ⟨us0, rfl, hr_0⟩ := hr.unv
  obtain ⟨A1, c1, us1, rfl, r1, hr_1⟩ := hr_0.uns
  obtain ⟨A2, c2, us2, rfl, r2, hr_2⟩ := hr_1.uns
  obtain ⟨A3, c3, us3, rfl, r3, hr_3⟩ := hr_2.uns
  obtain ⟨us4, rfl, hr_4⟩ := hr_3.unv
  obtain ⟨A5, c5, us5, rfl, r5, hr_5⟩ := hr_4.uns
  obtain rfl := hr_5.un0
  have R1 := Lib.hid r1
  clear r1
  have R2 := Lib.hid r2
  clear r2
  have R3 := Lib.hid r3
  clear r3
  have R5 := Lib.hid r5
  clear r5
  have H1 := Lib.hid h1
  clear h1
  have H2 := Lib.hid h2
  clear h2
  have H3 := Lib.hid h3
  clear h3
  have H5 := Lib.hid h5
  clear h5
  go_enter Tryd.func24, Tryd.ntmps24
  go_wp2_with fail
  refine calls_worldD _ (fun X => Blk X (w.heap.size) 42 #[.string z0, .slice A1 z1.length c1, .slice A2 z2.length c2, .slice A3 z3.length c3, .bool z4, .slice A5 z5.length c5] ∧ Blk X (w.heap.size + 1) 48 #[.string ⟨#[]⟩, .slice none 0 0, .slice none 0 0, .slice none 0 0, .bool false, .slice none 0 0] ∧ Blk X (w.heap.size + 1 + 1) 48 #[.string z0, .slice none 0 0, .slice none 0 0, .slice none 0 0, .bool false, .slice none 0 0] ∧ Below w.heap.size w X) ⟨((Blk.new w _ _).alloc _).alloc _, (Blk.new' (w.alloc _) _ _ _ (by simp)).alloc _, Blk.new' ((w.alloc _).alloc _) _ _ _ (by simp), ((((Below.refl _ _).alloc (Nat.le_refl _) _).alloc (by simp) _).alloc (by simp; omega) _)⟩ ?_
  rintro X0 ⟨ba, br, bo, hB⟩
  have s0 := bo.lt
  refine (H1.out _ _ B (by omega) (R1.out.below hB hB0)).mono ?_
  rintro e Y0 ⟨D1, d1, rfl, own, hb⟩
  have o1 := own
  clear own
  replace ba := ba.below hb (Nat.le_refl _)
  replace br := br.below hb (Nat.le_refl _)
  replace bo := bo.below hb (Nat.le_refl _)
  replace hB := hB.trans (hb.mono (by omega))
  have t0 : X0.heap.size ≤ Y0.heap.size := hb.size
  clear hb
  have ba_0 : Y0.cell? ⟨w.heap.size, 0, none⟩ = some (.string z0) := ba.cell 0
  have ba_1 : Y0.cell? ⟨w.heap.size, 1, none⟩ = some (.slice A1 z1.length c1) := ba.cell 1
  have ba_2 : Y0.cell? ⟨w.heap.size, 2, none⟩ = some (.slice A2 z2.length c2) := ba.cell 2
  have ba_3 : Y0.cell? ⟨w.heap.size, 3, none⟩ = some (.slice A3 z3.length c3) := ba.cell 3
  have ba_4 : Y0.cell? ⟨w.heap.size, 4, none⟩ = some (.bool z4) := ba.cell 4
  have ba_5 : Y0.cell? ⟨w.heap.size, 5, none⟩ = some (.slice A5 z5.length c5) := ba.cell 5
  have ba_l := ba.lt
  have ba_f := fun i => ba.frozen i
  have br_0 : Y0.cell? ⟨w.heap.size + 1, 0, none⟩ = some (.string ⟨#[]⟩) := br.cell 0
  have br_1 : Y0.cell? ⟨w.heap.size + 1, 1, none⟩ = some (.slice none 0 0) := br.cell 1
  have br_2 : Y0.cell? ⟨w.heap.size + 1, 2, none⟩ = some (.slice none 0 0) := br.cell 2
  have br_3 : Y0.cell? ⟨w.heap.size + 1, 3, none⟩ = some (.slice none 0 0) := br.cell 3
  have br_4 : Y0.cell? ⟨w.heap.size + 1, 4, none⟩ = some (.bool false) := br.cell 4
  have br_5 : Y0.cell? ⟨w.heap.size + 1, 5, none⟩ = some (.slice none 0 0) := br.cell 5
  have br_l := br.lt
  have br_f := fun i => br.frozen i
  have bo_0 : Y0.cell? ⟨w.heap.size + 1 + 1, 0, none⟩ = some (.string z0) := bo.cell 0
  have bo_1 : Y0.cell? ⟨w.heap.size + 1 + 1, 1, none⟩ = some (.slice none 0 0) := bo.cell 1
  have bo_2 : Y0.cell? ⟨w.heap.size + 1 + 1, 2, none⟩ = some (.slice none 0 0) := bo.cell 2
  have bo_3 : Y0.cell? ⟨w.heap.size + 1 + 1, 3, none⟩ = some (.slice none 0 0) := bo.cell 3
  have bo_4 : Y0.cell? ⟨w.heap.size + 1 + 1, 4, none⟩ = some (.bool false) := bo.cell 4
  have bo_5 : Y0.cell? ⟨w.heap.size + 1 + 1, 5, none⟩ = some (.slice none 0 0) := bo.cell 5
  have bo_l := bo.lt
  have bo_f := fun i => bo.frozen i
  go_wp2_with fail
  clear ba_0 ba_1 ba_2 ba_3 ba_4 ba_5 ba_l ba_f
  clear br_0 br_1 br_2 br_3 br_4 br_5 br_l br_f
  clear bo_0 bo_1 bo_2 bo_3 bo_4 bo_5 bo_l bo_f
  refine calls_worldD _ (fun X => Blk X (w.heap.size) 42 #[.string z0, .slice A1 z1.length c1, .slice A2 z2.length c2, .slice A3 z3.length c3, .bool z4, .slice A5 z5.length c5] ∧ Blk X (w.heap.size + 1) 48 #[.string ⟨#[]⟩, .slice none 0 0, .slice none 0 0, .slice none 0 0, .bool false, .slice none 0 0] ∧ Blk X (w.heap.size + 1 + 1) 48 #[.string z0, .slice D1 z1.length d1, .slice none 0 0, .slice none 0 0, .bool false, .slice none 0 0] ∧ OwnI X X0.heap.size Y0.heap.size [.s 90 2 z1.length (FParam.flat z1)] [.slice D1 z1.length d1] ∧ Below w.heap.size w X ∧ Y0.heap.size ≤ X.heap.size) ⟨(ba.far (by simp; try omega) _), (br.far (by simp; try omega) _), (by simpa using (bo.set_ 1 _)), (o1.set (.inl (by simp; omega)) _), (hB.setCell (by simp; try omega) _), (by simp)⟩ ?_
  clear ba br bo hB o1
  rintro X1 ⟨ba, br, bo, o1, hB, y1⟩
  have s1 := bo.lt
  refine (H2.out _ _ B (by omega) (R2.out.below hB hB0)).mono ?_
  rintro e Y1 ⟨D2, d2, rfl, own, hb⟩
  have o2 := own
  clear own
  replace ba := ba.below hb (Nat.le_refl _)
  replace br := br.below hb (Nat.le_refl _)
  replace bo := bo.below hb (Nat.le_refl _)
  replace o1 := o1.below hb (Nat.le_refl _)
  replace hB := hB.trans (hb.mono (by omega))
  have t1 : X1.heap.size ≤ Y1.heap.size := hb.size
  clear hb
  have ba_0 : Y1.cell? ⟨w.heap.size, 0, none⟩ = some (.string z0) := ba.cell 0
  have ba_1 : Y1.cell? ⟨w.heap.size, 1, none⟩ = some (.slice A1 z1.length c1) := ba.cell 1
  have ba_2 : Y1.cell? ⟨w.heap.size, 2, none⟩ = some (.slice A2 z2.length c2) := ba.cell 2
  have ba_3 : Y1.cell? ⟨w.heap.size, 3, none⟩ = some (.slice A3 z3.length c3) := ba.cell 3
  have ba_4 : Y1.cell? ⟨w.heap.size, 4, none⟩ = some (.bool z4) := ba.cell 4
  have ba_5 : Y1.cell? ⟨w.heap.size, 5, none⟩ = some (.slice A5 z5.length c5) := ba.cell 5
  have ba_l := ba.lt
  have ba_f := fun i => ba.frozen i
  have br_0 : Y1.cell? ⟨w.heap.size + 1, 0, none⟩ = some (.string ⟨#[]⟩) := br.cell 0
  have br_1 : Y1.cell? ⟨w.heap.size + 1, 1, none⟩ = some (.slice none 0 0) := br.cell 1
  have br_2 : Y1.cell? ⟨w.heap.size + 1, 2, none⟩ = some (.slice none 0 0) := br.cell 2
  have br_3 : Y1.cell? ⟨w.heap.size + 1, 3, none⟩ = some (.slice none 0 0) := br.cell 3
  have br_4 : Y1.cell? ⟨w.heap.size + 1, 4, none⟩ = some (.bool false) := br.cell 4
  have br_5 : Y1.cell? ⟨w.heap.size + 1, 5, none⟩ = some (.slice none 0 0) := br.cell 5
  have br_l := br.lt
  have br_f := fun i => br.frozen i
  have bo_0 : Y1.cell? ⟨w.heap.size + 1 + 1, 0, none⟩ = some (.string z0) := bo.cell 0
  have bo_1 : Y1.cell? ⟨w.heap.size + 1 + 1, 1, none⟩ = some (.slice D1 z1.length d1) := bo.cell 1
  have bo_2 : Y1.cell? ⟨w.heap.size + 1 + 1, 2, none⟩ = some (.slice none 0 0) := bo.cell 2
  have bo_3 : Y1.cell? ⟨w.heap.size + 1 + 1, 3, none⟩ = some (.slice none 0 0) := bo.cell 3
  have bo_4 : Y1.cell? ⟨w.heap.size + 1 + 1, 4, none⟩ = some (.bool false) := bo.cell 4
  have bo_5 : Y1.cell? ⟨w.heap.size + 1 + 1, 5, none⟩ = some (.slice none 0 0) := bo.cell 5
  have bo_l := bo.lt
  have bo_f := fun i => bo.frozen i
  go_wp2_with fail
  clear ba_0 ba_1 ba_2 ba_3 ba_4 ba_5 ba_l ba_f
  clear br_0 br_1 br_2 br_3 br_4 br_5 br_l br_f
  clear bo_0 bo_1 bo_2 bo_3 bo_4 bo_5 bo_l bo_f
  refine calls_worldD _ (fun X => Blk X (w.heap.size) 42 #[.string z0, .slice A1 z1.length c1, .slice A2 z2.length c2, .slice A3 z3.length c3, .bool z4, .slice A5 z5.length c5] ∧ Blk X (w.heap.size + 1) 48 #[.string ⟨#[]⟩, .slice none 0 0, .slice none 0 0, .slice none 0 0, .bool false, .slice none 0 0] ∧ Blk X (w.heap.size + 1 + 1) 48 #[.string z0, .slice D1 z1.length d1, .slice D2 z2.length d2, .slice none 0 0, .bool false, .slice none 0 0] ∧ OwnI X X0.heap.size Y0.heap.size [.s 90 2 z1.length (FParam.flat z1)] [.slice D1 z1.length d1] ∧ OwnI X X1.heap.size Y1.heap.size [.s 90 2 z2.length (FParam.flat z2)] [.slice D2 z2.length d2] ∧ Below w.heap.size w X ∧ Y1.heap.size ≤ X.heap.size) ⟨(ba.far (by simp; try omega) _), (br.far (by simp; try omega) _), (by simpa using (bo.set_ 2 _)), (o1.set (.inl (by simp; omega)) _), (o2.set (.inl (by simp; omega)) _), (hB.setCell (by simp; try omega) _), (by simp)⟩ ?_
  clear ba br bo hB o1 o2
  rintro X2 ⟨ba, br, bo, o1, o2, hB, y2⟩
  have s2 := bo.lt
  refine (H3.out _ _ B (by omega) (R3.out.below hB hB0)).mono ?_
  rintro e Y2 ⟨D3, d3, rfl, own, hb⟩
  have o3 := own
  clear own
  replace ba := ba.below hb (Nat.le_refl _)
  replace br := br.below hb (Nat.le_refl _)
  replace bo := bo.below hb (Nat.le_refl _)
  replace o1 := o1.below hb (Nat.le_refl _)
  replace o2 := o2.below hb (Nat.le_refl _)
  replace hB := hB.trans (hb.mono (by omega))
  have t2 : X2.heap.size ≤ Y2.heap.size := hb.size
  clear hb
  have ba_0 : Y2.cell? ⟨w.heap.size, 0, none⟩ = some (.string z0) := ba.cell 0
  have ba_1 : Y2.cell? ⟨w.heap.size, 1, none⟩ = some (.slice A1 z1.length c1) := ba.cell 1
  have ba_2 : Y2.cell? ⟨w.heap.size, 2, none⟩ = some (.slice A2 z2.length c2) := ba.cell 2
  have ba_3 : Y2.cell? ⟨w.heap.size, 3, none⟩ = some (.slice A3 z3.length c3) := ba.cell 3
  have ba_4 : Y2.cell? ⟨w.heap.size, 4, none⟩ = some (.bool z4) := ba.cell 4
  have ba_5 : Y2.cell? ⟨w.heap.size, 5, none⟩ = some (.slice A5 z5.length c5) := ba.cell 5
  have ba_l := ba.lt
  have ba_f := fun i => ba.frozen i
  have br_0 : Y2.cell? ⟨w.heap.size + 1, 0, none⟩ = some (.string ⟨#[]⟩) := br.cell 0
  have br_1 : Y2.cell? ⟨w.heap.size + 1, 1, none⟩ = some (.slice none 0 0) := br.cell 1
  have br_2 : Y2.cell? ⟨w.heap.size + 1, 2, none⟩ = some (.slice none 0 0) := br.cell 2
  have br_3 : Y2.cell? ⟨w.heap.size + 1, 3, none⟩ = some (.slice none 0 0) := br.cell 3
  have br_4 : Y2.cell? ⟨w.heap.size + 1, 4, none⟩ = some (.bool false) := br.cell 4
  have br_5 : Y2.cell? ⟨w.heap.size + 1, 5, none⟩ = some (.slice none 0 0) := br.cell 5
  have br_l := br.lt
  have br_f := fun i => br.frozen i
  have bo_0 : Y2.cell? ⟨w.heap.size + 1 + 1, 0, none⟩ = some (.string z0) := bo.cell 0
  have bo_1 : Y2.cell? ⟨w.heap.size + 1 + 1, 1, none⟩ = some (.slice D1 z1.length d1) := bo.cell 1
  have bo_2 : Y2.cell? ⟨w.heap.size + 1 + 1, 2, none⟩ = some (.slice D2 z2.length d2) := bo.cell 2
  have bo_3 : Y2.cell? ⟨w.heap.size + 1 + 1, 3, none⟩ = some (.slice none 0 0) := bo.cell 3
  have bo_4 : Y2.cell? ⟨w.heap.size + 1 + 1, 4, none⟩ = some (.bool false) := bo.cell 4
  have bo_5 : Y2.cell? ⟨w.heap.size + 1 + 1, 5, none⟩ = some (.slice none 0 0) := bo.cell 5
  have bo_l := bo.lt
  have bo_f := fun i => bo.frozen i
  go_wp2_with fail
  clear ba_0 ba_1 ba_2 ba_3 ba_4 ba_5 ba_l ba_f
  clear br_0 br_1 br_2 br_3 br_4 br_5 br_l br_f
  clear bo_0 bo_1 bo_2 bo_3 bo_4 bo_5 bo_l bo_f
  refine calls_worldD _ (fun X => Blk X (w.heap.size) 42 #[.string z0, .slice A1 z1.length c1, .slice A2 z2.length c2, .slice A3 z3.length c3, .bool z4, .slice A5 z5.length c5] ∧ Blk X (w.heap.size + 1) 48 #[.string ⟨#[]⟩, .slice none 0 0, .slice none 0 0, .slice none 0 0, .bool false, .slice none 0 0] ∧ Blk X (w.heap.size + 1 + 1) 48 #[.string z0, .slice D1 z1.length d1, .slice D2 z2.length d2, .slice D3 z3.length d3, .bool z4, .slice none 0 0] ∧ OwnI X X0.heap.size Y0.heap.size [.s 90 2 z1.length (FParam.flat z1)] [.slice D1 z1.length d1] ∧ OwnI X X1.heap.size Y1.heap.size [.s 90 2 z2.length (FParam.flat z2)] [.slice D2 z2.length d2] ∧ OwnI X X2.heap.size Y2.heap.size [.s 9 1 z3.length (FStr.flat z3)] [.slice D3 z3.length d3] ∧ Below w.heap.size w X ∧ Y2.heap.size ≤ X.heap.size) ⟨((ba.far (by simp; try omega) _).far (by simp; try omega) _), ((br.far (by simp; try omega) _).far (by simp; try omega) _), (by simpa using ((bo.set_ 3 _).set_ 4 _)), ((o1.set (.inl (by simp; omega)) _).set (.inl (by simp; omega)) _), ((o2.set (.inl (by simp; omega)) _).set (.inl (by simp; omega)) _), ((o3.set (.inl (by simp; omega)) _).set (.inl (by simp; omega)) _), ((hB.setCell (by simp; try omega) _).setCell (by simp; try omega) _), (by simp)⟩ ?_
  clear ba br bo hB o1 o2 o3
  rintro X3 ⟨ba, br, bo, o1, o2, o3, hB, y3⟩
  have s3 := bo.lt
  refine (H5.out _ _ B (by omega) (R5.out.below hB hB0)).mono ?_
  rintro e Y3 ⟨D5, d5, rfl, own, hb⟩
  have o5 := own
  clear own
  replace ba := ba.below hb (Nat.le_refl _)
  replace br := br.below hb (Nat.le_refl _)
  replace bo := bo.below hb (Nat.le_refl _)
  replace o1 := o1.below hb (Nat.le_refl _)
  replace o2 := o2.below hb (Nat.le_refl _)
  replace o3 := o3.below hb (Nat.le_refl _)
  replace hB := hB.trans (hb.mono (by omega))
  have t3 : X3.heap.size ≤ Y3.heap.size := hb.size
  clear hb
  have ba_0 : Y3.cell? ⟨w.heap.size, 0, none⟩ = some (.string z0) := ba.cell 0
  have ba_1 : Y3.cell? ⟨w.heap.size, 1, none⟩ = some (.slice A1 z1.length c1) := ba.cell 1
  have ba_2 : Y3.cell? ⟨w.heap.size, 2, none⟩ = some (.slice A2 z2.length c2) := ba.cell 2
  have ba_3 : Y3.cell? ⟨w.heap.size, 3, none⟩ = some (.slice A3 z3.length c3) := ba.cell 3
  have ba_4 : Y3.cell? ⟨w.heap.size, 4, none⟩ = some (.bool z4) := ba.cell 4
  have ba_5 : Y3.cell? ⟨w.heap.size, 5, none⟩ = some (.slice A5 z5.length c5) := ba.cell 5
  have ba_l := ba.lt
  have ba_f := fun i => ba.frozen i
  have br_0 : Y3.cell? ⟨w.heap.size + 1, 0, none⟩ = some (.string ⟨#[]⟩) := br.cell 0
  have br_1 : Y3.cell? ⟨w.heap.size + 1, 1, none⟩ = some (.slice none 0 0) := br.cell 1
  have br_2 : Y3.cell? ⟨w.heap.size + 1, 2, none⟩ = some (.slice none 0 0) := br.cell 2
  have br_3 : Y3.cell? ⟨w.heap.size + 1, 3, none⟩ = some (.slice none 0 0) := br.cell 3
  have br_4 : Y3.cell? ⟨w.heap.size + 1, 4, none⟩ = some (.bool false) := br.cell 4
  have br_5 : Y3.cell? ⟨w.heap.size + 1, 5, none⟩ = some (.slice none 0 0) := br.cell 5
  have br_l := br.lt
  have br_f := fun i => br.frozen i
  have bo_0 : Y3.cell? ⟨w.heap.size + 1 + 1, 0, none⟩ = some (.string z0) := bo.cell 0
  have bo_1 : Y3.cell? ⟨w.heap.size + 1 + 1, 1, none⟩ = some (.slice D1 z1.length d1) := bo.cell 1
  have bo_2 : Y3.cell? ⟨w.heap.size + 1 + 1, 2, none⟩ = some (.slice D2 z2.length d2) := bo.cell 2
  have bo_3 : Y3.cell? ⟨w.heap.size + 1 + 1, 3, none⟩ = some (.slice D3 z3.length d3) := bo.cell 3
  have bo_4 : Y3.cell? ⟨w.heap.size + 1 + 1, 4, none⟩ = some (.bool z4) := bo.cell 4
  have bo_5 : Y3.cell? ⟨w.heap.size + 1 + 1, 5, none⟩ = some (.slice none 0 0) := bo.cell 5
  have bo_l := bo.lt
  have bo_f := fun i => bo.frozen i
  go_wp2_with fail
  skip
  refine bodyPost_ret (v := .agg #[.string z0, .slice D1 z1.length d1, .slice D2 z2.length d2, .slice D3 z3.length d3, .bool z4, .slice D5 z5.length d5]) (by simp [results, Tryd.results24, go_sem, br_0, br_1, br_2, br_3, br_4, br_5, bo_0, bo_1, bo_2, bo_3, bo_4, bo_5, br_l, br_f, bo_l, bo_f]) rfl ⟨_, rfl, ?_, ?_⟩
  · refine OwnI.wide (lo := X0.heap.size) (hi := Y3.heap.size) ?_ (by omega) (by simp)
    repeat (refine OwnI.set ?_ (.inl (by simp; omega)) _)
    exact (OwnI.consv (OwnI.app (m := Y0.heap.size) (hi := Y3.heap.size) o1 (OwnI.wide (lo' := Y0.heap.size) (hi' := Y3.heap.size) (OwnI.app (m := Y1.heap.size) (hi := Y3.heap.size) o2 (OwnI.wide (lo' := Y1.heap.size) (hi' := Y3.heap.size) (OwnI.app (m := Y2.heap.size) (hi := Y3.heap.size) o3 (OwnI.wide (lo' := Y2.heap.size) (hi' := Y3.heap.size) (OwnI.consv (OwnI.app (m := Y3.heap.size) (hi := Y3.heap.size) o5 (OwnI.wide (lo' := Y3.heap.size) (hi' := Y3.heap.size) (OwnI.nil _ Y3.heap.size Y3.heap.size) (by omega) (by omega)) (Nat.le_refl _) (by omega) (by omega)) _) (by omega) (by omega)) (Nat.le_refl _) (by omega) (by omega)) (by omega) (by omega)) (Nat.le_refl _) (by omega) (by omega)) (by omega) (by omega)) (Nat.le_refl _) (by omega) (by omega)) _)
  · repeat (refine Below.setCell ?_ (by simp; try omega) _)
    exact hB
theorem toFunc_any (x : FFunc) (hw : x.wt ≤ 1048576) : ToFunc x := by
  obtain ⟨z0, z1, z2, z3, z4, z5⟩ := x
  exact toFunc_of z0 z1 z2 z3 z4 z5 (toParamS_any z1 (by rw [FFunc.wt_eq] at hw; omega)) (toParamS_any z2 (by rw [FFunc.wt_eq] at hw; omega)) (toStringS_any z3 (by rw [FFunc.wt_eq] at hw; omega)) (toInsS_any z5 (by rw [FFunc.wt_eq] at hw; omega))
end Go.Proofs.YtiggmjiodbbceaaDoor
