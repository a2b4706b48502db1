/-
  Node, Unit, string: the conversions of the laws hand back a copy in memory of its own. Conditions: none.
-/
import Derived.Test.YtbmgjndpnbdgeaaDataU
namespace Go.Proofs.Ytbmgjndpnbdgeaa
open Go.ChangeShapes Go.WideShapes Go.ChangeAt Go.RowKit Go.Deep Go.Joins
open Go.ChangeMaps (open_string shut_string)
set_option linter.unusedVariables false
set_option linter.unusedSimpArgs false
set_option maxRecDepth 100000

/-- What make lays, as a list of values. -/
def madeL (z : Array Value) (n : Nat) : List Value := (madeCells z n).toList
theorem own_madeL (w : World) (z : Array Value) (n k : Nat) (t : TypeId) (hz : z.size = k) (hk : 0 < k) (hn : n ≤ maxLen) : (w.alloc (.cells (madeCells z (n * k)) t)).ownsRow w.heap.size t k (.slice (some ⟨w.heap.size, 0, none⟩) n n) n ([] ++ madeL z (n * k)) := by
  rw [List.nil_append]
  have hsz : (madeCells z (n * k)).size = n * k := by simp [madeCells]
  refine ⟨by simp [madeL, hsz], .inr ⟨w.heap.size, n, madeCells z (n * k), rfl, Nat.le_refl _, heap_alloc_new w _, Nat.le_refl _, hn, hsz, ?_⟩⟩
  unfold madeL
  rw [List.take_of_length_le (by simp [hsz])]
theorem own_rowf {w : World} {base k n c g : Nat} {e : TypeId} {xs : List Value} (h : w.ownsRow base e k (.slice (some ⟨g, 0, none⟩) n c) n xs) : ∃ (g1 : Nat) (f : Nat → Value), w.rowIs g e (c * k) f := by
  rcases own_row h with ⟨hv, _⟩ | ⟨g1, cap, f, hv, _, _, _, hrow, _⟩
  · cases hv
  · simp only [Value.slice.injEq, Option.some.injEq, Addr.mk.injEq, true_and, and_true] at hv
    obtain ⟨rfl, rfl⟩ := hv
    exact ⟨g, f, hrow⟩
def ToNode (x : FNode) : Prop := ∀ (us : List Value) (w : World) (B : Nat), B ≤ w.heap.size → RdVs w B x.c us → Calls Try.prog 16 #[.agg us.toArray] w fun e w' => ∃ us', e = .returned (.agg us'.toArray) ∧ OwnI w' w.heap.size w'.heap.size x.c us' ∧ Below w.heap.size w w'
def ToNodeS (l : List FNode) : Prop := ∀ (u : Value) (w : World) (B : Nat), B ≤ w.heap.size → RdC w B (.s 38 4 l.length (FNode.flat l)) u → Calls Try.prog 7 #[u] w fun e w' => ∃ A c, e = .returned (.slice A l.length c) ∧ OwnI w' w.heap.size w'.heap.size [.s 38 4 l.length (FNode.flat l)] [.slice A l.length c] ∧ Below w.heap.size w w'
set_option maxHeartbeats 1000000 in
theorem toNode_of (z0 : Int) (z1 : Int) (z2 : ByteArray) (z3 : List FNode) (h3 : ToNodeS z3) : ToNode ⟨z0, z1, z2, z3⟩ := by
  intro us w B hB0 hr
  rw [FNode.c_eq] at hr ⊢
  obtain ⟨us0, rfl, hr_0⟩ := hr.unv
  obtain ⟨us1, rfl, hr_1⟩ := hr_0.unv
  obtain ⟨us2, rfl, hr_2⟩ := hr_1.unv
  obtain ⟨A3, c3, us3, rfl, r3, hr_3⟩ := hr_2.uns
  obtain rfl := hr_3.un0
  have R3 := Lib.hid r3
  clear r3
  have H3 := Lib.hid h3
  clear h3
  go_enter Try.func16, Try.ntmps16
  go_wp2_with fail
  refine calls_worldD _ (fun X => Blk X (w.heap.size) 34 #[.int .i64 z0, .int .i64 z1, .string z2, .slice A3 z3.length c3] ∧ Blk X (w.heap.size + 1) 38 #[.int .i64 0, .int .i64 0, .string ⟨#[]⟩, .slice none 0 0] ∧ Blk X (w.heap.size + 1 + 1) 38 #[.int .i64 z0, .int .i64 z1, .string z2, .slice none 0 0] ∧ Below w.heap.size w X) ⟨((Blk.new w _ _).alloc _).alloc _, (Blk.new' (w.alloc _) _ _ _ (by simp)).alloc _, Blk.new' ((w.alloc _).alloc _) _ _ _ (by simp), ((((Below.refl _ _).alloc (Nat.le_refl _) _).alloc (by simp) _).alloc (by simp; omega) _)⟩ ?_
  rintro X0 ⟨ba, br, bo, hB⟩
  have s0 := bo.lt
  refine (H3.out _ _ B (by omega) (R3.out.below hB hB0)).mono ?_
  rintro e Y0 ⟨D3, d3, rfl, own, hb⟩
  have o3 := own
  clear own
  replace ba := ba.below hb (Nat.le_refl _)
  replace br := br.below hb (Nat.le_refl _)
  replace bo := bo.below hb (Nat.le_refl _)
  replace hB := hB.trans (hb.mono (by omega))
  have t0 : X0.heap.size ≤ Y0.heap.size := hb.size
  clear hb
  have ba_0 : Y0.cell? ⟨w.heap.size, 0, none⟩ = some (.int .i64 z0) := ba.cell 0
  have ba_1 : Y0.cell? ⟨w.heap.size, 1, none⟩ = some (.int .i64 z1) := ba.cell 1
  have ba_2 : Y0.cell? ⟨w.heap.size, 2, none⟩ = some (.string z2) := ba.cell 2
  have ba_3 : Y0.cell? ⟨w.heap.size, 3, none⟩ = some (.slice A3 z3.length c3) := ba.cell 3
  have ba_l := ba.lt
  have ba_f := fun i => ba.frozen i
  have br_0 : Y0.cell? ⟨w.heap.size + 1, 0, none⟩ = some (.int .i64 0) := br.cell 0
  have br_1 : Y0.cell? ⟨w.heap.size + 1, 1, none⟩ = some (.int .i64 0) := br.cell 1
  have br_2 : Y0.cell? ⟨w.heap.size + 1, 2, none⟩ = some (.string ⟨#[]⟩) := br.cell 2
  have br_3 : Y0.cell? ⟨w.heap.size + 1, 3, none⟩ = some (.slice none 0 0) := br.cell 3
  have br_l := br.lt
  have br_f := fun i => br.frozen i
  have bo_0 : Y0.cell? ⟨w.heap.size + 1 + 1, 0, none⟩ = some (.int .i64 z0) := bo.cell 0
  have bo_1 : Y0.cell? ⟨w.heap.size + 1 + 1, 1, none⟩ = some (.int .i64 z1) := bo.cell 1
  have bo_2 : Y0.cell? ⟨w.heap.size + 1 + 1, 2, none⟩ = some (.string z2) := bo.cell 2
  have bo_3 : Y0.cell? ⟨w.heap.size + 1 + 1, 3, none⟩ = some (.slice none 0 0) := bo.cell 3
  have bo_l := bo.lt
  have bo_f := fun i => bo.frozen i
  go_wp2_with fail
  skip
  refine bodyPost_ret (v := .agg #[.int .i64 z0, .int .i64 z1, .string z2, .slice D3 z3.length d3]) (by simp [results, Try.results16, go_sem, br_0, br_1, br_2, br_3, bo_0, bo_1, bo_2, bo_3, br_l, br_f, bo_l, bo_f]) rfl ⟨_, rfl, ?_, ?_⟩
  · refine OwnI.wide (lo := X0.heap.size) (hi := Y0.heap.size) ?_ (by omega) (by simp)
    repeat (refine OwnI.set ?_ (.inl (by simp; omega)) _)
    exact (OwnI.consv (OwnI.consv (OwnI.consv (OwnI.app (m := Y0.heap.size) (hi := Y0.heap.size) o3 (OwnI.wide (lo' := Y0.heap.size) (hi' := Y0.heap.size) (OwnI.nil _ Y0.heap.size Y0.heap.size) (by omega) (by omega)) (Nat.le_refl _) (by omega) (by omega)) _) _) _)
  · repeat (refine Below.setCell ?_ (by simp; try omega) _)
    exact hB
theorem infoNode : (Try.prog.info? 38).map (fun i => (i.zero.map Value.cells, i.size, i.bytes)) = some (some #[.int .i64 0, .int .i64 0, .string ByteArray.empty, .slice none 0 0], 4, 56) := by kernel_rfl
set_option maxHeartbeats 1000000 in
theorem toNodeS_of (l : List FNode) (hl : l.length ≤ 1048576) (he : ∀ x, x ∈ l → ToNode x) : ToNodeS l := by
  intro u w B hB0 hr0
  have hr := hr0.up hB0
  clear hr0
  obtain ⟨A, c, rfl⟩ := hr.form
  have HC := Lib.hid hr
  have hcap := hr.cap
  have hn : l.length ≤ 9223372036854775807 := by omega
  have hmk := fun W => make_law (P := Try.prog) 26 38 _ 4 56 Try.underlying26 infoNode l.length (by omega) hn W
  have HE := Lib.hid he
  clear he
  clear hr hcap
  go_enter Try.func7, Try.ntmps7
  go_wp2
  go_loopw [4] (fun i wr => ∃ k : Nat, k ≤ l.length ∧ i = .int .i64 k ∧ (∃ us zs, us.length = k * 4 ∧ zs.length = (l.length - k) * 4 ∧ wr.ownsRow w.heap.size 38 4 (.slice (some ⟨w.heap.size, 0, none⟩) l.length l.length) l.length (us ++ zs) ∧ OwnI wr (w.heap.size + 1) wr.heap.size (FNode.flat (l.take k)) us) ∧ Below w.heap.size w wr) (fun i _ => l.length - (intOf i).toNat)
  case atStart => exact ⟨0, Nat.zero_le _, rfl, ⟨[], madeL #[.int .i64 0, .int .i64 0, .string ByteArray.empty, .slice none 0 0] (l.length * 4), by simp, by simp [madeL, size_madeCells], own_madeL w _ l.length 4 _ rfl (by omega) (by unfold maxLen; omega), OwnI.nil _ _ _⟩, (Below.refl _ _).alloc (Nat.le_refl _) _⟩
  case round =>
    obtain ⟨k, hk, rfl, ⟨us, zs, hus, hzs, hrow, hown⟩, hb⟩ := hrel
    have HROW := Lib.hid hrow
    have HOWN := Lib.hid hown
    have HUS := Lib.hid hus
    have HZS := Lib.hid hzs
    have hsz : w.heap.size < wr.heap.size := (hrow.lt _ rfl).2
    clear hmk hrow hown hus hzs
    by_cases hlt : k < l.length
    · obtain ⟨x, hx⟩ : ∃ x, l[k]? = some x := ⟨_, List.getElem?_eq_getElem hlt⟩
      obtain ⟨bc, offc, rfl, hblc, hcc⟩ := RdC.at_ FNode.len HC.out hx
      obtain ⟨z0, z1, z2, z3⟩ := x
      rw [FNode.c_eq] at hcc
      obtain ⟨u0, e0, q0⟩ := hcc 0 _ rfl
      obtain rfl := q0.val
      clear q0
      have c_0 : wr.cell? ⟨bc, offc + k * 4, none⟩ = some (.int .i64 z0) := (hb.cell (p := ⟨bc, _, none⟩) hblc).trans (by simpa using e0)
      obtain ⟨u1, e1, q1⟩ := hcc 1 _ rfl
      obtain rfl := q1.val
      clear q1
      have c_1 : wr.cell? ⟨bc, offc + k * 4 + 1, none⟩ = some (.int .i64 z1) := (hb.cell (p := ⟨bc, _, none⟩) hblc).trans (by simpa using e1)
      obtain ⟨u2, e2, q2⟩ := hcc 2 _ rfl
      obtain rfl := q2.val
      clear q2
      have c_2 : wr.cell? ⟨bc, offc + k * 4 + 2, none⟩ = some (.string z2) := (hb.cell (p := ⟨bc, _, none⟩) hblc).trans (by simpa using e2)
      obtain ⟨u3, e3, q3⟩ := hcc 3 _ rfl
      obtain ⟨A3, c3, rfl⟩ := q3.form
      have Q3 := Lib.hid q3
      clear q3
      have c_3 : wr.cell? ⟨bc, offc + k * 4 + 3, none⟩ = some (.slice A3 z3.length c3) := (hb.cell (p := ⟨bc, _, none⟩) hblc).trans (by simpa using e3)
      obtain ⟨g1, f1, hrow1⟩ := own_rowf HROW.out
      have HX := Lib.hid hx
      clear hcc hx e0 e1 e2 e3
      have HT := Lib.hid (HE.out _ (List.mem_of_getElem? HX.out))
      have HV := Lib.hid (show RdVs wr w.heap.size (FNode.c ⟨z0, z1, z2, z3⟩) [.int .i64 z0, .int .i64 z1, .string z2, .slice A3 z3.length c3] from by rw [FNode.c_eq]; exact (RdVs.cons (by unfold RdC; rfl) (RdVs.cons (by unfold RdC; rfl) (RdVs.cons (by unfold RdC; rfl) (RdVs.cons (Q3.out.below hb (Nat.le_refl _)) (RdVs.nil _ _))))))
      go_wp2_with fail
      refine (HT.out _ _ w.heap.size (by omega) HV.out).mono ?_
      rw [FNode.c_eq]
      rintro e w2 ⟨us2, rfl, own2, hb2⟩
      have hv := own2.vs
      obtain ⟨us2_0, rfl, hv_0⟩ := hv.unv
      obtain ⟨us2_1, rfl, hv_1⟩ := hv_0.unv
      obtain ⟨us2_2, rfl, hv_2⟩ := hv_1.unv
      obtain ⟨D3, d3, us2_3, rfl, _, hv_3⟩ := hv_2.uns
      obtain rfl := hv_3.un0
      have OWN2 := Lib.hid own2
      have row2 : w2.rowIs w.heap.size 38 (l.length * 4) f1 := hrow1.of_block (hb2.block _ hrow1.lt)
      have ROW2 := Lib.hid (own_below HROW.out hb2 (Nat.le_refl _))
      have hsz2 : wr.heap.size ≤ w2.heap.size := hb2.size
      have hB2 := hb.trans (hb2.mono hb.size)
      have HOWN2 := Lib.hid (HOWN.out.below hb2 (Nat.le_refl _))
      have r0 := row2.cell (i := k * 4) (by omega)
      have f0_ := row2.frozen (k * 4)
      have r1 := row2.cell (i := k * 4 + 1) (by omega)
      have f1_ := row2.frozen (k * 4 + 1)
      have r2 := row2.cell (i := k * 4 + 2) (by omega)
      have f2_ := row2.frozen (k * 4 + 2)
      have r3 := row2.cell (i := k * 4 + 3) (by omega)
      have f3_ := row2.frozen (k * 4 + 3)
      clear own2 row2 hrow1 c_0 c_1 c_2 c_3
      go_wp2_with fail
      go_roundw
      case rel =>
        have hflat : FNode.flat (l.take (k + 1)) = FNode.flat (l.take k) ++ [.v (.int .i64 z0), .v (.int .i64 z1), .v (.string z2), .s 38 4 z3.length (FNode.flat z3)] := by
          rw [List.take_add_one, HX.out]
          simp [FNode.c_eq]
        have hset := sets_app [.int .i64 z0, .int .i64 z1, .string z2, .slice D3 z3.length d3] us zs (k * 4) HUS.out (by rw [HZS.out]; simp; omega)
        refine ⟨k + 1, by omega, by go_num, ⟨us ++ [.int .i64 z0, .int .i64 z1, .string z2, .slice D3 z3.length d3], zs.drop 4, by simp [HUS.out]; try omega, by rw [List.length_drop, HZS.out]; omega, ?_, ?_⟩, ((((hB2.setCell (by simp) _).setCell (by simp) _).setCell (by simp) _).setCell (by simp) _)⟩
        · have hfin := (own_setC (own_setC (own_setC (own_setC ROW2.out (i := k * 4) (by omega) (.int .i64 z0)) (i := k * 4 + 1) (by omega) (.int .i64 z1)) (i := k * 4 + 2) (by omega) (.string z2)) (i := k * 4 + 3) (by omega) (.slice D3 z3.length d3))
          rw [show us ++ [.int .i64 z0, .int .i64 z1, .string z2, .slice D3 z3.length d3] ++ zs.drop 4 = _ from hset.symm]
          simpa [sets] using hfin
        · rw [hflat]
          have hfin := (OwnI.set (OwnI.set (OwnI.set (OwnI.set (OwnI.app (m := wr.heap.size) (lo' := wr.heap.size) (hi := w2.heap.size) HOWN2.out OWN2.out (Nat.le_refl _) (by omega) (by omega)) (p := ⟨w.heap.size, k * 4, none⟩) (.inl (by simp)) (.int .i64 z0)) (p := ⟨w.heap.size, k * 4 + 1, none⟩) (.inl (by simp)) (.int .i64 z1)) (p := ⟨w.heap.size, k * 4 + 2, none⟩) (.inl (by simp)) (.string z2)) (p := ⟨w.heap.size, k * 4 + 3, none⟩) (.inl (by simp)) (.slice D3 z3.length d3))
          exact hfin.wide (Nat.le_refl _) (by simp)
      case measure => simp [intOf]; omega
    · obtain rfl : k = l.length := by omega
      clear hlt
      go_wp2_with fail
      go_ret
      have hz0 : zs = [] := List.eq_nil_of_length_eq_zero (by rw [HZS.out]; simp)
      have hr1 := HROW.out
      have ho1 := HOWN.out
      rw [hz0, List.append_nil] at hr1
      rw [List.take_length] at ho1
      exact ⟨_, _, rfl, OwnI.mk hr1 ho1 (fun g hg => by have : w.heap.size = g := by simpa [Value.ownBlock] using hg
                                                        omega) (by omega) (Nat.le_refl _), hb⟩
mutual
theorem toNode_any : ∀ (x : FNode), x.wt ≤ 1048576 → ToNode x
  | .mk a0 a1 a2 a3, hw => by
    unfold FNode.wt at hw
    exact toNode_of a0 a1 a2 a3 (toNodeS_of a3 (by omega) (toNode_all a3 (by omega)))
theorem toNode_all : ∀ (l : List FNode), l.length + FNode.wts l ≤ 1048576 → ∀ x, x ∈ l → ToNode x
  | [], _, x, hx => by cases hx
  | y :: r, hw, x, hx => by
    unfold FNode.wts at hw
    simp only [List.length_cons] at hw
    rcases List.mem_cons.1 hx with e | hx
    · rw [e]
      exact toNode_any y (by omega)
    · exact toNode_all r (by omega) x hx
end
theorem toNodeS_any (l : List FNode) (hw : l.length + FNode.wts l ≤ 1048576) : ToNodeS l := (toNodeS_of l (by omega) (toNode_all l hw))
end Go.Proofs.Ytbmgjndpnbdgeaa
